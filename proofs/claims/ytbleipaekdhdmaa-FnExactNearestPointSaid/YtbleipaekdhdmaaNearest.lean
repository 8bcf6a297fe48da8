/-
  Contracts: NearestPoint, of the reference and of the program. Conditions: none beyond the lengths.
-/
import Derived.Test.YtbleipaekdhdmaaNear2
import Derived.Test.YtbleipaekdhdmaaStrokeKind
namespace Go.Proofs.Ytbleipaekdhdmaa
open Go.RowKit
set_option linter.unusedVariables false

def nearR (wd ht : Int) (xs : List Int) (p : Int × Int) (s : Int) : (Int × Int) × Int :=
  if placeB p = false then ((0, 0), 1) else if vldPan wd ht xs = false then ((0, 0), 1) else if inB s 2 100 = false then ((0, 0), 2) else
    if (nearP s p (gridTo (2 * wd.toNat + 1) (2 * ht.toNat + 1))).2 = true then ((nearP s p (gridTo (2 * wd.toNat + 1) (2 * ht.toNat + 1))).1, 0) else ((0, 0), 3)
def codeR (wd ht : Int) (xs : List Int) (s : Int) : Int := if vldPan wd ht xs = false then 1 else if inB s 2 100 = false then 2 else 0
theorem l19Code_any (b0 : Nat) (wd ht s : Int) (A : Option Addr) (c : Nat) (xs : List Int) (w : World) (c0 : w.cell? ⟨b0, 0, none⟩ = some (.int .i64 wd)) (c1 : w.cell? ⟨b0, 1, none⟩ = some (.int .i64 ht)) (c2 : w.cell? ⟨b0, 2, none⟩ = some (.slice A xs.length c))
    (h : RI w A xs) (hn : xs.length ≤ 1048576) :
    Calls Try.prog 54 #[.pointer (some ⟨b0, 0, none⟩), .int .i64 s] w (RetQ w (.int .i64 (codeR wd ht xs s))) := by
  unfold codeR
  cases hv : vldPan wd ht xs
  · go_enter Try.func54, Try.ntmps54
    go_wp2_with fail
    refine (l02Ok_any b0 wd ht A c xs _ c0 c1 c2 h hn).mono ?_
    rintro e w1 ⟨rfl, n, rfl⟩
    rw [hv]
    go_wp2_with fail
    go_ret
    exact ⟨rfl, _, rfl⟩
  · cases hs : inB s 2 100
    · go_enter Try.func54, Try.ntmps54
      go_wp2_with fail
      refine (l02Ok_any b0 wd ht A c xs _ c0 c1 c2 h hn).mono ?_
      rintro e w1 ⟨rfl, n, rfl⟩
      rw [hv]
      go_wp2_with (go_at_call 49; refine (l19Scale_any _ _).mono ?_; rw [hs]; rintro e w1 ⟨rfl, rfl⟩)
      go_ret
      exact ⟨rfl, _, rfl⟩
    · go_enter Try.func54, Try.ntmps54
      go_wp2_with fail
      refine (l02Ok_any b0 wd ht A c xs _ c0 c1 c2 h hn).mono ?_
      rintro e w1 ⟨rfl, n, rfl⟩
      rw [hv]
      go_wp2_with (go_at_call 49; refine (l19Scale_any _ _).mono ?_; rw [hs]; rintro e w1 ⟨rfl, rfl⟩)
      go_ret
      exact ⟨rfl, _, rfl⟩
theorem vldPan_nat {wd ht : Int} {xs : List Int} (h : vldPan wd ht xs = true) : ∃ W H : Nat, wd = W ∧ ht = H ∧ 1 ≤ W ∧ W ≤ 8 ∧ 1 ≤ H ∧ H ≤ 8 := by
  obtain ⟨h1, h2, _, _⟩ := vldPan_true h
  have := inB_true.1 h1
  have := inB_true.1 h2
  exact ⟨wd.toNat, ht.toNat, by omega, by omega, by omega, by omega, by omega, by omega⟩
def pcV (r : (Int × Int) × Int) : Value := .tuple #[.agg #[.int .i64 r.1.1, .int .i64 r.1.2], .int .i64 r.2]

set_option maxHeartbeats 4000000 in
theorem specNearestPoint_any (wd ht : Int) (A : Option Addr) (c : Nat) (xs : List Int) (px py s : Int) (w : World) (hxs : RI w A xs) (hn : xs.length ≤ 1048576) :
    Calls Try.prog 29 #[.agg #[.int .i64 wd, .int .i64 ht, .slice A xs.length c], .agg #[.int .i64 px, .int .i64 py], .int .i64 s] w (RetV w (pcV (nearR wd ht xs (px, py) s))) := by
  unfold nearR pcV
  have hv1 : vldS [(px, py)] = placeB (px, py) := by simp [vldS, inB]
  have HV1 := hide hv1
  clear hv1
  have hpl := hide ((RG.fresh (E := ptE) (((w.alloc (.cells #[.int .i64 wd, .int .i64 ht, .slice A xs.length c] 49)).alloc (.cells #[.int .i64 px, .int .i64 py] 30)).alloc (.cells #[.int .i64 0, .int .i64 0] 30)) (w.heap.size + 1 + 1 + 1) (by simp) (px, py) #[.int .i64 px, .int .i64 py] rfl 30))
  cases hpb : placeB (px, py)
  · go_enter Try.func29, Try.ntmps29
    go_wp2_with fail
    refine (l19Ok_any _ _ [(px, py)] _ hpl.out (by simp)).mono ?_
    rintro e w1 ⟨rfl, rfl⟩
    rw [HV1.out, hpb]
    go_wp2_with fail
    refine bodyPost_ret (v := .tuple #[.agg #[.int .i64 0, .int .i64 0], .int .i64 1]) (by simp [results, Try.results29, go_sem]) rfl ?_
    exact ⟨rfl, (((((Below.refl w.heap.size w).alloc (by first | omega | (simp; omega) | simp) (.cells #[.int .i64 wd, .int .i64 ht, .slice A xs.length c] 49)).alloc (by first | omega | (simp; omega) | simp) (.cells #[.int .i64 px, .int .i64 py] 30)).alloc (by first | omega | (simp; omega) | simp) (.cells #[.int .i64 0, .int .i64 0] 30)).alloc (by first | omega | (simp; omega) | simp) (.cells #[.int .i64 px, .int .i64 py] 30))⟩
  ·
    obtain ⟨⟨p0, p1⟩, ⟨p2, p3'⟩⟩ := placeB_in hpb
    simp only at p0 p1 p2 p3'
    have hcode := RetQ.v (l19Code_any w.heap.size wd ht s A c xs ((((w.alloc (.cells #[.int .i64 wd, .int .i64 ht, .slice A xs.length c] 49)).alloc (.cells #[.int .i64 px, .int .i64 py] 30)).alloc (.cells #[.int .i64 0, .int .i64 0] 30)).alloc (.cells #[.int .i64 px, .int .i64 py] 30)) (((((Bx.new_ w (w.heap.size) 49 #[.int .i64 wd, .int .i64 ht, .slice A xs.length c] (by simp)).alloc (.cells #[.int .i64 px, .int .i64 py] 30)).alloc (.cells #[.int .i64 0, .int .i64 0] 30)).alloc (.cells #[.int .i64 px, .int .i64 py] 30))).three.1 (((((Bx.new_ w (w.heap.size) 49 #[.int .i64 wd, .int .i64 ht, .slice A xs.length c] (by simp)).alloc (.cells #[.int .i64 px, .int .i64 py] 30)).alloc (.cells #[.int .i64 0, .int .i64 0] 30)).alloc (.cells #[.int .i64 px, .int .i64 py] 30))).three.2.1 (((((Bx.new_ w (w.heap.size) 49 #[.int .i64 wd, .int .i64 ht, .slice A xs.length c] (by simp)).alloc (.cells #[.int .i64 px, .int .i64 py] 30)).alloc (.cells #[.int .i64 0, .int .i64 0] 30)).alloc (.cells #[.int .i64 px, .int .i64 py] 30))).three.2.2 (((((hxs).alloc (.cells #[.int .i64 wd, .int .i64 ht, .slice A xs.length c] 49)).alloc (.cells #[.int .i64 px, .int .i64 py] 30)).alloc (.cells #[.int .i64 0, .int .i64 0] 30)).alloc (.cells #[.int .i64 px, .int .i64 py] 30)) hn)
    have HC := hide hcode
    clear hcode
    cases hv : vldPan wd ht xs
    ·
      go_enter Try.func29, Try.ntmps29
      go_wp2_with fail
      refine (l19Ok_any _ _ [(px, py)] _ hpl.out (by simp)).mono ?_
      rintro e w0 ⟨rfl, rfl⟩
      rw [HV1.out, hpb]
      go_wp2_with fail
      refine (HC.out).mono ?_
      rintro e w1 ⟨rfl, hb1⟩
      have hr_1 := (((((hxs).alloc (.cells #[.int .i64 wd, .int .i64 ht, .slice A xs.length c] 49)).alloc (.cells #[.int .i64 px, .int .i64 py] 30)).alloc (.cells #[.int .i64 0, .int .i64 0] 30)).alloc (.cells #[.int .i64 px, .int .i64 py] 30)).below hb1
      have p3_1 := ((((Bx.new_ w (w.heap.size) 49 #[.int .i64 wd, .int .i64 ht, .slice A xs.length c] (by simp)).alloc (.cells #[.int .i64 px, .int .i64 py] 30)).alloc (.cells #[.int .i64 0, .int .i64 0] 30)).alloc (.cells #[.int .i64 px, .int .i64 py] 30)).below hb1
      obtain ⟨p3a_1, p3b_1, p3c_1⟩ := (p3_1).three
      have p4_1 := (((Bx.new_ (w.alloc (.cells #[.int .i64 wd, .int .i64 ht, .slice A xs.length c] 49)) (w.heap.size + 1) 30 #[.int .i64 px, .int .i64 py] (by simp)).alloc (.cells #[.int .i64 0, .int .i64 0] 30)).alloc (.cells #[.int .i64 px, .int .i64 py] 30)).below hb1
      obtain ⟨p4a_1, p4b_1⟩ := (p4_1).two
      have p6_1 := ((Bx.new_ ((w.alloc (.cells #[.int .i64 wd, .int .i64 ht, .slice A xs.length c] 49)).alloc (.cells #[.int .i64 px, .int .i64 py] 30)) (w.heap.size + 1 + 1) 30 #[.int .i64 0, .int .i64 0] (by simp)).alloc (.cells #[.int .i64 px, .int .i64 py] 30)).below hb1
      obtain ⟨p6a_1, p6b_1⟩ := (p6_1).two
      have p6f0_1 := (p6_1).frozen 0
      have p6f1_1 := (p6_1).frozen 1
      have z_1 : ((((w.alloc (.cells #[.int .i64 wd, .int .i64 ht, .slice A xs.length c] 49)).alloc (.cells #[.int .i64 px, .int .i64 py] 30)).alloc (.cells #[.int .i64 0, .int .i64 0] 30)).alloc (.cells #[.int .i64 px, .int .i64 py] 30)).heap.size ≤ w1.heap.size := hb1.size
      simp only [World.size_alloc] at z_1
      have B_1 := (((((Below.refl w.heap.size w).alloc (by first | omega | (simp; omega) | simp) (.cells #[.int .i64 wd, .int .i64 ht, .slice A xs.length c] 49)).alloc (by first | omega | (simp; omega) | simp) (.cells #[.int .i64 px, .int .i64 py] 30)).alloc (by first | omega | (simp; omega) | simp) (.cells #[.int .i64 0, .int .i64 0] 30)).alloc (by first | omega | (simp; omega) | simp) (.cells #[.int .i64 px, .int .i64 py] 30)).trans (hb1.mono (by first | omega | (simp; omega) | simp))
      unfold codeR
      rw [hv]
      go_wp2_with fail
      obtain ⟨p6a_z, p6b_z⟩ := (((p6_1).set_ 0 (.int .i64 0)).set_ 1 (.int .i64 0)).two
      have p6f0_z := (((p6_1).set_ 0 (.int .i64 0)).set_ 1 (.int .i64 0)).frozen 0
      have p6f1_z := (((p6_1).set_ 0 (.int .i64 0)).set_ 1 (.int .i64 0)).frozen 1
      refine bodyPost_ret (v := .tuple #[.agg #[.int .i64 0, .int .i64 0], .int .i64 1]) (by simp [results, Try.results29, go_sem, p6a_z, p6b_z]) rfl ?_
      exact ⟨rfl, (((B_1).setCell (p := ⟨(w.heap.size + 1 + 1), 0, none⟩) (by first | omega | (simp; omega) | simp) (.int .i64 0)).setCell (p := ⟨(w.heap.size + 1 + 1), 1, none⟩) (by first | omega | (simp; omega) | simp) (.int .i64 0))⟩
    · cases hs : inB s 2 100
      ·
        go_enter Try.func29, Try.ntmps29
        go_wp2_with fail
        refine (l19Ok_any _ _ [(px, py)] _ hpl.out (by simp)).mono ?_
        rintro e w0 ⟨rfl, rfl⟩
        rw [HV1.out, hpb]
        go_wp2_with fail
        refine (HC.out).mono ?_
        rintro e w1 ⟨rfl, hb1⟩
        have hr_1 := (((((hxs).alloc (.cells #[.int .i64 wd, .int .i64 ht, .slice A xs.length c] 49)).alloc (.cells #[.int .i64 px, .int .i64 py] 30)).alloc (.cells #[.int .i64 0, .int .i64 0] 30)).alloc (.cells #[.int .i64 px, .int .i64 py] 30)).below hb1
        have p3_1 := ((((Bx.new_ w (w.heap.size) 49 #[.int .i64 wd, .int .i64 ht, .slice A xs.length c] (by simp)).alloc (.cells #[.int .i64 px, .int .i64 py] 30)).alloc (.cells #[.int .i64 0, .int .i64 0] 30)).alloc (.cells #[.int .i64 px, .int .i64 py] 30)).below hb1
        obtain ⟨p3a_1, p3b_1, p3c_1⟩ := (p3_1).three
        have p4_1 := (((Bx.new_ (w.alloc (.cells #[.int .i64 wd, .int .i64 ht, .slice A xs.length c] 49)) (w.heap.size + 1) 30 #[.int .i64 px, .int .i64 py] (by simp)).alloc (.cells #[.int .i64 0, .int .i64 0] 30)).alloc (.cells #[.int .i64 px, .int .i64 py] 30)).below hb1
        obtain ⟨p4a_1, p4b_1⟩ := (p4_1).two
        have p6_1 := ((Bx.new_ ((w.alloc (.cells #[.int .i64 wd, .int .i64 ht, .slice A xs.length c] 49)).alloc (.cells #[.int .i64 px, .int .i64 py] 30)) (w.heap.size + 1 + 1) 30 #[.int .i64 0, .int .i64 0] (by simp)).alloc (.cells #[.int .i64 px, .int .i64 py] 30)).below hb1
        obtain ⟨p6a_1, p6b_1⟩ := (p6_1).two
        have p6f0_1 := (p6_1).frozen 0
        have p6f1_1 := (p6_1).frozen 1
        have z_1 : ((((w.alloc (.cells #[.int .i64 wd, .int .i64 ht, .slice A xs.length c] 49)).alloc (.cells #[.int .i64 px, .int .i64 py] 30)).alloc (.cells #[.int .i64 0, .int .i64 0] 30)).alloc (.cells #[.int .i64 px, .int .i64 py] 30)).heap.size ≤ w1.heap.size := hb1.size
        simp only [World.size_alloc] at z_1
        have B_1 := (((((Below.refl w.heap.size w).alloc (by first | omega | (simp; omega) | simp) (.cells #[.int .i64 wd, .int .i64 ht, .slice A xs.length c] 49)).alloc (by first | omega | (simp; omega) | simp) (.cells #[.int .i64 px, .int .i64 py] 30)).alloc (by first | omega | (simp; omega) | simp) (.cells #[.int .i64 0, .int .i64 0] 30)).alloc (by first | omega | (simp; omega) | simp) (.cells #[.int .i64 px, .int .i64 py] 30)).trans (hb1.mono (by first | omega | (simp; omega) | simp))
        unfold codeR
        rw [hv, hs]
        go_wp2_with fail
        obtain ⟨p6a_z, p6b_z⟩ := (((p6_1).set_ 0 (.int .i64 0)).set_ 1 (.int .i64 0)).two
        have p6f0_z := (((p6_1).set_ 0 (.int .i64 0)).set_ 1 (.int .i64 0)).frozen 0
        have p6f1_z := (((p6_1).set_ 0 (.int .i64 0)).set_ 1 (.int .i64 0)).frozen 1
        refine bodyPost_ret (v := .tuple #[.agg #[.int .i64 0, .int .i64 0], .int .i64 2]) (by simp [results, Try.results29, go_sem, p6a_z, p6b_z]) rfl ?_
        exact ⟨rfl, (((B_1).setCell (p := ⟨(w.heap.size + 1 + 1), 0, none⟩) (by first | omega | (simp; omega) | simp) (.int .i64 0)).setCell (p := ⟨(w.heap.size + 1 + 1), 1, none⟩) (by first | omega | (simp; omega) | simp) (.int .i64 0))⟩
      ·
        obtain ⟨s0, s1⟩ := inB_true.1 hs
        obtain ⟨W, H, hwd, hht, hW1, hW, hH1, hH⟩ := vldPan_nat hv
        have e1 : wd.toNat = W := by omega
        have e2 : ht.toNat = H := by omega
        rw [e1, e2]
        have EW := hide hwd
        have EH := hide hht
        clear hwd hht e1 e2
        have hnear := fun W0 hb c0 c1 => l19Near_any w.heap.size W H px py s W0 hb c0 c1 hW hH p0 p1 p2 p3' s0 s1
        obtain ⟨⟨⟨nx, ny⟩, ok⟩, hN⟩ : ∃ r, r = nearP s (px, py) (gridTo (2 * W + 1) (2 * H + 1)) := ⟨_, rfl⟩
        rw [← hN] at hnear
        rw [← hN]
        have HNR := hide hnear
        clear hN hnear
        cases ok
        ·
          go_enter Try.func29, Try.ntmps29
          go_wp2_with fail
          refine (l19Ok_any _ _ [(px, py)] _ hpl.out (by simp)).mono ?_
          rintro e w0 ⟨rfl, rfl⟩
          rw [HV1.out, hpb]
          go_wp2_with fail
          refine (HC.out).mono ?_
          rintro e w1 ⟨rfl, hb1⟩
          have hr_1 := (((((hxs).alloc (.cells #[.int .i64 wd, .int .i64 ht, .slice A xs.length c] 49)).alloc (.cells #[.int .i64 px, .int .i64 py] 30)).alloc (.cells #[.int .i64 0, .int .i64 0] 30)).alloc (.cells #[.int .i64 px, .int .i64 py] 30)).below hb1
          have p3_1 := ((((Bx.new_ w (w.heap.size) 49 #[.int .i64 wd, .int .i64 ht, .slice A xs.length c] (by simp)).alloc (.cells #[.int .i64 px, .int .i64 py] 30)).alloc (.cells #[.int .i64 0, .int .i64 0] 30)).alloc (.cells #[.int .i64 px, .int .i64 py] 30)).below hb1
          obtain ⟨p3a_1, p3b_1, p3c_1⟩ := (p3_1).three
          have p4_1 := (((Bx.new_ (w.alloc (.cells #[.int .i64 wd, .int .i64 ht, .slice A xs.length c] 49)) (w.heap.size + 1) 30 #[.int .i64 px, .int .i64 py] (by simp)).alloc (.cells #[.int .i64 0, .int .i64 0] 30)).alloc (.cells #[.int .i64 px, .int .i64 py] 30)).below hb1
          obtain ⟨p4a_1, p4b_1⟩ := (p4_1).two
          have p6_1 := ((Bx.new_ ((w.alloc (.cells #[.int .i64 wd, .int .i64 ht, .slice A xs.length c] 49)).alloc (.cells #[.int .i64 px, .int .i64 py] 30)) (w.heap.size + 1 + 1) 30 #[.int .i64 0, .int .i64 0] (by simp)).alloc (.cells #[.int .i64 px, .int .i64 py] 30)).below hb1
          obtain ⟨p6a_1, p6b_1⟩ := (p6_1).two
          have p6f0_1 := (p6_1).frozen 0
          have p6f1_1 := (p6_1).frozen 1
          have z_1 : ((((w.alloc (.cells #[.int .i64 wd, .int .i64 ht, .slice A xs.length c] 49)).alloc (.cells #[.int .i64 px, .int .i64 py] 30)).alloc (.cells #[.int .i64 0, .int .i64 0] 30)).alloc (.cells #[.int .i64 px, .int .i64 py] 30)).heap.size ≤ w1.heap.size := hb1.size
          simp only [World.size_alloc] at z_1
          have B_1 := (((((Below.refl w.heap.size w).alloc (by first | omega | (simp; omega) | simp) (.cells #[.int .i64 wd, .int .i64 ht, .slice A xs.length c] 49)).alloc (by first | omega | (simp; omega) | simp) (.cells #[.int .i64 px, .int .i64 py] 30)).alloc (by first | omega | (simp; omega) | simp) (.cells #[.int .i64 0, .int .i64 0] 30)).alloc (by first | omega | (simp; omega) | simp) (.cells #[.int .i64 px, .int .i64 py] 30)).trans (hb1.mono (by first | omega | (simp; omega) | simp))
          unfold codeR
          rw [hv, hs]
          go_wp2_with fail
          refine (HNR.out _ (by omega) (by rw [← EW.out]; exact p3a_1) (by rw [← EH.out]; exact p3b_1)).mono ?_
          rintro e w2 ⟨rfl, hb2⟩
          have hr_2 := (hr_1).below hb2
          have p3_2 := (p3_1).below hb2
          obtain ⟨p3a_2, p3b_2, p3c_2⟩ := (p3_2).three
          have p4_2 := (p4_1).below hb2
          obtain ⟨p4a_2, p4b_2⟩ := (p4_2).two
          have p6_2 := (p6_1).below hb2
          obtain ⟨p6a_2, p6b_2⟩ := (p6_2).two
          have p6f0_2 := (p6_2).frozen 0
          have p6f1_2 := (p6_2).frozen 1
          have z_2 : w1.heap.size ≤ w2.heap.size := hb2.size
          have B_2 := (B_1).trans (hb2.mono (by first | omega | (simp; omega) | simp))
          rw [show nearV ((nx, ny), false) = .tuple #[.agg #[.int .i64 nx, .int .i64 ny], .bool false] from rfl]
          obtain ⟨p6a_y, p6b_y⟩ := ((p6_2).alloc (.cells #[.int .i64 nx, .int .i64 ny] 30)).two
          have p6f0_y := ((p6_2).alloc (.cells #[.int .i64 nx, .int .i64 ny] 30)).frozen 0
          have p6f1_y := ((p6_2).alloc (.cells #[.int .i64 nx, .int .i64 ny] 30)).frozen 1
          go_wp2_with fail
          obtain ⟨p6a_z, p6b_z⟩ := ((((p6_2).alloc (.cells #[.int .i64 nx, .int .i64 ny] 30)).set_ 0 (.int .i64 0)).set_ 1 (.int .i64 0)).two
          have p6f0_z := ((((p6_2).alloc (.cells #[.int .i64 nx, .int .i64 ny] 30)).set_ 0 (.int .i64 0)).set_ 1 (.int .i64 0)).frozen 0
          have p6f1_z := ((((p6_2).alloc (.cells #[.int .i64 nx, .int .i64 ny] 30)).set_ 0 (.int .i64 0)).set_ 1 (.int .i64 0)).frozen 1
          refine bodyPost_ret (v := .tuple #[.agg #[.int .i64 0, .int .i64 0], .int .i64 3]) (by simp [results, Try.results29, go_sem, p6a_z, p6b_z]) rfl ?_
          exact ⟨rfl, ((((B_2).alloc (by first | omega | (simp; omega) | simp) (.cells #[.int .i64 nx, .int .i64 ny] 30)).setCell (p := ⟨(w.heap.size + 1 + 1), 0, none⟩) (by first | omega | (simp; omega) | simp) (.int .i64 0)).setCell (p := ⟨(w.heap.size + 1 + 1), 1, none⟩) (by first | omega | (simp; omega) | simp) (.int .i64 0))⟩
        ·
          go_enter Try.func29, Try.ntmps29
          go_wp2_with fail
          refine (l19Ok_any _ _ [(px, py)] _ hpl.out (by simp)).mono ?_
          rintro e w0 ⟨rfl, rfl⟩
          rw [HV1.out, hpb]
          go_wp2_with fail
          refine (HC.out).mono ?_
          rintro e w1 ⟨rfl, hb1⟩
          have hr_1 := (((((hxs).alloc (.cells #[.int .i64 wd, .int .i64 ht, .slice A xs.length c] 49)).alloc (.cells #[.int .i64 px, .int .i64 py] 30)).alloc (.cells #[.int .i64 0, .int .i64 0] 30)).alloc (.cells #[.int .i64 px, .int .i64 py] 30)).below hb1
          have p3_1 := ((((Bx.new_ w (w.heap.size) 49 #[.int .i64 wd, .int .i64 ht, .slice A xs.length c] (by simp)).alloc (.cells #[.int .i64 px, .int .i64 py] 30)).alloc (.cells #[.int .i64 0, .int .i64 0] 30)).alloc (.cells #[.int .i64 px, .int .i64 py] 30)).below hb1
          obtain ⟨p3a_1, p3b_1, p3c_1⟩ := (p3_1).three
          have p4_1 := (((Bx.new_ (w.alloc (.cells #[.int .i64 wd, .int .i64 ht, .slice A xs.length c] 49)) (w.heap.size + 1) 30 #[.int .i64 px, .int .i64 py] (by simp)).alloc (.cells #[.int .i64 0, .int .i64 0] 30)).alloc (.cells #[.int .i64 px, .int .i64 py] 30)).below hb1
          obtain ⟨p4a_1, p4b_1⟩ := (p4_1).two
          have p6_1 := ((Bx.new_ ((w.alloc (.cells #[.int .i64 wd, .int .i64 ht, .slice A xs.length c] 49)).alloc (.cells #[.int .i64 px, .int .i64 py] 30)) (w.heap.size + 1 + 1) 30 #[.int .i64 0, .int .i64 0] (by simp)).alloc (.cells #[.int .i64 px, .int .i64 py] 30)).below hb1
          obtain ⟨p6a_1, p6b_1⟩ := (p6_1).two
          have p6f0_1 := (p6_1).frozen 0
          have p6f1_1 := (p6_1).frozen 1
          have z_1 : ((((w.alloc (.cells #[.int .i64 wd, .int .i64 ht, .slice A xs.length c] 49)).alloc (.cells #[.int .i64 px, .int .i64 py] 30)).alloc (.cells #[.int .i64 0, .int .i64 0] 30)).alloc (.cells #[.int .i64 px, .int .i64 py] 30)).heap.size ≤ w1.heap.size := hb1.size
          simp only [World.size_alloc] at z_1
          have B_1 := (((((Below.refl w.heap.size w).alloc (by first | omega | (simp; omega) | simp) (.cells #[.int .i64 wd, .int .i64 ht, .slice A xs.length c] 49)).alloc (by first | omega | (simp; omega) | simp) (.cells #[.int .i64 px, .int .i64 py] 30)).alloc (by first | omega | (simp; omega) | simp) (.cells #[.int .i64 0, .int .i64 0] 30)).alloc (by first | omega | (simp; omega) | simp) (.cells #[.int .i64 px, .int .i64 py] 30)).trans (hb1.mono (by first | omega | (simp; omega) | simp))
          unfold codeR
          rw [hv, hs]
          go_wp2_with fail
          refine (HNR.out _ (by omega) (by rw [← EW.out]; exact p3a_1) (by rw [← EH.out]; exact p3b_1)).mono ?_
          rintro e w2 ⟨rfl, hb2⟩
          have hr_2 := (hr_1).below hb2
          have p3_2 := (p3_1).below hb2
          obtain ⟨p3a_2, p3b_2, p3c_2⟩ := (p3_2).three
          have p4_2 := (p4_1).below hb2
          obtain ⟨p4a_2, p4b_2⟩ := (p4_2).two
          have p6_2 := (p6_1).below hb2
          obtain ⟨p6a_2, p6b_2⟩ := (p6_2).two
          have p6f0_2 := (p6_2).frozen 0
          have p6f1_2 := (p6_2).frozen 1
          have z_2 : w1.heap.size ≤ w2.heap.size := hb2.size
          have B_2 := (B_1).trans (hb2.mono (by first | omega | (simp; omega) | simp))
          rw [show nearV ((nx, ny), true) = .tuple #[.agg #[.int .i64 nx, .int .i64 ny], .bool true] from rfl]
          obtain ⟨p6a_y, p6b_y⟩ := ((p6_2).alloc (.cells #[.int .i64 nx, .int .i64 ny] 30)).two
          have p6f0_y := ((p6_2).alloc (.cells #[.int .i64 nx, .int .i64 ny] 30)).frozen 0
          have p6f1_y := ((p6_2).alloc (.cells #[.int .i64 nx, .int .i64 ny] 30)).frozen 1
          go_wp2_with fail
          obtain ⟨p6a_z, p6b_z⟩ := ((((p6_2).alloc (.cells #[.int .i64 nx, .int .i64 ny] 30)).set_ 0 (.int .i64 nx)).set_ 1 (.int .i64 ny)).two
          have p6f0_z := ((((p6_2).alloc (.cells #[.int .i64 nx, .int .i64 ny] 30)).set_ 0 (.int .i64 nx)).set_ 1 (.int .i64 ny)).frozen 0
          have p6f1_z := ((((p6_2).alloc (.cells #[.int .i64 nx, .int .i64 ny] 30)).set_ 0 (.int .i64 nx)).set_ 1 (.int .i64 ny)).frozen 1
          refine bodyPost_ret (v := .tuple #[.agg #[.int .i64 nx, .int .i64 ny], .int .i64 0]) (by simp [results, Try.results29, go_sem, p6a_z, p6b_z]) rfl ?_
          exact ⟨rfl, ((((B_2).alloc (by first | omega | (simp; omega) | simp) (.cells #[.int .i64 nx, .int .i64 ny] 30)).setCell (p := ⟨(w.heap.size + 1 + 1), 0, none⟩) (by first | omega | (simp; omega) | simp) (.int .i64 nx)).setCell (p := ⟨(w.heap.size + 1 + 1), 1, none⟩) (by first | omega | (simp; omega) | simp) (.int .i64 ny))⟩

set_option maxHeartbeats 4000000 in
theorem implNearestPoint_any (wd ht : Int) (A : Option Addr) (c : Nat) (xs : List Int) (px py s : Int) (w : World) (hxs : RI w A xs) (hn : xs.length ≤ 1048576) :
    Calls Try.prog 32 #[.agg #[.int .i64 wd, .int .i64 ht, .slice A xs.length c], .agg #[.int .i64 px, .int .i64 py], .int .i64 s] w (RetV w (pcV (nearR wd ht xs (px, py) s))) := by
  have hvp := validPanel_any wd ht A c xs (((w.alloc (.cells #[.int .i64 wd, .int .i64 ht, .slice A xs.length c] 49)).alloc (.cells #[.int .i64 px, .int .i64 py] 30)).alloc (.cells #[.int .i64 0, .int .i64 0] 30)) ((((hxs).alloc (.cells #[.int .i64 wd, .int .i64 ht, .slice A xs.length c] 49)).alloc (.cells #[.int .i64 px, .int .i64 py] 30)).alloc (.cells #[.int .i64 0, .int .i64 0] 30)) hn
  have HV := hide hvp
  clear hvp
  cases hv : vldPan wd ht xs
  ·
    have hR : nearR wd ht xs (px, py) s = ((0, 0), 1) := by
      unfold nearR
      rw [hv]
      simp
    rw [hR]
    unfold pcV
    clear hR
    go_enter Try.func32, Try.ntmps32
    go_wp2_with fail
    refine (HV.out).mono ?_
    rintro e w1 ⟨rfl, hb1⟩
    have hr_1 := ((((hxs).alloc (.cells #[.int .i64 wd, .int .i64 ht, .slice A xs.length c] 49)).alloc (.cells #[.int .i64 px, .int .i64 py] 30)).alloc (.cells #[.int .i64 0, .int .i64 0] 30)).below hb1
    have p3_1 := (((Bx.new_ w (w.heap.size) 49 #[.int .i64 wd, .int .i64 ht, .slice A xs.length c] (by simp)).alloc (.cells #[.int .i64 px, .int .i64 py] 30)).alloc (.cells #[.int .i64 0, .int .i64 0] 30)).below hb1
    obtain ⟨p3a_1, p3b_1, p3c_1⟩ := (p3_1).three
    have p4_1 := ((Bx.new_ (w.alloc (.cells #[.int .i64 wd, .int .i64 ht, .slice A xs.length c] 49)) (w.heap.size + 1) 30 #[.int .i64 px, .int .i64 py] (by simp)).alloc (.cells #[.int .i64 0, .int .i64 0] 30)).below hb1
    obtain ⟨p4a_1, p4b_1⟩ := (p4_1).two
    have p6_1 := (Bx.new_ ((w.alloc (.cells #[.int .i64 wd, .int .i64 ht, .slice A xs.length c] 49)).alloc (.cells #[.int .i64 px, .int .i64 py] 30)) (w.heap.size + 1 + 1) 30 #[.int .i64 0, .int .i64 0] (by simp)).below hb1
    obtain ⟨p6a_1, p6b_1⟩ := (p6_1).two
    have p6f0_1 := (p6_1).frozen 0
    have p6f1_1 := (p6_1).frozen 1
    have z_1 : (((w.alloc (.cells #[.int .i64 wd, .int .i64 ht, .slice A xs.length c] 49)).alloc (.cells #[.int .i64 px, .int .i64 py] 30)).alloc (.cells #[.int .i64 0, .int .i64 0] 30)).heap.size ≤ w1.heap.size := hb1.size
    simp only [World.size_alloc] at z_1
    have B_1 := ((((Below.refl w.heap.size w).alloc (by first | omega | (simp; omega) | simp) (.cells #[.int .i64 wd, .int .i64 ht, .slice A xs.length c] 49)).alloc (by first | omega | (simp; omega) | simp) (.cells #[.int .i64 px, .int .i64 py] 30)).alloc (by first | omega | (simp; omega) | simp) (.cells #[.int .i64 0, .int .i64 0] 30)).trans (hb1.mono (by first | omega | (simp; omega) | simp))
    rw [hv]
    go_wp2_with fail
    obtain ⟨p6a_z, p6b_z⟩ := (((p6_1).set_ 0 (.int .i64 0)).set_ 1 (.int .i64 0)).two
    have p6f0_z := (((p6_1).set_ 0 (.int .i64 0)).set_ 1 (.int .i64 0)).frozen 0
    have p6f1_z := (((p6_1).set_ 0 (.int .i64 0)).set_ 1 (.int .i64 0)).frozen 1
    refine bodyPost_ret (v := .tuple #[.agg #[.int .i64 0, .int .i64 0], .int .i64 1]) (by simp [results, Try.results32, go_sem, p6a_z, p6b_z]) rfl ?_
    exact ⟨rfl, (((B_1).setCell (p := ⟨(w.heap.size + 1 + 1), 0, none⟩) (by first | omega | (simp; omega) | simp) (.int .i64 0)).setCell (p := ⟨(w.heap.size + 1 + 1), 1, none⟩) (by first | omega | (simp; omega) | simp) (.int .i64 0))⟩
  · cases hpb : placeB (px, py)
    ·
      have hR : nearR wd ht xs (px, py) s = ((0, 0), 1) := by
        unfold nearR
        rw [hpb]
        simp
      rw [hR]
      unfold pcV
      clear hR
      go_enter Try.func32, Try.ntmps32
      go_wp2_with fail
      refine (HV.out).mono ?_
      rintro e w1 ⟨rfl, hb1⟩
      have hr_1 := ((((hxs).alloc (.cells #[.int .i64 wd, .int .i64 ht, .slice A xs.length c] 49)).alloc (.cells #[.int .i64 px, .int .i64 py] 30)).alloc (.cells #[.int .i64 0, .int .i64 0] 30)).below hb1
      have p3_1 := (((Bx.new_ w (w.heap.size) 49 #[.int .i64 wd, .int .i64 ht, .slice A xs.length c] (by simp)).alloc (.cells #[.int .i64 px, .int .i64 py] 30)).alloc (.cells #[.int .i64 0, .int .i64 0] 30)).below hb1
      obtain ⟨p3a_1, p3b_1, p3c_1⟩ := (p3_1).three
      have p4_1 := ((Bx.new_ (w.alloc (.cells #[.int .i64 wd, .int .i64 ht, .slice A xs.length c] 49)) (w.heap.size + 1) 30 #[.int .i64 px, .int .i64 py] (by simp)).alloc (.cells #[.int .i64 0, .int .i64 0] 30)).below hb1
      obtain ⟨p4a_1, p4b_1⟩ := (p4_1).two
      have p6_1 := (Bx.new_ ((w.alloc (.cells #[.int .i64 wd, .int .i64 ht, .slice A xs.length c] 49)).alloc (.cells #[.int .i64 px, .int .i64 py] 30)) (w.heap.size + 1 + 1) 30 #[.int .i64 0, .int .i64 0] (by simp)).below hb1
      obtain ⟨p6a_1, p6b_1⟩ := (p6_1).two
      have p6f0_1 := (p6_1).frozen 0
      have p6f1_1 := (p6_1).frozen 1
      have z_1 : (((w.alloc (.cells #[.int .i64 wd, .int .i64 ht, .slice A xs.length c] 49)).alloc (.cells #[.int .i64 px, .int .i64 py] 30)).alloc (.cells #[.int .i64 0, .int .i64 0] 30)).heap.size ≤ w1.heap.size := hb1.size
      simp only [World.size_alloc] at z_1
      have B_1 := ((((Below.refl w.heap.size w).alloc (by first | omega | (simp; omega) | simp) (.cells #[.int .i64 wd, .int .i64 ht, .slice A xs.length c] 49)).alloc (by first | omega | (simp; omega) | simp) (.cells #[.int .i64 px, .int .i64 py] 30)).alloc (by first | omega | (simp; omega) | simp) (.cells #[.int .i64 0, .int .i64 0] 30)).trans (hb1.mono (by first | omega | (simp; omega) | simp))
      rw [hv]
      go_wp2_with fail
      refine (isPlace_any px py _).mono ?_
      rintro e w2 ⟨rfl, hb2⟩
      have hr_2 := (hr_1).below hb2
      have p3_2 := (p3_1).below hb2
      obtain ⟨p3a_2, p3b_2, p3c_2⟩ := (p3_2).three
      have p4_2 := (p4_1).below hb2
      obtain ⟨p4a_2, p4b_2⟩ := (p4_2).two
      have p6_2 := (p6_1).below hb2
      obtain ⟨p6a_2, p6b_2⟩ := (p6_2).two
      have p6f0_2 := (p6_2).frozen 0
      have p6f1_2 := (p6_2).frozen 1
      have z_2 : w1.heap.size ≤ w2.heap.size := hb2.size
      have B_2 := (B_1).trans (hb2.mono (by first | omega | (simp; omega) | simp))
      rw [hpb]
      go_wp2_with fail
      obtain ⟨p6a_z, p6b_z⟩ := (((p6_2).set_ 0 (.int .i64 0)).set_ 1 (.int .i64 0)).two
      have p6f0_z := (((p6_2).set_ 0 (.int .i64 0)).set_ 1 (.int .i64 0)).frozen 0
      have p6f1_z := (((p6_2).set_ 0 (.int .i64 0)).set_ 1 (.int .i64 0)).frozen 1
      refine bodyPost_ret (v := .tuple #[.agg #[.int .i64 0, .int .i64 0], .int .i64 1]) (by simp [results, Try.results32, go_sem, p6a_z, p6b_z]) rfl ?_
      exact ⟨rfl, (((B_2).setCell (p := ⟨(w.heap.size + 1 + 1), 0, none⟩) (by first | omega | (simp; omega) | simp) (.int .i64 0)).setCell (p := ⟨(w.heap.size + 1 + 1), 1, none⟩) (by first | omega | (simp; omega) | simp) (.int .i64 0))⟩
    · cases hs : inB s 2 100
      ·
        have hR : nearR wd ht xs (px, py) s = ((0, 0), 2) := by
          unfold nearR
          rw [hpb, hv, hs]
          simp
        rw [hR]
        unfold pcV
        clear hR
        go_enter Try.func32, Try.ntmps32
        go_wp2_with fail
        refine (HV.out).mono ?_
        rintro e w1 ⟨rfl, hb1⟩
        have hr_1 := ((((hxs).alloc (.cells #[.int .i64 wd, .int .i64 ht, .slice A xs.length c] 49)).alloc (.cells #[.int .i64 px, .int .i64 py] 30)).alloc (.cells #[.int .i64 0, .int .i64 0] 30)).below hb1
        have p3_1 := (((Bx.new_ w (w.heap.size) 49 #[.int .i64 wd, .int .i64 ht, .slice A xs.length c] (by simp)).alloc (.cells #[.int .i64 px, .int .i64 py] 30)).alloc (.cells #[.int .i64 0, .int .i64 0] 30)).below hb1
        obtain ⟨p3a_1, p3b_1, p3c_1⟩ := (p3_1).three
        have p4_1 := ((Bx.new_ (w.alloc (.cells #[.int .i64 wd, .int .i64 ht, .slice A xs.length c] 49)) (w.heap.size + 1) 30 #[.int .i64 px, .int .i64 py] (by simp)).alloc (.cells #[.int .i64 0, .int .i64 0] 30)).below hb1
        obtain ⟨p4a_1, p4b_1⟩ := (p4_1).two
        have p6_1 := (Bx.new_ ((w.alloc (.cells #[.int .i64 wd, .int .i64 ht, .slice A xs.length c] 49)).alloc (.cells #[.int .i64 px, .int .i64 py] 30)) (w.heap.size + 1 + 1) 30 #[.int .i64 0, .int .i64 0] (by simp)).below hb1
        obtain ⟨p6a_1, p6b_1⟩ := (p6_1).two
        have p6f0_1 := (p6_1).frozen 0
        have p6f1_1 := (p6_1).frozen 1
        have z_1 : (((w.alloc (.cells #[.int .i64 wd, .int .i64 ht, .slice A xs.length c] 49)).alloc (.cells #[.int .i64 px, .int .i64 py] 30)).alloc (.cells #[.int .i64 0, .int .i64 0] 30)).heap.size ≤ w1.heap.size := hb1.size
        simp only [World.size_alloc] at z_1
        have B_1 := ((((Below.refl w.heap.size w).alloc (by first | omega | (simp; omega) | simp) (.cells #[.int .i64 wd, .int .i64 ht, .slice A xs.length c] 49)).alloc (by first | omega | (simp; omega) | simp) (.cells #[.int .i64 px, .int .i64 py] 30)).alloc (by first | omega | (simp; omega) | simp) (.cells #[.int .i64 0, .int .i64 0] 30)).trans (hb1.mono (by first | omega | (simp; omega) | simp))
        rw [hv]
        go_wp2_with fail
        refine (isPlace_any px py _).mono ?_
        rintro e w2 ⟨rfl, hb2⟩
        have hr_2 := (hr_1).below hb2
        have p3_2 := (p3_1).below hb2
        obtain ⟨p3a_2, p3b_2, p3c_2⟩ := (p3_2).three
        have p4_2 := (p4_1).below hb2
        obtain ⟨p4a_2, p4b_2⟩ := (p4_2).two
        have p6_2 := (p6_1).below hb2
        obtain ⟨p6a_2, p6b_2⟩ := (p6_2).two
        have p6f0_2 := (p6_2).frozen 0
        have p6f1_2 := (p6_2).frozen 1
        have z_2 : w1.heap.size ≤ w2.heap.size := hb2.size
        have B_2 := (B_1).trans (hb2.mono (by first | omega | (simp; omega) | simp))
        rw [hpb]
        go_wp2_with (go_at_call 51; refine (validScale_any _ _).mono ?_; rw [hs]; rintro e w1 ⟨rfl, rfl⟩)
        obtain ⟨p6a_z, p6b_z⟩ := (((p6_2).set_ 0 (.int .i64 0)).set_ 1 (.int .i64 0)).two
        have p6f0_z := (((p6_2).set_ 0 (.int .i64 0)).set_ 1 (.int .i64 0)).frozen 0
        have p6f1_z := (((p6_2).set_ 0 (.int .i64 0)).set_ 1 (.int .i64 0)).frozen 1
        refine bodyPost_ret (v := .tuple #[.agg #[.int .i64 0, .int .i64 0], .int .i64 2]) (by simp [results, Try.results32, go_sem, p6a_z, p6b_z]) rfl ?_
        exact ⟨rfl, (((B_2).setCell (p := ⟨(w.heap.size + 1 + 1), 0, none⟩) (by first | omega | (simp; omega) | simp) (.int .i64 0)).setCell (p := ⟨(w.heap.size + 1 + 1), 1, none⟩) (by first | omega | (simp; omega) | simp) (.int .i64 0))⟩
      · obtain ⟨⟨p0, p1⟩, ⟨p2, p3'⟩⟩ := placeB_in hpb
        simp only at p0 p1 p2 p3'
        obtain ⟨s0, s1⟩ := inB_true.1 hs
        obtain ⟨W, H, hwd, hht, hW1, hW, hH1, hH⟩ := vldPan_nat hv
        have e1 : wd.toNat = W := by omega
        have e2 : ht.toNat = H := by omega
        have hnear := fun W0 => nearest_any W H A c xs.length px py s W0 hW hH hW1 p0 p1 p2 p3' s0 s1
        rw [← hwd, ← hht] at hnear
        have hR : nearR wd ht xs (px, py) s = if (nearP s (px, py) (gridTo (2 * W + 1) (2 * H + 1))).2 = true then ((nearP s (px, py) (gridTo (2 * W + 1) (2 * H + 1))).1, 0) else ((0, 0), 3) := by
          unfold nearR
          rw [hpb, hv, hs, e1, e2]
          simp
        rw [hR]
        obtain ⟨⟨⟨nx, ny⟩, ok⟩, hN⟩ : ∃ r, r = nearP s (px, py) (gridTo (2 * W + 1) (2 * H + 1)) := ⟨_, rfl⟩
        rw [← hN] at hnear
        rw [← hN]
        have HNR := hide hnear
        clear hN hnear hR e1 e2 hwd hht
        unfold pcV
        cases ok
        ·
          go_enter Try.func32, Try.ntmps32
          go_wp2_with fail
          refine (HV.out).mono ?_
          rintro e w1 ⟨rfl, hb1⟩
          have hr_1 := ((((hxs).alloc (.cells #[.int .i64 wd, .int .i64 ht, .slice A xs.length c] 49)).alloc (.cells #[.int .i64 px, .int .i64 py] 30)).alloc (.cells #[.int .i64 0, .int .i64 0] 30)).below hb1
          have p3_1 := (((Bx.new_ w (w.heap.size) 49 #[.int .i64 wd, .int .i64 ht, .slice A xs.length c] (by simp)).alloc (.cells #[.int .i64 px, .int .i64 py] 30)).alloc (.cells #[.int .i64 0, .int .i64 0] 30)).below hb1
          obtain ⟨p3a_1, p3b_1, p3c_1⟩ := (p3_1).three
          have p4_1 := ((Bx.new_ (w.alloc (.cells #[.int .i64 wd, .int .i64 ht, .slice A xs.length c] 49)) (w.heap.size + 1) 30 #[.int .i64 px, .int .i64 py] (by simp)).alloc (.cells #[.int .i64 0, .int .i64 0] 30)).below hb1
          obtain ⟨p4a_1, p4b_1⟩ := (p4_1).two
          have p6_1 := (Bx.new_ ((w.alloc (.cells #[.int .i64 wd, .int .i64 ht, .slice A xs.length c] 49)).alloc (.cells #[.int .i64 px, .int .i64 py] 30)) (w.heap.size + 1 + 1) 30 #[.int .i64 0, .int .i64 0] (by simp)).below hb1
          obtain ⟨p6a_1, p6b_1⟩ := (p6_1).two
          have p6f0_1 := (p6_1).frozen 0
          have p6f1_1 := (p6_1).frozen 1
          have z_1 : (((w.alloc (.cells #[.int .i64 wd, .int .i64 ht, .slice A xs.length c] 49)).alloc (.cells #[.int .i64 px, .int .i64 py] 30)).alloc (.cells #[.int .i64 0, .int .i64 0] 30)).heap.size ≤ w1.heap.size := hb1.size
          simp only [World.size_alloc] at z_1
          have B_1 := ((((Below.refl w.heap.size w).alloc (by first | omega | (simp; omega) | simp) (.cells #[.int .i64 wd, .int .i64 ht, .slice A xs.length c] 49)).alloc (by first | omega | (simp; omega) | simp) (.cells #[.int .i64 px, .int .i64 py] 30)).alloc (by first | omega | (simp; omega) | simp) (.cells #[.int .i64 0, .int .i64 0] 30)).trans (hb1.mono (by first | omega | (simp; omega) | simp))
          rw [hv]
          go_wp2_with fail
          refine (isPlace_any px py _).mono ?_
          rintro e w2 ⟨rfl, hb2⟩
          have hr_2 := (hr_1).below hb2
          have p3_2 := (p3_1).below hb2
          obtain ⟨p3a_2, p3b_2, p3c_2⟩ := (p3_2).three
          have p4_2 := (p4_1).below hb2
          obtain ⟨p4a_2, p4b_2⟩ := (p4_2).two
          have p6_2 := (p6_1).below hb2
          obtain ⟨p6a_2, p6b_2⟩ := (p6_2).two
          have p6f0_2 := (p6_2).frozen 0
          have p6f1_2 := (p6_2).frozen 1
          have z_2 : w1.heap.size ≤ w2.heap.size := hb2.size
          have B_2 := (B_1).trans (hb2.mono (by first | omega | (simp; omega) | simp))
          rw [hpb]
          go_wp2_with (go_at_call 51; refine (validScale_any _ _).mono ?_; rw [hs]; rintro e w1 ⟨rfl, rfl⟩)
          refine (HNR.out _).mono ?_
          rintro e w3 ⟨⟨⟨rx, ry⟩, rok⟩, rfl, hr1, hr2, hb3⟩
          have hr_3 := (hr_2).below hb3
          have p3_3 := (p3_2).below hb3
          obtain ⟨p3a_3, p3b_3, p3c_3⟩ := (p3_3).three
          have p4_3 := (p4_2).below hb3
          obtain ⟨p4a_3, p4b_3⟩ := (p4_3).two
          have p6_3 := (p6_2).below hb3
          obtain ⟨p6a_3, p6b_3⟩ := (p6_3).two
          have p6f0_3 := (p6_3).frozen 0
          have p6f1_3 := (p6_3).frozen 1
          have z_3 : w2.heap.size ≤ w3.heap.size := hb3.size
          have B_3 := (B_2).trans (hb3.mono (by first | omega | (simp; omega) | simp))
          simp only at hr1 hr2
          subst hr1
          clear hr2
          rw [show nearV ((rx, ry), false) = .tuple #[.agg #[.int .i64 rx, .int .i64 ry], .bool false] from rfl]
          obtain ⟨p6a_y, p6b_y⟩ := ((p6_3).alloc (.cells #[.int .i64 rx, .int .i64 ry] 30)).two
          have p6f0_y := ((p6_3).alloc (.cells #[.int .i64 rx, .int .i64 ry] 30)).frozen 0
          have p6f1_y := ((p6_3).alloc (.cells #[.int .i64 rx, .int .i64 ry] 30)).frozen 1
          go_wp2_with fail
          obtain ⟨p6a_z, p6b_z⟩ := ((((p6_3).alloc (.cells #[.int .i64 rx, .int .i64 ry] 30)).set_ 0 (.int .i64 0)).set_ 1 (.int .i64 0)).two
          have p6f0_z := ((((p6_3).alloc (.cells #[.int .i64 rx, .int .i64 ry] 30)).set_ 0 (.int .i64 0)).set_ 1 (.int .i64 0)).frozen 0
          have p6f1_z := ((((p6_3).alloc (.cells #[.int .i64 rx, .int .i64 ry] 30)).set_ 0 (.int .i64 0)).set_ 1 (.int .i64 0)).frozen 1
          refine bodyPost_ret (v := .tuple #[.agg #[.int .i64 0, .int .i64 0], .int .i64 3]) (by simp [results, Try.results32, go_sem, p6a_z, p6b_z]) rfl ?_
          exact ⟨rfl, ((((B_3).alloc (by first | omega | (simp; omega) | simp) (.cells #[.int .i64 rx, .int .i64 ry] 30)).setCell (p := ⟨(w.heap.size + 1 + 1), 0, none⟩) (by first | omega | (simp; omega) | simp) (.int .i64 0)).setCell (p := ⟨(w.heap.size + 1 + 1), 1, none⟩) (by first | omega | (simp; omega) | simp) (.int .i64 0))⟩
        ·
          go_enter Try.func32, Try.ntmps32
          go_wp2_with fail
          refine (HV.out).mono ?_
          rintro e w1 ⟨rfl, hb1⟩
          have hr_1 := ((((hxs).alloc (.cells #[.int .i64 wd, .int .i64 ht, .slice A xs.length c] 49)).alloc (.cells #[.int .i64 px, .int .i64 py] 30)).alloc (.cells #[.int .i64 0, .int .i64 0] 30)).below hb1
          have p3_1 := (((Bx.new_ w (w.heap.size) 49 #[.int .i64 wd, .int .i64 ht, .slice A xs.length c] (by simp)).alloc (.cells #[.int .i64 px, .int .i64 py] 30)).alloc (.cells #[.int .i64 0, .int .i64 0] 30)).below hb1
          obtain ⟨p3a_1, p3b_1, p3c_1⟩ := (p3_1).three
          have p4_1 := ((Bx.new_ (w.alloc (.cells #[.int .i64 wd, .int .i64 ht, .slice A xs.length c] 49)) (w.heap.size + 1) 30 #[.int .i64 px, .int .i64 py] (by simp)).alloc (.cells #[.int .i64 0, .int .i64 0] 30)).below hb1
          obtain ⟨p4a_1, p4b_1⟩ := (p4_1).two
          have p6_1 := (Bx.new_ ((w.alloc (.cells #[.int .i64 wd, .int .i64 ht, .slice A xs.length c] 49)).alloc (.cells #[.int .i64 px, .int .i64 py] 30)) (w.heap.size + 1 + 1) 30 #[.int .i64 0, .int .i64 0] (by simp)).below hb1
          obtain ⟨p6a_1, p6b_1⟩ := (p6_1).two
          have p6f0_1 := (p6_1).frozen 0
          have p6f1_1 := (p6_1).frozen 1
          have z_1 : (((w.alloc (.cells #[.int .i64 wd, .int .i64 ht, .slice A xs.length c] 49)).alloc (.cells #[.int .i64 px, .int .i64 py] 30)).alloc (.cells #[.int .i64 0, .int .i64 0] 30)).heap.size ≤ w1.heap.size := hb1.size
          simp only [World.size_alloc] at z_1
          have B_1 := ((((Below.refl w.heap.size w).alloc (by first | omega | (simp; omega) | simp) (.cells #[.int .i64 wd, .int .i64 ht, .slice A xs.length c] 49)).alloc (by first | omega | (simp; omega) | simp) (.cells #[.int .i64 px, .int .i64 py] 30)).alloc (by first | omega | (simp; omega) | simp) (.cells #[.int .i64 0, .int .i64 0] 30)).trans (hb1.mono (by first | omega | (simp; omega) | simp))
          rw [hv]
          go_wp2_with fail
          refine (isPlace_any px py _).mono ?_
          rintro e w2 ⟨rfl, hb2⟩
          have hr_2 := (hr_1).below hb2
          have p3_2 := (p3_1).below hb2
          obtain ⟨p3a_2, p3b_2, p3c_2⟩ := (p3_2).three
          have p4_2 := (p4_1).below hb2
          obtain ⟨p4a_2, p4b_2⟩ := (p4_2).two
          have p6_2 := (p6_1).below hb2
          obtain ⟨p6a_2, p6b_2⟩ := (p6_2).two
          have p6f0_2 := (p6_2).frozen 0
          have p6f1_2 := (p6_2).frozen 1
          have z_2 : w1.heap.size ≤ w2.heap.size := hb2.size
          have B_2 := (B_1).trans (hb2.mono (by first | omega | (simp; omega) | simp))
          rw [hpb]
          go_wp2_with (go_at_call 51; refine (validScale_any _ _).mono ?_; rw [hs]; rintro e w1 ⟨rfl, rfl⟩)
          refine (HNR.out _).mono ?_
          rintro e w3 ⟨⟨⟨rx, ry⟩, rok⟩, rfl, hr1, hr2, hb3⟩
          have hr_3 := (hr_2).below hb3
          have p3_3 := (p3_2).below hb3
          obtain ⟨p3a_3, p3b_3, p3c_3⟩ := (p3_3).three
          have p4_3 := (p4_2).below hb3
          obtain ⟨p4a_3, p4b_3⟩ := (p4_3).two
          have p6_3 := (p6_2).below hb3
          obtain ⟨p6a_3, p6b_3⟩ := (p6_3).two
          have p6f0_3 := (p6_3).frozen 0
          have p6f1_3 := (p6_3).frozen 1
          have z_3 : w2.heap.size ≤ w3.heap.size := hb3.size
          have B_3 := (B_2).trans (hb3.mono (by first | omega | (simp; omega) | simp))
          simp only at hr1 hr2
          subst hr1
          obtain ⟨rfl, rfl⟩ : rx = nx ∧ ry = ny := by
            have := hr2 rfl
            injection this with h1 h2
            exact ⟨h1, h2⟩
          clear hr2
          rw [show nearV ((rx, ry), true) = .tuple #[.agg #[.int .i64 rx, .int .i64 ry], .bool true] from rfl]
          obtain ⟨p6a_y, p6b_y⟩ := ((p6_3).alloc (.cells #[.int .i64 rx, .int .i64 ry] 30)).two
          have p6f0_y := ((p6_3).alloc (.cells #[.int .i64 rx, .int .i64 ry] 30)).frozen 0
          have p6f1_y := ((p6_3).alloc (.cells #[.int .i64 rx, .int .i64 ry] 30)).frozen 1
          go_wp2_with fail
          obtain ⟨p6a_z, p6b_z⟩ := ((((p6_3).alloc (.cells #[.int .i64 rx, .int .i64 ry] 30)).set_ 0 (.int .i64 rx)).set_ 1 (.int .i64 ry)).two
          have p6f0_z := ((((p6_3).alloc (.cells #[.int .i64 rx, .int .i64 ry] 30)).set_ 0 (.int .i64 rx)).set_ 1 (.int .i64 ry)).frozen 0
          have p6f1_z := ((((p6_3).alloc (.cells #[.int .i64 rx, .int .i64 ry] 30)).set_ 0 (.int .i64 rx)).set_ 1 (.int .i64 ry)).frozen 1
          refine bodyPost_ret (v := .tuple #[.agg #[.int .i64 rx, .int .i64 ry], .int .i64 0]) (by simp [results, Try.results32, go_sem, p6a_z, p6b_z]) rfl ?_
          exact ⟨rfl, ((((B_3).alloc (by first | omega | (simp; omega) | simp) (.cells #[.int .i64 rx, .int .i64 ry] 30)).setCell (p := ⟨(w.heap.size + 1 + 1), 0, none⟩) (by first | omega | (simp; omega) | simp) (.int .i64 rx)).setCell (p := ⟨(w.heap.size + 1 + 1), 1, none⟩) (by first | omega | (simp; omega) | simp) (.int .i64 ry))⟩
end Go.Proofs.Ytbleipaekdhdmaa
