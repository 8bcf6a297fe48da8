/-
  Contracts of the reference over a valid panel: crossings, inner points, slopes, valid walkers. Conditions: a valid panel.
-/
import Derived.Test.YtmjeafklafjakaaSm3
import Derived.Test.YtmjeafklafjakaaRet
import Derived.Test.YtmjeafklafjakaaCrC
import Derived.Test.YtmjeafklafjakaaBel
namespace Go.Proofs.Ytmjeafklafjakaa
open Go.RowKit
set_option linter.unusedVariables false

set_option maxHeartbeats 2000000 in
theorem specCrossingsOf_ok (wd ht : Int) (A : Option Addr) (c : Nat) (xs : List Int) (w : World) (hxs : RI w A xs) (hv : vldPan wd ht xs = true) (hn : xs.length ≤ 1048576) :
    Calls Try.prog 18 #[.agg #[.int .i64 wd, .int .i64 ht, .slice A xs.length c]] w (RetIC w (zTo xs xs.length) 0) := by
  have hpa : PA (w.alloc (.cells #[.int .i64 wd, .int .i64 ht, .slice A xs.length c] 26)) w.heap.size wd ht A c xs := ⟨(Bx.new_ w (w.heap.size) 26 #[.int .i64 wd, .int .i64 ht, .slice A xs.length c] (by simp)), hxs.below ((Below.refl w.heap.size w).alloc (by first | omega | (simp; omega) | simp) (.cells #[.int .i64 wd, .int .i64 ht, .slice A xs.length c] 26))⟩
  have HOK := hide (RetQ.v (l02Ok_any w.heap.size wd ht A c xs (w.alloc (.cells #[.int .i64 wd, .int .i64 ht, .slice A xs.length c] 26)) hpa.c0 hpa.c1 hpa.c2 hpa.rd hn))
  have HB0 := hide ((Below.refl w.heap.size w).alloc (by first | omega | (simp; omega) | simp) (.cells #[.int .i64 wd, .int .i64 ht, .slice A xs.length c] 26))
  have HA := hide (fun (W : World) (hb : Below ((w.alloc (.cells #[.int .i64 wd, .int .i64 ht, .slice A xs.length c] 26))).heap.size (w.alloc (.cells #[.int .i64 wd, .int .i64 ht, .slice A xs.length c] 26)) W) => l13All_any w.heap.size wd ht A c xs W (hpa.below hb) hn)
  rw [hv] at HOK
  clear hpa
  go_enter Try.func18, Try.ntmps18
  go_wp2_with fail
  refine HOK.out.mono ?_
  rintro e w1 ⟨rfl, hb1⟩
  go_wp2_with fail
  refine (HA.out _ hb1).mono ?_
  rintro e w2 ⟨A2, c2, rfl, own, hb2⟩
  have B1 := HB0.out.trans (hb1.mono (by simp))
  have B2 := B1.trans (hb2.mono B1.size)
  have z1 := B1.size
  go_wp2_with fail
  go_ret2
  exact ⟨A2, c2, rfl, own.mono z1, B2⟩
set_option maxHeartbeats 2000000 in
theorem specPointAt_ok (wd ht : Int) (A : Option Addr) (c : Nat) (xs : List Int) (k : Nat) (w : World) (hxs : RI w A xs) (hv : vldPan wd ht xs = true) (hn : xs.length ≤ 1048576) (hk : k < xs.length) :
    Calls Try.prog 20 #[.agg #[.int .i64 wd, .int .i64 ht, .slice A xs.length c], .int .i64 (k : Int)] w (RetV w (.tuple #[.agg #[.int .i64 (pntX wd k), .int .i64 (pntY wd k)], .int .i64 0])) := by
  obtain ⟨hs, hl⟩ := vld_sz hv
  have hpa : PA ((w.alloc (.cells #[.int .i64 wd, .int .i64 ht, .slice A xs.length c] 26)).alloc (.cells #[.int .i64 0, .int .i64 0] 41)) w.heap.size wd ht A c xs := ⟨((Bx.new_ w (w.heap.size) 26 #[.int .i64 wd, .int .i64 ht, .slice A xs.length c] (by simp)).alloc (.cells #[.int .i64 0, .int .i64 0] 41)), hxs.below (((Below.refl w.heap.size w).alloc (by first | omega | (simp; omega) | simp) (.cells #[.int .i64 wd, .int .i64 ht, .slice A xs.length c] 26)).alloc (by first | omega | (simp; omega) | simp) (.cells #[.int .i64 0, .int .i64 0] 41))⟩
  have HOK := hide (RetQ.v (l02Ok_any w.heap.size wd ht A c xs ((w.alloc (.cells #[.int .i64 wd, .int .i64 ht, .slice A xs.length c] 26)).alloc (.cells #[.int .i64 0, .int .i64 0] 41)) hpa.c0 hpa.c1 hpa.c2 hpa.rd hn))
  have HA := hide (fun (W : World) (hb : Below (((w.alloc (.cells #[.int .i64 wd, .int .i64 ht, .slice A xs.length c] 26)).alloc (.cells #[.int .i64 0, .int .i64 0] 41))).heap.size ((w.alloc (.cells #[.int .i64 wd, .int .i64 ht, .slice A xs.length c] 26)).alloc (.cells #[.int .i64 0, .int .i64 0] 41)) W) => l02Point_any w.heap.size wd ht A c xs k W (hpa.below hb) hs (by omega))
  have hin : inB (k : Int) 0 ((xs.length : Int) - 1) = true := inB_true.2 (by omega)
  have HI := hide (fun W : World => l00In_any (k : Int) 0 ((xs.length : Int) - 1) W)
  rw [hv] at HOK
  rw [hin] at HI
  obtain ⟨X, hX⟩ : ∃ X, X = pntX wd k := ⟨_, rfl⟩
  obtain ⟨Y, hY⟩ : ∃ Y, Y = pntY wd k := ⟨_, rfl⟩
  rw [← hX, ← hY] at HA ⊢
  clear hpa hin hX hY hs hl
  go_enter Try.func20, Try.ntmps20
  go_wp2_with fail
  refine HOK.out.mono ?_
  rintro e w1 ⟨rfl, hb1⟩
  have p_1 := ((Bx.new_ w (w.heap.size) 26 #[.int .i64 wd, .int .i64 ht, .slice A xs.length c] (by simp)).alloc (.cells #[.int .i64 0, .int .i64 0] 41)).below hb1
  obtain ⟨pa_1, pb_1, pc_1⟩ := (p_1).three
  have r_1 := (Bx.new_ (w.alloc (.cells #[.int .i64 wd, .int .i64 ht, .slice A xs.length c] 26)) (w.heap.size + 1) 41 #[.int .i64 0, .int .i64 0] (by simp)).below hb1
  obtain ⟨ra_1, rb_1⟩ := (r_1).two
  have rf0_1 := (r_1).frozen 0
  have rf1_1 := (r_1).frozen 1
  have z_1 : ((w.alloc (.cells #[.int .i64 wd, .int .i64 ht, .slice A xs.length c] 26)).alloc (.cells #[.int .i64 0, .int .i64 0] 41)).heap.size ≤ w1.heap.size := hb1.size
  simp only [World.size_alloc] at z_1
  have B_1 := (((Below.refl w.heap.size w).alloc (by first | omega | (simp; omega) | simp) (.cells #[.int .i64 wd, .int .i64 ht, .slice A xs.length c] 26)).alloc (by first | omega | (simp; omega) | simp) (.cells #[.int .i64 0, .int .i64 0] 41)).trans (hb1.mono (by first | omega | (simp; omega) | simp))
  go_wp2_with (go_at_call 39; refine (HI.out _).mono ?_; rintro e w' ⟨rfl, rfl⟩)
  refine (HA.out _ hb1).mono ?_
  rintro e w2 ⟨rfl, hb2⟩
  have p_2 := (p_1).below hb2
  obtain ⟨pa_2, pb_2, pc_2⟩ := (p_2).three
  have r_2 := (r_1).below hb2
  obtain ⟨ra_2, rb_2⟩ := (r_2).two
  have rf0_2 := (r_2).frozen 0
  have rf1_2 := (r_2).frozen 1
  have z_2 : w1.heap.size ≤ w2.heap.size := hb2.size
  have B_2 := (B_1).trans (hb2.mono (by first | omega | (simp; omega) | simp))
  have HR := hide ((((r_2).set_ 0 (.int .i64 X)).set_ 1 (.int .i64 Y))).two
  go_wp2_with fail
  obtain ⟨ra_9, rb_9⟩ := HR.out
  refine bodyPost_ret (v := .tuple #[.agg #[.int .i64 X, .int .i64 Y], .int .i64 0]) (by simp [results, Try.results20, go_sem, ra_9, rb_9]) rfl ?_
  exact ⟨rfl, (((B_2).setCell (p := ⟨(w.heap.size + 1), 0, none⟩) (by first | omega | (simp; omega) | simp) (.int .i64 X)).setCell (p := ⟨(w.heap.size + 1), 1, none⟩) (by first | omega | (simp; omega) | simp) (.int .i64 Y))⟩
set_option maxHeartbeats 4000000 in
theorem l02Has_ok (b0 : Nat) (wd ht x y : Int) (A : Option Addr) (c : Nat) (xs : List Int) (w : World) (hp : PA w b0 wd ht A c xs) (hs : Sz wd ht) (hon : OnP wd ht x y) :
    Calls Try.prog 66 #[.pointer (some ⟨b0, 0, none⟩), .agg #[.int .i64 x, .int .i64 y]] w (RetV w (.bool true)) := by
  obtain ⟨s1, s2, s3, s4⟩ := hs
  obtain ⟨o1, o2, o3, o4, o5⟩ := hon
  have t1 : Int.tmod (x + y) 2 = 1 := by rw [Int.tmod_eq_emod_of_nonneg (by omega)]; exact o5
  have hc1 : Hid (∀ W : World, Calls Try.prog 39 #[.int .i64 x, .int .i64 0, .int .i64 (2 * wd)] W fun e w' => e = .returned (.bool true) ∧ W = w') := hide fun W => by
    rw [← show inB x 0 (2 * wd) = true from inB_true.2 ⟨o1, o2⟩]
    exact l00In_any x 0 (2 * wd) W
  have hc2 : Hid (∀ W : World, Calls Try.prog 39 #[.int .i64 y, .int .i64 0, .int .i64 (2 * ht)] W fun e w' => e = .returned (.bool true) ∧ W = w') := hide fun W => by
    rw [← show inB y 0 (2 * ht) = true from inB_true.2 ⟨o3, o4⟩]
    exact l00In_any y 0 (2 * ht) W
  clear o5
  have c0 := (((hp).alloc (.cells #[.int .i64 x, .int .i64 y] 41))).c0
  have c1 := (((hp).alloc (.cells #[.int .i64 x, .int .i64 y] 41))).c1
  have hB : ∀ n, Below w.heap.size w (World.drewN (w.alloc (.cells #[.int .i64 x, .int .i64 y] 41)) n) := fun n => below_drewN' ((Below.refl w.heap.size w).alloc (by first | omega | (simp; omega) | simp) (.cells #[.int .i64 x, .int .i64 y] 41)) n
  go_enter Try.func66, Try.ntmps66
  go_wp2_with fail
  go_quiet ((first | (go_at_call_of 39 (Value.int .i64 x); exact quiet1 (hc1.out _)) | (go_at_call_of 39 (Value.int .i64 y); exact quiet1 (hc2.out _)) | fail))
  go_wp2_with fail
  go_ret
  exact ⟨rfl, hB _⟩
set_option maxHeartbeats 2000000 in
theorem specOverSlope_ok (wd ht x y : Int) (A : Option Addr) (c : Nat) (xs : List Int) (w : World) (hxs : RI w A xs) (hv : vldPan wd ht xs = true) (hn : xs.length ≤ 1048576) (hon : OnP wd ht x y) (hcr : crossB wd ht xs x y = true) :
    Calls Try.prog 22 #[.agg #[.int .i64 wd, .int .i64 ht, .slice A xs.length c], .agg #[.int .i64 x, .int .i64 y]] w (RetV w (.tuple #[.int .i64 (slopeI x), .int .i64 0])) := by
  obtain ⟨hs, hl⟩ := vld_sz hv
  have hed := edge_false (cross_iff.1 hcr).1
  have hcode : ∀ (b0 : Nat) (W : World), PA W b0 wd ht A c xs → Calls Try.prog 41 #[.pointer (some ⟨b0, 0, none⟩), .agg #[.int .i64 x, .int .i64 y]] W (RetV W (.int .i64 0)) := fun b0 W hp => by
    have hco : ∀ (W' : World), PA W' b0 wd ht A c xs → Calls Try.prog 63 #[.pointer (some ⟨b0, 0, none⟩), .agg #[.int .i64 x, .int .i64 y]] W' (RetV W' (.int .i64 0)) := fun W' hp' => by
      have hB : Below W'.heap.size W' (W'.alloc (.cells #[.int .i64 x, .int .i64 y] 41)) := (Below.refl _ _).alloc (Nat.le_refl _) _
      have hb := Bx.new W' 41 #[.int .i64 x, .int .i64 y]
      have HOK := hide (fun (V : World) (h : PA V b0 wd ht A c xs) => RetQ.v (l02Ok_any b0 wd ht A c xs V h.c0 h.c1 h.c2 h.rd hn))
      have HHAS := hide (fun (V : World) (h : PA V b0 wd ht A c xs) => l02Has_ok b0 wd ht x y A c xs V h hs hon)
      have HED := hide (fun (V : World) (h : PA V b0 wd ht A c xs) => l02Edge_any b0 wd ht x y A c xs V h hs)
      rw [hv] at HOK
      rw [hed] at HED
      have hp1 := hp'.below hB
      clear hp'
      go_enter Try.func63, Try.ntmps63
      go_wp2_with fail
      refine (HOK.out _ hp1).mono ?_
      rintro e w1 ⟨rfl, hb1⟩
      have hp2 := hp1.below hb1
      have hx2 := hb.below hb1
      have B2 := hB.trans (hb1.mono hB.size)
      obtain ⟨xa, xb⟩ := hx2.two
      go_wp2_with fail
      refine (HHAS.out _ hp2).mono ?_
      rintro e w2 ⟨rfl, hb2⟩
      have hp3 := hp2.below hb2
      have hx3 := hx2.below hb2
      have B3 := B2.trans (hb2.mono B2.size)
      obtain ⟨xa3, xb3⟩ := hx3.two
      go_wp2_with fail
      refine (HED.out _ hp3).mono ?_
      rintro e w3 ⟨rfl, hb3⟩
      have B4 := B3.trans (hb3.mono B3.size)
      go_wp2_with fail
      go_ret
      exact ⟨rfl, B4⟩
    have hB : Below W.heap.size W (W.alloc (.cells #[.int .i64 x, .int .i64 y] 41)) := (Below.refl _ _).alloc (Nat.le_refl _) _
    have hb := Bx.new W 41 #[.int .i64 x, .int .i64 y]
    have HCO := hide hco
    have HIS := hide (fun (V : World) (h : PA V b0 wd ht A c xs) => l13Is_any b0 wd ht x y A c xs V h hs hl hon)
    rw [hcr] at HIS
    have hp1 := hp.below hB
    obtain ⟨xa, xb⟩ := hb.two
    clear hp
    go_enter Try.func41, Try.ntmps41
    go_wp2_with fail
    refine (HCO.out _ hp1).mono ?_
    rintro e w1 ⟨rfl, hb1⟩
    have hp2 := hp1.below hb1
    have hx2 := hb.below hb1
    have B2 := hB.trans (hb1.mono hB.size)
    obtain ⟨xa2, xb2⟩ := hx2.two
    go_wp2_with fail
    refine (HIS.out _ hp2).mono ?_
    rintro e w2 ⟨rfl, hb2⟩
    have B3 := B2.trans (hb2.mono B2.size)
    go_wp2_with fail
    go_ret
    exact ⟨rfl, B3⟩
  obtain ⟨qa_x1, qb_x1⟩ := (Bx.new_ (w.alloc (.cells #[.int .i64 wd, .int .i64 ht, .slice A xs.length c] 26)) (w.heap.size + 1) 41 #[.int .i64 x, .int .i64 y] (by simp)).two
  have hpa : PA ((w.alloc (.cells #[.int .i64 wd, .int .i64 ht, .slice A xs.length c] 26)).alloc (.cells #[.int .i64 x, .int .i64 y] 41)) w.heap.size wd ht A c xs := ⟨((Bx.new_ w (w.heap.size) 26 #[.int .i64 wd, .int .i64 ht, .slice A xs.length c] (by simp)).alloc (.cells #[.int .i64 x, .int .i64 y] 41)), hxs.below (((Below.refl w.heap.size w).alloc (by first | omega | (simp; omega) | simp) (.cells #[.int .i64 wd, .int .i64 ht, .slice A xs.length c] 26)).alloc (by first | omega | (simp; omega) | simp) (.cells #[.int .i64 x, .int .i64 y] 41))⟩
  have HC := hide (hcode w.heap.size ((w.alloc (.cells #[.int .i64 wd, .int .i64 ht, .slice A xs.length c] 26)).alloc (.cells #[.int .i64 x, .int .i64 y] 41)) hpa)
  have hb16 : 0 ≤ x ∧ x ≤ 16 := by unfold OnP at hon; obtain ⟨s1, s2, s3, s4⟩ := hs; omega
  have HSL := hide (fun W : World => l13Slope_any x y W hb16.1 hb16.2)
  obtain ⟨S, hS⟩ : ∃ S, S = slopeI x := ⟨_, rfl⟩
  rw [← hS] at HSL ⊢
  clear hcode hpa hS hs hl
  go_enter Try.func22, Try.ntmps22
  go_wp2_with fail
  refine HC.out.mono ?_
  rintro e w1 ⟨rfl, hb1⟩
  have p_1 := ((Bx.new_ w (w.heap.size) 26 #[.int .i64 wd, .int .i64 ht, .slice A xs.length c] (by simp)).alloc (.cells #[.int .i64 x, .int .i64 y] 41)).below hb1
  obtain ⟨pa_1, pb_1, pc_1⟩ := (p_1).three
  have q_1 := (Bx.new_ (w.alloc (.cells #[.int .i64 wd, .int .i64 ht, .slice A xs.length c] 26)) (w.heap.size + 1) 41 #[.int .i64 x, .int .i64 y] (by simp)).below hb1
  obtain ⟨qa_1, qb_1⟩ := (q_1).two
  have z_1 : ((w.alloc (.cells #[.int .i64 wd, .int .i64 ht, .slice A xs.length c] 26)).alloc (.cells #[.int .i64 x, .int .i64 y] 41)).heap.size ≤ w1.heap.size := hb1.size
  simp only [World.size_alloc] at z_1
  have B_1 := (((Below.refl w.heap.size w).alloc (by first | omega | (simp; omega) | simp) (.cells #[.int .i64 wd, .int .i64 ht, .slice A xs.length c] 26)).alloc (by first | omega | (simp; omega) | simp) (.cells #[.int .i64 x, .int .i64 y] 41)).trans (hb1.mono (by first | omega | (simp; omega) | simp))
  go_wp2_with fail
  refine (HSL.out _).mono ?_
  rintro e w2 ⟨rfl, hb2⟩
  have p_2 := (p_1).below hb2
  obtain ⟨pa_2, pb_2, pc_2⟩ := (p_2).three
  have q_2 := (q_1).below hb2
  obtain ⟨qa_2, qb_2⟩ := (q_2).two
  have z_2 : w1.heap.size ≤ w2.heap.size := hb2.size
  have B_2 := (B_1).trans (hb2.mono (by first | omega | (simp; omega) | simp))
  go_wp2_with fail
  go_ret2
  exact ⟨rfl, (B_2)⟩
set_option maxHeartbeats 4000000 in
theorem l03Ok_ok (b0 : Nat) (wd ht : Int) (a : Wk) (A : Option Addr) (c : Nat) (xs : List Int) (w : World) (hp : PA w b0 wd ht A c xs) (hs : Sz wd ht) (ha : OkW wd ht a) :
    Calls Try.prog 43 #[.pointer (some ⟨b0, 0, none⟩), .agg #[.int .i64 a.x, .int .i64 a.y, .int .i64 a.dx, .int .i64 a.dy]] w (RetV w (.bool true)) := by
  have hsg : ∀ (d : Int) (W : World), d = 1 ∨ d = -1 → Calls Try.prog 65 #[.int .i64 d] W fun e w' => e = .returned (.bool true) ∧ W = w' := fun d W hd => by
    by_cases h1 : d = 1
    · have e1 : (d == 1) = true := by simp [h1]
      clear hd h1
      go_enter Try.func65, Try.ntmps65
      go_wp2_with fail
      go_ret
      exact ⟨rfl, rfl⟩
    · have h2 : d = -1 := by omega
      have e1 : (d == 1) = false := by simp [h1]
      have e2 : (d == -1) = true := by simp [h2]
      clear hd h1 h2
      go_enter Try.func65, Try.ntmps65
      go_wp2_with fail
      go_ret
      exact ⟨rfl, rfl⟩
  obtain ⟨ka_x1, kb_x1, kc_x1, kd_x1⟩ := (Bx.new_ w (w.heap.size) 45 #[.int .i64 a.x, .int .i64 a.y, .int .i64 a.dx, .int .i64 a.dy] (by simp)).four
  have hB := ((Below.refl w.heap.size w).alloc (by first | omega | (simp; omega) | simp) (.cells #[.int .i64 a.x, .int .i64 a.y, .int .i64 a.dx, .int .i64 a.dy] 45))
  have hk := (Bx.new_ w (w.heap.size) 45 #[.int .i64 a.x, .int .i64 a.y, .int .i64 a.dx, .int .i64 a.dy] (by simp))
  have hp1 := hp.below ((Below.refl w.heap.size w).alloc (by first | omega | (simp; omega) | simp) (.cells #[.int .i64 a.x, .int .i64 a.y, .int .i64 a.dx, .int .i64 a.dy] 45))
  have HS1 := hide (fun W : World => hsg a.dx W ha.1)
  have HS2 := hide (fun W : World => hsg a.dy W ha.2.1)
  have HH1 := hide (fun (V : World) (h : PA V b0 wd ht A c xs) => l02Has_ok b0 wd ht a.x a.y A c xs V h hs ha.2.2.1)
  have HH2 := hide (fun (V : World) (h : PA V b0 wd ht A c xs) => l02Has_ok b0 wd ht a.nx a.ny A c xs V h hs ha.2.2.2)
  have HN := hide (fun W : World => l03Next_any wd ht a W hs ha)
  obtain ⟨nx, hnx⟩ : ∃ v, v = a.nx := ⟨_, rfl⟩
  obtain ⟨ny, hny⟩ : ∃ v, v = a.ny := ⟨_, rfl⟩
  rw [← hnx, ← hny] at HH2 HN
  clear hnx hny hsg hs hp
  go_enter Try.func43, Try.ntmps43
  go_wp2_with (first | (go_at_call_of 65 (Value.int .i64 a.dx); refine (HS1.out _).mono ?_; rintro e w' ⟨rfl, rfl⟩) | (go_at_call_of 65 (Value.int .i64 a.dy); refine (HS2.out _).mono ?_; rintro e w' ⟨rfl, rfl⟩))
  refine (HH1.out _ hp1).mono ?_
  rintro e w1 ⟨rfl, hb1⟩
  have hk1 := hk.below hb1
  have hp2 := hp1.below hb1
  have B1 := hB.trans (hb1.mono hB.size)
  obtain ⟨ka1, kb1, kc1, kd1⟩ := hk1.four
  go_wp2_with fail
  refine (HN.out _).mono ?_
  rintro e w2 ⟨rfl, hb2⟩
  have hp3 := hp2.below hb2
  have B2 := B1.trans (hb2.mono B1.size)
  go_wp2_with fail
  refine (HH2.out _ hp3).mono ?_
  rintro e w3 ⟨rfl, hb3⟩
  have B3 := B2.trans (hb3.mono B2.size)
  go_wp2_with fail
  go_ret
  exact ⟨rfl, B3⟩
set_option maxHeartbeats 2000000 in
theorem specValidWalker_ok (wd ht : Int) (a : Wk) (A : Option Addr) (c : Nat) (xs : List Int) (w : World) (hxs : RI w A xs) (hv : vldPan wd ht xs = true) (hn : xs.length ≤ 1048576) (ha : OkW wd ht a) :
    Calls Try.prog 23 #[.agg #[.int .i64 wd, .int .i64 ht, .slice A xs.length c], .agg #[.int .i64 a.x, .int .i64 a.y, .int .i64 a.dx, .int .i64 a.dy]] w (RetV w (.bool true)) := by
  obtain ⟨hs, hl⟩ := vld_sz hv
  have hpa : PA ((w.alloc (.cells #[.int .i64 wd, .int .i64 ht, .slice A xs.length c] 26)).alloc (.cells #[.int .i64 a.x, .int .i64 a.y, .int .i64 a.dx, .int .i64 a.dy] 45)) w.heap.size wd ht A c xs := ⟨((Bx.new_ w (w.heap.size) 26 #[.int .i64 wd, .int .i64 ht, .slice A xs.length c] (by simp)).alloc (.cells #[.int .i64 a.x, .int .i64 a.y, .int .i64 a.dx, .int .i64 a.dy] 45)), hxs.below (((Below.refl w.heap.size w).alloc (by first | omega | (simp; omega) | simp) (.cells #[.int .i64 wd, .int .i64 ht, .slice A xs.length c] 26)).alloc (by first | omega | (simp; omega) | simp) (.cells #[.int .i64 a.x, .int .i64 a.y, .int .i64 a.dx, .int .i64 a.dy] 45))⟩
  have HOK := hide (RetQ.v (l02Ok_any w.heap.size wd ht A c xs ((w.alloc (.cells #[.int .i64 wd, .int .i64 ht, .slice A xs.length c] 26)).alloc (.cells #[.int .i64 a.x, .int .i64 a.y, .int .i64 a.dx, .int .i64 a.dy] 45)) hpa.c0 hpa.c1 hpa.c2 hpa.rd hn))
  have HA := hide (fun (W : World) (hb : Below (((w.alloc (.cells #[.int .i64 wd, .int .i64 ht, .slice A xs.length c] 26)).alloc (.cells #[.int .i64 a.x, .int .i64 a.y, .int .i64 a.dx, .int .i64 a.dy] 45))).heap.size ((w.alloc (.cells #[.int .i64 wd, .int .i64 ht, .slice A xs.length c] 26)).alloc (.cells #[.int .i64 a.x, .int .i64 a.y, .int .i64 a.dx, .int .i64 a.dy] 45)) W) => l03Ok_ok w.heap.size wd ht a A c xs W (hpa.below hb) hs ha)
  rw [hv] at HOK
  clear hpa hs hl
  go_enter Try.func23, Try.ntmps23
  go_wp2_with fail
  refine HOK.out.mono ?_
  rintro e w1 ⟨rfl, hb1⟩
  have p_1 := ((Bx.new_ w (w.heap.size) 26 #[.int .i64 wd, .int .i64 ht, .slice A xs.length c] (by simp)).alloc (.cells #[.int .i64 a.x, .int .i64 a.y, .int .i64 a.dx, .int .i64 a.dy] 45)).below hb1
  obtain ⟨pa_1, pb_1, pc_1⟩ := (p_1).three
  have k_1 := (Bx.new_ (w.alloc (.cells #[.int .i64 wd, .int .i64 ht, .slice A xs.length c] 26)) (w.heap.size + 1) 45 #[.int .i64 a.x, .int .i64 a.y, .int .i64 a.dx, .int .i64 a.dy] (by simp)).below hb1
  obtain ⟨ka_1, kb_1, kc_1, kd_1⟩ := (k_1).four
  have z_1 : ((w.alloc (.cells #[.int .i64 wd, .int .i64 ht, .slice A xs.length c] 26)).alloc (.cells #[.int .i64 a.x, .int .i64 a.y, .int .i64 a.dx, .int .i64 a.dy] 45)).heap.size ≤ w1.heap.size := hb1.size
  simp only [World.size_alloc] at z_1
  have B_1 := (((Below.refl w.heap.size w).alloc (by first | omega | (simp; omega) | simp) (.cells #[.int .i64 wd, .int .i64 ht, .slice A xs.length c] 26)).alloc (by first | omega | (simp; omega) | simp) (.cells #[.int .i64 a.x, .int .i64 a.y, .int .i64 a.dx, .int .i64 a.dy] 45)).trans (hb1.mono (by first | omega | (simp; omega) | simp))
  go_wp2_with fail
  refine (HA.out _ hb1).mono ?_
  rintro e w2 ⟨rfl, hb2⟩
  have p_2 := (p_1).below hb2
  obtain ⟨pa_2, pb_2, pc_2⟩ := (p_2).three
  have k_2 := (k_1).below hb2
  obtain ⟨ka_2, kb_2, kc_2, kd_2⟩ := (k_2).four
  have z_2 : w1.heap.size ≤ w2.heap.size := hb2.size
  have B_2 := (B_1).trans (hb2.mono (by first | omega | (simp; omega) | simp))
  go_wp2_with fail
  go_ret
  exact ⟨rfl, (B_2)⟩
end Go.Proofs.Ytmjeafklafjakaa
