/-
  Contracts: copies of panels, changes. Conditions: a valid panel's sides and breaks.
-/
import Derived.Test.YtjlifbdaieblpaaGreatTr6
import Derived.Test.YtjlifbdaieblpaaGreatPntMath
import Derived.Deep.RegionHeld3
namespace Go.Proofs.YtjlifbdaieblpaaGreat
open Go.RowKit
set_option linter.unusedVariables false
section
variable {w w0 : World} {b : Nat} {o0 o1 o2 : Nat} {u0 u1 u2 : Value}
theorem Bx.far3 {b' : Nat} {t : TypeId} {cs : Array Value} (h : Bx w b' t cs) (hne : b' ≠ b) : Bx (((w.setCell ⟨b, o0, none⟩ u0).setCell ⟨b, o1, none⟩ u1).setCell ⟨b, o2, none⟩ u2) b' t cs :=
  ((h.far (p := ⟨b, o0, none⟩) hne u0).far (p := ⟨b, o1, none⟩) hne u1).far (p := ⟨b, o2, none⟩) hne u2
theorem Bx.put3 {t : TypeId} {v0 v1 v2 : Value} (h : Bx w b t #[v0, v1, v2]) : Bx (((w.setCell ⟨b, 0, none⟩ u0).setCell ⟨b, 1, none⟩ u1).setCell ⟨b, 2, none⟩ u2) b t #[u0, u1, u2] :=
  ((h.set_ 0 u0).set_ 1 u1).set_ 2 u2
theorem OwnI.far3 {base : Nat} {A : Option Addr} {c : Nat} {xs : List Int} (h : OwnI w base A c xs) (hb : ∀ g, blk A = some g → g ≠ b) : OwnI (((w.setCell ⟨b, o0, none⟩ u0).setCell ⟨b, o1, none⟩ u1).setCell ⟨b, o2, none⟩ u2) base A c xs := by
  have e : ∀ {W : World} {o : Nat} {u : Value}, OwnI W base A c xs → OwnI (W.setCell ⟨b, o, none⟩ u) base A c xs := fun {W o u} hw => hw.keep fun b' _ h2 => Below.heap_setCell W ⟨b, o, none⟩ u b' (hb b' h2)
  exact e (e (e h))
theorem below_put3 {B : Nat} (h : Below B w0 w) (hb : B ≤ b) : Below B w0 (((w.setCell ⟨b, o0, none⟩ u0).setCell ⟨b, o1, none⟩ u1).setCell ⟨b, o2, none⟩ u2) :=
  ((h.setCell (p := ⟨b, o0, none⟩) hb u0).setCell (p := ⟨b, o1, none⟩) hb u1).setCell (p := ⟨b, o2, none⟩) hb u2
end

set_option maxHeartbeats 2000000 in
theorem clonePanel_any (wd ht : Int) (A : Option Addr) (c : Nat) (xs : List Int) (w : World) (hxs : RI w A xs) (hn : xs.length ≤ 1048576) :
    Calls Tryz.prog 91 #[.agg #[.int .i64 wd, .int .i64 ht, .slice A xs.length c]] w (RetPan w wd ht xs) := by
  obtain ⟨pa_x1, pb_x1, pc_x1⟩ := ((Bx.new_ w (w.heap.size) 26 #[.int .i64 wd, .int .i64 ht, .slice A xs.length c] (by simp)).alloc (.cells #[.int .i64 0, .int .i64 0, .slice none 0 0] 26)).three
  have pf0_x1 := ((Bx.new_ w (w.heap.size) 26 #[.int .i64 wd, .int .i64 ht, .slice A xs.length c] (by simp)).alloc (.cells #[.int .i64 0, .int .i64 0, .slice none 0 0] 26)).frozen 0
  have pf1_x1 := ((Bx.new_ w (w.heap.size) 26 #[.int .i64 wd, .int .i64 ht, .slice A xs.length c] (by simp)).alloc (.cells #[.int .i64 0, .int .i64 0, .slice none 0 0] 26)).frozen 1
  have pf2_x1 := ((Bx.new_ w (w.heap.size) 26 #[.int .i64 wd, .int .i64 ht, .slice A xs.length c] (by simp)).alloc (.cells #[.int .i64 0, .int .i64 0, .slice none 0 0] 26)).frozen 2
  obtain ⟨ra_x1, rb_x1, rc_x1⟩ := (Bx.new_ (w.alloc (.cells #[.int .i64 wd, .int .i64 ht, .slice A xs.length c] 26)) (w.heap.size + 1) 26 #[.int .i64 0, .int .i64 0, .slice none 0 0] (by simp)).three
  have rf0_x1 := (Bx.new_ (w.alloc (.cells #[.int .i64 wd, .int .i64 ht, .slice A xs.length c] 26)) (w.heap.size + 1) 26 #[.int .i64 0, .int .i64 0, .slice none 0 0] (by simp)).frozen 0
  have rf1_x1 := (Bx.new_ (w.alloc (.cells #[.int .i64 wd, .int .i64 ht, .slice A xs.length c] 26)) (w.heap.size + 1) 26 #[.int .i64 0, .int .i64 0, .slice none 0 0] (by simp)).frozen 1
  have rf2_x1 := (Bx.new_ (w.alloc (.cells #[.int .i64 wd, .int .i64 ht, .slice A xs.length c] 26)) (w.heap.size + 1) 26 #[.int .i64 0, .int .i64 0, .slice none 0 0] (by simp)).frozen 2
  have HC := hide (slicesClone_any A c xs ((w.alloc (.cells #[.int .i64 wd, .int .i64 ht, .slice A xs.length c] 26)).alloc (.cells #[.int .i64 0, .int .i64 0, .slice none 0 0] 26)) (hxs.below (((Below.refl w.heap.size w).alloc (by first | omega | (simp; omega) | simp) (.cells #[.int .i64 wd, .int .i64 ht, .slice A xs.length c] 26)).alloc (by first | omega | (simp; omega) | simp) (.cells #[.int .i64 0, .int .i64 0, .slice none 0 0] 26))) (by omega))
  go_enter Tryz.func91, Tryz.ntmps91
  go_wp2_with fail
  refine HC.out.mono ?_
  rintro e w1 ⟨A1, c1, rfl, own, hb1⟩
  have p_1 := ((Bx.new_ w (w.heap.size) 26 #[.int .i64 wd, .int .i64 ht, .slice A xs.length c] (by simp)).alloc (.cells #[.int .i64 0, .int .i64 0, .slice none 0 0] 26)).below hb1
  obtain ⟨pa_1, pb_1, pc_1⟩ := (p_1).three
  have pf0_1 := (p_1).frozen 0
  have pf1_1 := (p_1).frozen 1
  have pf2_1 := (p_1).frozen 2
  have r_1 := (Bx.new_ (w.alloc (.cells #[.int .i64 wd, .int .i64 ht, .slice A xs.length c] 26)) (w.heap.size + 1) 26 #[.int .i64 0, .int .i64 0, .slice none 0 0] (by simp)).below hb1
  obtain ⟨ra_1, rb_1, rc_1⟩ := (r_1).three
  have rf0_1 := (r_1).frozen 0
  have rf1_1 := (r_1).frozen 1
  have rf2_1 := (r_1).frozen 2
  have z_1 : ((w.alloc (.cells #[.int .i64 wd, .int .i64 ht, .slice A xs.length c] 26)).alloc (.cells #[.int .i64 0, .int .i64 0, .slice none 0 0] 26)).heap.size ≤ w1.heap.size := hb1.size
  simp only [World.size_alloc] at z_1
  have B_1 := (((Below.refl w.heap.size w).alloc (by first | omega | (simp; omega) | simp) (.cells #[.int .i64 wd, .int .i64 ht, .slice A xs.length c] 26)).alloc (by first | omega | (simp; omega) | simp) (.cells #[.int .i64 0, .int .i64 0, .slice none 0 0] 26)).trans (hb1.mono (by first | omega | (simp; omega) | simp))
  obtain ⟨pa_x2, pb_x2, pc_x2⟩ := ((p_1).set_ 2 (.slice A1 xs.length c1)).three
  have pf0_x2 := ((p_1).set_ 2 (.slice A1 xs.length c1)).frozen 0
  have pf1_x2 := ((p_1).set_ 2 (.slice A1 xs.length c1)).frozen 1
  have pf2_x2 := ((p_1).set_ 2 (.slice A1 xs.length c1)).frozen 2
  obtain ⟨ra_x2, rb_x2, rc_x2⟩ := ((r_1).far (p := ⟨(w.heap.size), 2, none⟩) (by first | omega | (simp; omega) | simp) (.slice A1 xs.length c1)).three
  have rf0_x2 := ((r_1).far (p := ⟨(w.heap.size), 2, none⟩) (by first | omega | (simp; omega) | simp) (.slice A1 xs.length c1)).frozen 0
  have rf1_x2 := ((r_1).far (p := ⟨(w.heap.size), 2, none⟩) (by first | omega | (simp; omega) | simp) (.slice A1 xs.length c1)).frozen 1
  have rf2_x2 := ((r_1).far (p := ⟨(w.heap.size), 2, none⟩) (by first | omega | (simp; omega) | simp) (.slice A1 xs.length c1)).frozen 2
  have hr9 := ((((((r_1).far (p := ⟨(w.heap.size), 2, none⟩) (by first | omega | (simp; omega) | simp) (.slice A1 xs.length c1)).set_ 0 (.int .i64 wd)).set_ 1 (.int .i64 ht)).set_ 2 (.slice A1 xs.length c1))).three
  have HRQ := hide hr9
  have hne : ∀ g, blk A1 = some g → g ≠ w.heap.size + 1 := fun g hg => by have := (own.ge hg).1; simp at this; omega
  have hne2 : ∀ g, blk A1 = some g → g ≠ w.heap.size := fun g hg => by have := (own.ge hg).1; simp at this; omega
  have own2 := (own.keep (fun b' _ h2 => Below.heap_setCell w1 ⟨w.heap.size, 2, none⟩ (.slice A1 xs.length c1) b' (hne2 b' h2))).far3 (b := w.heap.size + 1) (o0 := 0) (o1 := 1) (o2 := 2) (u0 := .int .i64 wd) (u1 := .int .i64 ht) (u2 := .slice A1 xs.length c1) hne
  have OWN := hide (own2.mono (show w.heap.size ≤ _ by simp; omega))
  clear hr9 own own2 hne hne2
  go_wp2_with fail
  obtain ⟨ra_9, rb_9, rc_9⟩ := HRQ.out
  refine bodyPost_ret (v := .agg #[.int .i64 wd, .int .i64 ht, .slice A1 xs.length c1]) (by simp [results, Tryz.results91, go_sem, ra_9, rb_9, rc_9]) rfl ?_
  exact ⟨A1, c1, rfl, OWN.out, (((((B_1).setCell (p := ⟨(w.heap.size), 2, none⟩) (by first | omega | (simp; omega) | simp) (.slice A1 xs.length c1)).setCell (p := ⟨(w.heap.size + 1), 0, none⟩) (by first | omega | (simp; omega) | simp) (.int .i64 wd)).setCell (p := ⟨(w.heap.size + 1), 1, none⟩) (by first | omega | (simp; omega) | simp) (.int .i64 ht)).setCell (p := ⟨(w.heap.size + 1), 2, none⟩) (by first | omega | (simp; omega) | simp) (.slice A1 xs.length c1))⟩
set_option maxHeartbeats 4000000 in
theorem changed_any (wd ht : Int) (A : Option Addr) (c : Nat) (xs : List Int) (k : Nat) (kd : Int) (w : World) (hxs : RI w A xs) (hn : xs.length ≤ 1048576) (hk : k < xs.length) :
    Calls Tryz.prog 63 #[.agg #[.int .i64 wd, .int .i64 ht, .slice A xs.length c], .int .i64 (k : Int), .int .i64 kd] w (RetPan w wd ht (xs.set k kd)) := by
  have HL : Hid ((xs.set k kd).length = xs.length) := hide (by rw [List.length_set])
  obtain ⟨pa_x1, pb_x1, pc_x1⟩ := ((Bx.new_ w (w.heap.size) 26 #[.int .i64 wd, .int .i64 ht, .slice A xs.length c] (by simp)).alloc (.cells #[.int .i64 0, .int .i64 0, .slice none 0 0] 26)).three
  obtain ⟨ra_x1, rb_x1, rc_x1⟩ := (Bx.new_ (w.alloc (.cells #[.int .i64 wd, .int .i64 ht, .slice A xs.length c] 26)) (w.heap.size + 1) 26 #[.int .i64 0, .int .i64 0, .slice none 0 0] (by simp)).three
  have rf0_x1 := (Bx.new_ (w.alloc (.cells #[.int .i64 wd, .int .i64 ht, .slice A xs.length c] 26)) (w.heap.size + 1) 26 #[.int .i64 0, .int .i64 0, .slice none 0 0] (by simp)).frozen 0
  have rf1_x1 := (Bx.new_ (w.alloc (.cells #[.int .i64 wd, .int .i64 ht, .slice A xs.length c] 26)) (w.heap.size + 1) 26 #[.int .i64 0, .int .i64 0, .slice none 0 0] (by simp)).frozen 1
  have rf2_x1 := (Bx.new_ (w.alloc (.cells #[.int .i64 wd, .int .i64 ht, .slice A xs.length c] 26)) (w.heap.size + 1) 26 #[.int .i64 0, .int .i64 0, .slice none 0 0] (by simp)).frozen 2
  have HC := hide (clonePanel_any wd ht A c xs ((w.alloc (.cells #[.int .i64 wd, .int .i64 ht, .slice A xs.length c] 26)).alloc (.cells #[.int .i64 0, .int .i64 0, .slice none 0 0] 26)) (hxs.below (((Below.refl w.heap.size w).alloc (by first | omega | (simp; omega) | simp) (.cells #[.int .i64 wd, .int .i64 ht, .slice A xs.length c] 26)).alloc (by first | omega | (simp; omega) | simp) (.cells #[.int .i64 0, .int .i64 0, .slice none 0 0] 26))) hn)
  go_enter Tryz.func63, Tryz.ntmps63
  go_wp2_with fail
  refine HC.out.mono ?_
  rintro e w1 ⟨A1, c1, rfl, own, hb1⟩
  have p_1 := ((Bx.new_ w (w.heap.size) 26 #[.int .i64 wd, .int .i64 ht, .slice A xs.length c] (by simp)).alloc (.cells #[.int .i64 0, .int .i64 0, .slice none 0 0] 26)).below hb1
  obtain ⟨pa_1, pb_1, pc_1⟩ := (p_1).three
  have r_1 := (Bx.new_ (w.alloc (.cells #[.int .i64 wd, .int .i64 ht, .slice A xs.length c] 26)) (w.heap.size + 1) 26 #[.int .i64 0, .int .i64 0, .slice none 0 0] (by simp)).below hb1
  obtain ⟨ra_1, rb_1, rc_1⟩ := (r_1).three
  have rf0_1 := (r_1).frozen 0
  have rf1_1 := (r_1).frozen 1
  have rf2_1 := (r_1).frozen 2
  have z_1 : ((w.alloc (.cells #[.int .i64 wd, .int .i64 ht, .slice A xs.length c] 26)).alloc (.cells #[.int .i64 0, .int .i64 0, .slice none 0 0] 26)).heap.size ≤ w1.heap.size := hb1.size
  simp only [World.size_alloc] at z_1
  have B_1 := (((Below.refl w.heap.size w).alloc (by first | omega | (simp; omega) | simp) (.cells #[.int .i64 wd, .int .i64 ht, .slice A xs.length c] 26)).alloc (by first | omega | (simp; omega) | simp) (.cells #[.int .i64 0, .int .i64 0, .slice none 0 0] 26)).trans (hb1.mono (by first | omega | (simp; omega) | simp))
  obtain ⟨oa_x2, ob_x2, oc_x2⟩ := (Bx.new_ w1 (w1.heap.size) 26 #[.int .i64 wd, .int .i64 ht, .slice A1 xs.length c1] (by simp)).three
  obtain ⟨ra_x2, rb_x2, rc_x2⟩ := ((r_1).alloc (.cells #[.int .i64 wd, .int .i64 ht, .slice A1 xs.length c1] 26)).three
  have rf0_x2 := ((r_1).alloc (.cells #[.int .i64 wd, .int .i64 ht, .slice A1 xs.length c1] 26)).frozen 0
  have rf1_x2 := ((r_1).alloc (.cells #[.int .i64 wd, .int .i64 ht, .slice A1 xs.length c1] 26)).frozen 1
  have rf2_x2 := ((r_1).alloc (.cells #[.int .i64 wd, .int .i64 ht, .slice A1 xs.length c1] 26)).frozen 2
  obtain ⟨g, x, rfl, hgb, hgs, hx, hgc0, hgf0, hst0⟩ := own.at_ (k := k) hk
  have hs0 := (hst0 kd).1
  have own1 := own.alloc (.cells #[.int .i64 wd, .int .i64 ht, .slice (some ⟨g, 0, none⟩) xs.length c1] 26)
  obtain ⟨g9, x9, e9, _, _, hx9, hgc, hgf, hst⟩ := own1.at_ (k := k) hk
  cases e9
  have hgl : w.heap.size + 1 + 1 ≤ g := by simp at hgb; omega
  have hgu : g < w1.heap.size := (own.ge rfl).2
  have hws : (w1.setCell ⟨g, k, none⟩ (.int .i64 kd)).heap.size = w1.heap.size := by simp
  have o2 := Bx.new_ (w1.setCell ⟨g, k, none⟩ (.int .i64 kd)) (w1.heap.size) 26 #[.int .i64 wd, .int .i64 ht, .slice (some ⟨g, 0, none⟩) xs.length c1] hws.symm
  have r2 := (r_1.far (p := ⟨g, k, none⟩) (show w.heap.size + 1 ≠ g by omega) (.int .i64 kd)).alloc (.cells #[.int .i64 wd, .int .i64 ht, .slice (some ⟨g, 0, none⟩) xs.length c1] 26)
  have B1 := B_1
  have hB2 := (B1.setCell (p := ⟨g, k, none⟩) (show w.heap.size ≤ g by omega) (.int .i64 kd)).alloc (by simp; omega) (.cells #[.int .i64 wd, .int .i64 ht, .slice (some ⟨g, 0, none⟩) xs.length c1] 26)
  have r3 := r2.put3 (u0 := .int .i64 wd) (u1 := .int .i64 ht) (u2 := .slice (some ⟨g, 0, none⟩) xs.length c1)
  have HRQ := hide r3.three
  have OWN := hide (((hs0.alloc (.cells #[.int .i64 wd, .int .i64 ht, .slice (some ⟨g, 0, none⟩) xs.length c1] 26)).far3 (b := w.heap.size + 1) (o0 := 0) (o1 := 1) (o2 := 2) (u0 := .int .i64 wd) (u1 := .int .i64 ht) (u2 := .slice (some ⟨g, 0, none⟩) xs.length c1) (fun g' hg' => by have := blk_inj hg'; omega)).mono (show w.heap.size ≤ _ by simp; omega))
  have HB := hide (below_put3 (b := w.heap.size + 1) (o0 := 0) (o1 := 1) (o2 := 2) (u0 := .int .i64 wd) (u1 := .int .i64 ht) (u2 := .slice (some ⟨g, 0, none⟩) xs.length c1) hB2 (by omega))
  obtain ⟨oa_2, ob_2, oc_2⟩ := o2.three
  obtain ⟨ra_2, rb_2, rc_2⟩ := r2.three
  have rf_0 := r2.frozen 0
  have rf_1 := r2.frozen 1
  have rf_2 := r2.frozen 2
  clear own own1 hst hst0 hs0 o2 r2 r3 hB2 hx hgb hx9 hws
  go_wp2_with fail
  obtain ⟨ra_9, rb_9, rc_9⟩ := HRQ.out
  refine bodyPost_ret (v := .agg #[.int .i64 wd, .int .i64 ht, .slice (some ⟨g, 0, none⟩) xs.length c1]) (by simp [results, Tryz.results63, go_sem, ra_9, rb_9, rc_9]) rfl ?_
  exact ⟨some ⟨g, 0, none⟩, c1, by rw [HL.out], OWN.out, HB.out⟩
set_option maxHeartbeats 4000000 in
theorem l02Own_any (b0 : Nat) (wd ht : Int) (A : Option Addr) (c : Nat) (xs : List Int) (w : World) (hp : PA w b0 wd ht A c xs) (hn : xs.length ≤ 1048576) :
    Calls Tryz.prog 64 #[.pointer (some ⟨b0, 0, none⟩)] w (RetPan w wd ht xs) := by
  have hbl := hp.bx.lt
  have hr := (Bx.new_ w (w.heap.size) 26 #[.int .i64 0, .int .i64 0, .slice none 0 0] (by simp))
  obtain ⟨W0, hW0⟩ : ∃ W0, W0 = (w.alloc (.cells #[.int .i64 0, .int .i64 0, .slice none 0 0] 26)) := ⟨_, rfl⟩
  have hB0 : Below w.heap.size w W0 := by rw [hW0]; exact ((Below.refl w.heap.size w).alloc (by first | omega | (simp; omega) | simp) (.cells #[.int .i64 0, .int .i64 0, .slice none 0 0] 26))
  rw [← hW0] at hr
  have C0 : Below w.heap.size w W0.drew := hB0.drew
  have R0 := hr.drew
  have keepS : Hid (∀ W, Below w.heap.size w W → (W.cell? ⟨b0, 0, none⟩ = some (.int .i64 wd) ∧ W.cell? ⟨b0, 1, none⟩ = some (.int .i64 ht) ∧ W.cell? ⟨b0, 2, none⟩ = some (.slice A xs.length c))) := hide fun W hW => (hp.bx.below hW).three
  have HRD := hide (fun (W : World) (hW : Below w.heap.size w W) => hp.rd.below hW)
  obtain ⟨x0, x1, x2⟩ := R0.three
  have y0 := R0.frozen 0
  have y1 := R0.frozen 1
  have y2 := R0.frozen 2
  have hne0 : b0 ≠ w.heap.size := by omega
  clear hr
  go_enter Tryz.func64, Tryz.ntmps64
  go_wp2_with fail
  rw [← hW0]
  clear hW0
  have HR0 := hide R0
  clear R0
  go_region_held3 (fun w' => w'.cell? ⟨b0, 0, none⟩ = some (.int .i64 wd) ∧ w'.cell? ⟨b0, 1, none⟩ = some (.int .i64 ht) ∧ w'.cell? ⟨b0, 2, none⟩ = some (.slice A xs.length c)) (first | exact keepS.out _ C0 | exact keepS.out _ C2 | exact keepS.out _ (below_put3 C2 (Nat.le_refl _))) (first | (go_at_call 88; refine (l00Own_any A c xs _ (HRD.out _ C0) (by omega)).mono ?_; rintro e w2 ⟨A2, c2, rfl, ho2, hb2⟩; have C2 : Below w.heap.size w w2 := C0.trans (hb2.mono C0.size); have R2 := HR0.out.below hb2; obtain ⟨z0, z1, z2⟩ := R2.three; have f0 := R2.frozen 0; have f1 := R2.frozen 1; have f2 := R2.frozen 2; have HR2 := hide R2; clear R2))
  have hlt := HR0.out.lt
  have hR9 := HR2.out.put3 (u0 := .int .i64 wd) (u1 := .int .i64 ht) (u2 := .slice A2 xs.length c2)
  obtain ⟨ra_9, rb_9, rc_9⟩ := hR9.three
  have OWN := hide ((ho2.far3 (b := w.heap.size) (o0 := 0) (o1 := 1) (o2 := 2) (u0 := .int .i64 wd) (u1 := .int .i64 ht) (u2 := .slice A2 xs.length c2) (fun g hg => by have := (ho2.ge hg).1; omega)).mono (show w.heap.size ≤ W0.drew.heap.size by omega))
  have HB := hide (below_put3 (b := w.heap.size) (o0 := 0) (o1 := 1) (o2 := 2) (u0 := .int .i64 wd) (u1 := .int .i64 ht) (u2 := .slice A2 xs.length c2) C2 (Nat.le_refl _))
  clear ho2 hR9 z0 z1 z2 f0 f1 f2 x0 x1 x2 y0 y1 y2
  go_wp2_with fail
  refine bodyPost_ret (v := .agg #[.int .i64 wd, .int .i64 ht, .slice A2 xs.length c2]) (by simp [results, Tryz.results64, go_sem, ra_9, rb_9, rc_9]) rfl ?_
  exact ⟨A2, c2, rfl, OWN.out, HB.out⟩
end Go.Proofs.YtjlifbdaieblpaaGreat
