/-
  Contracts: which points are crossings, and their numbers. Conditions: a valid panel, a point of it.
-/
import Derived.Test.YtnjojnnapdhijaaTr4
import Derived.Test.YtnjojnnapdhijaaTr5
namespace Go.Proofs.Ytnjojnnapdhijaa
open Go.RowKit
set_option linter.unusedVariables false


/-- do lines cross at a point? -/
def crossB (wd ht : Int) (xs : List Int) (x y : Int) : Bool := !edgeB wd ht x y && (kindI wd ht xs x y == 0)
/-- the numbers of the crossings among the first k inner points -/
def zTo (xs : List Int) : Nat → List Int
  | 0 => []
  | k + 1 => zTo xs k ++ (if xs.getD k 0 = 0 then [(k : Int)] else [])
theorem zTo_len (xs : List Int) : ∀ k, (zTo xs k).length ≤ k
  | 0 => Nat.le_refl _
  | k + 1 => by
    have := zTo_len xs k
    unfold zTo
    rw [List.length_append]
    split <;> simp <;> omega
theorem zTo_yes {xs : List Int} {k : Nat} {x : Int} (h : xs[k]? = some x) (h0 : x = 0) : zTo xs (k + 1) = zTo xs k ++ [(k : Int)] := by
  rw [zTo, if_pos (by simp [List.getD, h, h0])]
theorem zTo_no {xs : List Int} {k : Nat} {x : Int} (h : xs[k]? = some x) (h0 : ¬ x = 0) : zTo xs (k + 1) = zTo xs k := by
  rw [zTo, if_neg (by simp [List.getD, h, h0]), List.append_nil]


set_option maxHeartbeats 4000000 in
theorem l13Is_any (b0 : Nat) (wd ht x y : Int) (A : Option Addr) (c : Nat) (xs : List Int) (w : World) (hp : PA w b0 wd ht A c xs) (hs : Sz wd ht) (hl : (xs.length : Int) = innerN wd ht) (hon : OnP wd ht x y) :
    Calls Try.prog 167 #[.pointer (some ⟨b0, 0, none⟩), .agg #[.int .i64 x, .int .i64 y]] w (RetV w (.bool (crossB wd ht xs x y))) := by
  by_cases he : Edge wd ht x y
  · have HE := hide (edge_true he)
    have HV : Hid (crossB wd ht xs x y = false) := hide (by unfold crossB; rw [HE.out]; rfl)
    clear he
    have hB := ((Below.refl w.heap.size w).alloc (by first | omega | (simp; omega) | simp) (.cells #[.int .i64 x, .int .i64 y] 110))
    have hC0 : Below ((w.alloc (.cells #[.int .i64 x, .int .i64 y] 110))).heap.size (w.alloc (.cells #[.int .i64 x, .int .i64 y] 110)) ((w.alloc (.cells #[.int .i64 x, .int .i64 y] 110))).drew := (Below.refl _ _).drew
    have hat := (Bx.new_ w (w.heap.size) 110 #[.int .i64 x, .int .i64 y] (by simp))
    have f0 : ∀ v : BelowOf (w.alloc (.cells #[.int .i64 x, .int .i64 y] 110)), v.w.cell? ⟨w.heap.size, 0, none⟩ = some (.int .i64 x) := fun v => (hat.below v.h).two.1
    have f1 : ∀ v : BelowOf (w.alloc (.cells #[.int .i64 x, .int .i64 y] 110)), v.w.cell? ⟨w.heap.size, 1, none⟩ = some (.int .i64 y) := fun v => (hat.below v.h).two.2
    have hpw := hp.below ((Below.refl w.heap.size w).alloc (by first | omega | (simp; omega) | simp) (.cells #[.int .i64 x, .int .i64 y] 110))
    have g2 : ∀ v : BelowOf (w.alloc (.cells #[.int .i64 x, .int .i64 y] 110)), v.w.cell? ⟨b0, 2, none⟩ = some (.slice A xs.length c) := fun v => (hpw.below v.h).c2
    have hce : ∀ v : BelowOf (w.alloc (.cells #[.int .i64 x, .int .i64 y] 110)), Calls Try.prog 173 #[.pointer (some ⟨b0, 0, none⟩), .agg #[.int .i64 x, .int .i64 y]] v.w (RetV v.w (.bool true)) := fun v => by rw [← HE.out]; exact l02Edge_any b0 wd ht x y A c xs v.w (hpw.below v.h) hs
    skip
    go_enter Try.func167, Try.ntmps167
    go_wp2_with fail
    refine region_below (by kernel_rfl) (by kernel_rfl) hC0 ?_
    repeat (go_big_quiet_step (first | exact BelowOf.ret (hce _)))
    refine wpQuiet_nil ?_
    rintro w4 ⟨⟨w4, hb4⟩, rfl⟩
    go_wp2_with fail
    go_ret
    rw [HV.out]
    exact ⟨rfl, hB.trans (hb4.mono hB.size)⟩
  · obtain ⟨⟨x1, x2⟩, ⟨y1, y2⟩, k, kd, hnum, hkl, hkx, hkk⟩ := inner_at (xs := xs) hs hon he hl
    have HE := hide (edge_false he)
    have HNUM := hide hnum
    have hpar := hide hon.2.2.2.2
    have h1 := hs.1
    have h2 := hs.2.1
    have HSZ := hide hs
    clear he hnum hon hs
    by_cases h0 : kd = 0
    · have HV : Hid (crossB wd ht xs x y = true) := hide (by unfold crossB; rw [HE.out, hkk, h0]; rfl)
      have e0 : (kd == 0) = true := eqt h0
      have d0 := dec_of e0
      clear h0 hkk
      have hB := ((Below.refl w.heap.size w).alloc (by first | omega | (simp; omega) | simp) (.cells #[.int .i64 x, .int .i64 y] 110))
      have hC0 : Below ((w.alloc (.cells #[.int .i64 x, .int .i64 y] 110))).heap.size (w.alloc (.cells #[.int .i64 x, .int .i64 y] 110)) ((w.alloc (.cells #[.int .i64 x, .int .i64 y] 110))).drew := (Below.refl _ _).drew
      have hat := (Bx.new_ w (w.heap.size) 110 #[.int .i64 x, .int .i64 y] (by simp))
      have f0 : ∀ v : BelowOf (w.alloc (.cells #[.int .i64 x, .int .i64 y] 110)), v.w.cell? ⟨w.heap.size, 0, none⟩ = some (.int .i64 x) := fun v => (hat.below v.h).two.1
      have f1 : ∀ v : BelowOf (w.alloc (.cells #[.int .i64 x, .int .i64 y] 110)), v.w.cell? ⟨w.heap.size, 1, none⟩ = some (.int .i64 y) := fun v => (hat.below v.h).two.2
      have hpw := hp.below ((Below.refl w.heap.size w).alloc (by first | omega | (simp; omega) | simp) (.cells #[.int .i64 x, .int .i64 y] 110))
      have g2 : ∀ v : BelowOf (w.alloc (.cells #[.int .i64 x, .int .i64 y] 110)), v.w.cell? ⟨b0, 2, none⟩ = some (.slice A xs.length c) := fun v => (hpw.below v.h).c2
      have hce : ∀ v : BelowOf (w.alloc (.cells #[.int .i64 x, .int .i64 y] 110)), Calls Try.prog 173 #[.pointer (some ⟨b0, 0, none⟩), .agg #[.int .i64 x, .int .i64 y]] v.w (RetV v.w (.bool false)) := fun v => by rw [← HE.out]; exact l02Edge_any b0 wd ht x y A c xs v.w (hpw.below v.h) HSZ.out
      have hcn : ∀ v : BelowOf (w.alloc (.cells #[.int .i64 x, .int .i64 y] 110)), Calls Try.prog 174 #[.pointer (some ⟨b0, 0, none⟩), .agg #[.int .i64 x, .int .i64 y]] v.w (RetV v.w (.int .i64 (k : Int))) := fun v => by rw [← HNUM.out]; exact l02Number_any b0 wd ht x y A c xs v.w (hpw.below v.h) h1 h2 y1 y2 x1 x2
      have hrd := hpw.rd
      obtain ⟨b, off, kd2, rfl, hb, hkx2, hc⟩ := hrd.at_ (k := k) hkl
      obtain rfl : kd2 = kd := by rw [hkx] at hkx2; injection hkx2 with h; exact h.symm
      have hcp : ∀ v : BelowOf (w.alloc (.cells #[.int .i64 x, .int .i64 y] 110)), v.w.cell? ⟨b, off + k, none⟩ = some (.int .i64 kd2) := fun v => by
        obtain ⟨b', off', kd3, e1, _, e2, e3⟩ := (hrd.below v.h).at_ (k := k) hkl
        injection e1 with e1
        injection e1 with e4 e5
        subst e4 e5
        rw [hkx2] at e2
        injection e2 with e2
        subst e2
        exact e3
      clear hkx2 hkx
      go_enter Try.func167, Try.ntmps167
      go_wp2_with fail
      refine region_below (by kernel_rfl) (by kernel_rfl) hC0 ?_
      repeat (go_big_quiet_step (first | exact BelowOf.ret (hce _) | exact BelowOf.ret (hcn _)))
      refine wpQuiet_nil ?_
      rintro w4 ⟨⟨w4, hb4⟩, rfl⟩
      go_wp2_with fail
      go_ret
      rw [HV.out]
      exact ⟨rfl, hB.trans (hb4.mono hB.size)⟩
    · have HV : Hid (crossB wd ht xs x y = false) := hide (by unfold crossB; rw [HE.out, hkk, eqf h0]; rfl)
      have e0 : (kd == 0) = false := eqf h0
      have d0 := dec_of e0
      clear h0 hkk
      have hB := ((Below.refl w.heap.size w).alloc (by first | omega | (simp; omega) | simp) (.cells #[.int .i64 x, .int .i64 y] 110))
      have hC0 : Below ((w.alloc (.cells #[.int .i64 x, .int .i64 y] 110))).heap.size (w.alloc (.cells #[.int .i64 x, .int .i64 y] 110)) ((w.alloc (.cells #[.int .i64 x, .int .i64 y] 110))).drew := (Below.refl _ _).drew
      have hat := (Bx.new_ w (w.heap.size) 110 #[.int .i64 x, .int .i64 y] (by simp))
      have f0 : ∀ v : BelowOf (w.alloc (.cells #[.int .i64 x, .int .i64 y] 110)), v.w.cell? ⟨w.heap.size, 0, none⟩ = some (.int .i64 x) := fun v => (hat.below v.h).two.1
      have f1 : ∀ v : BelowOf (w.alloc (.cells #[.int .i64 x, .int .i64 y] 110)), v.w.cell? ⟨w.heap.size, 1, none⟩ = some (.int .i64 y) := fun v => (hat.below v.h).two.2
      have hpw := hp.below ((Below.refl w.heap.size w).alloc (by first | omega | (simp; omega) | simp) (.cells #[.int .i64 x, .int .i64 y] 110))
      have g2 : ∀ v : BelowOf (w.alloc (.cells #[.int .i64 x, .int .i64 y] 110)), v.w.cell? ⟨b0, 2, none⟩ = some (.slice A xs.length c) := fun v => (hpw.below v.h).c2
      have hce : ∀ v : BelowOf (w.alloc (.cells #[.int .i64 x, .int .i64 y] 110)), Calls Try.prog 173 #[.pointer (some ⟨b0, 0, none⟩), .agg #[.int .i64 x, .int .i64 y]] v.w (RetV v.w (.bool false)) := fun v => by rw [← HE.out]; exact l02Edge_any b0 wd ht x y A c xs v.w (hpw.below v.h) HSZ.out
      have hcn : ∀ v : BelowOf (w.alloc (.cells #[.int .i64 x, .int .i64 y] 110)), Calls Try.prog 174 #[.pointer (some ⟨b0, 0, none⟩), .agg #[.int .i64 x, .int .i64 y]] v.w (RetV v.w (.int .i64 (k : Int))) := fun v => by rw [← HNUM.out]; exact l02Number_any b0 wd ht x y A c xs v.w (hpw.below v.h) h1 h2 y1 y2 x1 x2
      have hrd := hpw.rd
      obtain ⟨b, off, kd2, rfl, hb, hkx2, hc⟩ := hrd.at_ (k := k) hkl
      obtain rfl : kd2 = kd := by rw [hkx] at hkx2; injection hkx2 with h; exact h.symm
      have hcp : ∀ v : BelowOf (w.alloc (.cells #[.int .i64 x, .int .i64 y] 110)), v.w.cell? ⟨b, off + k, none⟩ = some (.int .i64 kd2) := fun v => by
        obtain ⟨b', off', kd3, e1, _, e2, e3⟩ := (hrd.below v.h).at_ (k := k) hkl
        injection e1 with e1
        injection e1 with e4 e5
        subst e4 e5
        rw [hkx2] at e2
        injection e2 with e2
        subst e2
        exact e3
      clear hkx2 hkx
      go_enter Try.func167, Try.ntmps167
      go_wp2_with fail
      refine region_below (by kernel_rfl) (by kernel_rfl) hC0 ?_
      repeat (go_big_quiet_step (first | exact BelowOf.ret (hce _) | exact BelowOf.ret (hcn _)))
      refine wpQuiet_nil ?_
      rintro w4 ⟨⟨w4, hb4⟩, rfl⟩
      go_wp2_with fail
      go_ret
      rw [HV.out]
      exact ⟨rfl, hB.trans (hb4.mono hB.size)⟩

set_option maxHeartbeats 4000000 in
theorem isCrossing_any (wd ht x y : Int) (A : Option Addr) (c : Nat) (xs : List Int) (w : World) (hxs : RI w A xs) (hs : Sz wd ht) (hl : (xs.length : Int) = innerN wd ht) (hon : OnP wd ht x y) :
    Calls Try.prog 116 #[.agg #[.int .i64 wd, .int .i64 ht, .slice A xs.length c], .agg #[.int .i64 x, .int .i64 y]] w (RetV w (.bool (crossB wd ht xs x y))) := by
  by_cases he : Edge wd ht x y
  · have HE := hide (edge_true he)
    have HV : Hid (crossB wd ht xs x y = false) := hide (by unfold crossB; rw [HE.out]; rfl)
    clear he
    have hB := (((Below.refl w.heap.size w).alloc (by first | omega | (simp; omega) | simp) (.cells #[.int .i64 wd, .int .i64 ht, .slice A xs.length c] 36)).alloc (by first | omega | (simp; omega) | simp) (.cells #[.int .i64 x, .int .i64 y] 110))
    have hC0 : Below (((w.alloc (.cells #[.int .i64 wd, .int .i64 ht, .slice A xs.length c] 36)).alloc (.cells #[.int .i64 x, .int .i64 y] 110))).heap.size ((w.alloc (.cells #[.int .i64 wd, .int .i64 ht, .slice A xs.length c] 36)).alloc (.cells #[.int .i64 x, .int .i64 y] 110)) (((w.alloc (.cells #[.int .i64 wd, .int .i64 ht, .slice A xs.length c] 36)).alloc (.cells #[.int .i64 x, .int .i64 y] 110))).drew := (Below.refl _ _).drew
    have hat := (Bx.new_ (w.alloc (.cells #[.int .i64 wd, .int .i64 ht, .slice A xs.length c] 36)) (w.heap.size + 1) 110 #[.int .i64 x, .int .i64 y] (by simp))
    have f0 : ∀ v : BelowOf ((w.alloc (.cells #[.int .i64 wd, .int .i64 ht, .slice A xs.length c] 36)).alloc (.cells #[.int .i64 x, .int .i64 y] 110)), v.w.cell? ⟨w.heap.size + 1, 0, none⟩ = some (.int .i64 x) := fun v => (hat.below v.h).two.1
    have f1 : ∀ v : BelowOf ((w.alloc (.cells #[.int .i64 wd, .int .i64 ht, .slice A xs.length c] 36)).alloc (.cells #[.int .i64 x, .int .i64 y] 110)), v.w.cell? ⟨w.heap.size + 1, 1, none⟩ = some (.int .i64 y) := fun v => (hat.below v.h).two.2
    have hpl := ((Bx.new_ w (w.heap.size) 36 #[.int .i64 wd, .int .i64 ht, .slice A xs.length c] (by simp)).alloc (.cells #[.int .i64 x, .int .i64 y] 110))
    have g0 : ∀ v : BelowOf ((w.alloc (.cells #[.int .i64 wd, .int .i64 ht, .slice A xs.length c] 36)).alloc (.cells #[.int .i64 x, .int .i64 y] 110)), v.w.cell? ⟨w.heap.size, 0, none⟩ = some (.int .i64 wd) := fun v => (hpl.below v.h).three.1
    have g1 : ∀ v : BelowOf ((w.alloc (.cells #[.int .i64 wd, .int .i64 ht, .slice A xs.length c] 36)).alloc (.cells #[.int .i64 x, .int .i64 y] 110)), v.w.cell? ⟨w.heap.size, 1, none⟩ = some (.int .i64 ht) := fun v => (hpl.below v.h).three.2.1
    have g2 : ∀ v : BelowOf ((w.alloc (.cells #[.int .i64 wd, .int .i64 ht, .slice A xs.length c] 36)).alloc (.cells #[.int .i64 x, .int .i64 y] 110)), v.w.cell? ⟨w.heap.size, 2, none⟩ = some (.slice A xs.length c) := fun v => (hpl.below v.h).three.2.2
    have hce : ∀ v : BelowOf ((w.alloc (.cells #[.int .i64 wd, .int .i64 ht, .slice A xs.length c] 36)).alloc (.cells #[.int .i64 x, .int .i64 y] 110)), Calls Try.prog 130 #[.agg #[.int .i64 wd, .int .i64 ht, .slice A xs.length c], .agg #[.int .i64 x, .int .i64 y]] v.w (RetV v.w (.bool true)) := fun v => by rw [← HE.out]; exact isBorder_any wd ht x y A c xs v.w hs
    skip
    go_enter Try.func116, Try.ntmps116
    go_wp2_with fail
    refine region_below (by kernel_rfl) (by kernel_rfl) hC0 ?_
    repeat (go_big_quiet_step (first | exact BelowOf.ret (hce _)))
    refine wpQuiet_nil ?_
    rintro w4 ⟨⟨w4, hb4⟩, rfl⟩
    go_wp2_with fail
    go_ret
    rw [HV.out]
    exact ⟨rfl, hB.trans (hb4.mono hB.size)⟩
  · obtain ⟨⟨x1, x2⟩, ⟨y1, y2⟩, k, kd, hnum, hkl, hkx, hkk⟩ := inner_at (xs := xs) hs hon he hl
    have HE := hide (edge_false he)
    have HNUM := hide hnum
    have hpar := hide hon.2.2.2.2
    have h1 := hs.1
    have h2 := hs.2.1
    have HSZ := hide hs
    clear he hnum hon hs
    by_cases h0 : kd = 0
    · have HV : Hid (crossB wd ht xs x y = true) := hide (by unfold crossB; rw [HE.out, hkk, h0]; rfl)
      have e0 : (kd == 0) = true := eqt h0
      have d0 := dec_of e0
      clear h0 hkk
      have hB := (((Below.refl w.heap.size w).alloc (by first | omega | (simp; omega) | simp) (.cells #[.int .i64 wd, .int .i64 ht, .slice A xs.length c] 36)).alloc (by first | omega | (simp; omega) | simp) (.cells #[.int .i64 x, .int .i64 y] 110))
      have hC0 : Below (((w.alloc (.cells #[.int .i64 wd, .int .i64 ht, .slice A xs.length c] 36)).alloc (.cells #[.int .i64 x, .int .i64 y] 110))).heap.size ((w.alloc (.cells #[.int .i64 wd, .int .i64 ht, .slice A xs.length c] 36)).alloc (.cells #[.int .i64 x, .int .i64 y] 110)) (((w.alloc (.cells #[.int .i64 wd, .int .i64 ht, .slice A xs.length c] 36)).alloc (.cells #[.int .i64 x, .int .i64 y] 110))).drew := (Below.refl _ _).drew
      have hat := (Bx.new_ (w.alloc (.cells #[.int .i64 wd, .int .i64 ht, .slice A xs.length c] 36)) (w.heap.size + 1) 110 #[.int .i64 x, .int .i64 y] (by simp))
      have f0 : ∀ v : BelowOf ((w.alloc (.cells #[.int .i64 wd, .int .i64 ht, .slice A xs.length c] 36)).alloc (.cells #[.int .i64 x, .int .i64 y] 110)), v.w.cell? ⟨w.heap.size + 1, 0, none⟩ = some (.int .i64 x) := fun v => (hat.below v.h).two.1
      have f1 : ∀ v : BelowOf ((w.alloc (.cells #[.int .i64 wd, .int .i64 ht, .slice A xs.length c] 36)).alloc (.cells #[.int .i64 x, .int .i64 y] 110)), v.w.cell? ⟨w.heap.size + 1, 1, none⟩ = some (.int .i64 y) := fun v => (hat.below v.h).two.2
      have hpl := ((Bx.new_ w (w.heap.size) 36 #[.int .i64 wd, .int .i64 ht, .slice A xs.length c] (by simp)).alloc (.cells #[.int .i64 x, .int .i64 y] 110))
      have g0 : ∀ v : BelowOf ((w.alloc (.cells #[.int .i64 wd, .int .i64 ht, .slice A xs.length c] 36)).alloc (.cells #[.int .i64 x, .int .i64 y] 110)), v.w.cell? ⟨w.heap.size, 0, none⟩ = some (.int .i64 wd) := fun v => (hpl.below v.h).three.1
      have g1 : ∀ v : BelowOf ((w.alloc (.cells #[.int .i64 wd, .int .i64 ht, .slice A xs.length c] 36)).alloc (.cells #[.int .i64 x, .int .i64 y] 110)), v.w.cell? ⟨w.heap.size, 1, none⟩ = some (.int .i64 ht) := fun v => (hpl.below v.h).three.2.1
      have g2 : ∀ v : BelowOf ((w.alloc (.cells #[.int .i64 wd, .int .i64 ht, .slice A xs.length c] 36)).alloc (.cells #[.int .i64 x, .int .i64 y] 110)), v.w.cell? ⟨w.heap.size, 2, none⟩ = some (.slice A xs.length c) := fun v => (hpl.below v.h).three.2.2
      have hce : ∀ v : BelowOf ((w.alloc (.cells #[.int .i64 wd, .int .i64 ht, .slice A xs.length c] 36)).alloc (.cells #[.int .i64 x, .int .i64 y] 110)), Calls Try.prog 130 #[.agg #[.int .i64 wd, .int .i64 ht, .slice A xs.length c], .agg #[.int .i64 x, .int .i64 y]] v.w (RetV v.w (.bool false)) := fun v => by rw [← HE.out]; exact isBorder_any wd ht x y A c xs v.w HSZ.out
      have hcn : ∀ v : BelowOf ((w.alloc (.cells #[.int .i64 wd, .int .i64 ht, .slice A xs.length c] 36)).alloc (.cells #[.int .i64 x, .int .i64 y] 110)), Calls Try.prog 131 #[.agg #[.int .i64 wd, .int .i64 ht, .slice A xs.length c], .agg #[.int .i64 x, .int .i64 y]] v.w (RetV v.w (.int .i64 (k : Int))) := fun v => by rw [← HNUM.out]; exact number_any wd ht x y A c xs v.w h1 h2 y1 y2 x1 x2 hpar.out
      have hrd := hxs.below (((Below.refl w.heap.size w).alloc (by first | omega | (simp; omega) | simp) (.cells #[.int .i64 wd, .int .i64 ht, .slice A xs.length c] 36)).alloc (by first | omega | (simp; omega) | simp) (.cells #[.int .i64 x, .int .i64 y] 110))
      obtain ⟨b, off, kd2, rfl, hb, hkx2, hc⟩ := hrd.at_ (k := k) hkl
      obtain rfl : kd2 = kd := by rw [hkx] at hkx2; injection hkx2 with h; exact h.symm
      have hcp : ∀ v : BelowOf ((w.alloc (.cells #[.int .i64 wd, .int .i64 ht, .slice (some ⟨b, off, none⟩) xs.length c] 36)).alloc (.cells #[.int .i64 x, .int .i64 y] 110)), v.w.cell? ⟨b, off + k, none⟩ = some (.int .i64 kd2) := fun v => by
        obtain ⟨b', off', kd3, e1, _, e2, e3⟩ := (hrd.below v.h).at_ (k := k) hkl
        injection e1 with e1
        injection e1 with e4 e5
        subst e4 e5
        rw [hkx2] at e2
        injection e2 with e2
        subst e2
        exact e3
      clear hkx2 hkx
      go_enter Try.func116, Try.ntmps116
      go_wp2_with fail
      refine region_below (by kernel_rfl) (by kernel_rfl) hC0 ?_
      repeat (go_big_quiet_step (first | exact BelowOf.ret (hce _) | exact BelowOf.ret (hcn _)))
      refine wpQuiet_nil ?_
      rintro w4 ⟨⟨w4, hb4⟩, rfl⟩
      go_wp2_with fail
      go_ret
      rw [HV.out]
      exact ⟨rfl, hB.trans (hb4.mono hB.size)⟩
    · have HV : Hid (crossB wd ht xs x y = false) := hide (by unfold crossB; rw [HE.out, hkk, eqf h0]; rfl)
      have e0 : (kd == 0) = false := eqf h0
      have d0 := dec_of e0
      clear h0 hkk
      have hB := (((Below.refl w.heap.size w).alloc (by first | omega | (simp; omega) | simp) (.cells #[.int .i64 wd, .int .i64 ht, .slice A xs.length c] 36)).alloc (by first | omega | (simp; omega) | simp) (.cells #[.int .i64 x, .int .i64 y] 110))
      have hC0 : Below (((w.alloc (.cells #[.int .i64 wd, .int .i64 ht, .slice A xs.length c] 36)).alloc (.cells #[.int .i64 x, .int .i64 y] 110))).heap.size ((w.alloc (.cells #[.int .i64 wd, .int .i64 ht, .slice A xs.length c] 36)).alloc (.cells #[.int .i64 x, .int .i64 y] 110)) (((w.alloc (.cells #[.int .i64 wd, .int .i64 ht, .slice A xs.length c] 36)).alloc (.cells #[.int .i64 x, .int .i64 y] 110))).drew := (Below.refl _ _).drew
      have hat := (Bx.new_ (w.alloc (.cells #[.int .i64 wd, .int .i64 ht, .slice A xs.length c] 36)) (w.heap.size + 1) 110 #[.int .i64 x, .int .i64 y] (by simp))
      have f0 : ∀ v : BelowOf ((w.alloc (.cells #[.int .i64 wd, .int .i64 ht, .slice A xs.length c] 36)).alloc (.cells #[.int .i64 x, .int .i64 y] 110)), v.w.cell? ⟨w.heap.size + 1, 0, none⟩ = some (.int .i64 x) := fun v => (hat.below v.h).two.1
      have f1 : ∀ v : BelowOf ((w.alloc (.cells #[.int .i64 wd, .int .i64 ht, .slice A xs.length c] 36)).alloc (.cells #[.int .i64 x, .int .i64 y] 110)), v.w.cell? ⟨w.heap.size + 1, 1, none⟩ = some (.int .i64 y) := fun v => (hat.below v.h).two.2
      have hpl := ((Bx.new_ w (w.heap.size) 36 #[.int .i64 wd, .int .i64 ht, .slice A xs.length c] (by simp)).alloc (.cells #[.int .i64 x, .int .i64 y] 110))
      have g0 : ∀ v : BelowOf ((w.alloc (.cells #[.int .i64 wd, .int .i64 ht, .slice A xs.length c] 36)).alloc (.cells #[.int .i64 x, .int .i64 y] 110)), v.w.cell? ⟨w.heap.size, 0, none⟩ = some (.int .i64 wd) := fun v => (hpl.below v.h).three.1
      have g1 : ∀ v : BelowOf ((w.alloc (.cells #[.int .i64 wd, .int .i64 ht, .slice A xs.length c] 36)).alloc (.cells #[.int .i64 x, .int .i64 y] 110)), v.w.cell? ⟨w.heap.size, 1, none⟩ = some (.int .i64 ht) := fun v => (hpl.below v.h).three.2.1
      have g2 : ∀ v : BelowOf ((w.alloc (.cells #[.int .i64 wd, .int .i64 ht, .slice A xs.length c] 36)).alloc (.cells #[.int .i64 x, .int .i64 y] 110)), v.w.cell? ⟨w.heap.size, 2, none⟩ = some (.slice A xs.length c) := fun v => (hpl.below v.h).three.2.2
      have hce : ∀ v : BelowOf ((w.alloc (.cells #[.int .i64 wd, .int .i64 ht, .slice A xs.length c] 36)).alloc (.cells #[.int .i64 x, .int .i64 y] 110)), Calls Try.prog 130 #[.agg #[.int .i64 wd, .int .i64 ht, .slice A xs.length c], .agg #[.int .i64 x, .int .i64 y]] v.w (RetV v.w (.bool false)) := fun v => by rw [← HE.out]; exact isBorder_any wd ht x y A c xs v.w HSZ.out
      have hcn : ∀ v : BelowOf ((w.alloc (.cells #[.int .i64 wd, .int .i64 ht, .slice A xs.length c] 36)).alloc (.cells #[.int .i64 x, .int .i64 y] 110)), Calls Try.prog 131 #[.agg #[.int .i64 wd, .int .i64 ht, .slice A xs.length c], .agg #[.int .i64 x, .int .i64 y]] v.w (RetV v.w (.int .i64 (k : Int))) := fun v => by rw [← HNUM.out]; exact number_any wd ht x y A c xs v.w h1 h2 y1 y2 x1 x2 hpar.out
      have hrd := hxs.below (((Below.refl w.heap.size w).alloc (by first | omega | (simp; omega) | simp) (.cells #[.int .i64 wd, .int .i64 ht, .slice A xs.length c] 36)).alloc (by first | omega | (simp; omega) | simp) (.cells #[.int .i64 x, .int .i64 y] 110))
      obtain ⟨b, off, kd2, rfl, hb, hkx2, hc⟩ := hrd.at_ (k := k) hkl
      obtain rfl : kd2 = kd := by rw [hkx] at hkx2; injection hkx2 with h; exact h.symm
      have hcp : ∀ v : BelowOf ((w.alloc (.cells #[.int .i64 wd, .int .i64 ht, .slice (some ⟨b, off, none⟩) xs.length c] 36)).alloc (.cells #[.int .i64 x, .int .i64 y] 110)), v.w.cell? ⟨b, off + k, none⟩ = some (.int .i64 kd2) := fun v => by
        obtain ⟨b', off', kd3, e1, _, e2, e3⟩ := (hrd.below v.h).at_ (k := k) hkl
        injection e1 with e1
        injection e1 with e4 e5
        subst e4 e5
        rw [hkx2] at e2
        injection e2 with e2
        subst e2
        exact e3
      clear hkx2 hkx
      go_enter Try.func116, Try.ntmps116
      go_wp2_with fail
      refine region_below (by kernel_rfl) (by kernel_rfl) hC0 ?_
      repeat (go_big_quiet_step (first | exact BelowOf.ret (hce _) | exact BelowOf.ret (hcn _)))
      refine wpQuiet_nil ?_
      rintro w4 ⟨⟨w4, hb4⟩, rfl⟩
      go_wp2_with fail
      go_ret
      rw [HV.out]
      exact ⟨rfl, hB.trans (hb4.mono hB.size)⟩

set_option maxHeartbeats 4000000 in
theorem l13Index_any (b0 : Nat) (wd ht x y : Int) (A : Option Addr) (c : Nat) (xs : List Int) (w : World) (hp : PA w b0 wd ht A c xs) (hs : Sz wd ht) (hl : (xs.length : Int) = innerN wd ht) (hn : xs.length ≤ 1048576) (hon : OnP wd ht x y) (he : ¬ Edge wd ht x y) :
    Calls Try.prog 168 #[.pointer (some ⟨b0, 0, none⟩), .agg #[.int .i64 x, .int .i64 y]] w (RetV w (.int .i64 ((zTo xs (numI wd x y).toNat).length : Int))) := by
  obtain ⟨⟨x1, x2⟩, ⟨y1, y2⟩, k, kd, hnum, hkl, hkx, hkk⟩ := inner_at (xs := xs) hs hon he hl
  have hpar := hide hon.2.2.2.2
  have h1 := hs.1
  have h2 := hs.2.1
  have HSZ := hide hs
  have HNUM := hide hnum
  have hnk : (numI wd x y).toNat = k := by omega
  rw [hnk]
  clear hnk hnum hkk he hon hs hkx
  have hB0 := ((Below.refl w.heap.size w).alloc (by first | omega | (simp; omega) | simp) (.cells #[.int .i64 x, .int .i64 y] 110))
  have hat := (Bx.new_ w (w.heap.size) 110 #[.int .i64 x, .int .i64 y] (by simp))
  go_enter Try.func168, Try.ntmps168
  go_wp2_with fail
  go_loopw [5, 6] (fun n i wr => ∃ (j m : Nat), j ≤ k ∧ n = .int .i64 (m : Int) ∧ i = .int .i64 (j : Int) ∧ Hid (m = (zTo xs j).length) ∧ Bx wr w.heap.size 110 #[.int .i64 x, .int .i64 y] ∧ Below w.heap.size w wr) (fun _ i _ => k - (intOf i).toNat)
  case atStart => exact ⟨0, 0, Nat.zero_le _, rfl, rfl, hide rfl, hat, hB0⟩
  case round =>
    obtain ⟨j, m, hj, rfl, rfl, hm, hbx, hB⟩ := hrel
    clear hB0 hat
    have hz := hB.size
    obtain ⟨q0, q1⟩ := hbx.two
    have hmj : m ≤ j := by rw [hm.out]; exact zTo_len _ _
    have hpw := hp.below hB
    have HCN := hide (by have h := l02Number_any b0 wd ht x y A c xs wr hpw h1 h2 y1 y2 x1 x2; rw [HNUM.out] at h; exact h)
    by_cases hlt : j < k
    · by_cases hdum : True
      · obtain ⟨v, hv⟩ : ∃ v, xs[j]? = some v := ⟨_, List.getElem?_eq_getElem (by omega)⟩
        by_cases h0 : v = 0
        · have HN : Hid (m + 1 = (zTo xs (j + 1)).length) := hide (by rw [zTo_yes hv h0, List.length_append, ← hm.out]; rfl)
          have e0 : (v == 0) = true := eqt h0
          go_wp2_with fail
          refine HCN.out.mono ?_
          rintro e w2 ⟨rfl, hb2⟩
          have hB2 := hB.trans (hb2.mono hz)
          have hbx2 := hbx.below hb2
          have hp2 := hpw.below hb2
          have c2 := hp2.c2
          obtain ⟨b, off, v', rfl, hb, hv', hc⟩ := hp2.rd.at_ (k := j) (by omega)
          obtain rfl : v' = v := by rw [hv] at hv'; injection hv' with h; exact h.symm
          clear hv hv' h0
          go_wp2_with fail
          go_roundw
          case rel => exact ⟨j + 1, m + 1, by omega, by go_num, by go_num, HN, hbx2, hB2⟩
          case measure => simp [intOf]; omega
        · have HN : Hid (m = (zTo xs (j + 1)).length) := hide (by rw [zTo_no hv h0]; exact hm.out)
          have e0 : (v == 0) = false := eqf h0
          go_wp2_with fail
          refine HCN.out.mono ?_
          rintro e w2 ⟨rfl, hb2⟩
          have hB2 := hB.trans (hb2.mono hz)
          have hbx2 := hbx.below hb2
          have hp2 := hpw.below hb2
          have c2 := hp2.c2
          obtain ⟨b, off, v', rfl, hb, hv', hc⟩ := hp2.rd.at_ (k := j) (by omega)
          obtain rfl : v' = v := by rw [hv] at hv'; injection hv' with h; exact h.symm
          clear hv hv' h0
          go_wp2_with fail
          go_roundw
          case rel => exact ⟨j + 1, m, by omega, by go_num, by go_num, HN, hbx2, hB2⟩
          case measure => simp [intOf]; omega
      · exact absurd trivial hdum
    · have e1 : j = k := by omega
      have HE : Hid (m = (zTo xs k).length) := hide (by rw [hm.out, e1])
      clear e1
      go_wp2_with fail
      refine HCN.out.mono ?_
      rintro e w2 ⟨rfl, hb2⟩
      have hB2 := hB.trans (hb2.mono hz)
      go_wp2_with fail
      go_ret
      rw [← HE.out]
      exact ⟨rfl, hB2⟩

set_option maxHeartbeats 4000000 in
theorem crossingIndex_any (wd ht x y : Int) (A : Option Addr) (c : Nat) (xs : List Int) (w : World) (hxs : RI w A xs) (hcap : xs.length ≤ c ∧ c ≤ 9223372036854775807) (hs : Sz wd ht) (hl : (xs.length : Int) = innerN wd ht) (hn : xs.length ≤ 1048576) (hon : OnP wd ht x y) (he : ¬ Edge wd ht x y) :
    Calls Try.prog 117 #[.agg #[.int .i64 wd, .int .i64 ht, .slice A xs.length c], .agg #[.int .i64 x, .int .i64 y]] w (RetV w (.int .i64 ((zTo xs (numI wd x y).toNat).length : Int))) := by
  obtain ⟨⟨x1, x2⟩, ⟨y1, y2⟩, k, kd, hnum, hkl, hkx, hkk⟩ := inner_at (xs := xs) hs hon he hl
  have hpar := hide hon.2.2.2.2
  have h1 := hs.1
  have h2 := hs.2.1
  have HSZ := hide hs
  have HNUM := hide hnum
  have hnk : (numI wd x y).toNat = k := by omega
  rw [hnk]
  clear hnk hnum hkk he hon hs hkx
  have hB := (((Below.refl w.heap.size w).alloc (by first | omega | (simp; omega) | simp) (.cells #[.int .i64 wd, .int .i64 ht, .slice A xs.length c] 36)).alloc (by first | omega | (simp; omega) | simp) (.cells #[.int .i64 x, .int .i64 y] 110))
  have hC0 : Below (((w.alloc (.cells #[.int .i64 wd, .int .i64 ht, .slice A xs.length c] 36)).alloc (.cells #[.int .i64 x, .int .i64 y] 110))).heap.size ((w.alloc (.cells #[.int .i64 wd, .int .i64 ht, .slice A xs.length c] 36)).alloc (.cells #[.int .i64 x, .int .i64 y] 110)) (((w.alloc (.cells #[.int .i64 wd, .int .i64 ht, .slice A xs.length c] 36)).alloc (.cells #[.int .i64 x, .int .i64 y] 110))).drew := (Below.refl _ _).drew
  have hat := (Bx.new_ (w.alloc (.cells #[.int .i64 wd, .int .i64 ht, .slice A xs.length c] 36)) (w.heap.size + 1) 110 #[.int .i64 x, .int .i64 y] (by simp))
  have hpl := ((Bx.new_ w (w.heap.size) 36 #[.int .i64 wd, .int .i64 ht, .slice A xs.length c] (by simp)).alloc (.cells #[.int .i64 x, .int .i64 y] 110))
  have f0 : ∀ v : BelowOf ((w.alloc (.cells #[.int .i64 wd, .int .i64 ht, .slice A xs.length c] 36)).alloc (.cells #[.int .i64 x, .int .i64 y] 110)), v.w.cell? ⟨w.heap.size + 1, 0, none⟩ = some (.int .i64 x) := fun v => (hat.below v.h).two.1
  have f1 : ∀ v : BelowOf ((w.alloc (.cells #[.int .i64 wd, .int .i64 ht, .slice A xs.length c] 36)).alloc (.cells #[.int .i64 x, .int .i64 y] 110)), v.w.cell? ⟨w.heap.size + 1, 1, none⟩ = some (.int .i64 y) := fun v => (hat.below v.h).two.2
  have g0 : ∀ v : BelowOf ((w.alloc (.cells #[.int .i64 wd, .int .i64 ht, .slice A xs.length c] 36)).alloc (.cells #[.int .i64 x, .int .i64 y] 110)), v.w.cell? ⟨w.heap.size, 0, none⟩ = some (.int .i64 wd) := fun v => (hpl.below v.h).three.1
  have g1 : ∀ v : BelowOf ((w.alloc (.cells #[.int .i64 wd, .int .i64 ht, .slice A xs.length c] 36)).alloc (.cells #[.int .i64 x, .int .i64 y] 110)), v.w.cell? ⟨w.heap.size, 1, none⟩ = some (.int .i64 ht) := fun v => (hpl.below v.h).three.2.1
  have g2 : ∀ v : BelowOf ((w.alloc (.cells #[.int .i64 wd, .int .i64 ht, .slice A xs.length c] 36)).alloc (.cells #[.int .i64 x, .int .i64 y] 110)), v.w.cell? ⟨w.heap.size, 2, none⟩ = some (.slice A xs.length c) := fun v => (hpl.below v.h).three.2.2
  have hcn : ∀ v : BelowOf ((w.alloc (.cells #[.int .i64 wd, .int .i64 ht, .slice A xs.length c] 36)).alloc (.cells #[.int .i64 x, .int .i64 y] 110)), Calls Try.prog 131 #[.agg #[.int .i64 wd, .int .i64 ht, .slice A xs.length c], .agg #[.int .i64 x, .int .i64 y]] v.w (RetV v.w (.int .i64 (k : Int))) := fun v => by rw [← HNUM.out]; exact number_any wd ht x y A c xs v.w h1 h2 y1 y2 x1 x2 hpar.out
  have hrd := (hxs.below (((Below.refl w.heap.size w).alloc (by first | omega | (simp; omega) | simp) (.cells #[.int .i64 wd, .int .i64 ht, .slice A xs.length c] 36)).alloc (by first | omega | (simp; omega) | simp) (.cells #[.int .i64 x, .int .i64 y] 110))).take_ k
  have htl : (xs.take k).length = k := by rw [List.length_take]; omega
  obtain ⟨hc1, hc2⟩ := hcap
  have hkc : k ≤ c := by omega
  go_enter Try.func117, Try.ntmps117
  go_wp2_with fail
  refine region_below (by kernel_rfl) (by kernel_rfl) hC0 ?_
  repeat (go_big_quiet_step (first | exact BelowOf.ret (hcn _)))
  refine wpQuiet_nil ?_
  rintro w4 ⟨⟨w4, hb4⟩, rfl⟩
  have hB4 := hB.trans (hb4.mono hB.size)
  have hr4 := hrd.below hb4
  clear f0 f1 g0 g1 g2 hcn hrd hC0 hat hpl
  go_wp2_with fail
  go_loopw [5, 15] (fun n i wr => ∃ (j m : Nat), j ≤ k ∧ n = .int .i64 (m : Int) ∧ i = .int .i64 (j : Int) ∧ Hid (m = (zTo xs j).length) ∧ wr = w4) (fun _ i _ => k - (intOf i).toNat)
  case atStart => exact ⟨0, 0, Nat.zero_le _, rfl, rfl, hide rfl, by first | trivial | rfl⟩
  case round =>
    obtain ⟨j, m, hj, rfl, rfl, hm, rfl⟩ := hrel
    have hmj : m ≤ j := by rw [hm.out]; exact zTo_len _ _
    by_cases hlt : j < k
    · obtain ⟨b, off, v, rfl, hb, hv, hc⟩ := hr4.at_ (k := j) (by omega)
      rw [List.getElem?_take, if_pos hlt] at hv
      by_cases h0 : v = 0
      · have HN : Hid (m + 1 = (zTo xs (j + 1)).length) := hide (by rw [zTo_yes hv h0, List.length_append, ← hm.out]; rfl)
        have e0 : (v == 0) = true := eqt h0
        clear hv h0
        go_wp2_with fail
        go_roundw
        case rel => exact ⟨j + 1, m + 1, by omega, by go_num, by go_num, HN, by first | trivial | rfl⟩
        case measure => simp [intOf]; omega
      · have HN : Hid (m = (zTo xs (j + 1)).length) := hide (by rw [zTo_no hv h0]; exact hm.out)
        have e0 : (v == 0) = false := eqf h0
        clear hv h0
        go_wp2_with fail
        go_roundw
        case rel => exact ⟨j + 1, m, by omega, by go_num, by go_num, HN, by first | trivial | rfl⟩
        case measure => simp [intOf]; omega
    · have e1 : j = k := by omega
      have HE : Hid (m = (zTo xs k).length) := hide (by rw [hm.out, e1])
      clear e1
      go_wp2_with fail
      go_ret
      rw [← HE.out]
      exact ⟨rfl, hB4⟩

end Go.Proofs.Ytnjojnnapdhijaa
