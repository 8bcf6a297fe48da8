/-
  Contracts: the product of a polynomial with a power and a number, as the reference and as the program make it. Conditions: the numbers are far below the machine's.
-/
import Derived.Test.YtjlifbdaieblpaaGreatPolyMulI
namespace Go.Proofs.YtjlifbdaieblpaaGreat
open Go.RowKit
set_option linter.unusedVariables false

/-- the row of products, k of them made -/
def rowTo (t : Int) (xs : List Int) (k : Nat) : List Int := xs.mapIdx fun j y => if j < k then wrap64 (t * y) else 0
theorem rowTo_length (t : Int) (xs : List Int) (k : Nat) : (rowTo t xs k).length = xs.length := by simp [rowTo]
theorem rowTo_zero (t : Int) (xs : List Int) : rowTo t xs 0 = List.replicate xs.length 0 := by
  apply List.ext_getElem?
  intro j
  rw [List.getElem?_replicate]
  by_cases h : j < xs.length
  · simp [rowTo, h]
  · simp [rowTo, h]
theorem rowTo_all (t : Int) (xs : List Int) : rowTo t xs xs.length = rowW t xs := by
  apply List.ext_getElem?
  intro j
  by_cases h : j < xs.length
  · simp [rowTo, rowW, h]
  · simp [rowTo, rowW, h]
theorem rowTo_next {t : Int} {xs : List Int} {k : Nat} {x : Int} (hx : xs[k]? = some x) : (rowTo t xs k).set k (wrap64 (x * t)) = rowTo t xs (k + 1) := by
  have hk : k < xs.length := (List.getElem?_eq_some_iff.1 hx).1
  apply List.ext_getElem?
  intro j
  by_cases hj : k = j
  · subst hj
    rw [List.getElem?_set_self (by rw [rowTo_length]; exact hk)]
    simp only [rowTo, List.getElem?_mapIdx, hx, Option.map_some, Nat.lt_succ_self, if_true, Int.mul_comm]
  · rw [List.getElem?_set_ne hj]
    simp only [rowTo, List.getElem?_mapIdx]
    congr 1
    funext y
    by_cases h1 : j < k
    · rw [if_pos h1, if_pos (by omega)]
    · rw [if_neg h1, if_neg (by omega)]
theorem OwnI.new_ (w : World) {base : Nat} (n : Nat) (hn : n = w.heap.size) (xs : List Int) (cs : Array Value) (hcs : cs.toList = xs.map (Value.int .i64)) (hb : base ≤ w.heap.size) (hm : xs.length ≤ maxLen) :
    OwnI (w.alloc (.cells cs 2)) base (some ⟨n, 0, none⟩) xs.length xs := by rw [hn]; exact OwnI.new w xs cs hcs hb hm
theorem wrap64_wrap (x : Int) : wrap64 (wrap64 x) = wrap64 x := by unfold wrap64; omega
theorem mulTo_one (xs : List Int) (t : Int) (i : Nat) (hi : i ≤ xs.length) : mulTo xs.length xs [t] i = rowTo t xs i := by
  induction i with
  | zero => rw [rowTo_zero]; rfl
  | succ i ih =>
    have hi' : i < xs.length := by omega
    have hx : xs[i]? = some xs[i] := List.getElem?_eq_getElem hi'
    rw [mulTo_next _ _ _ _ hx, ih (by omega), ← rowTo_next hx]
    apply List.ext_getElem?
    intro j
    rw [addAt_at]
    by_cases hj : i = j
    · subst hj
      rw [List.getElem?_set_self (by rw [rowTo_length]; exact hi')]
      simp only [rowTo, List.getElem?_mapIdx, hx, Option.map_some, Nat.lt_irrefl, if_false]
      simp [rowW, wrap64_wrap]
    · rw [List.getElem?_set_ne hj]
      have : ∀ y : Int, (if i ≤ j ∧ j - i < (rowW xs[i] [t]).length then wrap64 (y + (rowW xs[i] [t]).getD (j - i) 0) else y) = y := fun y => if_neg (by simp [rowW]; omega)
      simp only [this]
      cases (rowTo t xs i)[j]? <;> rfl
theorem trimS_nil (l : Int) : trimS l [] = (0, []) := rfl
theorem mulP_one (l : Int) (xs : List Int) (power t : Int) : mulP l xs power [t] = shiftP l xs power t := by
  unfold shiftP
  by_cases h : xs.length = 0
  · rw [mulP_none (.inl h)]
    obtain rfl := List.eq_nil_of_length_eq_zero h
    rfl
  · rw [mulP_some h (by simp)]
    rw [show xs.length + [t].length - 1 = xs.length by simp, mulTo_one xs t _ (Nat.le_refl _), rowTo_all]

set_option maxHeartbeats 2000000 in
theorem l18Shift_any (l0 : Int) (A0 : Option Addr) (c0 : Nat) (xs0 : List Int) (p t : Int) (w : World) (h0 : RI w A0 xs0)
    (a0 : -1000000 ≤ l0) (b0 : l0 ≤ 1000000) (a1 : -1000000 ≤ p) (b1 : p ≤ 1000000) (n0 : xs0.length ≤ 1048576) :
    Calls Tryz.prog 35 #[.agg #[.int .i64 l0, .slice A0 xs0.length c0], .int .i64 p, .int .i64 t] w (RetP w (shiftP l0 xs0 p t).1 (shiftP l0 xs0 p t).2) := by
  have hmk := fun W : World => run_make_i64 xs0.length (by omega) W
  have own : OwnI (((w.alloc (.cells #[.int .i64 l0, .slice A0 xs0.length c0] 29)).alloc (.cells #[.int .i64 0, .slice none 0 0] 29)).alloc (.cells (madeCells #[.int .i64 0] xs0.length) 2)) w.heap.size (some ⟨w.heap.size + 1 + 1, 0, none⟩) xs0.length (rowTo t xs0 0) := by rw [rowTo_zero]; exact OwnI.made _ _ (by simp) (by simp; omega) (by omega)
  go_enter Tryz.func35, Tryz.ntmps35
  go_wp2_with fail
  go_loopw [8] (fun i wr => ∃ (k : Nat), k ≤ xs0.length ∧ i = .int .i64 k ∧ OwnI wr w.heap.size (some ⟨w.heap.size + 1 + 1, 0, none⟩) xs0.length (rowTo t xs0 k) ∧ Bx wr (w.heap.size) 29 #[.int .i64 l0, .slice A0 xs0.length c0] ∧ Bx wr (w.heap.size + 1) 29 #[.int .i64 0, .slice none 0 0] ∧ Below w.heap.size w wr) (fun i _ => xs0.length - (intOf i).toNat)
  case atStart => exact ⟨0, Nat.zero_le _, rfl, own, ((Bx.new_ w (w.heap.size) 29 #[.int .i64 l0, .slice A0 xs0.length c0] (by simp)).alloc (.cells #[.int .i64 0, .slice none 0 0] 29)).alloc (.cells (madeCells #[.int .i64 0] xs0.length) 2), (Bx.new_ (w.alloc (.cells #[.int .i64 l0, .slice A0 xs0.length c0] 29)) (w.heap.size + 1) 29 #[.int .i64 0, .slice none 0 0] (by simp)).alloc (.cells (madeCells #[.int .i64 0] xs0.length) 2), (((Below.refl w.heap.size w).alloc (by first | omega | (simp; omega) | simp) (.cells #[.int .i64 l0, .slice A0 xs0.length c0] 29)).alloc (by first | omega | (simp; omega) | simp) (.cells #[.int .i64 0, .slice none 0 0] 29)).alloc (by first | omega | (simp; omega) | simp) (.cells (madeCells #[.int .i64 0] xs0.length) 2)⟩
  case round =>
    clear own
    obtain ⟨k, hk, rfl, own, p0, p2, hB⟩ := hrel
    obtain ⟨p0a_x1, p0b_x1⟩ := (p0).two
    obtain ⟨p2a_x1, p2b_x1⟩ := (p2).two
    have p2f0_x1 := (p2).frozen 0
    have p2f1_x1 := (p2).frozen 1
    have z := hB.size
    have r0 := h0.below hB
    by_cases hlt : k < xs0.length
    · obtain ⟨b, off, x, rfl, hb, hx, hc⟩ := r0.at_ hlt
      obtain ⟨g, u, hg, hgb, hgs, hu, hgc, hgf, hst⟩ := own.at_ (k := k) (by rw [rowTo_length]; omega)
      injection hg with hg
      injection hg with hg
      subst hg
      have hs := hst (wrap64 (x * t))
      rw [rowTo_next hx] at hs
      have HS1 := hide hs.1
      have HS2 := hs.2
      have P0 := hide (p0.grownNe HS2 (by omega))
      have P2 := hide (p2.grownNe HS2 (by omega))
      have HB := hide (below_own hB HS2 (by omega) (by omega))
      clear hst hs hx hu HS2
      go_wp2_with fail
      go_roundw
      case rel => exact ⟨k + 1, by omega, by go_num, HS1.out, P0.out, P2.out, HB.out⟩
      case measure => simp [intOf]; omega
    · rw [show k = xs0.length by omega, rowTo_all] at own
      have hl : (rowW t xs0).length = xs0.length := rowW_length _ _
      have hcall := l18Trim_any (l0 + p) (some ⟨w.heap.size + 1 + 1, 0, none⟩) xs0.length (rowW t xs0) _ own.rd (by omega) (by omega) (by omega) (by omega) (by omega)
      rw [hl] at hcall
      have HC := hide hcall
      clear hcall hl
      go_wp2_with fail
      refine (HC.out).mono ?_
      rintro e w3 ⟨A3, c3, rfl, ho, hb3⟩
      have p0_3 := (p0).below hb3
      obtain ⟨p0a_3, p0b_3⟩ := (p0_3).two
      have p2_3 := (p2).below hb3
      obtain ⟨p2a_3, p2b_3⟩ := (p2_3).two
      have p2f0_3 := (p2_3).frozen 0
      have p2f1_3 := (p2_3).frozen 1
      have z_3 : wr.heap.size ≤ w3.heap.size := hb3.size
      have B_3 := (hB).trans (hb3.mono (by first | omega | (simp; omega) | simp))
      go_wp2_with fail
      refine bodyPost_ret (v := .agg #[.int .i64 (trimS (l0 + p) (rowW t xs0)).1, .slice A3 (trimS (l0 + p) (rowW t xs0)).2.length c3]) (by simp [results, Tryz.results35, go_sem, p2a_3, p2b_3]) rfl ?_
      exact ⟨A3, c3, rfl, ((ho.setLow (by have := p2.lt; simp; omega) _).setLow (by have := p2.lt; simp; omega) _).mono (by omega), (B_3.setCell (by first | omega | (simp; omega) | simp) _).setCell (by first | omega | (simp; omega) | simp) _⟩

set_option maxHeartbeats 2000000 in
theorem shiftPoly_any (l0 : Int) (A0 : Option Addr) (c0 : Nat) (xs0 : List Int) (p t : Int) (w : World) (h0 : RI w A0 xs0)
    (a0 : -1000000 ≤ l0) (b0 : l0 ≤ 1000000) (a1 : -1000000 ≤ p) (b1 : p ≤ 1000000) (n0 : xs0.length ≤ 1048576) :
    Calls Tryz.prog 28 #[.agg #[.int .i64 l0, .slice A0 xs0.length c0], .int .i64 p, .int .i64 t] w (RetP w (shiftP l0 xs0 p t).1 (shiftP l0 xs0 p t).2) := by
  rw [← mulP_one]
  have own : OwnI (((w.alloc (.cells #[.int .i64 l0, .slice A0 xs0.length c0] 29)).alloc (.cells #[.int .i64 0, .slice none 0 0] 29)).alloc (.cells #[.int .i64 t] 2)) w.heap.size (some ⟨w.heap.size + 1 + 1, 0, none⟩) 1 [t] := OwnI.new_ _ _ (by simp) [t] #[.int .i64 t] rfl (by first | omega | (simp; omega) | simp) (by simp [maxLen])
  go_enter Tryz.func28, Tryz.ntmps28
  go_wp2_with fail
  refine (mulPolys_any l0 A0 c0 xs0 p (some ⟨w.heap.size + 1 + 1, 0, none⟩) 1 [t] _ ((((h0).alloc (.cells #[.int .i64 l0, .slice A0 xs0.length c0] 29)).alloc (.cells #[.int .i64 0, .slice none 0 0] 29)).alloc (.cells #[.int .i64 t] 2)) own.rd a0 b0 a1 b1 n0 (by simp)).mono ?_
  rintro e w3 ⟨A3, c3, rfl, ho, hb3⟩
  have r0_3 := ((((h0).alloc (.cells #[.int .i64 l0, .slice A0 xs0.length c0] 29)).alloc (.cells #[.int .i64 0, .slice none 0 0] 29)).alloc (.cells #[.int .i64 t] 2)).below hb3
  have p0_3 := (((Bx.new_ w (w.heap.size) 29 #[.int .i64 l0, .slice A0 xs0.length c0] (by simp)).alloc (.cells #[.int .i64 0, .slice none 0 0] 29)).alloc (.cells #[.int .i64 t] 2)).below hb3
  obtain ⟨p0a_3, p0b_3⟩ := (p0_3).two
  have p2_3 := ((Bx.new_ (w.alloc (.cells #[.int .i64 l0, .slice A0 xs0.length c0] 29)) (w.heap.size + 1) 29 #[.int .i64 0, .slice none 0 0] (by simp)).alloc (.cells #[.int .i64 t] 2)).below hb3
  obtain ⟨p2a_3, p2b_3⟩ := (p2_3).two
  have p2f0_3 := (p2_3).frozen 0
  have p2f1_3 := (p2_3).frozen 1
  have z_3 : (((w.alloc (.cells #[.int .i64 l0, .slice A0 xs0.length c0] 29)).alloc (.cells #[.int .i64 0, .slice none 0 0] 29)).alloc (.cells #[.int .i64 t] 2)).heap.size ≤ w3.heap.size := hb3.size
  simp only [World.size_alloc] at z_3
  have B_3 := ((((Below.refl w.heap.size w).alloc (by first | omega | (simp; omega) | simp) (.cells #[.int .i64 l0, .slice A0 xs0.length c0] 29)).alloc (by first | omega | (simp; omega) | simp) (.cells #[.int .i64 0, .slice none 0 0] 29)).alloc (by first | omega | (simp; omega) | simp) (.cells #[.int .i64 t] 2)).trans (hb3.mono (by first | omega | (simp; omega) | simp))
  go_wp2_with fail
  refine bodyPost_ret (v := .agg #[.int .i64 (mulP l0 xs0 p [t]).1, .slice A3 (mulP l0 xs0 p [t]).2.length c3]) (by simp [results, Tryz.results28, go_sem, p2a_3, p2b_3]) rfl ?_
  exact ⟨A3, c3, rfl, ((ho.setLow (by first | omega | (simp; omega) | simp) _).setLow (by first | omega | (simp; omega) | simp) _).mono (by first | omega | (simp; omega) | simp), (B_3.setCell (by first | omega | (simp; omega) | simp) _).setCell (by first | omega | (simp; omega) | simp) _⟩
end Go.Proofs.YtjlifbdaieblpaaGreat
