/-
  Words for codes that are drawn: a row put in the place of another, codes that lie beyond a block, choices. Conditions: the numbers of bytes and of choices are far below the machine's.
-/
import Derived.Test.YtnjojnnapdhijaaSrc
import Derived.Test.YtnjojnnapdhijaaCode1
namespace Go.Proofs.Ytnjojnnapdhijaa
open Go.RowKit
set_option linter.unusedVariables false

section
variable {w w' : World} {base top : Nat} {A : Option Addr} {c : Nat} {code : List (List Int)}
theorem OwnI.ne_hd {B : Option Addr} {d : Nat} {xs : List Int} {hs : List Hd} {b2 : Nat} (ho : OwnI w base B d xs) (h : Own hdE w b2 A c hs) : blk B = none ∨ blk B ≠ blk A := by
  rw [← intE_own] at ho
  exact Own.own_ne ho h (by decide)
/-- another row put in the place of row k -/
theorem OwnC.swapRow (h : OwnC w base top A c code) (ht : top ≤ w.heap.size) {k : Nat} (hk : k < code.length) :
    ∃ g B d xs, A = some ⟨g, 0, none⟩ ∧ base ≤ g ∧ g < top ∧ code[k]? = some xs ∧ w.cell? ⟨g, k, none⟩ = some (.slice B xs.length d) ∧ OwnI w base B d xs ∧ (∀ q, blk B = some q → q < top) ∧
      ∀ (w1 : World) (B' : Option Addr) (d' : Nat) (ys : List Int), w.grownBy w1 (blk B) → OwnI w1 base B' d' ys → (blk B' = blk B ∨ ∀ q, blk B' = some q → w.heap.size ≤ q) →
        w1.cell? ⟨g, k, none⟩ = some (.slice B xs.length d) ∧ w1.frozen? ⟨g, k, none⟩ = false ∧ OwnC (w1.setCell ⟨g, k, none⟩ (.slice B' ys.length d')) base w1.heap.size A c (code.set k ys) := by
  obtain ⟨hs, h1, h2, h3, h4, h5⟩ := h
  obtain ⟨g, hd, e, hgb, hgs, hx, hc, hf⟩ := h1.row (k := k) (by omega)
  have hxs : code[k]? = some code[k] := List.getElem?_eq_getElem hk
  obtain ⟨g1, g2, g3⟩ := h4 k hd _ hx hxs
  have hc0 : w.cell? ⟨g, k, none⟩ = some (.slice hd.A code[k].length hd.c) := by
    have := hc 0 _ rfl
    rw [← g1]
    simpa [hdE] using this
  subst e
  refine ⟨g, hd.A, hd.c, code[k], rfl, hgb, h2 g rfl, hxs, hc0, g2, g3, fun w1 B' d' ys hg hy hB => ?_⟩
  have h1' := h1.grown hg (by
    rcases g2.ne_hd h1 with h | h
    · exact .inr (by rw [h]; simp [blk])
    · exact .inr (fun e => h e.symm))
  obtain ⟨g', hd', e', _, _, hx', hc', hf'⟩ := h1'.row (k := k) (by omega)
  injection e' with e'
  injection e' with e'
  subst e'
  rw [hx] at hx'
  injection hx' with hx'
  subst hx'
  have hc1 : w1.cell? ⟨g, k, none⟩ = some (.slice hd.A code[k].length hd.c) := by
    have := hc' 0 _ rfl
    rw [← g1]
    simpa [hdE] using this
  have hsz := hg.size
  refine ⟨hc1, hf' _, hs.set k ⟨B', ys.length, d'⟩, ?_, fun q hq => ?_, by rw [List.length_set, List.length_set]; exact h3, fun i h xs e1 e2 => ?_, fun i j h h' e1 e2 hij => ?_⟩
  · have := (h1'.put (k := k) (j := 0) (x := hd) (y := ⟨B', ys.length, d'⟩) (u := .slice B' ys.length d') hx (by simp [hdE]) rfl).1
    simpa [hdE] using this
  · have := h2 q hq
    omega
  · by_cases hik : i = k
    · subst hik
      rw [List.getElem?_set_self (by omega)] at e1
      rw [List.getElem?_set_self hk] at e2
      injection e1 with e1
      injection e2 with e2
      subst e1 e2
      refine ⟨rfl, hy.keep (fun b _ hb => ?_), fun q hq => (hy.ge hq).2⟩
      refine Below.heap_setCell w1 ⟨g, i, none⟩ _ b (fun e => ?_)
      rcases hy.ne_hd h1' with h | h
      · rw [h] at hb; cases hb
      · exact h (by rw [hb]; show some b = some g; rw [e])
    · rw [List.getElem?_set_ne (by omega)] at e1 e2
      obtain ⟨q1, q2, q3⟩ := h4 i h xs e1 e2
      have q2' := q2.grown hg (by
        rcases h5 i k h hd e1 hx hik with h | h
        · exact .inl h
        · exact .inr h)
      refine ⟨q1, q2'.keep (fun b _ hb => ?_), fun q hq => by have := q3 q hq; omega⟩
      refine Below.heap_setCell w1 ⟨g, k, none⟩ _ b (fun e => ?_)
      rcases q2'.ne_hd h1' with h | h
      · rw [h] at hb; cases hb
      · exact h (by rw [hb]; show some b = some g; rw [e])
  · have key : ∀ (i : Nat) (h : Hd), i ≠ k → hs[i]? = some h → (blk h.A = none ∨ blk h.A ≠ blk B') ∧ (blk B' = none ∨ blk B' ≠ blk h.A) := fun i h hik e1 => by
      have hil := (List.getElem?_eq_some_iff.1 e1).1
      obtain ⟨q1, q2, q3⟩ := h4 i h _ e1 (List.getElem?_eq_getElem (show i < code.length by omega))
      rcases hB with hB | hB
      · rw [hB]
        refine ⟨h5 i k h hd e1 hx hik, ?_⟩
        exact h5 k i hd h hx e1 (Ne.symm hik)
      · refine ⟨?_, ?_⟩
        · by_cases hn : blk h.A = none
          · exact .inl hn
          · refine .inr (fun e => ?_)
            obtain ⟨q, hq⟩ := Option.ne_none_iff_exists'.1 hn
            have := q3 q hq
            have := hB q (e ▸ hq)
            omega
        · by_cases hn : blk B' = none
          · exact .inl hn
          · refine .inr (fun e => ?_)
            obtain ⟨q, hq⟩ := Option.ne_none_iff_exists'.1 hn
            have := q3 q (e ▸ hq)
            have := hB q hq
            omega
    by_cases hik : i = k
    · subst hik
      rw [List.getElem?_set_self (by omega)] at e1
      injection e1 with e1
      subst e1
      rw [List.getElem?_set_ne hij] at e2
      exact (key j h' (Ne.symm hij) e2).2
    · rw [List.getElem?_set_ne (by omega)] at e1
      by_cases hjk : j = k
      · subst hjk
        rw [List.getElem?_set_self (by omega)] at e2
        injection e2 with e2
        subst e2
        exact (key i h hik e1).1
      · rw [List.getElem?_set_ne (by omega)] at e2
        exact h5 i j h h' e1 e2 hij
end
/-- A code that reads, all of it from block base on. -/
def Dr (w : World) (base : Nat) (A : Option Addr) (c : Nat) (code : List (List Int)) : Prop :=
  ∃ hs : List Hd, RG hdE w A hs ∧ (∀ g, blk A = some g → 0 < hs.length → base ≤ g ∧ g < w.heap.size) ∧ hs.length = code.length ∧ (code.length ≤ c ∧ c ≤ 9223372036854775807) ∧
    ∀ (i : Nat) (h : Hd) (xs : List Int), hs[i]? = some h → code[i]? = some xs → h.n = xs.length ∧ xs.length ≤ h.c ∧ h.c ≤ 9223372036854775807 ∧ RI w h.A xs ∧ ∀ g, blk h.A = some g → 0 < xs.length → base ≤ g ∧ g < w.heap.size
section
variable {w w' : World} {base : Nat} {A : Option Addr} {c : Nat} {code : List (List Int)}
theorem Dr.keep (h : Dr w base A c code) (hz : w.heap.size ≤ w'.heap.size) (hk : ∀ b, base ≤ b → b < w.heap.size → w'.heap[b]? = w.heap[b]?) : Dr w' base A c code := by
  obtain ⟨hs, h1, h2, h3, h4, h5⟩ := h
  refine ⟨hs, fun hn => ?_, fun g hg hn => by have := h2 g hg hn; omega, h3, h4, fun i h xs e1 e2 => ?_⟩
  · have hp : 0 < hs.length := by rw [hdE.flen] at hn; exact Nat.pos_of_mul_pos_right hn
    exact RG.keep h1 (fun b hb hbb => hk b (h2 b hbb hp).1 hb) hn
  · obtain ⟨g1, g2, g3, g4, g5⟩ := h5 i h xs e1 e2
    refine ⟨g1, g2, g3, fun hn => ?_, fun g hg hn => by have := g5 g hg hn; omega⟩
    exact Rd.keep g4 (fun b hb hbb => hk b (g5 b hbb (by simpa using hn)).1 hb) hn
theorem Dr.below (h : Dr w base A c code) (hb : Below w.heap.size w w') : Dr w' base A c code := h.keep hb.size fun b _ hb2 => hb.block b hb2
theorem Dr.alloc (h : Dr w base A c code) (o : Obj) : Dr (w.alloc o) base A c code := h.below ((Below.refl _ _).alloc (Nat.le_refl _) o)
theorem Dr.drew (h : Dr w base A c code) : Dr w.drew base A c code := h
theorem Dr.drewN (h : Dr w base A c code) (n : Nat) : Dr (w.drewN n) base A c code := h
theorem Dr.setLow (h : Dr w base A c code) {p : Addr} (hp : p.block < base) (u : Value) : Dr (w.setCell p u) base A c code := h.keep (by simp) fun b h1 h2 => Below.heap_setCell w p u b (by omega)
theorem Dr.src {b : Nat} (h : Dr w base A c code) (hg : w.grownBy w' (some b)) (hb : b < base) : Dr w' base A c code := h.keep hg.size fun q h1 h2 => hg.block q h2 (fun e => by injection e with e; omega)
theorem Dr.mono {base' : Nat} (h : Dr w base A c code) (hb : base' ≤ base) : Dr w base' A c code := by
  obtain ⟨hs, h1, h2, h3, h4, h5⟩ := h
  exact ⟨hs, h1, fun g hg hn => by have := h2 g hg hn; omega, h3, h4, fun i h xs e1 e2 => by
    obtain ⟨g1, g2, g3, g4, g5⟩ := h5 i h xs e1 e2
    exact ⟨g1, g2, g3, g4, fun g hg hn => by have := g5 g hg hn; omega⟩⟩
theorem Dr.rc (h : Dr w base A c code) : RC w w.heap.size A code := by
  obtain ⟨hs, h1, h2, h3, h4, h5⟩ := h
  exact ⟨hs, h1, fun g hg hn => (h2 g hg hn).2, h3, fun i h xs e1 e2 => by
    obtain ⟨g1, g2, g3, g4, g5⟩ := h5 i h xs e1 e2
    exact ⟨g1, g2, g3, g4, fun g hg hn => (g5 g hg hn).2⟩⟩
theorem Dr.cap_ (h : Dr w base A c code) : code.length ≤ c ∧ c ≤ 9223372036854775807 := by
  obtain ⟨hs, h1, h2, h3, h4, h5⟩ := h
  exact h4
theorem OwnC.dr {top : Nat} (h : OwnC w base top A c code) (ht : top ≤ w.heap.size) : Dr w base A c code := by
  have hcap := h.cap_
  obtain ⟨hs, h1, h2, h3, h4, h5⟩ := h
  refine ⟨hs, h1.rd, fun g hg _ => ⟨(h1.ge hg).1, by have := h2 g hg; omega⟩, h3, hcap, fun i h xs e1 e2 => ?_⟩
  obtain ⟨g1, g2, g3⟩ := h4 i h xs e1 e2
  have := g2.cap
  exact ⟨g1, this.1, by simpa [maxLen] using this.2, g2.rd, fun g hg _ => g2.ge hg⟩
end
section
variable {w w' : World} {base top b : Nat} {A B : Option Addr} {c d : Nat} {code : List (List Int)} {ys : List Int}
theorem OwnC.src (h : OwnC w base top A c code) (hg : w.grownBy w' (some b)) (hb : b < base) (ht : top ≤ w.heap.size) : OwnC w' base top A c code :=
  h.keep fun q h1 h2 => hg.block q (by omega) (fun e => by injection e with e; omega)
theorem OwnI.src (h : OwnI w base B d ys) (hg : w.grownBy w' (some b)) (hb : b < base) : OwnI w' base B d ys :=
  h.keep fun q h1 h2 => hg.block q h1 (fun e => by injection e with e; have := (h.ge h2).1; omega)
end
set_option maxHeartbeats 4000000 in
theorem pickG_any (b : Nat) (A : Option Addr) (c : Nat) (xs : List Int) (K : Nat) (n : Int) (w : World) (h : Sr w b A c xs K) (hK : K ≤ 1000000) (hx : ∀ x ∈ xs, 0 ≤ x ∧ x ≤ 255) (hn : xs.length ≤ 1048576) (h1 : 0 < n) (h2 : n ≤ 200) :
    Calls Try.prog 54 #[.pointer (some ⟨b, 0, none⟩), .int .i64 n] w fun e w' => ∃ x : Nat, e = .returned (.int .i64 (x : Int)) ∧ (x : Int) < n ∧ Sr w' b A c xs (K + 1) ∧ w.grownBy w' (some b) := by
  by_cases hn1 : 1 < n
  · refine (pick_any b A c xs K n w h hK hx hn hn1 h2).mono ?_
    rintro e w1 ⟨x, rfl, h0, h3, hs, hg⟩
    exact ⟨x.toNat, by rw [Int.toNat_of_nonneg h0], by omega, hs, hg⟩
  · have d1 : n ≤ 1 := by omega
    go_enter Try.func54, Try.ntmps54
    go_wp2_with fail
    go_ret
    exact ⟨0, rfl, h1, h.more (by omega), gr_refl _ _⟩
set_option maxHeartbeats 4000000 in
theorem one_any (b : Nat) (A : Option Addr) (c : Nat) (xs : List Int) (K : Nat) (n : Int) (w : World) (h : Sr w b A c xs K) (hK : K ≤ 1000000) (hx : ∀ x ∈ xs, 0 ≤ x ∧ x ≤ 255) (hn : xs.length ≤ 1048576) (h1 : 1 < n) (h2 : n ≤ 200) :
    Calls Try.prog 52 #[.pointer (some ⟨b, 0, none⟩), .int .i64 n] w fun e w' => ∃ v : Bool, e = .returned (.bool v) ∧ Sr w' b A c xs (K + 1) ∧ w.grownBy w' (some b) := by
  have HP := hide (pick_any b A c xs K n w h hK hx hn h1 h2)
  go_enter Try.func52, Try.ntmps52
  go_wp2_with fail
  refine HP.out.mono ?_
  rintro e w1 ⟨x, rfl, h0, h3, hs, hg⟩
  go_wp2_with fail
  go_ret
  exact ⟨_, rfl, hs, hg⟩
set_option maxHeartbeats 4000000 in
theorem among_any (b : Nat) (A : Option Addr) (c : Nat) (xs : List Int) (K : Nat) (B : Option Addr) (d : Nat) (ys : List Int) (w : World) (h : Sr w b A c xs K) (hK : K ≤ 1000000) (hx : ∀ x ∈ xs, 0 ≤ x ∧ x ≤ 255) (hn : xs.length ≤ 1048576) (hy : RI w B ys) (hyn : ∀ g, blk B = some g → g ≠ b) (h1 : 0 < ys.length) (h2 : ys.length ≤ 200) :
    Calls Try.prog 103 #[.pointer (some ⟨b, 0, none⟩), .slice B ys.length d] w fun e w' => ∃ x : Int, e = .returned (.int .i64 x) ∧ x ∈ ys ∧ Sr w' b A c xs (K + 1) ∧ w.grownBy w' (some b) := by
  have HP := hide (pickG_any b A c xs K (ys.length : Int) w h hK hx hn (by omega) (by omega))
  have HY := hide hy
  have HYN := hide hyn
  go_enter Try.func103, Try.ntmps103
  go_wp2_with fail
  refine HP.out.mono ?_
  rintro e w1 ⟨x, rfl, h3, hs, hg⟩
  have hx2 : x < ys.length := by omega
  obtain ⟨g, off, v, hB, hgb, hv, hc⟩ := (RI.grown HY.out hg (by
    by_cases hbn : blk B = none
    · exact .inl hbn
    · obtain ⟨q, hq⟩ := Option.ne_none_iff_exists'.1 hbn
      exact .inr (fun e => HYN.out q hq (by rw [hq] at e; injection e)))).at_ hx2
  subst hB
  go_wp2_with fail
  go_ret
  exact ⟨v, rfl, List.mem_of_getElem? hv, hs, hg⟩
end Go.Proofs.Ytnjojnnapdhijaa
