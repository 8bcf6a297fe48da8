/-
  The text of a polynomial: plain lemmas, and the contracts of PolyText, of the reference and of the program. Conditions: none beyond the lengths.
-/
import Derived.Test.YtffiejlfnecanaaDec
import Derived.Test.YtffiejlfnecanaaPolyTop
namespace Go.Proofs.Ytffiejlfnecanaa
open Go.RowKit
set_option linter.unusedVariables false

/-- the text of a term without its sign -/
def termL (n p : Int) : List UInt8 := (if n = 1 ∧ p ≠ 0 then [] else decL n) ++ ((if p = 0 then [] else [65]) ++ (if p = 0 ∨ p = 1 then [] else [94] ++ decL p))
theorem termL_len {n p : Int} (h1 : I64 n) (h2 : I64 p) : (termL n p).length ≤ 42 := by
  have := decL_len h1
  have := decL_len h2
  unfold termL
  rw [List.length_append, List.length_append]
  have a : (if n = 1 ∧ p ≠ 0 then [] else decL n).length ≤ 20 := by
    split
    · exact Nat.zero_le _
    · omega
  have b : (if p = 0 then ([] : List UInt8) else [65]).length ≤ 1 := by split <;> simp
  have c : (if p = 0 ∨ p = 1 then [] else [94] ++ decL p).length ≤ 21 := by split <;> simp <;> omega
  omega
theorem decN_posLen {m : Nat} (h : m ≠ 0) : decN m ≠ [] := fun e => by have := decN_ne h; rw [e] at this; simp at this
theorem termL_ne {n p : Int} (h : 0 < n) : termL n p ≠ [] := by
  unfold termL
  by_cases hp : p = 0
  · rw [if_neg (by simp [hp])]
    intro e
    rw [List.append_eq_nil_iff] at e
    revert e
    have hd : decL n ≠ [] := by
      unfold decL
      have := decN_posLen (m := n.natAbs) (by omega)
      rw [if_neg (by omega), if_neg (by omega)]
      exact this
    exact fun e => hd e.1
  · simp [hp]
def signL (c : Int) (out : List UInt8) : List UInt8 := if c < 0 then (if out = [] then [45] else [32, 45, 32]) else (if out = [] then [] else [32, 43, 32])
/-- one round -/
def polyStep (c p : Int) (out : List UInt8) : List UInt8 := if c = 0 then out else out ++ signL c out ++ termL (if c < 0 then -c else c) p
/-- what is written when the coefficients of xs, the first of power p, have been read from the last on -/
def polyOut : List Int → Int → List UInt8
  | [], _ => []
  | c :: r, p => polyStep c p (polyOut r (p + 1))
theorem polyOut_drop {xs : List Int} {k : Nat} {c low : Int} (h : xs[k]? = some c) : polyOut (xs.drop k) (low + k) = polyStep c (low + k) (polyOut (xs.drop (k + 1)) (low + (k + 1 : Nat))) := by
  have hk : k < xs.length := (List.getElem?_eq_some_iff.1 h).1
  rw [List.drop_eq_getElem_cons hk, (List.getElem?_eq_some_iff.1 h).2]
  rw [show low + ((k + 1 : Nat) : Int) = low + k + 1 by omega]
  rfl
theorem polyOut_len : ∀ (xs : List Int) (p : Int), (∀ x ∈ xs, -1000000000000 ≤ x ∧ x ≤ 1000000000000) → (-100000 ≤ p) → p + xs.length ≤ 100000 → (polyOut xs p).length ≤ 45 * xs.length
  | [], _, _, _, _ => by simp [polyOut]
  | c :: r, p, h, h1, h2 => by
    have hc := h c (by simp)
    rw [List.length_cons] at h2
    have ih := polyOut_len r (p + 1) (fun x hx => h x (by simp [hx])) (by omega) (by omega)
    have ht := termL_len (n := if c < 0 then -c else c) (p := p) (by split <;> exact ⟨by omega, by omega⟩) ⟨by omega, by omega⟩
    have hs : (signL c (polyOut r (p + 1))).length ≤ 3 := by unfold signL; split <;> split <;> simp
    show (polyStep c p (polyOut r (p + 1))).length ≤ _
    unfold polyStep
    rw [List.length_cons]
    split
    · omega
    · rw [List.length_append, List.length_append]
      omega
theorem polyStep_ne {c p : Int} {out : List UInt8} (h : c ≠ 0 ∨ out ≠ []) : polyStep c p out ≠ [] := by
  unfold polyStep
  split
  · rename_i hc
    cases h with
    | inl h => exact absurd hc h
    | inr h => exact h
  · intro e
    rw [List.append_eq_nil_iff] at e
    exact termL_ne (by split <;> omega) e.2
theorem polyOut_ne : ∀ (xs : List Int) (p : Int), (∃ x ∈ xs, x ≠ 0) → polyOut xs p ≠ []
  | [], _, h => by obtain ⟨_, h, _⟩ := h; simp at h
  | c :: r, p, h => by
    show polyStep c p (polyOut r (p + 1)) ≠ []
    obtain ⟨x, hx, hx0⟩ := h
    rcases List.mem_cons.1 hx with rfl | hx
    · exact polyStep_ne (.inl hx0)
    · exact polyStep_ne (.inr (polyOut_ne r (p + 1) ⟨x, hx, hx0⟩))
def polyT (low : Int) (xs : List Int) : List UInt8 := if vldP low xs = true then (if xs.length = 0 then [48] else polyOut xs low) else []

theorem str_eq_nil (W : World) (t : TypeId) (P : Program) : (binOp .eql t (str []) (.string ⟨#[]⟩)).run P W = .ok (.bool true) W := by
  unfold str
  rw [binOp_string_eql, show ((⟨([] : List UInt8).toArray⟩ : ByteArray)).toList = [] from ByteArray.toList_mk []]
  rfl
theorem str_eq_no (W : World) (t : TypeId) (P : Program) {l : List UInt8} (h : l ≠ []) : (binOp .eql t (str l) (.string ⟨#[]⟩)).run P W = .ok (.bool false) W := by
  unfold str
  rw [binOp_string_eql]
  have : ((⟨l.toArray⟩ : ByteArray).toList == (⟨#[]⟩ : ByteArray).toList) = false := by
    rw [ByteArray.toList_mk, show (⟨#[]⟩ : ByteArray).toList = [] from ByteArray.toList_mk []]
    cases l with
    | nil => exact absurd rfl h
    | cons a r => rfl
  rw [this]
  rfl

set_option maxHeartbeats 2000000 in
theorem term_any (c n p : Int) (w : World) (hc : n = if c < 0 then -c else c) (h0 : -9223372036854775807 ≤ c ∧ c ≤ 9223372036854775807) (h2 : I64 p) : Calls Try.prog 37 #[.int .i64 c, .int .i64 p] w (RetV w (str (termL n p))) := by
  have h1 : I64 n := by rw [hc]; split <;> exact ⟨by omega, by omega⟩
  have wn : IntKind.i64.wrap (-c) = -c := by rw [IntKind.wrap_i64]; omega
  have hmx : (if c < -c then -c else c) = n := by rw [hc]; split <;> split <;> omega
  clear hc
  have ln := decL_len h1
  have lp := decL_len h2
  by_cases hp : p = 0
  · have HV := hide (show termL n p = decL n by simp [termL, hp])
    have t0 : (p == 0) = true := by simp [hp]
    have t1 : (p != 0) = false := by simp [hp]
    by_cases hn : n = 1
    · have t2 : (n != 1) = false := by simp [hn]
      clear hp hn
      go_enter Try.func37, Try.ntmps37
      go_wp2_with fail
      refine (decimal_any n _ h1).mono ?_
      rintro e w1 ⟨rfl, hb⟩
      go_wp2_with fail
      go_ret
      rw [HV.out]
      exact ⟨rfl, hb⟩
    · have t2 : (n != 1) = true := by simp [hn]
      clear hp hn
      go_enter Try.func37, Try.ntmps37
      go_wp2_with fail
      refine (decimal_any n _ h1).mono ?_
      rintro e w1 ⟨rfl, hb⟩
      go_wp2_with fail
      go_ret
      rw [HV.out]
      exact ⟨rfl, hb⟩
  · have t0 : (p == 0) = false := by simp [hp]
    have t1 : (p != 0) = true := by simp [hp]
    by_cases hp1 : p = 1
    · have t3 : (p != 1) = false := by simp [hp1]
      by_cases hn : n = 1
      · have hz1 : ∀ W : World, (binOp .add 9 (.string ⟨#[]⟩) (.string ⟨#[65]⟩)).run Try.prog W = .ok (str [65]) W := fun W => str_add W _ [] [65] (by simp)
        have hz2 : ∀ W : World, (Op.stringOp .add ⟨#[]⟩ ⟨#[65]⟩).run Try.prog W = .ok (str [65]) W := fun W => by have := hz1 W; rwa [binOp_string_add] at this
        have HV := hide (show termL n p = [65] by simp [termL, hn, hp1])
        have t2 : (n != 1) = false := by simp [hn]
        clear hp hn hp1
        go_enter Try.func37, Try.ntmps37
        go_wp2_with fail
        go_ret
        rw [HV.out]
        exact ⟨rfl, Below.refl _ _⟩
      · have HV := hide (show termL n p = decL n ++ [65] by simp [termL, hp1, hn])
        have t2 : (n != 1) = true := by simp [hn]
        have ha : ∀ W : World, (binOp .add 9 (str (decL n)) (.string ⟨#[65]⟩)).run Try.prog W = .ok (str (termL n p)) W := fun W => by rw [HV.out]; exact str_add W _ _ [65] (by simp; omega)
        clear hp hn hp1
        go_enter Try.func37, Try.ntmps37
        go_wp2_with fail
        refine (decimal_any n _ h1).mono ?_
        rintro e w1 ⟨rfl, hb⟩
        go_wp2_with fail
        go_ret
        exact ⟨rfl, hb⟩
    · have t3 : (p != 1) = true := by simp [hp1]
      obtain ⟨s1, hs1⟩ : ∃ s1, s1 = [94] ++ decL p := ⟨_, rfl⟩
      have l1 : s1.length ≤ 21 := by rw [hs1]; simp; omega
      have hb1 : ∀ W : World, (binOp .add 9 (.string ⟨#[94]⟩) (str (decL p))).run Try.prog W = .ok (str s1) W := fun W => by rw [hs1]; exact str_add W _ [94] _ (by simp; omega)
      by_cases hn : n = 1
      · have hz1 : ∀ W : World, (binOp .add 9 (.string ⟨#[]⟩) (.string ⟨#[65]⟩)).run Try.prog W = .ok (str [65]) W := fun W => str_add W _ [] [65] (by simp)
        have hz2 : ∀ W : World, (Op.stringOp .add ⟨#[]⟩ ⟨#[65]⟩).run Try.prog W = .ok (str [65]) W := fun W => by have := hz1 W; rwa [binOp_string_add] at this
        have HV := hide (show termL n p = [65] ++ s1 by simp [termL, hp, hn, hp1, hs1])
        have t2 : (n != 1) = false := by simp [hn]
        have ha : ∀ W : World, (binOp .add 9 (str [65]) (str s1)).run Try.prog W = .ok (str (termL n p)) W := fun W => by rw [HV.out]; exact str_add W _ [65] _ (by simp; omega)
        clear hp hn hp1 hs1
        go_enter Try.func37, Try.ntmps37
        go_wp2_with fail
        refine (decimal_any p _ h2).mono ?_
        rintro e w1 ⟨rfl, hb⟩
        go_wp2_with fail
        go_ret
        exact ⟨rfl, hb⟩
      · obtain ⟨s2, hs2⟩ : ∃ s2, s2 = decL n ++ [65] := ⟨_, rfl⟩
        have l2 : s2.length ≤ 21 := by rw [hs2]; simp; omega
        have HV := hide (show termL n p = s2 ++ s1 by simp [termL, hp, hn, hp1, hs1, hs2])
        have t2 : (n != 1) = true := by simp [hn]
        have ha : ∀ W : World, (binOp .add 9 (str (decL n)) (.string ⟨#[65]⟩)).run Try.prog W = .ok (str s2) W := fun W => by rw [hs2]; exact str_add W _ _ [65] (by simp; omega)
        have ha2 : ∀ W : World, (binOp .add 9 (str s2) (str s1)).run Try.prog W = .ok (str (termL n p)) W := fun W => by rw [HV.out]; exact str_add W _ _ _ (by omega)
        clear hp hn hp1 hs1 hs2
        go_enter Try.func37, Try.ntmps37
        go_wp2_with fail
        refine (decimal_any n _ h1).mono ?_
        rintro e w1 ⟨rfl, hb⟩
        go_wp2_with fail
        refine (decimal_any p _ h2).mono ?_
        rintro e w2 ⟨rfl, hd⟩
        go_wp2_with fail
        go_ret
        exact ⟨rfl, hb.trans (hd.mono hb.size)⟩
end Go.Proofs.Ytffiejlfnecanaa
