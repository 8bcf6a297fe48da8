/-
  Texts cut into parts: plain lemmas, and the contracts of both functions that cut. Conditions: the text's length is far below the machine's.
-/
import Derived.Test.YtocellbhpjiioaaGreatDec
namespace Go.Proofs.YtocellbhpjiioaaGreat
open Go.RowKit
set_option linter.unusedVariables false

/-- the parts of a text between bytes, behind those at hand -/
def spl2 (by_ : UInt8) (cur : List UInt8) : List UInt8 → List (List UInt8)
  | [] => [cur]
  | c :: t => if c = by_ then cur :: spl2 by_ [] t else spl2 by_ (cur ++ [c]) t
def spl (by_ : UInt8) (l : List UInt8) : List (List UInt8) := spl2 by_ [] l
theorem spl2_none {b : UInt8} : ∀ {l : List UInt8} (cur : List UInt8), b ∉ l → spl2 b cur l = [cur ++ l]
  | [], cur, _ => by rw [spl2, List.append_nil]
  | c :: t, cur, h => by
    rw [spl2, if_neg (fun e => h (by rw [e]; simp)), spl2_none _ (fun e => h (List.mem_cons_of_mem _ e)), List.append_assoc]
    rfl
theorem spl2_first {b : UInt8} : ∀ {p : List UInt8} (cur r : List UInt8), b ∉ p → spl2 b cur (p ++ b :: r) = (cur ++ p) :: spl2 b [] r
  | [], cur, r, _ => by rw [List.nil_append, spl2, if_pos rfl, List.append_nil]
  | c :: t, cur, r, h => by
    rw [List.cons_append, spl2, if_neg (fun e => h (by rw [e]; simp)), spl2_first _ _ (fun e => h (List.mem_cons_of_mem _ e)), List.append_assoc]
    rfl
theorem split_at {b : UInt8} : ∀ {l : List UInt8}, b ∈ l → ∃ p r, l = p ++ b :: r ∧ b ∉ p
  | [], h => by cases h
  | c :: t, h => by
    by_cases e : c = b
    · exact ⟨[], t, by rw [e]; rfl, by simp⟩
    · obtain ⟨p, r, h1, h2⟩ := split_at (l := t) (by
        rcases List.mem_cons.1 h with h | h
        · exact absurd h.symm e
        · exact h)
      exact ⟨c :: p, r, by rw [h1]; rfl, by
        intro hm
        rcases List.mem_cons.1 hm with hm | hm
        · exact e hm.symm
        · exact h2 hm⟩
theorem spl_none {b : UInt8} {l : List UInt8} (h : b ∉ l) : spl b l = [l] := by unfold spl; rw [spl2_none _ h]; rfl
theorem spl_first {b : UInt8} {p r : List UInt8} (h : b ∉ p) : spl b (p ++ b :: r) = p :: spl b r := by unfold spl; rw [spl2_first _ _ h]; rfl
theorem spl2_ne (b : UInt8) : ∀ (l cur : List UInt8), spl2 b cur l ≠ []
  | [], cur => by rw [spl2]; simp
  | c :: t, cur => by
    rw [spl2]
    split
    · simp
    · exact spl2_ne b t _
theorem spl_one {b : UInt8} {l : List UInt8} (h : (spl b l).length = 1) : b ∉ l := fun hm => by
  obtain ⟨p, r, rfl, h2⟩ := split_at hm
  rw [spl_first h2, List.length_cons] at h
  have := List.length_pos_iff.2 (spl2_ne b r [])
  unfold spl at h
  omega
/-- two parts -/
theorem spl_two {b : UInt8} {l p r : List UInt8} (h : spl b l = [p, r]) : l = p ++ b :: r ∧ b ∉ p ∧ b ∉ r := by
  by_cases hm : b ∈ l
  · obtain ⟨p', r', rfl, h2⟩ := split_at hm
    rw [spl_first h2] at h
    injection h with h3 h4
    have h5 : b ∉ r' := spl_one (by rw [h4]; rfl)
    rw [spl_none h5] at h4
    injection h4 with h4
    subst h3 h4
    exact ⟨rfl, h2, h5⟩
  · rw [spl_none hm] at h
    injection h with _ h
    cases h
theorem spl2_len (b : UInt8) : ∀ (l cur : List UInt8), (spl2 b cur l).length ≤ l.length + 1
  | [], cur => by rw [spl2]; simp
  | c :: t, cur => by
    rw [spl2]
    split
    · rw [List.length_cons, List.length_cons]
      have := spl2_len b t []
      omega
    · have := spl2_len b t (cur ++ [c])
      rw [List.length_cons]
      omega
theorem spl2_part (b : UInt8) : ∀ (l cur : List UInt8), ∀ x ∈ spl2 b cur l, x.length ≤ cur.length + l.length
  | [], cur, x, hx => by
    rw [spl2, List.mem_singleton] at hx
    rw [hx]
    omega
  | c :: t, cur, x, hx => by
    rw [spl2] at hx
    rw [List.length_cons]
    split at hx
    · rcases List.mem_cons.1 hx with rfl | hx
      · omega
      · have := spl2_part b t [] x hx
        simp at this
        omega
    · have := spl2_part b t (cur ++ [c]) x hx
      rw [List.length_append, List.length_singleton] at this
      omega
theorem spl_len (b : UInt8) (l : List UInt8) : (spl b l).length ≤ l.length + 1 ∧ 0 < (spl b l).length := ⟨spl2_len b l [], List.length_pos_iff.2 (spl2_ne b l [])⟩
theorem spl_part {b : UInt8} {l x : List UInt8} (h : x ∈ spl b l) : x.length ≤ l.length := by
  have := spl2_part b l [] x h
  simpa using this
/-- what stands in the loop: the parts so far, and where the next one begins -/
def SplAt (b : UInt8) (l : List UInt8) (o : List (List UInt8)) (f i : Nat) : Prop := f ≤ i ∧ i ≤ l.length ∧ spl b l = o ++ spl2 b ((l.drop f).take (i - f)) (l.drop i) ∧ o.length ≤ i
section
variable {b : UInt8} {l : List UInt8} {o : List (List UInt8)} {f i : Nat}
theorem splAt_zero (b : UInt8) (l : List UInt8) : SplAt b l [] 0 0 := ⟨Nat.le_refl _, Nat.zero_le _, rfl, Nat.le_refl _⟩
theorem drop_cons_ {x : UInt8} (h : l[i]? = some x) : l.drop i = x :: l.drop (i + 1) := by
  obtain ⟨hi, e⟩ := List.getElem?_eq_some_iff.1 h
  rw [List.drop_eq_getElem_cons hi, e]
theorem SplAt.hit {x : UInt8} (h : SplAt b l o f i) (hx : l[i]? = some x) (e : x = b) : SplAt b l (o ++ [(l.drop f).take (i - f)]) (i + 1) (i + 1) := by
  obtain ⟨h1, h2, h3, h4⟩ := h
  have hi := (List.getElem?_eq_some_iff.1 hx).1
  refine ⟨Nat.le_refl _, hi, ?_, by simp; omega⟩
  rw [h3, drop_cons_ hx, spl2, if_pos e, Nat.sub_self, List.take_zero, List.append_assoc]
  rfl
theorem SplAt.miss {x : UInt8} (h : SplAt b l o f i) (hx : l[i]? = some x) (e : ¬ x = b) : SplAt b l o f (i + 1) := by
  obtain ⟨h1, h2, h3, h4⟩ := h
  have hi := (List.getElem?_eq_some_iff.1 hx).1
  refine ⟨by omega, hi, ?_, by omega⟩
  have e2 : (l.drop f).take (i + 1 - f) = (l.drop f).take (i - f) ++ [x] := by
    rw [show i + 1 - f = i - f + 1 by omega, List.take_add_one, List.getElem?_drop, show f + (i - f) = i by omega, hx]
    rfl
  rw [h3, drop_cons_ hx, spl2, if_neg e, e2]
theorem SplAt.done (h : SplAt b l o f l.length) : spl b l = o ++ [l.drop f] := by
  obtain ⟨h1, h2, h3, h4⟩ := h
  rw [h3, List.drop_length, spl2, List.take_of_length_le (by rw [List.length_drop]; omega)]
end

section
variable {P : Program} (W : World) (t : TypeId) (ht : P.underlying t = some .string)
include ht
theorem str_len_ (ty : TypeId) (l : List UInt8) : (Builtin.len_ #[t] ty #[str l]).run P W = .ok (goInt l.length) W := by
  unfold str
  rw [run_len_string (P := P) W t ty ⟨l.toArray⟩ ht]
  rfl
theorem str_at_ {l : List UInt8} {k : Nat} {x : UInt8} (h : l[k]? = some x) : (Instr.index t (str l) (.int .i64 (k : Int))).run P W = .ok (.int .u8 (x.toNat : Int)) W := by
  unfold str
  have hk := (List.getElem?_eq_some_iff.1 h).1
  have hs : (⟨l.toArray⟩ : ByteArray).size = l.length := rfl
  rw [run_index_string (P := P) W t ⟨l.toArray⟩ .i64 (k : Int) ht, dif_pos ⟨by omega, by rw [hs]; omega⟩]
  obtain ⟨h1, h2⟩ := List.getElem?_eq_some_iff.1 h
  rw [← h2]
  rfl
theorem str_cut_ {l : List UInt8} {i j : Nat} (h1 : i ≤ j) (h2 : j ≤ l.length) : (Instr.slice t (str l) (some (.int .i64 (i : Int))) (some (.int .i64 (j : Int))) none).run P W = .ok (str ((l.drop i).take (j - i))) W := by
  unfold str
  have hs : (⟨l.toArray⟩ : ByteArray).size = l.length := rfl
  rw [run_slice_string (P := P) W t ⟨l.toArray⟩ .i64 .i64 i j ht (by omega) (by omega) (by rw [hs]; omega), ByteArray.extract_mk]
  rfl
theorem str_from_ {l : List UInt8} {i : Nat} (h1 : i ≤ l.length) : (Instr.slice t (str l) (some (.int .i64 (i : Int))) none none).run P W = .ok (str (l.drop i)) W := by
  unfold str
  have hs : (⟨l.toArray⟩ : ByteArray).size = l.length := rfl
  rw [run_slice_string_l (P := P) W t ⟨l.toArray⟩ ht .i64 i (by omega) (by rw [hs]; omega), ByteArray.extract_mk, hs, Int.toNat_natCast, List.take_of_length_le (by rw [List.length_drop]; omega)]
theorem str_to_ {l : List UInt8} {j : Nat} (h1 : j ≤ l.length) : (Instr.slice t (str l) none (some (.int .i64 (j : Int))) none).run P W = .ok (str (l.take j)) W := by
  unfold str
  have hs : (⟨l.toArray⟩ : ByteArray).size = l.length := rfl
  rw [run_slice_string_h (P := P) W t ⟨l.toArray⟩ ht .i64 j (by omega) (by rw [hs]; omega), ByteArray.extract_mk, Int.toNat_natCast, List.drop_zero, Nat.sub_zero]
end

/-- A function that hands back a row of texts of its own. -/
def RetTexts (w : World) (ts : List (List UInt8)) (e : Ending) (w' : World) : Prop :=
  ∃ A c, e = .returned (.slice A ts.length c) ∧ Own strE w' w.heap.size A c ts ∧ Below w.heap.size w w'

set_option maxRecDepth 20000 in
set_option maxHeartbeats 4000000 in
theorem l01Split_any (l : List UInt8) (b : UInt8) (w : World) (hn : l.length ≤ 1048576) :
    Calls Tryz.prog 46 #[str l, .int .u8 (b.toNat : Int)] w (RetTexts w (spl b l)) := by
  have hsp := spl_len b l
  have own0 : Own strE (w.alloc (.cells #[] 9)) w.heap.size (some ⟨w.heap.size, 0, none⟩) 0 [] := Own.new (E := strE) w [] #[] rfl (Nat.le_refl _) (by simp)
  have hlen := fun (W : World) => str_len_ (P := Tryz.prog) W 9 Tryz.underlying9 3 l
  go_enter Tryz.func46, Tryz.ntmps46
  go_wp2_with fail
  go_loopw [5, 6, 7] (fun s5 s6 s7 wr => ∃ (f i : Nat) (A1 : Option Addr) (c1 : Nat) (o : List (List UInt8)), i ≤ l.length ∧ f ≤ i ∧ o.length ≤ i ∧ s7 = .int .i64 (i : Int) ∧ s6 = .int .i64 (f : Int) ∧ s5 = .slice A1 o.length c1 ∧ Hid (SplAt b l o f i) ∧ Own strE wr w.heap.size A1 c1 o ∧ Below w.heap.size w wr) (fun _ _ s7 _ => l.length - (intOf s7).toNat)
  case atStart => exact ⟨0, 0, _, 0, [], Nat.zero_le _, Nat.le_refl _, Nat.le_refl _, rfl, rfl, rfl, hide (splAt_zero b l), own0, (Below.refl _ _).alloc (Nat.le_refl _) _⟩
  case round =>
    clear own0
    obtain ⟨f, i, A1, c1, o, hi, hf, ho, rfl, rfl, rfl, hsp2, own, hB⟩ := hrel
    have hz := hB.size
    by_cases hlt : i < l.length
    · obtain ⟨x, hx⟩ : ∃ x, l[i]? = some x := ⟨_, List.getElem?_eq_getElem hlt⟩
      have hat := fun (W : World) => str_at_ (P := Tryz.prog) W 9 Tryz.underlying9 hx
      have hil : (i : Int) < (l.length : Int) := by omega
      by_cases e : x = b
      · have HH := hide (hsp2.out.hit hx e)
        have e1 : (((x.toNat : Nat) : Int) == ((b.toNat : Nat) : Int)) = true := by rw [e]; simp
        have hcut := fun (W : World) => str_cut_ (P := Tryz.prog) W 9 Tryz.underlying9 (l := l) (i := f) (j := i) hf (by omega)
        obtain ⟨y, hy⟩ : ∃ y, y = (l.drop f).take (i - f) := ⟨_, rfl⟩
        have hyl : y.length ≤ l.length := by rw [hy, List.length_take, List.length_drop]; omega
        rw [← hy] at hcut HH
        clear hy hx e hsp2
        have s1 := str_cells y
        unfold Value.cells at s1
        go_wp2_with (at_builtin; refine wpList_append_row strE rfl (.tmp 20) (.tmp 25) rfl w.heap.size A1 c1 o rfl (own.alloc _) (some ⟨wr.heap.size, 0, none⟩) 1 [y] rfl (RG.fresh (E := strE) _ _ rfl _ #[str y] rfl _) (by simp; omega) (by simp [strE]; omega) (by simp; omega) (o ++ [y]) rfl ?_; intro A3 c3 w3 own3 hg3 hb3)
        go_roundw
        case rel => exact ⟨i + 1, i + 1, A3, c3, o ++ [y], by omega, Nat.le_refl _, by simp; omega, by go_num, by go_num, by simp, HH, own3, (hB.alloc hz _).grown hg3 (by simp; omega) (fun q hq => (own.ge hq).1)⟩
        case measure => simp [intOf]; omega
      · have HH := hide (hsp2.out.miss hx e)
        have e1 : (((x.toNat : Nat) : Int) == ((b.toNat : Nat) : Int)) = false := by
          rw [beq_eq_false_iff_ne]
          intro h
          exact e (UInt8.toNat_inj.1 (by omega))
        clear hx e hsp2
        go_wp2_with fail
        go_roundw
        case rel => exact ⟨f, i + 1, A1, c1, o, by omega, by omega, by omega, by go_num, rfl, rfl, HH, own, hB⟩
        case measure => simp [intOf]; omega
    · obtain rfl : i = l.length := by omega
      have HH := hide hsp2.out.done
      have hcut := fun (W : World) => str_from_ (P := Tryz.prog) W 9 Tryz.underlying9 (l := l) (i := f) hf
      have hil : ¬ ((l.length : Int) < (l.length : Int)) := by omega
      obtain ⟨y, hy⟩ : ∃ y, y = l.drop f := ⟨_, rfl⟩
      have hyl : y.length ≤ l.length := by rw [hy, List.length_drop]; omega
      rw [← hy] at hcut HH
      clear hy hsp2
      have s1 := str_cells y
      unfold Value.cells at s1
      go_wp2_with (at_builtin; refine wpList_append_row strE rfl (.tmp 29) (.tmp 33) rfl w.heap.size A1 c1 o rfl (own.alloc _) (some ⟨wr.heap.size, 0, none⟩) 1 [y] rfl (RG.fresh (E := strE) _ _ rfl _ #[str y] rfl _) (by simp; omega) (by simp [strE]; omega) (by simp; omega) (o ++ [y]) rfl ?_; intro A3 c3 w3 own3 hg3 hb3)
      go_ret
      rw [HH.out]
      exact ⟨A3, c3, by simp, own3, (hB.alloc hz _).grown hg3 (by simp; omega) (fun q hq => (own.ge hq).1)⟩
set_option maxRecDepth 20000 in
set_option maxHeartbeats 4000000 in
theorem splitAt_any (l : List UInt8) (b : UInt8) (w : World) (hn : l.length ≤ 1048576) :
    Calls Tryz.prog 40 #[str l, .int .u8 (b.toNat : Int)] w (RetTexts w (spl b l)) := by
  have hsp := spl_len b l
  have own0 : Own strE (w.alloc (.cells #[] 9)) w.heap.size (some ⟨w.heap.size, 0, none⟩) 0 [] := Own.new (E := strE) w [] #[] rfl (Nat.le_refl _) (by simp)
  have hlen := fun (W : World) => str_len_ (P := Tryz.prog) W 9 Tryz.underlying9 3 l
  go_enter Tryz.func40, Tryz.ntmps40
  go_wp2_with fail
  go_loopw [5, 6, 11] (fun s5 s6 s7 wr => ∃ (f i : Nat) (A1 : Option Addr) (c1 : Nat) (o : List (List UInt8)), i ≤ l.length ∧ f ≤ i ∧ o.length ≤ i ∧ s7 = .int .i64 (i : Int) ∧ s6 = .int .i64 (f : Int) ∧ s5 = .slice A1 o.length c1 ∧ Hid (SplAt b l o f i) ∧ Own strE wr w.heap.size A1 c1 o ∧ Below w.heap.size w wr) (fun _ _ s7 _ => l.length - (intOf s7).toNat)
  case atStart => exact ⟨0, 0, _, 0, [], Nat.zero_le _, Nat.le_refl _, Nat.le_refl _, rfl, rfl, rfl, hide (splAt_zero b l), own0, (Below.refl _ _).alloc (Nat.le_refl _) _⟩
  case round =>
    clear own0
    obtain ⟨f, i, A1, c1, o, hi, hf, ho, rfl, rfl, rfl, hsp2, own, hB⟩ := hrel
    have hz := hB.size
    by_cases hlt : i < l.length
    · obtain ⟨x, hx⟩ : ∃ x, l[i]? = some x := ⟨_, List.getElem?_eq_getElem hlt⟩
      have hat := fun (W : World) => str_at_ (P := Tryz.prog) W 9 Tryz.underlying9 hx
      have hil : (i : Int) < (l.length : Int) := by omega
      by_cases e : x = b
      · have HH := hide (hsp2.out.hit hx e)
        have e1 : (((x.toNat : Nat) : Int) == ((b.toNat : Nat) : Int)) = true := by rw [e]; simp
        have hcut := fun (W : World) => str_cut_ (P := Tryz.prog) W 9 Tryz.underlying9 (l := l) (i := f) (j := i) hf (by omega)
        obtain ⟨y, hy⟩ : ∃ y, y = (l.drop f).take (i - f) := ⟨_, rfl⟩
        have hyl : y.length ≤ l.length := by rw [hy, List.length_take, List.length_drop]; omega
        rw [← hy] at hcut HH
        clear hy hx e hsp2
        have s1 := str_cells y
        unfold Value.cells at s1
        go_wp2_with (at_builtin; refine wpList_append_row strE rfl (.tmp 19) (.tmp 24) rfl w.heap.size A1 c1 o rfl (own.alloc _) (some ⟨wr.heap.size, 0, none⟩) 1 [y] rfl (RG.fresh (E := strE) _ _ rfl _ #[str y] rfl _) (by simp; omega) (by simp [strE]; omega) (by simp; omega) (o ++ [y]) rfl ?_; intro A3 c3 w3 own3 hg3 hb3)
        go_roundw
        case rel => exact ⟨i + 1, i + 1, A3, c3, o ++ [y], by omega, Nat.le_refl _, by simp; omega, by go_num, by go_num, by simp, HH, own3, (hB.alloc hz _).grown hg3 (by simp; omega) (fun q hq => (own.ge hq).1)⟩
        case measure => simp [intOf]; omega
      · have HH := hide (hsp2.out.miss hx e)
        have e1 : (((x.toNat : Nat) : Int) == ((b.toNat : Nat) : Int)) = false := by
          rw [beq_eq_false_iff_ne]
          intro h
          exact e (UInt8.toNat_inj.1 (by omega))
        clear hx e hsp2
        go_wp2_with fail
        go_roundw
        case rel => exact ⟨f, i + 1, A1, c1, o, by omega, by omega, by omega, by go_num, rfl, rfl, HH, own, hB⟩
        case measure => simp [intOf]; omega
    · obtain rfl : i = l.length := by omega
      have HH := hide hsp2.out.done
      have hcut := fun (W : World) => str_from_ (P := Tryz.prog) W 9 Tryz.underlying9 (l := l) (i := f) hf
      have hil : ¬ ((l.length : Int) < (l.length : Int)) := by omega
      obtain ⟨y, hy⟩ : ∃ y, y = l.drop f := ⟨_, rfl⟩
      have hyl : y.length ≤ l.length := by rw [hy, List.length_drop]; omega
      rw [← hy] at hcut HH
      clear hy hsp2
      have s1 := str_cells y
      unfold Value.cells at s1
      go_wp2_with (at_builtin; refine wpList_append_row strE rfl (.tmp 29) (.tmp 33) rfl w.heap.size A1 c1 o rfl (own.alloc _) (some ⟨wr.heap.size, 0, none⟩) 1 [y] rfl (RG.fresh (E := strE) _ _ rfl _ #[str y] rfl _) (by simp; omega) (by simp [strE]; omega) (by simp; omega) (o ++ [y]) rfl ?_; intro A3 c3 w3 own3 hg3 hb3)
      go_ret
      rw [HH.out]
      exact ⟨A3, c3, by simp, own3, (hB.alloc hz _).grown hg3 (by simp; omega) (fun q hq => (own.ge hq).1)⟩
end Go.Proofs.YtocellbhpjiioaaGreat
