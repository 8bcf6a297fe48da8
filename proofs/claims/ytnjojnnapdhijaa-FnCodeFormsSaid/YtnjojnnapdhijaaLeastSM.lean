/-
  Plain lemmas: the least code of a single curve. Conditions: none; nothing of the program is named here.
  Words for regions whose callees may lay blocks: they are XBel's. Conditions: none; nothing of the program is named here.
  Contracts: RenameCode, of the program and of the reference. Conditions: none beyond the lengths.
  Contract: LeastCode, of the reference. Conditions: none beyond the lengths.
-/
import Derived.Test.YtnjojnnapdhijaaMoveMathM
import Derived.Test.YtnjojnnapdhijaaCmpM
import Derived.Test.YtnjojnnapdhijaaBel
import Derived.Test.YtnjojnnapdhijaaDrawDM
import Derived.Test.YtnjojnnapdhijaaRet
import Derived.BigQuiet
namespace Go.Proofs.Ytnjojnnapdhijaa
open Go.RowKit
set_option linter.unusedVariables false

/-- the row of the renamed code of one curve -/
def renL (l : List Int) : List Int := renRow (numF (numsL l)) l
theorem renameC_one (l : List Int) : renameC [l] = [renL l] := by
  unfold renameC renL renC
  simp
theorem rotL_eq {xs : List Int} {a : Nat} (ha : a < xs.length) : xs.drop a ++ xs.take a = turnL xs a false := by
  apply List.ext_getElem?
  intro k
  unfold turnL
  rw [List.getElem?_map]
  by_cases hk : k < xs.length
  · rw [List.getElem?_range hk, Option.map_some]
    unfold turnX
    rw [if_neg (by simp)]
    rw [List.getElem?_append]
    have hl : (xs.drop a).length = xs.length - a := List.length_drop
    rw [hl]
    split
    · rename_i h
      have e : (a + k) % xs.length = a + k := Nat.mod_eq_of_lt (by omega)
      rw [e, List.getElem?_drop, List.getD_eq_getElem?_getD, List.getElem?_eq_getElem (show a + k < xs.length by omega)]
      rfl
    · rename_i h
      have e : (a + k) % xs.length = a + k - xs.length := by
        rw [Nat.mod_eq_sub_mod (by omega)]
        exact Nat.mod_eq_of_lt (by omega)
      rw [e, List.getElem?_take_of_lt (by omega), show k - (xs.length - a) = a + k - xs.length by omega, List.getD_eq_getElem?_getD, List.getElem?_eq_getElem (show a + k - xs.length < xs.length by omega)]
      rfl
  · rw [List.getElem?_eq_none (by simp; omega), List.getElem?_eq_none (by simp; omega)]
    rfl
theorem rev_turn {xs : List Int} {a : Nat} (ha : a < xs.length) : turnL xs.reverse a false = turnL xs (xs.length - 1 - a) true := by
  unfold turnL
  rw [List.length_reverse]
  apply List.map_congr_left
  intro k hk
  have hk := List.mem_range.1 hk
  unfold turnX
  rw [if_neg (by simp), if_pos rfl, List.length_reverse]
  have h1 : (a + k) % xs.length < xs.length := Nat.mod_lt _ (by omega)
  have h2 : (xs.length - 1 - a + xs.length - k) % xs.length = xs.length - 1 - (a + k) % xs.length := by
    by_cases h : a + k < xs.length
    · rw [Nat.mod_eq_of_lt h, Nat.mod_eq_sub_mod (by omega), Nat.mod_eq_of_lt (by omega)]
      omega
    · rw [Nat.mod_eq_sub_mod (show xs.length ≤ a + k by omega), Nat.mod_eq_of_lt (show a + k - xs.length < xs.length by omega), Nat.mod_eq_of_lt (by omega)]
      omega
  rw [h2, List.getD_eq_getElem?_getD, List.getD_eq_getElem?_getD, List.getElem?_reverse h1]
/-- the lists that the program tries, as far as row i, index k -/
def triI (xs : List Int) : List (List Int) := (List.range xs.length).map fun a => renL (xs.drop a ++ xs.take a)
def triS (xs : List Int) (m : Nat) : List (List Int) := ((List.range m).map fun a => [renL (turnL xs a false), renL (turnL xs a true)]).flatten
def leastR (xs : List Int) : List Int := leastL (renL xs) (triS xs xs.length)
theorem tri_same {xs : List Int} : leastL (renL xs) (triI xs ++ triI xs.reverse) = leastR xs := by
  unfold leastR
  refine leastL_same fun y => ?_
  rw [List.mem_append]
  unfold triI triS
  rw [List.mem_flatten, List.length_reverse]
  constructor
  · rintro (h | h)
    · obtain ⟨a, ha, rfl⟩ := List.mem_map.1 h
      have ha := List.mem_range.1 ha
      exact ⟨_, List.mem_map.2 ⟨a, List.mem_range.2 ha, rfl⟩, by rw [rotL_eq ha]; simp⟩
    · obtain ⟨a, ha, rfl⟩ := List.mem_map.1 h
      have ha := List.mem_range.1 ha
      refine ⟨_, List.mem_map.2 ⟨xs.length - 1 - a, List.mem_range.2 (by omega), rfl⟩, ?_⟩
      rw [rotL_eq (by simpa using ha), rev_turn ha]
      simp
  · rintro ⟨l, hl, hy⟩
    obtain ⟨a, ha, rfl⟩ := List.mem_map.1 hl
    have ha := List.mem_range.1 ha
    rcases List.mem_cons.1 hy with rfl | hy
    · exact .inl (List.mem_map.2 ⟨a, List.mem_range.2 ha, by rw [rotL_eq ha]⟩)
    · rw [List.mem_singleton] at hy
      subst hy
      refine .inr (List.mem_map.2 ⟨xs.length - 1 - a, List.mem_range.2 (by omega), ?_⟩)
      rw [rotL_eq (by rw [List.length_reverse]; omega), rev_turn (by omega), show xs.length - 1 - (xs.length - 1 - a) = a by omega]
theorem triS_next (xs : List Int) (m : Nat) : triS xs (m + 1) = triS xs m ++ [renL (turnL xs m false)] ++ [renL (turnL xs m true)] := by
  unfold triS
  rw [List.range_succ, List.map_append, List.flatten_append]
  simp
def triTo (xs : List Int) (m : Nat) : List (List Int) := (List.range m).map fun a => renL (xs.drop a ++ xs.take a)
theorem triTo_next (xs : List Int) (m : Nat) : triTo xs (m + 1) = triTo xs m ++ [renL (xs.drop m ++ xs.take m)] := by
  unfold triTo
  rw [List.range_succ, List.map_append]
  rfl
theorem turnL_mem {xs : List Int} {a : Nat} {b : Bool} {x : Int} (h : x ∈ turnL xs a b) : x ∈ xs := by
  unfold turnL at h
  obtain ⟨k, hk, rfl⟩ := List.mem_map.1 h
  have hk := List.mem_range.1 hk
  unfold turnX
  have key : ∀ m, m < xs.length → xs.getD m 0 ∈ xs := fun m hm => by
    rw [getD_at (List.getElem?_eq_getElem hm)]
    exact List.getElem_mem hm
  split
  · exact key _ (Nat.mod_lt _ (by omega))
  · exact key _ (Nat.mod_lt _ (by omega))
theorem turnL_len (xs : List Int) (a : Nat) (b : Bool) : (turnL xs a b).length = xs.length := by simp [turnL]
theorem renL_len (l : List Int) : (renL l).length ≤ l.length := renRow_len _ _
theorem leastL_len {b : List Int} {l : List (List Int)} {n : Nat} (hb : b.length ≤ n) (h : ∀ x ∈ l, x.length ≤ n) : (leastL b l).length ≤ n := by
  rcases leastL_mem l b with e | e
  · rw [e]; exact hb
  · exact h _ e
theorem leastOf_yes {b x : List Int} (h : cmpL x b < 0) : leastOf b x = x := by unfold leastOf; rw [if_pos h]
theorem leastOf_no {b x : List Int} (h : ¬ cmpL x b < 0) : leastOf b x = b := by unfold leastOf; rw [if_neg h]
end Go.Proofs.Ytnjojnnapdhijaa

namespace Go.Proofs.Ytnjojnnapdhijaa
open Go.RowKit
set_option linter.unusedVariables false
theorem below_words : True := trivial
end Go.Proofs.Ytnjojnnapdhijaa

namespace Go.Proofs.Ytnjojnnapdhijaa
open Go.RowKit
set_option linter.unusedVariables false

set_option maxRecDepth 100000 in
set_option maxHeartbeats 4000000 in
theorem renameCode_any (A : Option Addr) (c T : Nat) (code : List (List Int)) (w : World) (hc : RC w T A code) (hn : code.length + sumLen code ≤ 1048576)
    (hI : ∀ xs ∈ code, ∀ x ∈ xs, -9223372036854775808 < x ∧ x ≤ 9223372036854775807) :
    Calls Try.prog 70 #[.slice A code.length c] w (RetC w (renameC code)) := by
  have hmm := @run_makeMap Try.prog
  have HI := hide hI
  have hlen : ∀ l, l = numsL code.flatten → l.length ≤ 1048576 := fun l e => by
    have := numsL_len code.flatten
    rw [flatten_len] at this
    rw [e]
    omega
  have HLEN := hide hlen
  clear hI hlen
  go_enter Try.func70, Try.ntmps70
  go_wp2_with fail
  go_loopw [13] (fun s5 wr => ∃ (i : Nat) (l : List (Int × Int)), i ≤ code.length ∧ s5 = .int .i64 i ∧ Hid (l = numsL (upTo code i 0)) ∧ Mp nmE wr w.heap.size l ∧ Below w.heap.size w wr) (fun s5 _ => code.length - (intOf s5).toNat)
  case atStart => exact ⟨0, [], Nat.zero_le _, rfl, hide (by rw [upTo_zero]; rfl), Mp.made w _ rfl, (Below.refl _ _).alloc (Nat.le_refl _) _⟩
  case round =>
    clear hmm
    obtain ⟨i, l, hi, rfl, hl, hmp, hB⟩ := hrel
    obtain ⟨wo, rfl⟩ : ∃ wo : World, wo = wr := ⟨_, rfl⟩
    by_cases hlt : i < code.length
    · obtain ⟨b, off, B, d, xs, rfl, hb, hx, hce, hd1, hd2, hr⟩ := hc.row hlt
      have hce1 := (hB.cell (p := ⟨b, off + i, none⟩) hb).trans hce
      have hxl := sumLen_row hx
      have HX := hide hx
      clear hx hd1 hd2
      go_wp2_with fail
      go_loopw [19] (fun s6 wr => ∃ (k : Nat) (l : List (Int × Int)), k ≤ xs.length ∧ s6 = .int .i64 k ∧ Hid (l = numsL (upTo code i k)) ∧ Mp nmE wr w.heap.size l ∧ Below w.heap.size w wr) (fun s6 _ => xs.length - (intOf s6).toNat)
      case atStart => exact ⟨0, l, Nat.zero_le _, rfl, hl, hmp, hB⟩
      case round =>
        clear hl hmp hce1 hB
        obtain ⟨k, l, hk, rfl, hl, hmp, hB⟩ := hrel
        have hr2 := hr.below hB
        have hz := hB.size
        by_cases hkl : k < xs.length
        · obtain ⟨b2, off2, x, rfl, hb2, hx, hcx⟩ := hr2.at_ hkl
          obtain ⟨i1, i2⟩ := HI.out xs (List.mem_of_getElem? HX.out) x (List.mem_of_getElem? hx)
          have hnx : numsL (upTo code i (k + 1)) = numStep l (crI x) := by rw [upTo_next HX.out hx, numsL_snoc, ← hl.out]
          cases hlx : l.lookup (crI x) with
          | none =>
            have HL : Hid (l ++ [(crI x, (l.length : Int))] = numsL (upTo code i (k + 1))) := hide (by rw [hnx]; unfold numStep; rw [if_pos hlx])
            obtain ⟨k0, k1⟩ := hmp.look_nm (x := crI x) (v := 0) (o := false) (by rw [hlx]; rfl) (by rw [hlx]; rfl)
            have hln : (Builtin.len_ #[120] 3 #[.map (some w.heap.size)]).run Try.prog wr = .ok (.int .i64 (l.length : Int)) wr := hmp.len _
            have HN := hide hlx
            clear hx hlx hnx
            go_wp2_with (first
              | (go_at_call 85; refine (crossingOf_any _ _ i1 i2).mono ?_; rintro e w' ⟨rfl, rfl⟩)
              | (at_mapUpdate; refine wpList_put rfl (.tmp 32) (.tmp 34) (.tmp 36) nmE rfl w.heap.size l rfl hmp (crI x) rfl (l.length : Int) rfl HN.out ?_; intro w2 hmp2 hg2))
            go_roundw
            case rel => exact ⟨k + 1, _, by omega, by go_num, HL, hmp2, hB.grown hg2 hz (fun k hk => by injection hk with hk; omega)⟩
            case measure => simp [intOf]; omega
          | some v =>
            have HL : Hid (l = numsL (upTo code i (k + 1))) := hide (by rw [hnx]; unfold numStep; rw [if_neg (by rw [hlx]; simp)])
            obtain ⟨k0, k1⟩ := hmp.look_nm (x := crI x) (v := v) (o := true) (by rw [hlx]; rfl) (by rw [hlx]; rfl)
            clear hx hlx hnx
            go_wp2_with (go_at_call 85; refine (crossingOf_any _ _ i1 i2).mono ?_; rintro e w' ⟨rfl, rfl⟩)
            go_roundw
            case rel => exact ⟨k + 1, l, by omega, by go_num, HL, hmp, hB⟩
            case measure => simp [intOf]; omega
        · have HL : Hid (l = numsL (upTo code (i + 1) 0)) := hide (by rw [← upTo_row (k := k) HX.out (by omega)]; exact hl.out)
          go_wp2_with fail
          go_roundw
          case rel => exact ⟨i + 1, l, by omega, by go_num, HL, hmp, hB⟩
          case measure => simp [intOf]; omega
    · have hl' := hl.out
      rw [upTo_all (by omega)] at hl'
      have HL := hide hl'
      have HV : Hid (renC (numF l) code = renameC code) := hide (by unfold renameC; rw [hl'])
      have HB : Hid (∀ c v, l.lookup c = some v → 0 ≤ v ∧ v ≤ 1048576) := hide (fun c v hcv => by
        have h1 := numsL_ok code.flatten
        rw [← hl'] at h1
        have h2 := h1 c v hcv
        have h3 := HLEN.out l hl'
        omega)
      clear hl hl'
      go_wp2_with fail
      refine (renamed_any _ _ T _ l code _ (hc.below hB) hn hmp HI.out HB.out).mono ?_
      rw [HV.out]
      rintro e w2 ⟨A2, c2, rfl, own, hb2⟩
      have hB2 := hB.trans (hb2.mono hB.size)
      have hzz := hB.size
      go_wp2_with fail
      go_ret
      exact ⟨A2, c2, rfl, own.mono hzz (Nat.le_refl _), hB2⟩

def renR (code : List (List Int)) : List (List Int) × Int := if validC code = true then (renameC code, 0) else ([], 1)
theorem renR_len (code : List (List Int)) (hn : code.length + sumLen code ≤ 1048576) : (renR code).1.length + sumLen (renR code).1 ≤ 1048576 := by
  unfold renR
  split
  · have h1 := renC_sum (numF (numsL code.flatten)) code
    have h2 := renC_length (numF (numsL code.flatten)) code
    unfold renameC
    dsimp only
    omega
  · simp [sumLen]
theorem valid_ints {code : List (List Int)} (hv : validC code = true) : ∀ xs ∈ code, ∀ x ∈ xs, x ≠ 0 ∧ -((sumLen code / 2 : Nat) : Int) ≤ x ∧ x ≤ ((sumLen code / 2 : Nat) : Int) := fun xs hxs x hx => by
  obtain ⟨N, h1, h2, h3, h4⟩ := validC_true hv
  have e : sumLen code / 2 = N := by omega
  rw [e]
  exact h4.2 x (List.mem_flatten.2 ⟨xs, hxs, hx⟩)
theorem valid_wide {code : List (List Int)} (hv : validC code = true) : ∀ xs ∈ code, ∀ x ∈ xs, -9223372036854775808 < x ∧ x ≤ 9223372036854775807 := fun xs hxs x hx => by
  obtain ⟨N, h1, h2, h3, h4⟩ := validC_true hv
  have := h4.2 x (List.mem_flatten.2 ⟨xs, hxs, hx⟩)
  omega
theorem implRename_any (A : Option Addr) (c T : Nat) (code : List (List Int)) (w : World) (hc : RC w T A code) (hn : code.length + sumLen code ≤ 1048576) :
    Calls Try.prog 21 #[.slice A code.length c] w (RetCC w (renR code).1 (renR code).2) := by
  cases hv : validC code
  · have HV : Hid (renR code = ([], 1)) := hide (by unfold renR; rw [if_neg (by rw [hv]; simp)])
    go_enter Try.func21, Try.ntmps21
    go_wp2_with fail
    refine (validCode_any _ _ T code _ hc hn).mono ?_
    rw [hv]
    rintro e w1 ⟨rfl, hb1⟩
    go_wp2_with fail
    refine bodyPost_ret (v := .tuple #[.slice none 0 0, .int .i64 1]) (by simp [results, Try.results21, go_sem]) rfl ?_
    rw [HV.out]
    exact ⟨none, 0, rfl, OwnC.nil _ _ _, hb1⟩
  · have HV : Hid (renR code = (renameC code, 0)) := hide (by unfold renR; rw [if_pos hv])
    have hv2 := hide (valid_wide hv)
    obtain ⟨zs, hzs⟩ : ∃ zs, zs = renameC code := ⟨_, rfl⟩
    have HZ := hide hzs
    go_enter Try.func21, Try.ntmps21
    go_wp2_with fail
    refine (validCode_any _ _ T code _ hc hn).mono ?_
    rw [hv]
    rintro e w1 ⟨rfl, hb1⟩
    clear hv
    go_wp2_with fail
    refine (renameCode_any _ _ T code _ (hc.below hb1) hn hv2.out).mono ?_
    rw [← hzs]
    rintro e w2 ⟨A2, c2, rfl, own, hb2⟩
    have hB := hb1.trans (hb2.mono hb1.size)
    clear hzs
    go_wp2_with fail
    refine bodyPost_ret (v := .tuple #[.slice A2 zs.length c2, .int .i64 0]) (by simp [results, Try.results21, go_sem]) rfl ?_
    rw [HV.out, ← HZ.out]
    exact ⟨A2, c2, rfl, own.mono hb1.size (Nat.le_refl _), hB⟩
theorem specRename_any (A : Option Addr) (c T : Nat) (code : List (List Int)) (w : World) (hc : RC w T A code) (hn : code.length + sumLen code ≤ 1048576) :
    Calls Try.prog 22 #[.slice A code.length c] w (RetCC w (renR code).1 (renR code).2) := by
  cases hv : validC code
  · have HV : Hid (renR code = ([], 1)) := hide (by unfold renR; rw [if_neg (by rw [hv]; simp)])
    go_enter Try.func22, Try.ntmps22
    go_wp2_with fail
    refine (l14Ok_any _ _ T code _ hc hn).mono ?_
    rw [hv]
    rintro e w1 ⟨rfl, hb1⟩
    go_wp2_with fail
    refine bodyPost_ret (v := .tuple #[.slice none 0 0, .int .i64 1]) (by simp [results, Try.results22, go_sem]) rfl ?_
    rw [HV.out]
    exact ⟨none, 0, rfl, OwnC.nil _ _ _, hb1⟩
  · have HV : Hid (renR code = (renameC code, 0)) := hide (by unfold renR; rw [if_pos hv])
    have hv2 := hide (valid_ints hv)
    have hv3 := hide (valid_sum hv).2.2
    obtain ⟨zs, hzs⟩ : ∃ zs, zs = renameC code := ⟨_, rfl⟩
    have HZ := hide hzs
    go_enter Try.func22, Try.ntmps22
    go_wp2_with fail
    refine (l14Ok_any _ _ T code _ hc hn).mono ?_
    rw [hv]
    rintro e w1 ⟨rfl, hb1⟩
    clear hv
    go_wp2_with fail
    refine (l15Rename_any _ _ T code _ (hc.below hb1) hn hv3.out hv2.out).mono ?_
    rw [← hzs]
    rintro e w2 ⟨A2, c2, rfl, own, hb2⟩
    have hB := hb1.trans (hb2.mono hb1.size)
    clear hzs
    go_wp2_with fail
    refine bodyPost_ret (v := .tuple #[.slice A2 zs.length c2, .int .i64 0]) (by simp [results, Try.results22, go_sem]) rfl ?_
    rw [HV.out, ← HZ.out]
    exact ⟨A2, c2, rfl, own.mono hb1.size (Nat.le_refl _), hB⟩
end Go.Proofs.Ytnjojnnapdhijaa

namespace Go.Proofs.Ytnjojnnapdhijaa
open Go.RowKit
set_option linter.unusedVariables false

def leastCR (code : List (List Int)) : List (List Int) × Int := if validC code = true then (if code.length = 1 then ([leastR (code.getD 0 [])], 0) else ([], 6)) else ([], 1)
theorem triS_len (xs : List Int) (m : Nat) : ∀ l ∈ triS xs m, l.length ≤ xs.length := fun l hl => by
  unfold triS at hl
  obtain ⟨r, hr, hlr⟩ := List.mem_flatten.1 hl
  obtain ⟨a, ha, rfl⟩ := List.mem_map.1 hr
  have h1 := renL_len (turnL xs a false)
  have h2 := renL_len (turnL xs a true)
  rw [turnL_len] at h1 h2
  rcases List.mem_cons.1 hlr with rfl | h
  · exact h1
  · rw [List.mem_singleton] at h
    subst h
    exact h2
theorem leastR_len (xs : List Int) : (leastR xs).length ≤ xs.length := leastL_len (renL_len xs) (triS_len xs _)
theorem sumLen_one (l : List Int) : sumLen [l] = l.length := by simp [sumLen]
theorem leastCR_len (code : List (List Int)) (hn : code.length + sumLen code ≤ 1048576) : (leastCR code).1.length + sumLen (leastCR code).1 ≤ 1048576 := by
  unfold leastCR
  split
  · split
    · rename_i h1
      obtain ⟨xs, rfl⟩ : ∃ xs, code = [xs] := List.length_eq_one_iff.1 h1
      have := leastR_len xs
      rw [sumLen_one] at hn
      simp only [List.getD_cons_zero, List.length_singleton, sumLen_one] at *
      omega
    · simp [sumLen]
  · simp [sumLen]
theorem RC.one {w : World} {base : Nat} {B : Option Addr} {d : Nat} {l : List Int} (h : OwnI w base B d l) (n : Nat) (hn : n = w.heap.size) : RC (w.alloc (.cells #[.slice B l.length d] 34)) (w.heap.size + 1) (some ⟨n, 0, none⟩) [l] := by
  subst hn
  refine ⟨[⟨B, l.length, d⟩], RG.fresh (E := hdE) w _ rfl ⟨B, l.length, d⟩ #[.slice B l.length d] rfl _, fun g hg _ => by have := blk_inj hg; omega, rfl, fun i hd xs e1 e2 => ?_⟩
  cases i with
  | succ i => simp at e1
  | zero =>
    simp at e1 e2
    subst e1 e2
    have hc := h.cap
    refine ⟨rfl, hc.1, by have := hc.2; unfold maxLen at this; exact this, h.rd.alloc _, fun g hg hn => ?_⟩
    have := (h.ge hg).2
    omega
theorem OwnC.row0 {w : World} {base top : Nat} {A : Option Addr} {c : Nat} {l : List Int} (h : OwnC w base top A c [l]) : ∃ g B d, A = some ⟨g, 0, none⟩ ∧ g < w.heap.size ∧ w.cell? ⟨g, 0, none⟩ = some (.slice B l.length d) ∧ RI w B l := by
  obtain ⟨g, B, d, xs, rfl, _, _, hg, hx, hc, _, ho, _⟩ := h.row (k := 0) (by simp)
  simp at hx
  subst hx
  exact ⟨g, B, d, rfl, hg, hc, ho.rd⟩

set_option maxRecDepth 100000 in
set_option maxHeartbeats 8000000 in
theorem specLeast_any (A : Option Addr) (c T : Nat) (code : List (List Int)) (w : World) (hc : RC w T A code) (hn : code.length + sumLen code ≤ 1048576) :
    Calls Try.prog 25 #[.slice A code.length c] w (RetCC w (leastCR code).1 (leastCR code).2) := by
  cases hv : validC code
  · have HV : Hid (leastCR code = ([], 1)) := hide (by unfold leastCR; rw [if_neg (by rw [hv]; simp)])
    go_enter Try.func25, Try.ntmps25
    go_wp2_with fail
    refine (l14Ok_any _ _ T code _ hc hn).mono ?_
    rw [hv]
    rintro e w1 ⟨rfl, hb1⟩
    clear hv
    go_wp2_with fail
    refine bodyPost_ret (v := .tuple #[.slice none 0 0, .int .i64 1]) (by simp [results, Try.results25, go_sem]) rfl ?_
    rw [HV.out]
    exact ⟨none, 0, rfl, OwnC.nil _ _ _, hb1⟩
  · by_cases h1 : code.length = 1
    · obtain ⟨xs, rfl⟩ : ∃ xs, code = [xs] := List.length_eq_one_iff.1 h1
      have HV : Hid (leastCR [xs] = ([leastR xs], 0)) := hide (by unfold leastCR; rw [if_pos hv, if_pos h1]; rfl)
      obtain ⟨hs1, hs2, hs3⟩ := valid_sum hv
      have hI := hide (valid_ints hv)
      have hN3 := hide hs3
      have HR : Hid (renameC [xs] = [renL xs]) := hide (renameC_one xs)
      obtain ⟨b, off, B, d, ys, rfl, hb, hy, hce0, hd1, hd2, hr0⟩ := hc.row (k := 0) (by simp)
      obtain rfl : ys = xs := by simpa using hy.symm
      rw [Nat.add_zero] at hce0
      rw [sumLen_one] at hn hs2
      have hyl : ys.length ≤ 240 := hs2
      have hn2 : Hid ([ys].length + sumLen [ys] ≤ 1048576) := hide (by rw [sumLen_one]; simp; omega)
      clear hy hd1 hd2 hs1 hs2 hs3
      have hvv := hide hv
      go_enter Try.func25, Try.ntmps25
      go_wp2_with fail
      refine (l14Ok_any _ _ T [ys] _ hc hn2.out).mono ?_
      rw [hv]
      rintro e w1 ⟨rfl, hb1⟩
      clear hv
      go_wp2_with fail
      refine (l15Rename_any _ _ T [ys] _ (hc.below hb1) hn2.out hN3.out hI.out).mono ?_
      rw [HR.out]
      rintro e w2 ⟨A2, c2, rfl, own2, hb2⟩
      have hB2 := hb1.trans (hb2.mono hb1.size)
      have own2' := own2.mono hb1.size (Nat.le_refl _)
      go_wp2_with fail
      go_loopw [4, 5] (fun o i wr => ∃ (a : Nat) (A1 : Option Addr) (c1 : Nat) (bst : List Int), a ≤ ys.length ∧ i = .int .i64 a ∧ o = .slice A1 1 c1 ∧ Hid (bst = leastL (renL ys) (triS ys a)) ∧ OwnC wr w.heap.size wr.heap.size A1 c1 [bst] ∧ Below w.heap.size w wr) (fun _ i _ => ys.length - (intOf i).toNat)
      case atStart => exact ⟨0, A2, c2, _, Nat.zero_le _, rfl, rfl, hide rfl, own2', hB2⟩
      case round =>
        clear own2 own2' hB2
        obtain ⟨a, A1, c1, bst, ha, rfl, rfl, hbst, own, hB⟩ := hrel
        have hce := (hB.cell (p := ⟨b, off, none⟩) hb).trans hce0
        by_cases hlt : a < ys.length
        · go_wp2_with fail
          go_loopw [4, 6] (fun o i wr => ∃ (k : Nat) (A1 : Option Addr) (c1 : Nat) (bst : List Int), k ≤ 2 ∧ i = .int .i64 k ∧ o = .slice A1 1 c1 ∧ Hid (bst = leastL (renL ys) (triS ys a ++ [renL (turnL ys a false), renL (turnL ys a true)].take k)) ∧ OwnC wr w.heap.size wr.heap.size A1 c1 [bst] ∧ Below w.heap.size w wr) (fun _ i _ => 2 - (intOf i).toNat)
          case atStart => exact ⟨0, A1, c1, bst, by omega, rfl, rfl, hide (by rw [List.take_zero, List.append_nil]; exact hbst.out), own, hB⟩
          case round =>
            clear own hB hbst hce
            obtain ⟨k, A1, c1, bst, hk, rfl, rfl, hbst, own, hB⟩ := hrel
            have hz := hB.size
            have hce := (hB.cell (p := ⟨b, off, none⟩) hb).trans hce0
            by_cases hlk : k < 2
            · have hbl : Hid (bst.length ≤ 1048576) := hide (by
                rw [hbst.out]
                refine Nat.le_trans (leastL_len (n := ys.length) (renL_len ys) (fun x hx => ?_)) (by omega)
                rw [List.mem_append] at hx
                rcases hx with hx | hx
                · exact triS_len ys a x hx
                · have hx' := List.mem_of_mem_take hx
                  have h3 := renL_len (turnL ys a false)
                  have h4 := renL_len (turnL ys a true)
                  rw [turnL_len] at h3 h4
                  rcases List.mem_cons.1 hx' with rfl | hx'
                  · exact h3
                  · rw [List.mem_singleton] at hx'
                    subst hx'
                    exact h4)
              obtain ⟨bk, hbk⟩ : ∃ bk : Bool, bk = decide (k = 1) := ⟨_, rfl⟩
              have hkb : ((k : Int) == 1) = bk := by
                rw [hbk]
                rcases (show k = 0 ∨ k = 1 by omega) with rfl | rfl <;> rfl
              have HT : Hid ([renL (turnL ys a false), renL (turnL ys a true)].take (k + 1) = [renL (turnL ys a false), renL (turnL ys a true)].take k ++ [renL (turnL ys a bk)]) := hide (by
                rw [hbk]
                rcases (show k = 0 ∨ k = 1 by omega) with rfl | rfl <;> rfl)
              obtain ⟨l, hl⟩ : ∃ l, l = turnL ys a bk := ⟨_, rfl⟩
              have hll : l.length ≤ 240 := by rw [hl, turnL_len]; exact hyl
              have HL := hide hl
              have hIl : Hid (∀ rs ∈ [l], ∀ x ∈ rs, x ≠ 0 ∧ -((sumLen [l] / 2 : Nat) : Int) ≤ x ∧ x ≤ ((sumLen [l] / 2 : Nat) : Int)) := hide (fun rs hrs x hx => by
                rw [List.mem_singleton] at hrs
                subst hrs
                rw [hl] at hx
                have := hI.out ys (by simp) x (turnL_mem hx)
                rw [sumLen_one] at this ⊢
                rw [hl, turnL_len]
                exact this)
              have hNl : Hid (sumLen [l] / 2 ≤ 120) := hide (by rw [sumLen_one]; omega)
              have hnl : Hid ([l].length + sumLen [l] ≤ 1048576) := hide (by rw [sumLen_one]; simp; omega)
              have HRl : Hid (renameC [l] = [renL l]) := hide (renameC_one l)
              clear hbk
              go_wp2_with fail
              refine (l15Turn_any _ _ a bk ys _ (hr0.below hB) (by omega) hlt).mono ?_
              rw [← hl]
              rintro e w3 ⟨A3, c3, rfl, own3, hb3⟩
              have hB3 := hB.trans (hb3.mono hz)
              have ownb3 := (own.below hb3).mono (Nat.le_refl _) hb3.size
              have rc3 := RC.one own3 w3.heap.size rfl
              have hB3' := hB3.alloc hB3.size (.cells #[.slice A3 l.length c3] 34)
              have ownb3' := ownb3.alloc (.cells #[.slice A3 l.length c3] 34)
              clear hl
              go_wp2_with fail
              refine (l15Rename_any _ _ _ [l] _ rc3 hnl.out hNl.out hIl.out).mono ?_
              rw [HRl.out]
              rintro e w4 ⟨A4, c4, rfl, own4, hb4⟩
              have hB4 := hB3'.trans (hb4.mono hB3'.size)
              have ownb4 := (ownb3'.below hb4).mono (Nat.le_refl _) (Nat.le_trans (by simp) hb4.size)
              have own4' := own4.mono (base' := w.heap.size) hB3'.size (Nat.le_refl _)
              have hz4 := hB4.size
              obtain ⟨x, hx⟩ : ∃ x, x = renL l := ⟨_, rfl⟩
              have HX := hide hx
              rw [← hx] at own4 own4'
              have hxl : x.length ≤ 1048576 := by rw [hx]; have := renL_len l; omega
              clear hx own4 ownb3 ownb3' rc3
              obtain ⟨g7, B7, d7, hA4, hg7, hc7, hr7⟩ := own4'.row0
              obtain ⟨g4, B4, d4, hA1, hg4, hc4, hr4⟩ := ownb4.row0
              subst hA4
              subst hA1
              have C0 : Below w4.heap.size w4 w4.drew := (Below.refl _ _).drew
              have hf7 : ∀ p : BelowOf w4, p.w.cell? ⟨g7, 0, none⟩ = some (.slice B7 x.length d7) := fun p => (p.h.cell (p := ⟨g7, 0, none⟩) hg7).trans hc7
              have hf4 : ∀ p : BelowOf w4, p.w.cell? ⟨g4, 0, none⟩ = some (.slice B4 bst.length d4) := fun p => (p.h.cell (p := ⟨g4, 0, none⟩) hg4).trans hc4
              obtain ⟨cm, hcm⟩ : ∃ cm, cm = cmpL x bst := ⟨_, rfl⟩
              have HNN : ∀ p : BelowOf w4, Calls Try.prog 79 #[.slice B7 x.length d7, .slice B4 bst.length d4] p.w (RetV p.w (.int .i64 cm)) := fun p => by
                rw [hcm]
                exact l06Numbers_any _ _ _ _ x bst _ (hr7.below p.h) (hr4.below p.h) hxl hbl.out
              have HCM := hide hcm
              have HK2 : Hid (leastOf bst x = leastL (renL ys) (triS ys a ++ [renL (turnL ys a false), renL (turnL ys a true)].take (k + 1))) := hide (by rw [HT.out, ← List.append_assoc, leastL_snoc, ← hbst.out, HX.out, HL.out])
              clear hcm hc7 hc4 hr7 hr4
              go_wp2_with fail
              refine region_below (by kernel_rfl) (by kernel_rfl) C0 ?_
              repeat (go_big_quiet_step (first | exact BelowOf.ret (HNN _)))
              refine wpQuiet_nil ?_
              rintro wq ⟨⟨wq, hq⟩, rfl⟩
              have hBq := hB4.trans (hq.mono hz4)
              have hsq := hq.size
              by_cases hneg : cm < 0
              · have HB : Hid (x = leastL (renL ys) (triS ys a ++ [renL (turnL ys a false), renL (turnL ys a true)].take (k + 1))) := hide (by rw [← HK2.out]; exact (leastOf_yes (by rw [← HCM.out]; exact hneg)).symm)
                have ownq := (own4'.below hq).mono (Nat.le_refl _) hsq
                clear hf7 hf4 HNN own4' ownb4
                go_wp2_with fail
                go_roundw
                case rel => exact ⟨k + 1, _, c4, x, by omega, by go_num, rfl, HB, ownq, hBq⟩
                case measure => simp [intOf]; omega
              · have HB : Hid (bst = leastL (renL ys) (triS ys a ++ [renL (turnL ys a false), renL (turnL ys a true)].take (k + 1))) := hide (by rw [← HK2.out]; exact (leastOf_no (by rw [← HCM.out]; exact hneg)).symm)
                have ownq := (ownb4.below hq).mono (Nat.le_refl _) hsq
                clear hf7 hf4 HNN own4' ownb4
                go_wp2_with fail
                go_roundw
                case rel => exact ⟨k + 1, _, c1, bst, by omega, by go_num, rfl, HB, ownq, hBq⟩
                case measure => simp [intOf]; omega
            · have HB : Hid (bst = leastL (renL ys) (triS ys (a + 1))) := hide (by rw [triS_next, List.append_assoc]; rw [show k = 2 by omega] at hbst; exact hbst.out)
              go_wp2_with fail
              go_roundw
              case rel => exact ⟨a + 1, A1, c1, bst, by omega, by go_num, rfl, HB, own, hB⟩
              case measure => simp [intOf]; omega
        · have HB : Hid (bst = leastR ys) := hide (by have := hbst.out; rw [show a = ys.length by omega] at this; exact this)
          go_wp2_with fail
          refine bodyPost_ret (v := .tuple #[.slice A1 1 c1, .int .i64 0]) (by simp [results, Try.results25, go_sem]) rfl ?_
          rw [HV.out, ← HB.out]
          exact ⟨A1, c1, rfl, own, hB⟩
    · have HV : Hid (leastCR code = ([], 6)) := hide (by unfold leastCR; rw [if_pos hv, if_neg h1])
      have hne : ((code.length : Int) != 1) = true := by rw [bne_iff_ne]; omega
      clear h1
      go_enter Try.func25, Try.ntmps25
      go_wp2_with fail
      refine (l14Ok_any _ _ T code _ hc hn).mono ?_
      rw [hv]
      rintro e w1 ⟨rfl, hb1⟩
      clear hv
      go_wp2_with fail
      refine bodyPost_ret (v := .tuple #[.slice none 0 0, .int .i64 6]) (by simp [results, Try.results25, go_sem]) rfl ?_
      rw [HV.out]
      exact ⟨none, 0, rfl, OwnC.nil _ _ _, hb1⟩
end Go.Proofs.Ytnjojnnapdhijaa
