/-
  Contracts: LinkingTable, TotalLinking, of the reference and of the program. Conditions: the lengths are far below the machine's.
-/
import Derived.Test.YtmjeafklafjakaaTr17
namespace Go.Proofs.Ytmjeafklafjakaa
open Go.RowKit
set_option linter.unusedVariables false

theorem tdiv2_bound {x M : Int} (h1 : -M ≤ x) (h2 : x ≤ M) : -M ≤ Int.tdiv x 2 ∧ Int.tdiv x 2 ≤ M := by
  by_cases h : 0 ≤ x
  · rw [Int.tdiv_eq_ediv_of_nonneg h]
    omega
  · have e : Int.tdiv (-x) 2 = -(Int.tdiv x 2) := Int.neg_tdiv x 2
    have e2 : Int.tdiv (-x) 2 = (-x) / 2 := Int.tdiv_eq_ediv_of_nonneg (by omega)
    omega
theorem sumLen_snoc (l : List (List Int)) (x : List Int) : sumLen (l ++ [x]) = sumLen l + x.length := by simp [sumLen]
/-- half of the entries before a place; zeros on the diagonal of finished rows -/
def hlfS (f : Nat → Nat → Int) (i k x y : Nat) : Int := if x < i then (if x = y then 0 else Int.tdiv (f x y) 2) else if x = i ∧ y < k then Int.tdiv (f x y) 2 else f x y
def hlfI (f : Nat → Nat → Int) (i k x y : Nat) : Int := if x < i ∨ (x = i ∧ y < k) then Int.tdiv (f x y) 2 else f x y
section
variable {n : Nat} {f : Nat → Nat → Int}
theorem hlfS_at {i k : Nat} : hlfS f i k i k = f i k := by unfold hlfS; rw [if_neg (by omega), if_neg (by omega)]
theorem hlfI_at {i k : Nat} : hlfI f i k i k = f i k := by unfold hlfI; rw [if_neg (by omega)]
theorem hlfS_next {i k : Nat} : tab n (fun x y => if x = i ∧ y = k then Int.tdiv (f i k) 2 else hlfS f i k x y) = tab n (hlfS f i (k + 1)) :=
  tab_congr fun a b _ _ => by
    unfold hlfS
    by_cases h1 : a = i ∧ b = k
    · rw [if_pos h1, if_neg (by omega), if_pos (by omega), h1.1, h1.2]
    · rw [if_neg h1]
      by_cases h2 : a < i
      · rw [if_pos h2, if_pos h2]
      · rw [if_neg h2, if_neg h2]
        by_cases h3 : a = i ∧ b < k
        · rw [if_pos h3, if_pos (by omega)]
        · rw [if_neg h3, if_neg (by omega)]
theorem hlfS_row {i : Nat} : tab n (fun x y => if x = i ∧ y = i then 0 else hlfS f i n x y) = tab n (hlfS f (i + 1) 0) :=
  tab_congr fun a b _ hb => by
    unfold hlfS
    by_cases h1 : a = i ∧ b = i
    · rw [if_pos h1, if_pos (show a < i + 1 by omega), if_pos (show a = b by omega)]
    · rw [if_neg h1]
      by_cases h2 : a < i
      · rw [if_pos h2, if_pos (show a < i + 1 by omega)]
      · rw [if_neg h2]
        by_cases h3 : a = i
        · rw [if_pos (show a = i ∧ b < n from ⟨h3, hb⟩), if_pos (show a < i + 1 by omega), if_neg (show ¬ a = b by omega)]
        · rw [if_neg (show ¬ (a = i ∧ b < n) by omega), if_neg (show ¬ a < i + 1 by omega), if_neg (show ¬ (a = i + 1 ∧ b < 0) by omega)]
theorem hlfS_zero : tab n (hlfS f 0 0) = tab n f := tab_congr fun a b _ _ => by unfold hlfS; rw [if_neg (by omega), if_neg (by omega)]
theorem hlfI_next {i k : Nat} : tab n (fun x y => if x = i ∧ y = k then Int.tdiv (f i k) 2 else hlfI f i k x y) = tab n (hlfI f i (k + 1)) :=
  tab_congr fun a b _ _ => by
    unfold hlfI
    by_cases h1 : a = i ∧ b = k
    · rw [if_pos h1, if_pos (by omega), h1.1, h1.2]
    · rw [if_neg h1]
      by_cases h3 : a < i ∨ (a = i ∧ b < k)
      · rw [if_pos h3, if_pos (by omega)]
      · rw [if_neg h3, if_neg (by omega)]
theorem hlfI_row {i : Nat} : tab n (hlfI f i n) = tab n (hlfI f (i + 1) 0) :=
  tab_congr fun a b _ hb => by
    unfold hlfI
    by_cases h3 : a < i ∨ (a = i ∧ b < n)
    · rw [if_pos h3, if_pos (by omega)]
    · rw [if_neg h3, if_neg (by omega)]
theorem hlfI_zero : tab n (hlfI f 0 0) = tab n f := tab_congr fun a b _ _ => by unfold hlfI; rw [if_neg (by omega)]
end
/-- the linking number of two curves -/
noncomputable def hlf (wd ht : Int) (xs : List Int) (a b : Nat) : Int := halfO (dirC wd ht xs true) (dirC wd ht xs false) (sgL wd ht xs) (crN xs) a b
/-- the table of linking numbers -/
noncomputable def tabH (wd ht : Int) (xs : List Int) : List (List Int) := tab (cvN wd ht xs) (hlf wd ht xs)
section
variable {wd ht : Int} {xs : List Int}
theorem tabH_spec : tab (cvN wd ht xs) (hlfS (lkN wd ht xs) (cvN wd ht xs) 0) = tabH wd ht xs :=
  tab_congr fun a b ha _ => by unfold hlfS hlf halfO; rw [if_pos ha]; rfl
theorem tabH_impl : tab (cvN wd ht xs) (hlfI (lkO (dirC wd ht xs true) (dirC wd ht xs false) (sgL wd ht xs) (crN xs)) (cvN wd ht xs) 0) = tabH wd ht xs :=
  tab_congr fun a b ha _ => by unfold hlfI hlf; rw [if_pos (.inl ha), half_off]
theorem hlf_bound (a b : Nat) (hn : xs.length ≤ 1048576) : -1048576 ≤ hlf wd ht xs a b ∧ hlf wd ht xs a b ≤ 1048576 := by
  have h := lkN_bound (wd := wd) (ht := ht) (xs := xs) a b hn
  unfold hlf halfO
  unfold lkN at h
  split
  · omega
  · exact tdiv2_bound h.1 h.2
theorem lkO_bound2 (a b : Nat) (hn : xs.length ≤ 1048576) : -1048576 ≤ lkO (dirC wd ht xs true) (dirC wd ht xs false) (sgL wd ht xs) (crN xs) a b ∧ lkO (dirC wd ht xs true) (dirC wd ht xs false) (sgL wd ht xs) (crN xs) a b ≤ 1048576 := by
  have h := lkO_bound (oc := dirC wd ht xs true) (uc := dirC wd ht xs false) (fun s (h : s ∈ sgL wd ht xs) => sgL_pm h) (crN xs) a b
  have h2 := crN_le xs
  omega
theorem tabH_len : (tabH wd ht xs).length = cvN wd ht xs := by unfold tabH; rw [tab_len]
theorem sumLen_tab (n : Nat) (f : Nat → Nat → Int) : sumLen (tab n f) = n * n := by
  have h : ∀ m, sumLen ((List.range m).map fun a => (List.range n).map fun b => f a b) = m * n := by
    intro m
    induction m with
    | zero => simp [sumLen_nil]
    | succ m ih =>
      rw [List.range_succ, List.map_append, List.map_singleton, sumLen_snoc, ih]
      simp [Nat.add_mul]
  exact h n
end
/-- the sums of the absolute linking numbers -/
noncomputable def trmT (wd ht : Int) (xs : List Int) (a b : Nat) : Int := max (hlf wd ht xs a b) (-(hlf wd ht xs a b))
noncomputable def rowT (wd ht : Int) (xs : List Int) (a : Nat) : Nat → Int
  | 0 => 0
  | b + 1 => rowT wd ht xs a b + trmT wd ht xs a b
noncomputable def totT (wd ht : Int) (xs : List Int) : Nat → Int
  | 0 => 0
  | a + 1 => totT wd ht xs a + rowT wd ht xs a a
section
variable {wd ht : Int} {xs : List Int}
theorem trmT_bound (a b : Nat) (hn : xs.length ≤ 1048576) : 0 ≤ trmT wd ht xs a b ∧ trmT wd ht xs a b ≤ 1048576 := by
  have h := hlf_bound (wd := wd) (ht := ht) (xs := xs) a b hn
  unfold trmT
  omega
theorem rowT_bound (a : Nat) (hn : xs.length ≤ 1048576) : ∀ b, 0 ≤ rowT wd ht xs a b ∧ rowT wd ht xs a b ≤ 1048576 * (b : Int)
  | 0 => by simp [rowT]
  | b + 1 => by
    have h := rowT_bound a hn b
    have h2 := trmT_bound (wd := wd) (ht := ht) (xs := xs) a b hn
    rw [rowT]
    omega
theorem totT_bound (hn : xs.length ≤ 1048576) : ∀ a, a ≤ 256 → 0 ≤ totT wd ht xs a ∧ totT wd ht xs a ≤ 268435456 * (a : Int)
  | 0, _ => by simp [totT]
  | a + 1, ha => by
    have h := totT_bound hn a (by omega)
    have h2 := rowT_bound (wd := wd) (ht := ht) (xs := xs) a hn a
    rw [totT]
    omega
theorem trmT_impl (a b : Nat) (h : a ≠ b) : Int.tdiv (max (lkO (dirC wd ht xs true) (dirC wd ht xs false) (sgL wd ht xs) (crN xs) a b) (-(lkO (dirC wd ht xs true) (dirC wd ht xs false) (sgL wd ht xs) (crN xs) a b))) 2 = trmT wd ht xs a b := by
  rw [half_max, half_off]
  rfl
end
noncomputable def lktR (wd ht : Int) (xs : List Int) : List (List Int) × Int := if vldPan wd ht xs then (tabH wd ht xs, 0) else ([], 1)
noncomputable def ttlR (wd ht : Int) (xs : List Int) : Int × Int := if vldPan wd ht xs then (totT wd ht xs (cvN wd ht xs), 0) else (0, 1)
section
variable {wd ht : Int} {xs : List Int}
theorem lktR_ok (h : vldPan wd ht xs = true) : lktR wd ht xs = (tabH wd ht xs, 0) := by unfold lktR; rw [if_pos h]
theorem lktR_no (h : vldPan wd ht xs = false) : lktR wd ht xs = ([], 1) := by unfold lktR; rw [if_neg (by rw [h]; simp)]
theorem ttlR_ok (h : vldPan wd ht xs = true) : ttlR wd ht xs = (totT wd ht xs (cvN wd ht xs), 0) := by unfold ttlR; rw [if_pos h]
theorem ttlR_no (h : vldPan wd ht xs = false) : ttlR wd ht xs = (0, 1) := by unfold ttlR; rw [if_neg (by rw [h]; simp)]
theorem lktR_len (wd ht : Int) (xs : List Int) : (lktR wd ht xs).1.length + sumLen (lktR wd ht xs).1 ≤ 1048576 := by
  cases hv : vldPan wd ht xs
  · rw [lktR_no hv]; simp [sumLen_nil]
  · rw [lktR_ok hv]
    show (tabH wd ht xs).length + sumLen (tabH wd ht xs) ≤ 1048576
    rw [tabH_len, tabH, sumLen_tab]
    have h := cvN_le hv
    have : cvN wd ht xs * cvN wd ht xs ≤ 256 * 256 := Nat.mul_le_mul h h
    omega
end

set_option maxRecDepth 20000 in
set_option maxHeartbeats 8000000 in
theorem implLinkingTable_any (wd ht : Int) (A : Option Addr) (c : Nat) (xs : List Int) (w : World) (hxs : RI w A xs) (hcap : xs.length ≤ c ∧ c ≤ 9223372036854775807) (hn : xs.length ≤ 1048576) :
    Calls Try.prog 9 #[.agg #[.int .i64 wd, .int .i64 ht, .slice A xs.length c]] w (RetCC w (lktR wd ht xs).1 (lktR wd ht xs).2) := by
  obtain ⟨pa_x1, pb_x1, pc_x1⟩ := (Bx.new_ w (w.heap.size) 26 #[.int .i64 wd, .int .i64 ht, .slice A xs.length c] (by simp)).three
  have HOK := hide (validPanel_any wd ht A c xs (w.alloc (.cells #[.int .i64 wd, .int .i64 ht, .slice A xs.length c] 26)) (hxs.below ((Below.refl w.heap.size w).alloc (by first | omega | (simp; omega) | simp) (.cells #[.int .i64 wd, .int .i64 ht, .slice A xs.length c] 26))) hn)
  cases hv : vldPan wd ht xs
  ·
    have HR := hide (lktR_no hv)
    go_enter Try.func9, Try.ntmps9
    go_wp2_with fail
    refine (HOK.out).mono ?_
    rintro e w1 ⟨rfl, hb1⟩
    have p_1 := (Bx.new_ w (w.heap.size) 26 #[.int .i64 wd, .int .i64 ht, .slice A xs.length c] (by simp)).below hb1
    obtain ⟨pa_1, pb_1, pc_1⟩ := (p_1).three
    have z_1 : (w.alloc (.cells #[.int .i64 wd, .int .i64 ht, .slice A xs.length c] 26)).heap.size ≤ w1.heap.size := hb1.size
    simp only [World.size_alloc] at z_1
    have B_1 := ((Below.refl w.heap.size w).alloc (by first | omega | (simp; omega) | simp) (.cells #[.int .i64 wd, .int .i64 ht, .slice A xs.length c] 26)).trans (hb1.mono (by first | omega | (simp; omega) | simp))
    rw [hv]
    go_wp2_with fail
    go_ret2
    rw [HR.out]
    exact ⟨none, 0, rfl, OwnC.nil _ _ _, (B_1)⟩
  ·
    have HR := hide (lktR_ok hv)
    obtain ⟨hs, hl⟩ := vld_sz hv
    have hKl := cvN_le hv
    have HV := hide hv
    go_enter Try.func9, Try.ntmps9
    go_wp2_with fail
    refine (HOK.out).mono ?_
    rintro e w2 ⟨rfl, hb2⟩
    have p_2 := (Bx.new_ w (w.heap.size) 26 #[.int .i64 wd, .int .i64 ht, .slice A xs.length c] (by simp)).below hb2
    obtain ⟨pa_2, pb_2, pc_2⟩ := (p_2).three
    have z_2 : (w.alloc (.cells #[.int .i64 wd, .int .i64 ht, .slice A xs.length c] 26)).heap.size ≤ w2.heap.size := hb2.size
    simp only [World.size_alloc] at z_2
    have B_2 := ((Below.refl w.heap.size w).alloc (by first | omega | (simp; omega) | simp) (.cells #[.int .i64 wd, .int .i64 ht, .slice A xs.length c] 26)).trans (hb2.mono (by first | omega | (simp; omega) | simp))
    rw [hv]
    go_wp2_with fail
    refine (linkings_any wd ht A c xs _ (hxs.below (B_2)) hcap hs hl hn).mono ?_
    rintro e w3 ⟨A3, c3, rfl, own, hb3⟩
    have p_3 := (p_2).below hb3
    obtain ⟨pa_3, pb_3, pc_3⟩ := (p_3).three
    have z_3 : w2.heap.size ≤ w3.heap.size := hb3.size
    have B_3 := (B_2).trans (hb3.mono (by first | omega | (simp; omega) | simp))
    have HTL : Hid ((tabO wd ht xs (crN xs)).length = cvN wd ht xs) := hide (by unfold tabO; rw [tab_len]; rfl)
    rw [HTL.out]
    have hz2 := z_2
    have hB3 := (B_3)
    have HBD := hide (fun a b => lkO_bound2 (wd := wd) (ht := ht) (xs := xs) a b hn)
    have HTH := hide (tabH_impl (wd := wd) (ht := ht) (xs := xs))
    have HHL := hide (tabH_len (wd := wd) (ht := ht) (xs := xs))
    obtain ⟨f, hf⟩ : ∃ f, f = lkO (dirC wd ht xs true) (dirC wd ht xs false) (sgL wd ht xs) (crN xs) := ⟨_, rfl⟩
    obtain ⟨K, hK⟩ : ∃ K, K = cvN wd ht xs := ⟨_, rfl⟩
    have own3 : OwnC w3 w2.heap.size w3.heap.size A3 c3 (tab K (hlfI f 0 0)) := by rw [hlfI_zero, hK, hf]; exact own
    rw [← hf, ← hK] at HTH
    rw [← hf] at HBD
    rw [← hK] at hKl HHL ⊢
    have hw2 : w.heap.size ≤ w2.heap.size := by omega
    clear own hf hK hs hl hv p_2 p_3 pa_2 pb_2 pc_2 pa_3 pb_3 pc_3 hb3 B_2 B_3 pa_x1 pb_x1 pc_x1
    go_wp2_with fail
    go_loopw [15] (fun iv wr => ∃ (i : Nat), i ≤ K ∧ iv = .int .i64 (i : Int) ∧ OwnC wr w2.heap.size w3.heap.size A3 c3 (tab K (hlfI f i 0)) ∧ w3.heap.size ≤ wr.heap.size ∧ Below w.heap.size w wr) (fun iv _ => K - (intOf iv).toNat)
    case atStart => exact ⟨0, Nat.zero_le _, rfl, own3, Nat.le_refl _, hB3⟩
    case round =>
      clear own3 hB3
      obtain ⟨i, hi, rfl, own, hzT, hB⟩ := hrel
      obtain ⟨wo, rfl⟩ : ∃ wo, wo = wr := ⟨_, rfl⟩
      by_cases hlt : i < K
      · obtain ⟨g, B, d, rfl, hg1, hg2, hB1, hB2, hne, hh, _, _, _⟩ := own.tabAt hlt hlt
        have hh0 := hh
        go_wp2_with fail
        go_loopw [21] (fun kv wr => ∃ (k : Nat), k ≤ K ∧ kv = .int .i64 (k : Int) ∧ OwnC wr w2.heap.size w3.heap.size (some ⟨g, 0, none⟩) c3 (tab K (hlfI f i k)) ∧ wr.cell? ⟨g, i, none⟩ = some (.slice (some ⟨B, 0, none⟩) K d) ∧ w3.heap.size ≤ wr.heap.size ∧ Below w.heap.size w wr) (fun kv _ => K - (intOf kv).toNat)
        case atStart => exact ⟨0, Nat.zero_le _, rfl, own, hh0, hzT, hB⟩
        case round =>
          clear own hzT hB hh hh0 hne
          obtain ⟨k, hk, rfl, own, hh, hzT, hB⟩ := hrel
          have hzB := hB.size
          by_cases hlt2 : k < K
          · obtain ⟨g', B', d', hA, hg1', hg2', hB1', hB2', hne, hh', hcc, hff, hst⟩ := own.tabAt hlt hlt2
            injection hA with hA; injection hA with hA; subst hA
            rw [hh] at hh'
            injection hh' with hh'
            injection hh' with h5 h6 h7
            injection h5 with h5
            injection h5 with h5
            subst h5
            rw [hlfI_at] at hcc
            have hbd := HBD.out i k
            obtain ⟨x, hx⟩ : ∃ x, x = f i k := ⟨_, rfl⟩
            have hs1 := hst (Int.tdiv (f i k) 2)
            rw [hlfI_next] at hs1
            rw [← hx] at hbd hcc hs1
            have OWN := hide hs1.1
            have HB := hide (below_own hB hs1.2 hzB (by omega))
            have HH := hide (show (wr.setCell ⟨B, k, none⟩ (.int .i64 (Int.tdiv x 2))).cell? ⟨g, i, none⟩ = some (.slice (some ⟨B, 0, none⟩) K d) by
              rw [World.cell?_of_block (w := wr) (Below.heap_setCell wr ⟨B, k, none⟩ _ g hne)]
              exact hh)
            clear hst hs1 hx own hh h6 h7
            go_wp2_with fail
            go_roundw
            case rel => exact ⟨k + 1, by omega, by go_num, OWN.out, HH.out, by simp; omega, HB.out⟩
            case measure => simp [intOf]; omega
          · obtain rfl : K = k := by omega
            rw [hlfI_row] at own
            clear hlt2 hh
            go_wp2_with fail
            go_roundw
            case rel => exact ⟨i + 1, by omega, by go_num, own, hzT, hB⟩
            case measure => simp [intOf]; omega
      · obtain rfl : K = i := by omega
        clear hlt
        rw [HTH.out] at own
        go_wp2_with fail
        go_ret2
        rw [HR.out]
        exact ⟨A3, c3, by show _ = Ending.returned (.tuple #[.slice A3 (tabH wd ht xs).length c3, .int .i64 0]); rw [HHL.out]; rfl, own.mono hw2 hzT, hB⟩
set_option maxRecDepth 20000 in
set_option maxHeartbeats 8000000 in
theorem implTotalLinking_any (wd ht : Int) (A : Option Addr) (c : Nat) (xs : List Int) (w : World) (hxs : RI w A xs) (hcap : xs.length ≤ c ∧ c ≤ 9223372036854775807) (hn : xs.length ≤ 1048576) :
    Calls Try.prog 10 #[.agg #[.int .i64 wd, .int .i64 ht, .slice A xs.length c]] w (RetV w (.tuple #[.int .i64 (ttlR wd ht xs).1, .int .i64 (ttlR wd ht xs).2])) := by
  obtain ⟨pa_x1, pb_x1, pc_x1⟩ := (Bx.new_ w (w.heap.size) 26 #[.int .i64 wd, .int .i64 ht, .slice A xs.length c] (by simp)).three
  have HOK := hide (validPanel_any wd ht A c xs (w.alloc (.cells #[.int .i64 wd, .int .i64 ht, .slice A xs.length c] 26)) (hxs.below ((Below.refl w.heap.size w).alloc (by first | omega | (simp; omega) | simp) (.cells #[.int .i64 wd, .int .i64 ht, .slice A xs.length c] 26))) hn)
  cases hv : vldPan wd ht xs
  ·
    have HR := hide (ttlR_no hv)
    go_enter Try.func10, Try.ntmps10
    go_wp2_with fail
    refine (HOK.out).mono ?_
    rintro e w1 ⟨rfl, hb1⟩
    have p_1 := (Bx.new_ w (w.heap.size) 26 #[.int .i64 wd, .int .i64 ht, .slice A xs.length c] (by simp)).below hb1
    obtain ⟨pa_1, pb_1, pc_1⟩ := (p_1).three
    have z_1 : (w.alloc (.cells #[.int .i64 wd, .int .i64 ht, .slice A xs.length c] 26)).heap.size ≤ w1.heap.size := hb1.size
    simp only [World.size_alloc] at z_1
    have B_1 := ((Below.refl w.heap.size w).alloc (by first | omega | (simp; omega) | simp) (.cells #[.int .i64 wd, .int .i64 ht, .slice A xs.length c] 26)).trans (hb1.mono (by first | omega | (simp; omega) | simp))
    rw [hv]
    go_wp2_with fail
    go_ret2
    rw [HR.out]
    exact ⟨rfl, (B_1)⟩
  ·
    have HR := hide (ttlR_ok hv)
    obtain ⟨hs, hl⟩ := vld_sz hv
    have hKl := cvN_le hv
    have HV := hide hv
    go_enter Try.func10, Try.ntmps10
    go_wp2_with fail
    refine (HOK.out).mono ?_
    rintro e w2 ⟨rfl, hb2⟩
    have p_2 := (Bx.new_ w (w.heap.size) 26 #[.int .i64 wd, .int .i64 ht, .slice A xs.length c] (by simp)).below hb2
    obtain ⟨pa_2, pb_2, pc_2⟩ := (p_2).three
    have z_2 : (w.alloc (.cells #[.int .i64 wd, .int .i64 ht, .slice A xs.length c] 26)).heap.size ≤ w2.heap.size := hb2.size
    simp only [World.size_alloc] at z_2
    have B_2 := ((Below.refl w.heap.size w).alloc (by first | omega | (simp; omega) | simp) (.cells #[.int .i64 wd, .int .i64 ht, .slice A xs.length c] 26)).trans (hb2.mono (by first | omega | (simp; omega) | simp))
    rw [hv]
    go_wp2_with fail
    refine (linkings_any wd ht A c xs _ (hxs.below (B_2)) hcap hs hl hn).mono ?_
    rintro e w3 ⟨A3, c3, rfl, own, hb3⟩
    have p_3 := (p_2).below hb3
    obtain ⟨pa_3, pb_3, pc_3⟩ := (p_3).three
    have z_3 : w2.heap.size ≤ w3.heap.size := hb3.size
    have B_3 := (B_2).trans (hb3.mono (by first | omega | (simp; omega) | simp))
    have HTL : Hid ((tabO wd ht xs (crN xs)).length = cvN wd ht xs) := hide (by unfold tabO; rw [tab_len]; rfl)
    rw [HTL.out]
    have hB3 := (B_3)
    have HBD := hide (fun a b => lkO_bound2 (wd := wd) (ht := ht) (xs := xs) a b hn)
    have HRB := hide (fun a b => rowT_bound (wd := wd) (ht := ht) (xs := xs) a hn b)
    have HTB := hide (fun a ha => totT_bound (wd := wd) (ht := ht) (xs := xs) hn a ha)
    have HTI := hide (fun a b h => trmT_impl (wd := wd) (ht := ht) (xs := xs) a b h)
    obtain ⟨f, hf⟩ : ∃ f, f = lkO (dirC wd ht xs true) (dirC wd ht xs false) (sgL wd ht xs) (crN xs) := ⟨_, rfl⟩
    obtain ⟨K, hK⟩ : ∃ K, K = cvN wd ht xs := ⟨_, rfl⟩
    have own3 : OwnC w3 w2.heap.size w3.heap.size A3 c3 (tab K f) := by rw [hK, hf]; exact own
    have HK := hide hK
    rw [← hf] at HBD HTI
    rw [← hK] at hKl ⊢
    clear own hK hf hs hl hv p_2 p_3 pa_2 pb_2 pc_2 pa_3 pb_3 pc_3 hb3 B_2 B_3 pa_x1 pb_x1 pc_x1
    go_wp2_with fail
    go_loopw [15, 4] (fun iv sv wr => ∃ (i : Nat) (s : Int), i ≤ K ∧ iv = .int .i64 (i : Int) ∧ sv = .int .i64 s ∧ Hid (s = totT wd ht xs i) ∧ wr = w3) (fun iv _ _ => K - (intOf iv).toNat)
    case atStart => exact ⟨0, 0, Nat.zero_le _, rfl, rfl, hide rfl, by first | trivial | rfl⟩
    case round =>
      obtain ⟨i, s, hi, rfl, rfl, hs, rfl⟩ := hrel
      obtain ⟨wo, rfl⟩ : ∃ wo, wo = wr := ⟨_, rfl⟩
      by_cases hlt : i < K
      · have htb := HTB.out i (by omega)
        rw [← hs.out] at htb
        obtain ⟨g, B, d, hA, hg1, hg2, hB1, hB2, hne, hh, _, _, _⟩ := own3.tabAt hlt hlt
        obtain ⟨gA, Bx_, dx, xsr, hA2, _, _, _, hxr, hcr, _, hro, _⟩ := own3.row (k := i) (by rw [tab_len]; exact hlt)
        have hrow : xsr = (List.range K).map fun b => f i b := by rw [tab_row hlt] at hxr; injection hxr with h; exact h.symm
        rw [hA] at hA2
        injection hA2 with hA2; injection hA2 with hA2; subst hA2
        rw [hh] at hcr
        injection hcr with hcr
        injection hcr with h5 h6 h7
        subst h5 h7
        have hcap2 := hro.cap_
        have hxl : xsr.length = K := by rw [hrow]; simp
        have hKd : K ≤ d := by omega
        have hdm : d ≤ 9223372036854775807 := hcap2.2
        have hrd := (hro.rd).take_ i
        have HROW := hide hrow
        have hid : i ≤ d := by omega
        have hiK2 : i ≤ K := by omega
        clear hxr hro hcap2 hxl h6 hrow
        subst hA
        go_wp2_with fail
        go_loopw [24, 4] (fun kv sv wr => ∃ (k : Nat) (r : Int), k ≤ i ∧ kv = .int .i64 (k : Int) ∧ sv = .int .i64 (s + r) ∧ Hid (r = rowT wd ht xs i k) ∧ wr = wo) (fun kv _ _ => i - (intOf kv).toNat)
        case atStart => exact ⟨0, 0, Nat.zero_le _, rfl, by simp, hide rfl, by first | trivial | rfl⟩
        case round =>
          obtain ⟨k, r, hk, rfl, rfl, hr, rfl⟩ := hrel
          have hrb := HRB.out i k
          rw [← hr.out] at hrb
          by_cases hlt2 : k < i
          · obtain ⟨bb, off, x, hAB, hbb, hx, hcx⟩ := hrd.at_ (k := k) (by rw [List.length_take, HROW.out, List.length_map, List.length_range]; omega)
            injection hAB with hAB; injection hAB with hAB1 hAB2; subst hAB1 hAB2
            rw [Nat.zero_add] at hcx
            have hxf : x = f i k := by
              rw [List.getElem?_take, if_pos hlt2, HROW.out, row_at (show k < K by omega)] at hx
              injection hx with h; exact h.symm
            have hbd := HBD.out i k
            have HN : Hid (r + Int.tdiv (max x (-x)) 2 = rowT wd ht xs i (k + 1)) := hide (by rw [rowT, ← hr.out, hxf, HTI.out i k (by omega)])
            rw [← hxf] at hbd
            have HX := hide hxf
            clear hx hxf
            by_cases hx0 : 0 ≤ x
            · have hm : max x (-x) = x := by omega
              have hdv : Int.tdiv x 2 = x / 2 := Int.tdiv_eq_ediv_of_nonneg hx0
              rw [hm] at HN
              have hqb : 0 ≤ x / 2 ∧ x / 2 ≤ 1048576 := by omega
              rw [hdv] at HN
              have W3 : Hid (s + r + x / 2 = s + (r + x / 2)) := hide (by omega)
              have hlx : ¬ x < -x := by omega
              have HM2 := hide hm
              clear hm hdv
              go_wp2_with fail
              go_roundw
              case rel => exact ⟨k + 1, r + x / 2, by omega, by go_num, by rw [← W3.out], HN, by first | trivial | rfl⟩
              case measure => simp [intOf]; omega
            · have hm : max x (-x) = -x := by omega
              have hdv : Int.tdiv (-x) 2 = (-x) / 2 := Int.tdiv_eq_ediv_of_nonneg (by omega)
              have hng : Int.tdiv (-x) 2 = -(Int.tdiv x 2) := Int.neg_tdiv x 2
              rw [hm, hng] at HN
              obtain ⟨y, hy⟩ : ∃ y, Int.tdiv x 2 = y := ⟨_, rfl⟩
              have hqb : -1048576 ≤ y ∧ y ≤ 0 := by omega
              rw [hy] at HN
              have W3 : Hid (s + r + -y = s + (r + -y)) := hide (by omega)
              have hlx : x < -x := by omega
              clear hm hdv hng
              go_wp2_with fail
              go_roundw
              case rel => exact ⟨k + 1, r + -y, by omega, by go_num, by rw [← W3.out], HN, by first | trivial | rfl⟩
              case measure => simp [intOf]; omega
          · obtain rfl : i = k := by omega
            have HN : Hid (s + r = totT wd ht xs (i + 1)) := hide (by rw [totT, ← hs.out, ← hr.out])
            clear hlt2
            go_wp2_with fail
            go_roundw
            case rel => exact ⟨i + 1, s + r, by omega, by go_num, rfl, HN, by first | trivial | rfl⟩
            case measure => simp [intOf]; omega
      · obtain rfl : K = i := by omega
        have HN : Hid (totT wd ht xs (cvN wd ht xs) = s) := hide (by rw [hs.out, ← HK.out])
        clear hlt
        go_wp2_with fail
        go_ret2
        rw [HR.out, HN.out]
        exact ⟨rfl, hB3⟩
end Go.Proofs.Ytmjeafklafjakaa
