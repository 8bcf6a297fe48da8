/-
  Contracts: a large choice, one of some texts, a text that is spoiled. Conditions: the numbers of bytes and of choices are far below the machine's.
-/
import Derived.Test.YtocellbhpjiioaaGreatDrCM
import Derived.Test.YtocellbhpjiioaaGreatSplit
import Derived.Test.YtocellbhpjiioaaGreatNum
namespace Go.Proofs.YtocellbhpjiioaaGreat
open Go.RowKit
set_option linter.unusedVariables false

set_option maxHeartbeats 4000000 in
theorem pickW_any (b : Nat) (A : Option Addr) (c : Nat) (xs : List Int) (K : Nat) (n : Int) (w : World) (h : Sr w b A c xs K) (hK : K ≤ 900000) (hx : ∀ x ∈ xs, 0 ≤ x ∧ x ≤ 255) (hn : xs.length ≤ 1048576) (h1 : 0 < n) (h2 : n ≤ 1000000) :
    Calls Tryz.prog 32 #[.pointer (some ⟨b, 0, none⟩), .int .i64 n] w fun e w' => ∃ x : Nat, e = .returned (.int .i64 (x : Int)) ∧ (x : Int) < n ∧ Sr w' b A c xs (K + 2) ∧ w.grownBy w' (some b) := by
  by_cases h3 : n ≤ 200
  · refine (pickG_any b A c xs K n w h (by omega) hx hn h1 h3).mono ?_
    rintro e w1 ⟨x, rfl, hx1, hs, hg⟩
    exact ⟨x, rfl, hx1, hs.more (by omega), hg⟩
  · have HN := hide (srcNext_any b A c xs K w h (by omega) hx hn)
    have HX := hide hx
    have d1 : ¬ (n ≤ 1) := by omega
    have d2 : (200 : Int) < n := by omega
    have d3 : (n == 0) = false := by simp; omega
    have d4 : n ≠ 0 := by omega
    clear hx
    go_enter Tryz.func32, Tryz.ntmps32
    go_wp2_with fail
    refine HN.out.mono ?_
    rintro e w1 ⟨x, rfl, hx0, hx1, hs, hg⟩
    have hm : IntKind.i64.wrap (x * 256) = x * 256 := by rw [IntKind.wrap_i64]; omega
    go_wp2_with fail
    refine (srcNext_any b A c xs (K + 1) w1 hs (by omega) HX.out hn).mono ?_
    rintro e w2 ⟨y, rfl, hy0, hy1, hs2, hg2⟩
    have hm2 : IntKind.i64.wrap (x * 256 + y) = x * 256 + y := by rw [IntKind.wrap_i64]; omega
    have h5 := Int.emod_nonneg (x * 256 + y) d4
    have h6 := Int.emod_lt_of_pos (x * 256 + y) (show 0 < n by omega)
    have ht : Int.tmod (x * 256 + y) n = (x * 256 + y) % n := Int.tmod_eq_emod_of_nonneg (by omega)
    go_wp2_with fail
    go_ret
    refine ⟨((x * 256 + y) % n).toNat, ?_, by omega, hs2, gr_trans hg hg2⟩
    rw [Int.toNat_of_nonneg h5]
    rfl
set_option maxHeartbeats 4000000 in
theorem text_any (b : Nat) (A : Option Addr) (c : Nat) (xs : List Int) (K : Nat) (B : Option Addr) (d : Nat) (ys : List (List UInt8)) (w : World) (h : Sr w b A c xs K) (hK : K ≤ 1000000) (hx : ∀ x ∈ xs, 0 ≤ x ∧ x ≤ 255) (hn : xs.length ≤ 1048576) (hy : RG strE w B ys) (hyn : ∀ g, blk B = some g → g ≠ b) (h1 : 0 < ys.length) (h2 : ys.length ≤ 200) :
    Calls Tryz.prog 43 #[.pointer (some ⟨b, 0, none⟩), .slice B ys.length d] w fun e w' => ∃ y, e = .returned (str y) ∧ y ∈ ys ∧ Sr w' b A c xs (K + 1) ∧ w.grownBy w' (some b) := by
  have HP := hide (pickG_any b A c xs K (ys.length : Int) w h hK hx hn (by omega) (by omega))
  have HY := hide hy
  have HYN := hide hyn
  go_enter Tryz.func43, Tryz.ntmps43
  go_wp2_with fail
  refine HP.out.mono ?_
  rintro e w1 ⟨x, rfl, h3, hs, hg⟩
  have hx2 : x < ys.length := by omega
  obtain ⟨g, off, v, hB, hgb, hv, hc⟩ := (RG.grown HY.out hg (by
    by_cases hbn : blk B = none
    · exact .inl hbn
    · obtain ⟨q, hq⟩ := Option.ne_none_iff_exists'.1 hbn
      exact .inr (fun e => HYN.out q hq (by rw [hq] at e; injection e)))).row hx2
  have hcv : w1.cell? ⟨g, off + x, none⟩ = some (str v) := by
    have := hc 0 _ rfl
    simpa [strE] using this
  subst hB
  have s1 := str_cells v
  unfold Value.cells at s1
  clear hc
  go_wp2_with fail
  go_ret
  exact ⟨v, rfl, List.mem_of_getElem? hv, hs, hg⟩
theorem str_not_nil (W : World) (t : TypeId) (P : Program) {l : List UInt8} (h : l ≠ []) : (binOp .neq t (str l) (.string ⟨#[]⟩)).run P W = .ok (.bool true) W := by
  unfold str
  rw [binOp_string_neq]
  have : ((⟨l.toArray⟩ : ByteArray).toList == (⟨#[]⟩ : ByteArray).toList) = false := by
    rw [ByteArray.toList_mk, show (⟨#[]⟩ : ByteArray).toList = [] from ByteArray.toList_mk []]
    cases l with
    | nil => exact absurd rfl h
    | cons a r => rfl
  rw [this]
  rfl
theorem str_is_nil (W : World) (t : TypeId) (P : Program) : (binOp .neq t (str []) (.string ⟨#[]⟩)).run P W = .ok (.bool false) W := by
  unfold str
  rw [binOp_string_neq, show ((⟨([] : List UInt8).toArray⟩ : ByteArray)).toList = [] from ByteArray.toList_mk []]
  rfl
/-- a text that is drawn -/
def RetStr (w : World) (b : Nat) (A : Option Addr) (c : Nat) (xs : List Int) (K m : Nat) (e : Ending) (w' : World) : Prop :=
  ∃ l : List UInt8, e = .returned (str l) ∧ l.length ≤ m ∧ Sr w' b A c xs K ∧ w.grownBy w' (some b)
set_option maxRecDepth 20000 in
set_option maxHeartbeats 8000000 in
theorem l01Spoil_any (b : Nat) (A : Option Addr) (c : Nat) (xs : List Int) (K : Nat) (l : List UInt8) (w : World) (h : Sr w b A c xs K) (hK : K ≤ 800000) (hx : ∀ x ∈ xs, 0 ≤ x ∧ x ≤ 255) (hn : xs.length ≤ 1048576) (hl : l.length ≤ 900000) :
    Calls Tryz.prog 44 #[.pointer (some ⟨b, 0, none⟩), str l] w (RetStr w b A c xs (K + 10) (l.length + 1)) := by
  have hb0 := h.lt
  have H0 := hide h
  have HX := hide hx
  have hlen := fun (W : World) => str_len_ (P := Tryz.prog) W 9 Tryz.underlying9 3 l
  clear hx
  go_enter Tryz.func44, Tryz.ntmps44
  go_wp2_with fail
  refine (pick_any b A c xs K 5 w h (by omega) HX.out hn (by omega) (by omega)).mono ?_
  rintro e w1 ⟨x0, rfl, h00, h01, s1, g1⟩
  have hz1 := g1.size
  clear h
  by_cases hc0 : x0 = 0
  · subst hc0
    clear h00 h01
    have hlw : IntKind.i64.wrap ((l.length : Int) + 1) = (l.length : Int) + 1 := by rw [IntKind.wrap_i64]; omega
    go_wp2_with fail
    refine (pickW_any b A c xs _ ((l.length : Int) + 1) w1 s1 (by omega) HX.out hn (by omega) (by omega)).mono ?_
    rintro e w2 ⟨q, rfl, hq, s2, g2⟩
    have hql : q ≤ l.length := by omega
    have hz2 := g2.size
    have hto := fun (W : World) => str_to_ (P := Tryz.prog) W 9 Tryz.underlying9 (l := l) (j := q) hql
    have hfr := fun (W : World) => str_from_ (P := Tryz.prog) W 9 Tryz.underlying9 (l := l) (i := q) hql
    obtain ⟨y1, hy1⟩ : ∃ y1, y1 = l.take q := ⟨_, rfl⟩
    obtain ⟨y2, hy2⟩ : ∃ y2, y2 = l.drop q := ⟨_, rfl⟩
    have hyl : y1.length + y2.length = l.length := by rw [hy1, hy2, List.length_take, List.length_drop]; omega
    rw [← hy1] at hto
    rw [← hy2] at hfr
    clear hy1 hy2
    have S2 := hide (And.intro (s2.drew.alloc (.cells #[str [32], str [48], str [45], str [120], str [49], str [57], str [46]] 9)) (gr_below (gr_trans g1 (gr_draw g2)) ((Below.refl _ _).alloc (Nat.le_refl _) (.cells #[str [32], str [48], str [45], str [120], str [49], str [57], str [46]] 9))))
    have HNEW := hide (Own.new (E := strE) w2.drew [[32], [48], [45], [120], [49], [57], [46]] #[str [32], str [48], str [45], str [120], str [49], str [57], str [46]] rfl (Nat.zero_le _) (by simp)).rd
    clear s1 s2 g1 g2
    have hbw : b < w2.heap.size := by omega
    go_wp2_with fail
    go_region_with
      (first
        | (go_at_call 43; refine (text_any b A c xs _ (some ⟨w2.heap.size, 0, none⟩) 7 [[32], [48], [45], [120], [49], [57], [46]] _ S2.out.1 (by omega) HX.out hn HNEW.out (fun g hg => by simp [blk] at hg; omega) (by simp) (by simp)).mono ?_; rintro e w5 ⟨y, rfl, hy, s5, g5⟩; have hy1 : y.length = 1 := (by simp at hy; rcases hy with rfl | rfl | rfl | rfl | rfl | rfl | rfl <;> rfl); have HF := hide (And.intro s5 (gr_trans S2.out.2 g5)); obtain ⟨z1, hz1⟩ : ∃ z1, z1 = y1 ++ y := ⟨_, rfl⟩; have hz1l : z1.length = y1.length + 1 := (by rw [hz1, List.length_append, hy1]); have hadd1 : ∀ (W : World) (t : TypeId), (binOp .add t (str y1) (str y)).run Tryz.prog W = .ok (str z1) W := (fun W t => by rw [hz1]; exact str_add W t y1 y (by omega)); obtain ⟨z2, hz2⟩ : ∃ z2, z2 = z1 ++ y2 := ⟨_, rfl⟩; have hz2l : z2.length = l.length + 1 := (by rw [hz2, List.length_append]; omega); have hadd2 : ∀ (W : World) (t : TypeId), (binOp .add t (str z1) (str y2)).run Tryz.prog W = .ok (str z2) W := (fun W t => by rw [hz2]; exact str_add W t z1 y2 (by omega)); clear hy hz1 hz2 s5 g5)
        | fail)
    all_goals
      have HL2 := hide hz2l
      clear hz2l hz1l hyl
      go_wp2_with fail
      go_ret
      exact ⟨z2, rfl, by rw [HL2.out]; omega, HF.out.1.more (by omega), HF.out.2⟩
  · have e0 : (x0 == 0) = false := by simpa using hc0
    by_cases hc1 : x0 = 1
    · have e1 : (x0 == 1) = true := by simpa using hc1
      have hgd : ∀ (W : World) (x y : Operand), (eqGuard .neq 9 x y (str l) (.string ⟨#[]⟩)).run Tryz.prog W = .ok () W := fun W x y => guard_neq W x y l []
      by_cases hl0 : l = []
      · have hx0 : ∀ (W : World) (t : TypeId), (binOp .neq t (str l) (.string ⟨#[]⟩)).run Tryz.prog W = .ok (.bool false) W := fun W t => by rw [hl0]; exact str_is_nil W t _
        clear hc1 hc0 hl0 h00 h01
        go_wp2_with fail
        go_ret
        exact ⟨l, rfl, by omega, s1.more (by omega), g1⟩
      · have hx0 : ∀ (W : World) (t : TypeId), (binOp .neq t (str l) (.string ⟨#[]⟩)).run Tryz.prog W = .ok (.bool true) W := fun W t => str_not_nil W t _ hl0
        have hlp : 0 < l.length := List.length_pos_iff.2 hl0
        clear hc1 hc0 hl0 h00 h01
        go_wp2_with fail
        refine (pickW_any b A c xs _ (l.length : Int) w1 s1 (by omega) HX.out hn (by omega) (by omega)).mono ?_
        rintro e w2 ⟨q, rfl, hq, s2, g2⟩
        have hql : q + 1 ≤ l.length := by omega
        have hqw : IntKind.i64.wrap ((q : Int) + 1) = ((q + 1 : Nat) : Int) := by rw [IntKind.wrap_i64]; omega
        have hqc : ((q : Int) + 1) = ((q + 1 : Nat) : Int) := by omega
        have hto := fun (W : World) => str_to_ (P := Tryz.prog) W 9 Tryz.underlying9 (l := l) (j := q) (by omega)
        have hfr := fun (W : World) => str_from_ (P := Tryz.prog) W 9 Tryz.underlying9 (l := l) (i := q + 1) hql
        obtain ⟨y1, hy1⟩ : ∃ y1, y1 = l.take q := ⟨_, rfl⟩
        obtain ⟨y2, hy2⟩ : ∃ y2, y2 = l.drop (q + 1) := ⟨_, rfl⟩
        have hyl : y1.length + y2.length ≤ l.length := by rw [hy1, hy2, List.length_take, List.length_drop]; omega
        rw [← hy1] at hto
        rw [← hy2] at hfr
        obtain ⟨z, hz⟩ : ∃ z, z = y1 ++ y2 := ⟨_, rfl⟩
        have hadd : ∀ (W : World) (t : TypeId), (binOp .add t (str y1) (str y2)).run Tryz.prog W = .ok (str z) W := fun W t => by rw [hz]; exact str_add W t y1 y2 (by omega)
        have HZ : Hid (z.length ≤ l.length + 1) := hide (by rw [hz, List.length_append]; omega)
        obtain ⟨q1, hq1⟩ : ∃ q1, q1 = q + 1 := ⟨_, rfl⟩
        rw [← hq1] at hqw hfr hql hqc
        have HF := hide (And.intro s2 (gr_trans g1 g2))
        clear hy1 hy2 hz s1 g1 s2 g2 hq1 hqc
        go_wp2_with fail
        go_quiet (fail)
        go_wp2_with fail
        go_ret
        exact ⟨z, rfl, HZ.out, HF.out.1.more (by omega), gr_drewN HF.out.2 _⟩
    · have e1 : (x0 == 1) = false := by simpa using hc1
      clear hc0 hc1 h00 h01
      go_wp2_with fail
      go_ret
      exact ⟨l, rfl, by omega, s1.more (by omega), g1⟩
end Go.Proofs.YtocellbhpjiioaaGreat
