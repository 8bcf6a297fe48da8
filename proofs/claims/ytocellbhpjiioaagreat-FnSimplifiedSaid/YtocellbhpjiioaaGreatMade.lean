/-
  Contracts: a code after a move, of the program and of the reference; ApplyMove. Conditions: none beyond the lengths.
-/
import Derived.Test.YtocellbhpjiioaaGreatFirst
import Derived.Test.YtocellbhpjiioaaGreatWith
namespace Go.Proofs.YtocellbhpjiioaaGreat
open Go.RowKit
set_option linter.unusedVariables false

def moveG (m : Int × Int × Int) (j : Nat) : Bool := decide ((j : Int) = m.2.1) || (!decide (m.1 = 1) && decide ((j : Int) = m.2.2))
/-- the code after a move -/
def doM (code : List (List Int)) (m : Int × Int × Int) : List (List Int) := withoutC (moveG m) code
theorem withoutC_congr {g g' : Nat → Bool} {code : List (List Int)} (h : ∀ k, k < sumLen code / 2 → g k = g' k) : withoutC g code = withoutC g' code := by
  unfold withoutC
  rw [numsW_congr h]
theorem doM_one {code : List (List Int)} {k a b : Int} (hk : k = 1) : withoutC (fun j : Nat => hasB [a] (j : Int)) code = doM code (k, a, b) := withoutC_congr fun j _ => by
  unfold hasB moveG
  rw [Bool.eq_iff_iff]
  simp [hk]
  omega
theorem doM_two {code : List (List Int)} {k a b : Int} (hk : ¬ k = 1) : withoutC (fun j : Nat => hasB [a, b] (j : Int)) code = doM code (k, a, b) := withoutC_congr fun j _ => by
  unfold hasB moveG
  rw [Bool.eq_iff_iff]
  simp [hk]
  omega
theorem rep_set1 {N a : Nat} (ha : a < N) (j : Nat) : ((List.replicate N false).set a true).getD j false = decide (j = a) := by
  rw [List.getD_eq_getElem?_getD]
  by_cases h : a = j
  · subst h
    rw [List.getElem?_set_self (by simpa using ha)]
    simp
  · rw [List.getElem?_set_ne h, List.getElem?_replicate]
    split <;> simp <;> omega
theorem rep_set2 {N a b : Nat} (ha : a < N) (hb : b < N) (j : Nat) : (((List.replicate N false).set a true).set b true).getD j false = (decide (j = a) || decide (j = b)) := by
  by_cases h : b = j
  · subst h
    rw [List.getD_eq_getElem?_getD, List.getElem?_set_self (by simpa using hb)]
    simp
  · have := rep_set1 ha j
    rw [List.getD_eq_getElem?_getD] at this ⊢
    rw [List.getElem?_set_ne h, this]
    have : decide (j = b) = false := decide_eq_false (by omega)
    rw [this]
    simp
theorem doM_rep1 {code : List (List Int)} {k : Int} {a : Nat} {b : Int} (hk : k = 1) (ha : a < sumLen code / 2) : withoutC (fun j => ((List.replicate (sumLen code / 2) false).set a true).getD j false) code = doM code (k, (a : Int), b) := withoutC_congr fun j _ => by
  rw [rep_set1 ha]
  unfold moveG
  rw [Bool.eq_iff_iff]
  simp [hk]
  omega
theorem doM_rep2 {code : List (List Int)} {k : Int} {a b : Nat} (hk : ¬ k = 1) (ha : a < sumLen code / 2) (hb : b < sumLen code / 2) : withoutC (fun j => (((List.replicate (sumLen code / 2) false).set a true).set b true).getD j false) code = doM code (k, (a : Int), (b : Int)) := withoutC_congr fun j _ => by
  rw [rep_set2 ha hb]
  unfold moveG
  rw [Bool.eq_iff_iff]
  simp [hk]
  omega
theorem canB_parts {code : List (List Int)} {k a b : Int} (h : canB code (k, a, b) = true) : formB (k, a, b) = true ∧ a < ((sumLen code / 2 : Nat) : Int) ∧ b < ((sumLen code / 2 : Nat) : Int) := by
  unfold canB at h
  simp only [Bool.and_eq_true] at h
  exact ⟨h.1.1.1, of_decide_eq_true h.1.1.2, of_decide_eq_true h.1.2⟩
theorem doM_valid {code : List (List Int)} (m : Int × Int × Int) (h : validC code = true) : validC (doM code m) = true := without_valid _ h
theorem valid_wide' {code : List (List Int)} (hv : validC code = true) : ∀ xs ∈ code, ∀ x ∈ xs, -9223372036854775808 < x ∧ x ≤ 9223372036854775807 := fun xs hxs x hx => by
  obtain ⟨N, h1, h2, h3, h4⟩ := validC_true hv
  have := h4.2 x (List.mem_flatten.2 ⟨xs, hxs, hx⟩)
  omega
theorem valid_ints' {code : List (List Int)} (hv : validC code = true) : ∀ xs ∈ code, ∀ x ∈ xs, x ≠ 0 ∧ -((sumLen code / 2 : Nat) : Int) ≤ x ∧ x ≤ ((sumLen code / 2 : Nat) : Int) := fun xs hxs x hx => by
  obtain ⟨N, h1, h2, h3, h4⟩ := validC_true hv
  have e : sumLen code / 2 = N := by omega
  rw [e]
  exact h4.2 x (List.mem_flatten.2 ⟨xs, hxs, hx⟩)

set_option maxHeartbeats 1000000 in
theorem made_any (A : Option Addr) (c T : Nat) (code : List (List Int)) (k a b : Int) (w : World) (hc : RC w T A code) (hv : validC code = true) :
    Calls Tryz.prog 27 #[.agg #[.int .i64 k, .int .i64 a, .int .i64 b], .slice A code.length c] w (RetC w (doM code (k, a, b))) := by
  obtain ⟨hs1, hs2, hs3⟩ := valid_sum hv
  have hn : code.length + sumLen code ≤ 1048576 := by omega
  have hW := hide (valid_wide' hv)
  by_cases hk : k = 1
  · have HV := hide (doM_one (code := code) (a := a) (b := b) hk)
    have t0 : (k == 1) = true := by simp [hk]
    have hB0 : Below w.heap.size w ((w.alloc (.cells #[.int .i64 k, .int .i64 a, .int .i64 b] 46)).alloc (.cells #[.int .i64 a] 2)) := ((Below.refl _ _).alloc (Nat.le_refl _) _).alloc (by simp) _
    have hr : RI ((w.alloc (.cells #[.int .i64 k, .int .i64 a, .int .i64 b] 46)).alloc (.cells #[.int .i64 a] 2)) (some ⟨w.heap.size + 1, 0, none⟩) [a] := (OwnI.new_ (base := 0) _ _ [a] #[.int .i64 a] (by simp) rfl (Nat.zero_le _) (by simp [maxLen])).rd
    clear hk
    go_enter Tryz.func27, Tryz.ntmps27
    go_wp2_with fail
    refine (without_any _ _ T _ _ [a] code _ (hc.below hB0) hr (by simp) hn hW.out).mono ?_
    rw [HV.out]
    rintro e w1 ⟨A1, c1, rfl, own, hb1⟩
    have hB := hB0.trans (hb1.mono hB0.size)
    have hz0 := hB0.size
    go_wp2_with fail
    go_ret
    exact ⟨A1, c1, rfl, own.mono hz0 (Nat.le_refl _), hB⟩
  · have HV := hide (doM_two (code := code) (a := a) (b := b) hk)
    have t0 : (k == 1) = false := by simp [hk]
    have hB0 : Below w.heap.size w ((w.alloc (.cells #[.int .i64 k, .int .i64 a, .int .i64 b] 46)).alloc (.cells #[.int .i64 a, .int .i64 b] 2)) := ((Below.refl _ _).alloc (Nat.le_refl _) _).alloc (by simp) _
    have hr : RI ((w.alloc (.cells #[.int .i64 k, .int .i64 a, .int .i64 b] 46)).alloc (.cells #[.int .i64 a, .int .i64 b] 2)) (some ⟨w.heap.size + 1, 0, none⟩) [a, b] := (OwnI.new_ (base := 0) _ _ [a, b] #[.int .i64 a, .int .i64 b] (by simp) rfl (Nat.zero_le _) (by simp [maxLen])).rd
    clear hk
    go_enter Tryz.func27, Tryz.ntmps27
    go_wp2_with fail
    refine (without_any _ _ T _ _ [a, b] code _ (hc.below hB0) hr (by simp) hn hW.out).mono ?_
    rw [HV.out]
    rintro e w1 ⟨A1, c1, rfl, own, hb1⟩
    have hB := hB0.trans (hb1.mono hB0.size)
    have hz0 := hB0.size
    go_wp2_with fail
    go_ret
    exact ⟨A1, c1, rfl, own.mono hz0 (Nat.le_refl _), hB⟩

theorem run_make_gone (n : Nat) (hn : n ≤ 240) (W : World) :
    (Instr.makeSlice 71 (.int .i64 (n : Int)) (.int .i64 (n : Int))).run Tryz.prog W = .ok (.slice (some ⟨W.heap.size, 0, none⟩) n n) (W.alloc (.cells (madeCells boolE.z.cells (n * boolE.size)) 4)) :=
  boolE.run_make n (by simp [boolE]; omega) (by omega) W
set_option maxRecDepth 100000 in
set_option maxHeartbeats 4000000 in
theorem l16Do_any (A : Option Addr) (c T : Nat) (code : List (List Int)) (k a b : Int) (w : World) (hc : RC w T A code) (hv : validC code = true) (hcan : canB code (k, a, b) = true) :
    Calls Tryz.prog 31 #[.slice A code.length c, .agg #[.int .i64 k, .int .i64 a, .int .i64 b]] w (RetC w (doM code (k, a, b))) := by
  obtain ⟨hs1, hs2, hs3⟩ := valid_sum hv
  have hn : code.length + sumLen code ≤ 1048576 := by omega
  obtain ⟨p1, p2, p3⟩ := canB_parts hcan
  obtain ⟨i1, i2, i3⟩ := formB_parts p1
  have hb0 : 0 ≤ b := by omega
  obtain ⟨an, rfl⟩ : ∃ an : Nat, a = (an : Int) := ⟨a.toNat, by omega⟩
  obtain ⟨bn, rfl⟩ : ∃ bn : Nat, b = (bn : Int) := ⟨b.toNat, by omega⟩
  have hI := hide (valid_ints' hv)
  have hV3 := hide hs3
  obtain ⟨N, hNe⟩ : ∃ N, N = sumLen code / 2 := ⟨_, rfl⟩
  have hNl : N ≤ 120 := by omega
  have HNE := hide hNe
  have e1 : (sumLen code : Int) / 2 = (N : Int) := by omega
  have ha : an < N := by omega
  have hbn : bn < N := by omega
  have hmk := fun W : World => run_make_gone N (by omega) W
  have haI : (an : Int) < (N : Int) := by omega
  have hbI : (bn : Int) < (N : Int) := by omega
  have I3 := hide i3
  have hc0 := hc.alloc (.cells #[.int .i64 k, .int .i64 (an : Int), .int .i64 (bn : Int)] 46)
  have q0 : Bx (w.alloc (.cells #[.int .i64 k, .int .i64 (an : Int), .int .i64 (bn : Int)] 46)) w.heap.size 46 #[.int .i64 k, .int .i64 (an : Int), .int .i64 (bn : Int)] := Bx.new _ _ _
  have q1 := q0.alloc (.cells (madeCells boolE.z.cells (N * boolE.size)) 4)
  have hB1 : Below w.heap.size w ((w.alloc (.cells #[.int .i64 k, .int .i64 (an : Int), .int .i64 (bn : Int)] 46)).alloc (.cells (madeCells boolE.z.cells (N * boolE.size)) 4)) := ((Below.refl _ _).alloc (Nat.le_refl _) _).alloc (by simp) _
  have hbs : Own boolE ((w.alloc (.cells #[.int .i64 k, .int .i64 (an : Int), .int .i64 (bn : Int)] 46)).alloc (.cells (madeCells boolE.z.cells (N * boolE.size)) 4)) (w.heap.size + 1) (some ⟨w.heap.size + 1, 0, none⟩) N (List.replicate N false) := Own.made (E := boolE) _ _ false rfl (by simp) (by simp) (by omega)
  clear hNe hs3 i3 i1 i2 p1 p2 p3 hcan q0
  go_enter Tryz.func31, Tryz.ntmps31
  go_upto_region 1 with fail
  go_cut [5] (fun s5 wx => s5 = .slice (some ⟨w.heap.size + 1, 0, none⟩) N N ∧ Bx wx w.heap.size 46 #[.int .i64 k, .int .i64 (an : Int), .int .i64 (bn : Int)] ∧ Own boolE wx (w.heap.size + 1) (some ⟨w.heap.size + 1, 0, none⟩) N (List.replicate N false) ∧ Below w.heap.size w wx)
  case first =>
    go_wp2_with (go_at_call 51; refine (l15Many_any _ _ T code _ hc0 hn).mono ?_; rintro e w' ⟨rfl, rfl⟩)
    go_meet
    exact ⟨rfl, q1, hbs, hB1⟩
  case rest =>
    clear q1 hbs hB1 hmk
    obtain ⟨rfl, q1, hbs, hB1⟩ := hcut
    obtain ⟨W1, rfl⟩ : ∃ W1 : World, W1 = wc := ⟨_, rfl⟩
    obtain ⟨g, hg, _, hgs, hcell, hfr, hput⟩ := boolE_at hbs (k := an) (v := false) (by rw [List.getElem?_replicate, if_pos ha])
    injection hg with hg
    injection hg with hg
    subst hg
    have hp := hput true
    have q2 := q1.far (p := ⟨w.heap.size + 1, an, none⟩) (by simp) (.bool true)
    have hB2 := hB1.setCell (p := ⟨w.heap.size + 1, an, none⟩) (by simp) (.bool true)
    obtain ⟨r0, r1, r2⟩ := q1.three
    obtain ⟨s0, s1, s2⟩ := q2.three
    by_cases hk : k = 1
    · have HV : Hid (withoutC (fun j => ((List.replicate N false).set an true).getD j false) code = doM code (k, (an : Int), (bn : Int))) := hide (by rw [HNE.out]; exact doM_rep1 hk (by rw [← HNE.out]; exact ha))
      have t0 : (k == 2) = false := by simp [hk]
      have hlen : Hid (((List.replicate N false).set an true).length = sumLen code / 2) := hide (by rw [← HNE.out]; simp)
      obtain ⟨bs, hbsE⟩ : ∃ bs, bs = (List.replicate N false).set an true := ⟨_, rfl⟩
      rw [← hbsE] at HV hp hlen
      have hrd := hp.1.rd
      have hbl2 : Hid (bs.length = N) := hide (by rw [hlen.out, HNE.out])
      clear hk hbsE hput hbs q1 q2 hp
      go_wp2_with fail
      have hcall := l15Without_any _ c T _ N bs code _ (hc.below hB2) hrd hn hV3.out hlen.out hI.out
      rw [hbl2.out, HV.out] at hcall
      refine hcall.mono ?_
      rintro e w1 ⟨A1, c1, rfl, own, hb1⟩
      have hB := hB2.trans (hb1.mono hB2.size)
      have hz0 := hB2.size
      go_wp2_with fail
      go_ret
      exact ⟨A1, c1, rfl, own.mono hz0 (Nat.le_refl _), hB⟩
    · have hk2 : k = 2 := by have := I3.out; omega
      have hab : an < bn := by have := I3.out; omega
      have HV : Hid (withoutC (fun j => (((List.replicate N false).set an true).set bn true).getD j false) code = doM code (k, (an : Int), (bn : Int))) := hide (by rw [HNE.out]; exact doM_rep2 hk (by rw [← HNE.out]; exact ha) (by rw [← HNE.out]; exact hbn))
      have t0 : (k == 2) = true := by simp [hk2]
      obtain ⟨g, hg, _, hgs2, hcell2, hfr2, hput2⟩ := boolE_at hp.1 (k := bn) (v := false) (by rw [List.getElem?_set_ne (by omega), List.getElem?_replicate, if_pos hbn])
      injection hg with hg
      injection hg with hg
      subst hg
      have hp2 := hput2 true
      have hB3 := hB2.setCell (p := ⟨w.heap.size + 1, bn, none⟩) (by simp) (.bool true)
      have hlen : Hid ((((List.replicate N false).set an true).set bn true).length = sumLen code / 2) := hide (by rw [← HNE.out]; simp)
      obtain ⟨bs, hbsE⟩ : ∃ bs, bs = ((List.replicate N false).set an true).set bn true := ⟨_, rfl⟩
      rw [← hbsE] at HV hp2 hlen
      have hrd := hp2.1.rd
      have hbl2 : Hid (bs.length = N) := hide (by rw [hlen.out, HNE.out])
      clear hk hk2 hbsE hput hput2 hbs q1 q2 hp hp2 hB2
      go_wp2_with fail
      have hcall := l15Without_any _ c T _ N bs code _ (hc.below hB3) hrd hn hV3.out hlen.out hI.out
      rw [hbl2.out, HV.out] at hcall
      refine hcall.mono ?_
      rintro e w1 ⟨A1, c1, rfl, own, hb1⟩
      have hB := hB3.trans (hb1.mono hB3.size)
      have hz0 := hB3.size
      go_wp2_with fail
      go_ret
      exact ⟨A1, c1, rfl, own.mono hz0 (Nat.le_refl _), hB⟩
end Go.Proofs.YtocellbhpjiioaaGreat
