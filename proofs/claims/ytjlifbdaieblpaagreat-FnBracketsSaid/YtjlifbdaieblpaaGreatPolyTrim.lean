/-
  Contracts: a polynomial without needless coefficients, as the reference and as the program make it; the last test of a result. Conditions: the numbers are far below the machine's.
-/
import Derived.Test.YtjlifbdaieblpaaGreatApp
import Derived.Test.YtjlifbdaieblpaaGreatPolyEq
import Derived.Test.YtjlifbdaieblpaaGreatPolyMath
namespace Go.Proofs.YtjlifbdaieblpaaGreat
open Go.RowKit
set_option linter.unusedVariables false

/-- A function that hands back a polynomial of its own and a code. -/
def RetPC (w : World) (low : Int) (xs : List Int) (code : Int) (e : Ending) (w' : World) : Prop :=
  ∃ A c, e = .returned (.tuple #[.agg #[.int .i64 low, .slice A xs.length c], .int .i64 code]) ∧ OwnI w' w.heap.size A c xs ∧ Below w.heap.size w w'

theorem trimS_none {low : Int} {xs ys : List Int} {j : Nat} (hys : rdropZ xs = ys) (hz : dropZ ys = ys.drop j) (h : (ys.drop j).length = 0) : trimS low xs = (0, []) := by
  unfold trimS
  rw [hys, hz, if_pos (List.eq_nil_of_length_eq_zero h)]
theorem trimS_some {low : Int} {xs ys : List Int} {j : Nat} (hys : rdropZ xs = ys) (hz : dropZ ys = ys.drop j) (hj : j ≤ ys.length) (h : 0 < (ys.drop j).length) : trimS low xs = (low + j, ys.drop j) := by
  unfold trimS
  rw [hys, hz, if_neg (by intro e; rw [e] at h; simp at h)]
  congr 2
  rw [List.length_drop]
  omega
theorem drop_len (ys : List Int) (j : Nat) (h : 0 < (ys.drop j).length) : (ys.drop j).length = (ys.drop (j + 1)).length + 1 := by
  simp only [List.length_drop] at h ⊢
  omega
theorem len_nil {xs : List Int} (h : xs.length = 0) : xs = [] := List.eq_nil_of_length_eq_zero h

theorem RI.rest {w : World} {b off : Nat} {xs : List Int} (h : RI w (some ⟨b, off, none⟩) xs) (hn : 0 < xs.length) : RI w (some ⟨b, off + 1, none⟩) (xs.drop 1) := by
  have := h.drop_ 1 (c := xs.length + 1) (by omega)
  rw [if_neg (by omega)] at this
  simpa [Addr.add_lit] using this

set_option maxHeartbeats 2000000 in
theorem l18Trim_any (low : Int) (A : Option Addr) (c : Nat) (xs : List Int) (w : World) (h : RI w A xs) (hl0 : -1099511627776 ≤ low) (hl1 : low ≤ 1099511627776) (hn : xs.length ≤ 4294967296) (hc : xs.length ≤ c) (hcm : c ≤ 9223372036854775807) :
    Calls Tryz.prog 57 #[.int .i64 low, .slice A xs.length c] w (RetP w (trimS low xs).1 (trimS low xs).2) := by
  have h1 := h.alloc (.cells #[.int .i64 0, .slice none 0 0] 29)
  have hq := (Bx.new w 29 #[.int .i64 0, .slice none 0 0])
  have hB : Below w.heap.size w (w.alloc (.cells #[.int .i64 0, .slice none 0 0] 29)) := (Below.refl _ _).alloc (Nat.le_refl _) _
  go_enter Tryz.func57, Tryz.ntmps57
  go_wp2
  go_loop [1] (fun v => ∃ m : Nat, m ≤ xs.length ∧ v = .slice A m c ∧ Hid (rdropZ (xs.take m) = rdropZ xs)) (fun v => match v with | .slice _ n _ => n | _ => 0)
  case atStart => exact ⟨xs.length, Nat.le_refl _, rfl, hide (by rw [List.take_of_length_le (Nat.le_refl _)])⟩
  case round =>
    obtain ⟨m, hm, rfl, hr⟩ := hrel
    by_cases hz : 0 < m ∧ xs[m - 1]? = some 0
    · obtain ⟨hm0, hx0⟩ := hz
      obtain ⟨b, off, x, rfl, hb, hx, hcell⟩ := h.at_ (k := m - 1) (by omega)
      have hxx : x = 0 := by rw [hx0] at hx; injection hx with hx; exact hx.symm
      have HS := hide ((rdropZ_step hm0 hx0).symm.trans hr.out)
      have hx' : (x == 0) = true := by rw [hxx]; rfl
      have e1 : ((m : Int) - 1).toNat = m - 1 := by omega
      clear hx hx0 hxx
      go_wp2
      go_round
      case rel => exact ⟨m - 1, by omega, rfl, HS⟩
      case measure => simp; omega
    · obtain ⟨ys, hys⟩ : ∃ ys, xs.take m = ys := ⟨_, rfl⟩
      have HL : ys.length = m := by rw [← hys, List.length_take]; omega
      have hry : RI w A ys := by rw [← hys]; exact h.take_ m
      have HR : Hid (rdropZ xs = ys) := by
        rw [← hr.out, ← hys]
        rcases Nat.eq_zero_or_pos m with h0 | h0
        · rw [h0]; rfl
        · cases hx : xs[m - 1]? with
          | none => have := List.getElem?_eq_none_iff.1 hx; omega
          | some x => exact rdropZ_stop h0 hx (fun e => hz ⟨h0, by rw [hx, e]⟩)
      have hyc : ys.length ≤ c := by omega
      have hyn : ys.length ≤ 4294967296 := by omega
      obtain rfl : m = ys.length := HL.symm
      have hcase : ys.length ≤ 0 ∨ ∃ b off x, 0 < ys.length ∧ A = some ⟨b, off, none⟩ ∧ b < w.heap.size ∧ x ≠ 0 ∧ w.cell? ⟨b, off + (ys.length - 1), none⟩ = some (.int .i64 x) := by
        rcases Nat.eq_zero_or_pos ys.length with h0 | h0
        · exact .inl (by omega)
        · obtain ⟨b, off, x, hA, hb, hx, hcell⟩ := h.at_ (k := ys.length - 1) (by omega)
          exact .inr ⟨b, off, x, h0, hA, hb, fun e => hz ⟨h0, by rw [hx, e]⟩, hcell⟩
      clear hz hys hr HL
      rcases hcase with h0 | ⟨b, off, x, h0, rfl, hb, hxne, hcell⟩
      case' inl => go_wp2
      case' inr =>
        have e1 : ((ys.length : Int) - 1).toNat = ys.length - 1 := by omega
        have hx' : (x == 0) = false := by rw [beq_eq_false_iff_ne]; exact hxne
        go_wp2
      all_goals
        go_loop [0, 1] (fun l v => ∃ (j : Nat) (zs : List Int) (A' : Option Addr) (c' : Nat), j ≤ ys.length ∧ l = .int .i64 (low + j) ∧ v = .slice A' zs.length c' ∧ Hid (zs = ys.drop j) ∧ RI w A' zs ∧ zs.length ≤ c' ∧ c' ≤ 9223372036854775807 ∧ Hid (dropZ zs = dropZ ys)) (fun _ v => match v with | .slice _ n _ => n | _ => 0)
        case atStart => exact ⟨0, ys, _, c, Nat.zero_le _, by simp, rfl, hide rfl, hry, hyc, hcm, hide rfl⟩
        case round =>
          obtain ⟨j, zs, A', c', hj, rfl, rfl, hzs, hr', hlc, hcm', hd⟩ := hrel
          have hjz : zs.length = ys.length - j := by rw [hzs.out, List.length_drop]
          cases zs with
          | nil =>
            have HT := hide (trimS_none (low := low) HR.out (hd.out.symm.trans (by rw [← hzs.out]; rfl)) (by rw [← hzs.out]; rfl))
            clear hjz
            go_wp2_with fail
            refine bodyPost_ret (v := .agg #[.int .i64 0, .slice (some ⟨w.heap.size + 1, 0, none⟩) 0 0]) (by simp [results, Tryz.results57, go_sem]) rfl ?_
            rw [HT.out]
            exact ⟨_, 0, rfl, OwnI.empty_ _ _ (by simp) (by simp), ((Below.refl _ _).alloc (Nat.le_refl _) _).alloc (by simp) _⟩
          | cons y t =>
            have hjl : j < ys.length := by simp only [List.length_cons] at hjz; omega
            obtain ⟨b2, off2, y', rfl, hb2, hy', hcell2⟩ := hr'.at_ (k := 0) (by simp)
            have hyy : y' = y := by simpa using hy'.symm
            have hcell3 : w.cell? ⟨b2, off2, none⟩ = some (.int .i64 y) := by rw [← hyy]; exact hcell2
            have ht : t = ys.drop (j + 1) := by
              have := congrArg (fun l : List Int => l.drop 1) hzs.out
              simpa [Nat.add_comm] using this
            have HT := hide ht
            clear hy' hyy hcell2 hjz ht
            by_cases hy0 : y = 0
            · subst hy0
              have HD : Hid (dropZ t = dropZ ys) := by have := hd.out; simpa [dropZ, Hid] using this
              have hrt := RI.rest hr' (by simp)
              have hlc' : t.length + 1 ≤ c' := by simpa using hlc
              by_cases hc1 : c' = 1
              · subst hc1
                obtain rfl := len_nil (xs := t) (by omega)
                go_wp2
                go_round
                case rel => exact ⟨j + 1, [], some ⟨b2, off2, none⟩, 0, by omega, by go_num, rfl, HT, RI.nil _ _, by simp, by omega, HD⟩
                case measure => simp
              · go_wp2
                all_goals try (exfalso; omega)
                all_goals
                  go_round
                  case rel => exact ⟨j + 1, t, some ⟨b2, off2 + 1, none⟩, c' - 1, by omega, by go_num, rfl, HT, by simpa using hrt, by omega, by omega, HD⟩
                  case measure => simp
            · have hy1 : (y == 0) = false := by rw [beq_eq_false_iff_ne]; exact hy0
              have hdr : dropZ ys = ys.drop j := by rw [← hd.out, ← hzs.out]; simp [dropZ, hy0]
              have HT2 := hide (trimS_some (low := low) HR.out hdr hj (by rw [← hzs.out]; simp))
              have HZ := hide hzs.out
              have hlz : (y :: t).length ≤ 4294967296 := by have := congrArg List.length hzs.out; rw [List.length_drop] at this; omega
              clear hy0 hdr
              go_wp2_with (go_at_call 88; refine (l00Own_any _ _ (y :: t) _ (RI.alloc hr' _) hlz).mono ?_; rintro e w3 ⟨A3, c3, rfl, ho3, hb3⟩; have q3 := hq.below hb3; obtain ⟨pa3, pb3⟩ := q3.two; have pf3 := q3.frozen 0; have pg3 := q3.frozen 1; have z3 := hb3.size)
              all_goals
                refine bodyPost_ret (v := .agg #[.int .i64 (low + j), .slice A3 (y :: t).length c3]) (by simp [results, Tryz.results57, go_sem, pa3, pb3]) rfl ?_
                rw [HT2.out, ← HZ.out]
                exact ⟨A3, c3, rfl, ((ho3.setLow (by simp) _).setLow (by simp) _).mono (by simp), ((hB.trans (hb3.mono (by simp))).setCell (Nat.le_refl _) _).setCell (Nat.le_refl _) _⟩

theorem l18Checked_yes (low : Int) (A : Option Addr) (c : Nat) (xs : List Int) (w : World) (h : RI w A xs) (hn : xs.length ≤ 1048576) (hv : vldP low xs = true) :
    Calls Tryz.prog 34 #[.agg #[.int .i64 low, .slice A xs.length c]] w (RetV w (.tuple #[.agg #[.int .i64 low, .slice A xs.length c], .int .i64 0])) := by
  go_enter Tryz.func34, Tryz.ntmps34
  go_wp2_with (go_at_call 32; refine (l18Ok_any _ _ low A c xs _ (by simp [go_sem]) (by simp [go_sem]) ((h.alloc _).alloc _) hn).mono ?_; rintro e w' ⟨rfl, rfl⟩)
  refine bodyPost_ret (v := .tuple #[.agg #[.int .i64 low, .slice A xs.length c], .int .i64 0]) (by simp [results, Tryz.results34, go_sem]) rfl ⟨rfl, ?_⟩
  exact ((Below.refl _ _).alloc (Nat.le_refl _) _).alloc (by simp) _
theorem l18Checked_no (low : Int) (A : Option Addr) (c : Nat) (xs : List Int) (w : World) (h : RI w A xs) (hn : xs.length ≤ 1048576) (hv : vldP low xs = false) :
    Calls Tryz.prog 34 #[.agg #[.int .i64 low, .slice A xs.length c]] w (RetV w (.tuple #[.agg #[.int .i64 0, .slice none 0 0], .int .i64 5])) := by
  go_enter Tryz.func34, Tryz.ntmps34
  go_wp2_with (go_at_call 32; refine (l18Ok_any _ _ low A c xs _ (by simp [go_sem]) (by simp [go_sem]) ((h.alloc _).alloc _) hn).mono ?_; rintro e w' ⟨rfl, rfl⟩)
  refine bodyPost_ret (v := .tuple #[.agg #[.int .i64 0, .slice none 0 0], .int .i64 5]) (by simp [results, Tryz.results34, go_sem]) rfl ⟨rfl, ?_⟩
  exact ((Below.refl _ _).alloc (Nat.le_refl _) _).alloc (by simp) _
end Go.Proofs.YtjlifbdaieblpaaGreat
