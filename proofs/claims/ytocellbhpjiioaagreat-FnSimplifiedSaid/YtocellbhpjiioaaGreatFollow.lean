/-
  Contracts: follow, l16Next, l16Loop: elements that follow one another. Conditions: none beyond the lengths.
-/
import Derived.Test.YtocellbhpjiioaaGreatMoveMathM
import Derived.BigQuiet
namespace Go.Proofs.YtocellbhpjiioaaGreat
open Go.RowKit
set_option linter.unusedVariables false

theorem tmod_next (k n : Nat) : Int.tmod ((k : Int) + 1) (n : Int) = (((k + 1) % n : Nat) : Int) := by
  rw [Int.tmod_eq_emod_of_nonneg (by omega)]
  exact modN k n
theorem folB_at {code : List (List Int)} {i k j m : Nat} {xs : List Int} (hi : code[i]? = some xs) : folB code ((i : Int), (k : Int)) ((j : Int), (m : Int)) = (decide (i = j) && !decide (k = m) && (decide ((k + 1) % xs.length = m) || decide ((m + 1) % xs.length = k))) := by
  have e0 : (code.getD ((i : Int)).toNat []) = xs := by rw [show ((i : Int)).toNat = i by omega]; exact getD_row hi
  unfold folB
  dsimp only
  rw [e0, modN, modN]
  generalize (k + 1) % xs.length = r1
  generalize (m + 1) % xs.length = r2
  rw [Bool.eq_iff_iff]
  simp only [Bool.and_eq_true, Bool.or_eq_true, beq_iff_eq, Bool.not_eq_true', beq_eq_false_iff_ne, ne_eq, decide_eq_true_eq, decide_eq_false_iff_not]
  omega

set_option maxRecDepth 100000 in
set_option maxHeartbeats 4000000 in
theorem follow_any (A : Option Addr) (c T mb : Nat) (l : List (Int × Int × Int)) (code : List (List Int)) (x y : Int) (w : World) (i k j m : Nat) (xs : List Int) (hc : RC w T A code) (hn : code.length + sumLen code ≤ 1048576) (hmp : Mp plE w mb l) (hl : ∀ x, l.lookup x = placeOf code x)
    (hx0 : plc code x = ((i : Int), (k : Int))) (hy0 : plc code y = ((j : Int), (m : Int))) (hi : code[i]? = some xs) (hk : k < xs.length) (hm1 : m ≤ 1048576) :
    Calls Tryz.prog 70 #[.slice A code.length c, .map (some mb), .int .i64 x, .int .i64 y] w (RetV w (.bool (folB code ((i : Int), (k : Int)) ((j : Int), (m : Int))))) := by
  obtain ⟨k0, k1, k2, k3, k4, k5⟩ := hmp.look_pl (x := x) ((atK_plc hl x).trans hx0)
  obtain ⟨m0, m1, m2, m3, m4, m5⟩ := hmp.look_pl (x := y) ((atK_plc hl y).trans hy0)
  have HV := hide (folB_at (k := k) (j := j) (m := m) hi)
  have hil : i < code.length := (List.getElem?_eq_some_iff.1 hi).1
  have hxl := sumLen_row hi
  have HI := hide hi
  clear hx0 hy0 hi
  go_enter Tryz.func70, Tryz.ntmps70
  go_upto_region 1 with fail
  go_cut [9, 10] (fun s5 s6 wx => ∃ (G5 G6 : Nat), s5 = .pointer (some ⟨G5, 0, none⟩) ∧ s6 = .pointer (some ⟨G6, 0, none⟩) ∧ Bx wx G5 101 #[.int .i64 (i : Int), .int .i64 (k : Int)] ∧ Bx wx G6 101 #[.int .i64 (j : Int), .int .i64 (m : Int)] ∧ Below w.heap.size w wx)
  case first =>
    go_region
    all_goals go_wp2_with fail
    all_goals go_meet
    all_goals first
      | exact ⟨w.heap.size, w.heap.size + 1, rfl, rfl, ((Bx.new_ _ _ _ _ (by simp)).alloc _).drew, (Bx.new_ _ _ _ _ (by simp)).drew, (((Below.refl _ _).alloc (by simp) _).alloc (by simp) _).drew⟩
      | exact ⟨w.heap.size + 1, w.heap.size, rfl, rfl, (Bx.new_ _ _ _ _ (by simp)).drew, ((Bx.new_ _ _ _ _ (by simp)).alloc _).drew, (((Below.refl _ _).alloc (by simp) _).alloc (by simp) _).drew⟩
  case rest =>
    clear k0 k1 k2 k3 k4 k5 m0 m1 m2 m3 m4 m5
    obtain ⟨G5, G6, rfl, rfl, b5, b6, hB⟩ := hcut
    obtain ⟨c5a, c5b⟩ := b5.two
    obtain ⟨c6a, c6b⟩ := b6.two
    have heq := fun W => pl_eql W (i : Int) (k : Int) (j : Int) (m : Int)
    have hgd := fun W x y => pl_guard W .eql x y #[.int .i64 (i : Int), .int .i64 (k : Int)] #[.int .i64 (j : Int), .int .i64 (m : Int)]
    by_cases hij : i = j
    · subst hij
      by_cases hkm : k = m
      · subst hkm
        have hv : ((i : Int) == (i : Int) && (k : Int) == (k : Int)) = true := by simp
        simp only [hv] at heq
        clear hv
        go_wp2_with fail
        go_ret
        refine ⟨?_, hB⟩
        rw [HV.out]
        simp
      · have hv : ((i : Int) == (i : Int) && (k : Int) == (m : Int)) = false := by simp; omega
        simp only [hv] at heq
        obtain ⟨b, off, B, d, ys, rfl, hb, hy, hce, hd1, hd2, hR⟩ := (hc.below hB).row hil
        obtain rfl : ys = xs := by have := HI.out; rw [hy] at this; injection this
        have t1 := tmod_next k ys.length
        have t2 := tmod_next m ys.length
        have hn0 : ((ys.length : Int) == 0) = false := beq_eq_false_iff_ne.2 (by omega)
        have hn1 : ¬ ((ys.length : Int) = 0) := by omega
        have hle : ys.length ≤ 1048576 := by omega
        obtain ⟨r1, hr1⟩ : ∃ r, r = (k + 1) % ys.length := ⟨_, rfl⟩
        obtain ⟨r2, hr2⟩ : ∃ r, r = (m + 1) % ys.length := ⟨_, rfl⟩
        rw [← hr1] at t1
        rw [← hr2] at t2
        have HR : Hid (r1 = (k + 1) % ys.length ∧ r2 = (m + 1) % ys.length) := hide ⟨hr1, hr2⟩
        have hKM := hide hkm
        clear hv hy hr1 hr2 hd1 hd2 hkm heq
        have heq : ∀ W, (binOp .eql 101 (.agg #[.int .i64 (i : Int), .int .i64 (k : Int)]) (.agg #[.int .i64 (i : Int), .int .i64 (m : Int)])).run Tryz.prog W = .ok (.bool false) W := fun W => by
          rw [pl_eql, show ((i : Int) == (i : Int) && (k : Int) == (m : Int)) = false by have := hKM.out; simp; omega]
        by_cases h1 : r1 = m
        · have q1 : ((r1 : Int) == (m : Int)) = true := by simp [h1]
          have d1 : decide ((r1 : Int) = (m : Int)) = true := by simp [h1]
          have HQ := hide h1
          clear h1
          go_wp2_with fail
          go_quiet (fail)
          go_wp2_with fail
          go_ret
          refine ⟨?_, below_drewN'' hB _⟩
          rw [HV.out, ← HR.out.1, ← HR.out.2]
          have := hKM.out
          simp [this, HQ.out]
        · have q1 : ((r1 : Int) == (m : Int)) = false := beq_eq_false_iff_ne.2 (by omega)
          have d1 : decide ((r1 : Int) = (m : Int)) = false := decide_eq_false (by omega)
          by_cases h2 : r2 = k
          · have q2 : ((r2 : Int) == (k : Int)) = true := by simp [h2]
            have d2 : decide ((r2 : Int) = (k : Int)) = true := by simp [h2]
            have HQ := hide h2
            clear h1 h2
            go_wp2_with fail
            go_quiet (fail)
            go_wp2_with fail
            go_ret
            refine ⟨?_, below_drewN'' hB _⟩
            rw [HV.out, ← HR.out.1, ← HR.out.2]
            have := hKM.out
            simp [this, HQ.out]
          · have q2 : ((r2 : Int) == (k : Int)) = false := beq_eq_false_iff_ne.2 (by omega)
            have d2 : decide ((r2 : Int) = (k : Int)) = false := decide_eq_false (by omega)
            have HH := hide (And.intro h1 h2)
            clear h1 h2
            go_wp2_with fail
            go_quiet (fail)
            go_wp2_with fail
            go_ret
            refine ⟨?_, below_drewN'' hB _⟩
            rw [HV.out, ← HR.out.1, ← HR.out.2]
            have := hKM.out
            simp [this, HH.out.1, HH.out.2]
    · have hne : ((i : Int) == (j : Int)) = false := by simp; omega
      have hne2 : ((i : Int) != (j : Int)) = true := by simp; omega
      have HIJ := hide hij
      clear hij heq hgd
      go_wp2_with fail
      go_ret
      refine ⟨?_, hB⟩
      rw [HV.out]
      simp [HIJ.out]

theorem nxt_next {xs : List Int} {a b x y : Int} {k r : Nat} (hx : xs[k]? = some x) (hr : r = (k + 1) % xs.length) (hy : xs[r]? = some y) (h : (List.range k).any (nxtK xs a b) = false) (hb : nbB x y a b = false) : (List.range (k + 1)).any (nxtK xs a b) = false := by
  subst hr
  rw [List.range_succ, List.any_append, h]
  simp only [List.any_cons, List.any_nil, Bool.or_false, Bool.false_or]
  unfold nxtK
  rw [getD_at hx, getD_at hy]
  exact hb
theorem nxt_hit {code : List (List Int)} {xs : List Int} {a b x y : Int} {i k r : Nat} (hi : code[i]? = some xs) (hx : xs[k]? = some x) (hr : r = (k + 1) % xs.length) (hy : xs[r]? = some y) (hb : nbB x y a b = true) : nextC code a b = true := by
  unfold nextC
  rw [List.any_eq_true]
  refine ⟨xs, List.mem_of_getElem? hi, ?_⟩
  subst hr
  exact nxtRow_iff.2 ⟨k, x, y, hx, hy, nbB_iff.1 hb⟩
theorem nxt_row {code : List (List Int)} {xs : List Int} {a b : Int} {i : Nat} (hi : code[i]? = some xs) (h : (code.take i).any (nxtRow a b) = false) (hr : (List.range xs.length).any (nxtK xs a b) = false) : (code.take (i + 1)).any (nxtRow a b) = false := by
  rw [List.take_add_one, hi, List.any_append, h]
  unfold nxtRow
  simpa using hr

set_option maxRecDepth 100000 in
set_option maxHeartbeats 4000000 in
theorem l16Next_any (A : Option Addr) (c T : Nat) (code : List (List Int)) (a b0 : Int) (w : World) (hc : RC w T A code) (hn : code.length + sumLen code ≤ 1048576) :
    Calls Tryz.prog 80 #[.slice A code.length c, .int .i64 a, .int .i64 b0] w (RetV w (.bool (nextC code a b0))) := by
  go_enter Tryz.func80, Tryz.ntmps80
  go_wp2_with fail
  go_loopw [7] (fun s wr => ∃ i : Nat, i ≤ code.length ∧ s = .int .i64 i ∧ Hid ((code.take i).any (nxtRow a b0) = false) ∧ Below w.heap.size w wr) (fun s _ => code.length - (intOf s).toNat)
  case atStart => exact ⟨0, Nat.zero_le _, rfl, hide (by simp), Below.refl _ _⟩
  case round =>
    obtain ⟨i, hi, rfl, hany, hB⟩ := hrel
    obtain ⟨wo, rfl⟩ : ∃ wo : World, wo = wr := ⟨_, rfl⟩
    by_cases hlt : i < code.length
    · obtain ⟨b, off, B, d, xs, rfl, hb, hx, hce, hd1, hd2, hR⟩ := (hc.below hB).row hlt
      have HX := hide hx
      have hxl := sumLen_row hx
      clear hx hd1 hd2 hb hce hR
      have hrow := (hc.below hB).row hlt
      obtain ⟨b', off', B', d', xs', hA', hb, hx', hce, _, _, hR⟩ := hrow
      injection hA' with hA'
      injection hA' with e1 e2
      subst e1 e2
      obtain rfl : xs = xs' := by have := HX.out; rw [hx'] at this; injection this with this; exact this.symm
      clear hx'
      go_wp2_with fail
      go_loopw [9] (fun s wr => ∃ k : Nat, k ≤ xs.length ∧ s = .int .i64 k ∧ Hid ((List.range k).any (nxtK xs a b0) = false) ∧ Below w.heap.size w wr) (fun s _ => xs.length - (intOf s).toNat)
      case atStart => exact ⟨0, Nat.zero_le _, rfl, hide (by simp), hB⟩
      case round =>
        clear hb hce hR hB
        obtain ⟨k, hk, rfl, hnone, hB⟩ := hrel
        obtain ⟨b', off', B', d', xs', hA', hb, hx', hce, _, _, hR⟩ := (hc.below hB).row hlt
        injection hA' with hA'
        injection hA' with e1 e2
        subst e1 e2
        obtain rfl : xs = xs' := by have := HX.out; rw [hx'] at this; injection this with this; exact this.symm
        clear hx'
        by_cases hkl : k < xs.length
        · have hrl : (k + 1) % xs.length < xs.length := Nat.mod_lt _ (by omega)
          have t1 := tmod_next k xs.length
          obtain ⟨r, hr⟩ : ∃ r, r = (k + 1) % xs.length := ⟨_, rfl⟩
          rw [← hr] at t1 hrl
          have HRR := hide hr
          obtain ⟨b2, off2, x, rfl, hb2, hx, hcx⟩ := hR.at_ hkl
          obtain ⟨b3, off3, y, hA3, hb3, hy, hcy⟩ := hR.at_ hrl
          injection hA3 with hA3
          injection hA3 with e1 e2
          subst e1 e2
          have hn1 : ¬ ((xs.length : Int) = 0) := by omega
          have hr0 : (r : Int) < (xs.length : Int) := by omega
          have HN : nbB x y a b0 = false → Hid ((List.range (k + 1)).any (nxtK xs a b0) = false) := fun e => hide (nxt_next hx HRR.out hy hnone.out e)
          have HH : nbB x y a b0 = true → Hid (nextC code a b0 = true) := fun e => hide (nxt_hit HX.out hx HRR.out hy e)
          have HNb : Hid (nbB x y a b0 = ((x == a && y == b0) || (x == b0 && y == a))) := hide rfl
          clear hx hy hr hnone
          go_wp2_with fail
          go_quiet (fail)
          cases p0 : (x == a)
          · cases p2 : (x == b0)
            · have HV := HN (by rw [HNb.out]; simp [p0, p2])
              clear HN HH
              go_wp2_with fail
              go_roundw
              case rel => exact ⟨k + 1, by omega, by go_num, HV, below_drewN'' hB _⟩
              case measure => simp [intOf]; omega
            · cases p3 : (y == a)
              · have HV := HN (by rw [HNb.out]; simp [p0, p2, p3])
                clear HN HH
                go_wp2_with fail
                go_roundw
                case rel => exact ⟨k + 1, by omega, by go_num, HV, below_drewN'' hB _⟩
                case measure => simp [intOf]; omega
              · have HV := HH (by rw [HNb.out]; simp [p0, p2, p3])
                clear HN HH
                go_wp2_with fail
                go_ret
                rw [HV.out]
                exact ⟨rfl, below_drewN'' hB _⟩
          · cases p1 : (y == b0)
            · cases p2 : (x == b0)
              · have HV := HN (by rw [HNb.out]; simp [p0, p1, p2])
                clear HN HH
                go_wp2_with fail
                go_roundw
                case rel => exact ⟨k + 1, by omega, by go_num, HV, below_drewN'' hB _⟩
                case measure => simp [intOf]; omega
              · cases p3 : (y == a)
                · have HV := HN (by rw [HNb.out]; simp [p0, p1, p2, p3])
                  clear HN HH
                  go_wp2_with fail
                  go_roundw
                  case rel => exact ⟨k + 1, by omega, by go_num, HV, below_drewN'' hB _⟩
                  case measure => simp [intOf]; omega
                · have HV := HH (by rw [HNb.out]; simp [p0, p1, p2, p3])
                  clear HN HH
                  go_wp2_with fail
                  go_ret
                  rw [HV.out]
                  exact ⟨rfl, below_drewN'' hB _⟩
            · have HV := HH (by rw [HNb.out]; simp [p0, p1])
              clear HN HH
              go_wp2_with fail
              go_ret
              rw [HV.out]
              exact ⟨rfl, below_drewN'' hB _⟩
        · obtain rfl : k = xs.length := by omega
          have HV := hide (nxt_row HX.out hany.out hnone.out)
          go_wp2_with fail
          go_roundw
          case rel => exact ⟨i + 1, by omega, by go_num, HV, hB⟩
          case measure => simp [intOf]; omega
    · have hany' := hany.out
      rw [List.take_of_length_le (by omega)] at hany'
      have HV : Hid (nextC code a b0 = false) := hide hany'
      clear hany hany'
      go_wp2_with fail
      go_ret
      rw [HV.out]
      exact ⟨rfl, hB⟩
theorem l16Loop_any (A : Option Addr) (c T k : Nat) (code : List (List Int)) (w : World) (hc : RC w T A code) (hn : code.length + sumLen code ≤ 1048576) (hk : k ≤ 1048576) :
    Calls Tryz.prog 66 #[.slice A code.length c, .int .i64 (k : Int)] w (RetV w (.bool (loopK code k))) := by
  have w1 : IntKind.i64.wrap ((k : Int) + 1) = (k : Int) + 1 := by rw [IntKind.wrap_i64]; omega
  have w2 : IntKind.i64.wrap (-(k : Int)) = -(k : Int) := by rw [IntKind.wrap_i64]; omega
  have w3 : IntKind.i64.wrap (-(k : Int) - 1) = -(k : Int) - 1 := by rw [IntKind.wrap_i64]; omega
  have HV : Hid (loopK code k = nextC code ((k : Int) + 1) (-(k : Int) - 1)) := hide rfl
  go_enter Tryz.func66, Tryz.ntmps66
  go_wp2_with fail
  refine (l16Next_any _ _ T code _ _ _ hc hn).mono ?_
  rw [← HV.out]
  rintro e w1 ⟨rfl, hb1⟩
  go_wp2_with fail
  go_ret
  exact ⟨rfl, hb1⟩
end Go.Proofs.YtocellbhpjiioaaGreat
