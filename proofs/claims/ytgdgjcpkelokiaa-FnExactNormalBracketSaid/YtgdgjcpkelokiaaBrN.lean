/-
  Contract: the bracket of a panel with few crossings, program. Conditions: a valid panel's sides; at most eight crossings.
  Contracts: the codes of brackets, and BracketOf, of the reference and of the program. Conditions: the lengths are far below the machine's.
  Contracts: NormalBracket, of the reference and of the program. Conditions: the lengths are far below the machine's.
-/
import Derived.Test.YtgdgjcpkelokiaaBr2
import Derived.Test.YtgdgjcpkelokiaaPolyAddI
import Derived.Test.YtgdgjcpkelokiaaPolyMulI
import Derived.Test.YtgdgjcpkelokiaaCrC
import Derived.Deep.RegionHeld3
import Derived.Test.YtgdgjcpkelokiaaPolySum
import Derived.Test.YtgdgjcpkelokiaaPolyShift
import Derived.Test.YtgdgjcpkelokiaaTr13
namespace Go.Proofs.Ytgdgjcpkelokiaa
open Go.RowKit
set_option linter.unusedVariables false

set_option maxRecDepth 20000 in
set_option maxHeartbeats 8000000 in
theorem bracket_any (wd ht : Int) (A : Option Addr) (c : Nat) (xs : List Int) (w : World) (hxs : RI w A xs) (hn : xs.length ≤ 1048576) (hs : Sz wd ht) (hl : (xs.length : Int) = innerN wd ht) (h8 : crN xs ≤ 8) :
    Calls Try.prog 36 #[.agg #[.int .i64 wd, .int .i64 ht, .slice A xs.length c]] w (RetP w (brTo wd ht xs (2 ^ crN xs)).1 (brTo wd ht xs (2 ^ crN xs)).2) := by
  have HS := hide hs
  have HL := hide hl
  have HZ : Hid ((zTo xs xs.length).length = crN xs) := hide rfl
  have HRI := hide (fun (W : World) (h : Below w.heap.size w W) => hxs.below h)
  have HALL := hide (fun (W : World) (h : RI W A xs) => crossingNumbers_any wd ht A c xs W h hn)
  obtain ⟨zs, hzs⟩ : ∃ zs, zs = zTo xs xs.length := ⟨_, rfl⟩
  rw [← hzs] at HZ HALL
  have HZS := hide hzs
  clear hs hl hxs hzs
  obtain ⟨pa_x1, pb_x1, pc_x1⟩ := ((Bx.new_ w (w.heap.size) 26 #[.int .i64 wd, .int .i64 ht, .slice A xs.length c] (by simp)).alloc (.cells #[.int .i64 0, .slice none 0 0] 34)).three
  go_enter Try.func36, Try.ntmps36
  go_wp2_with fail
  refine (HALL.out _ (HRI.out _ (((Below.refl w.heap.size w).alloc (by first | omega | (simp; omega) | simp) (.cells #[.int .i64 wd, .int .i64 ht, .slice A xs.length c] 26)).alloc (by first | omega | (simp; omega) | simp) (.cells #[.int .i64 0, .slice none 0 0] 34)))).mono ?_
  rintro e w1 ⟨A3, c3, rfl, own3, hb1⟩
  have p_1 := ((Bx.new_ w (w.heap.size) 26 #[.int .i64 wd, .int .i64 ht, .slice A xs.length c] (by simp)).alloc (.cells #[.int .i64 0, .slice none 0 0] 34)).below hb1
  obtain ⟨pa_1, pb_1, pc_1⟩ := (p_1).three
  have r_1 := (Bx.new_ (w.alloc (.cells #[.int .i64 wd, .int .i64 ht, .slice A xs.length c] 26)) (w.heap.size + 1) 34 #[.int .i64 0, .slice none 0 0] (by simp)).below hb1
  obtain ⟨ra_1, rb_1⟩ := (r_1).two
  have rf0_1 := (r_1).frozen 0
  have rf1_1 := (r_1).frozen 1
  have z_1 : ((w.alloc (.cells #[.int .i64 wd, .int .i64 ht, .slice A xs.length c] 26)).alloc (.cells #[.int .i64 0, .slice none 0 0] 34)).heap.size ≤ w1.heap.size := hb1.size
  simp only [World.size_alloc] at z_1
  have B_1 := (((Below.refl w.heap.size w).alloc (by first | omega | (simp; omega) | simp) (.cells #[.int .i64 wd, .int .i64 ht, .slice A xs.length c] 26)).alloc (by first | omega | (simp; omega) | simp) (.cells #[.int .i64 0, .slice none 0 0] 34)).trans (hb1.mono (by first | omega | (simp; omega) | simp))
  have hlow3 : ∀ g, blk A3 = some g → g < w1.heap.size := fun g hg => (own3.ge hg).2
  have h2 := OwnI.newI_ w1 (base := w.heap.size) (w1.heap.size) [-1, 0, 0, 0, -1] #[.int .i64 (-1), .int .i64 0, .int .i64 0, .int .i64 0, .int .i64 (-1)] (by simp) rfl (by omega) (by simp [maxLen])
  have y1 := h2.rd.alloc (.cells #[.int .i64 (-2), .slice (some ⟨w1.heap.size, 0, none⟩) 5 5] 34)
  have y2 := y1.alloc (.cells #[.int .i64 0, .slice none 0 0] 34)
  have o33 := (((own3.alloc (.cells #[.int .i64 (-1), .int .i64 0, .int .i64 0, .int .i64 0, .int .i64 (-1)] 2)).alloc (.cells #[.int .i64 (-2), .slice (some ⟨w1.heap.size, 0, none⟩) 5 5] 34)).alloc (.cells #[.int .i64 0, .slice none 0 0] 34)).mono (show w.heap.size + 1 ≤ _ by simp)
  have r0 := ((((r_1).alloc (.cells #[.int .i64 (-1), .int .i64 0, .int .i64 0, .int .i64 0, .int .i64 (-1)] 2)).alloc (.cells #[.int .i64 (-2), .slice (some ⟨w1.heap.size, 0, none⟩) 5 5] 34)).alloc (.cells #[.int .i64 0, .slice none 0 0] 34))
  have o0 := (Bx.new_ ((w1.alloc (.cells #[.int .i64 (-1), .int .i64 0, .int .i64 0, .int .i64 0, .int .i64 (-1)] 2)).alloc (.cells #[.int .i64 (-2), .slice (some ⟨w1.heap.size, 0, none⟩) 5 5] 34)) (w1.heap.size + 1 + 1) 34 #[.int .i64 0, .slice none 0 0] (by simp))
  have l0 := ((Bx.new_ (w1.alloc (.cells #[.int .i64 (-1), .int .i64 0, .int .i64 0, .int .i64 0, .int .i64 (-1)] 2)) (w1.heap.size + 1) 34 #[.int .i64 (-2), .slice (some ⟨w1.heap.size, 0, none⟩) 5 5] (by simp)).alloc (.cells #[.int .i64 0, .slice none 0 0] 34))
  have p0 := ((((p_1).alloc (.cells #[.int .i64 (-1), .int .i64 0, .int .i64 0, .int .i64 0, .int .i64 (-1)] 2)).alloc (.cells #[.int .i64 (-2), .slice (some ⟨w1.heap.size, 0, none⟩) 5 5] 34)).alloc (.cells #[.int .i64 0, .slice none 0 0] 34))
  have B0 := ((((B_1).alloc (by first | omega | (simp; omega) | simp) (.cells #[.int .i64 (-1), .int .i64 0, .int .i64 0, .int .i64 0, .int .i64 (-1)] 2)).alloc (by first | omega | (simp; omega) | simp) (.cells #[.int .i64 (-2), .slice (some ⟨w1.heap.size, 0, none⟩) 5 5] 34)).alloc (by first | omega | (simp; omega) | simp) (.cells #[.int .i64 0, .slice none 0 0] 34))
  have hz1 := r_1.lt
  have hpw : (2 : Nat) ^ crN xs ≤ 256 := by
    have : (2 : Nat) ^ crN xs ≤ 2 ^ 8 := Nat.pow_le_pow_right (by omega) h8
    exact this
  have hzl : zs.length ≤ 8 := by rw [HZ.out]; exact h8
  have HSH : Hid (wrap64 ((2 : Int) ^ zs.length) = ((2 ^ crN xs : Nat) : Int)) := hide (by rw [HZ.out]; exact shl_fact h8)
  clear own3 h2 y1
  obtain ⟨oa_x2, ob_x2⟩ := (Bx.new_ ((w1.alloc (.cells #[.int .i64 (-1), .int .i64 0, .int .i64 0, .int .i64 0, .int .i64 (-1)] 2)).alloc (.cells #[.int .i64 (-2), .slice (some ⟨w1.heap.size, 0, none⟩) 5 5] 34)) (w1.heap.size + 1 + 1) 34 #[.int .i64 0, .slice none 0 0] (by simp)).two
  have of0_x2 := (Bx.new_ ((w1.alloc (.cells #[.int .i64 (-1), .int .i64 0, .int .i64 0, .int .i64 0, .int .i64 (-1)] 2)).alloc (.cells #[.int .i64 (-2), .slice (some ⟨w1.heap.size, 0, none⟩) 5 5] 34)) (w1.heap.size + 1 + 1) 34 #[.int .i64 0, .slice none 0 0] (by simp)).frozen 0
  have of1_x2 := (Bx.new_ ((w1.alloc (.cells #[.int .i64 (-1), .int .i64 0, .int .i64 0, .int .i64 0, .int .i64 (-1)] 2)).alloc (.cells #[.int .i64 (-2), .slice (some ⟨w1.heap.size, 0, none⟩) 5 5] 34)) (w1.heap.size + 1 + 1) 34 #[.int .i64 0, .slice none 0 0] (by simp)).frozen 1
  obtain ⟨ra_x2, rb_x2⟩ := ((((r_1).alloc (.cells #[.int .i64 (-1), .int .i64 0, .int .i64 0, .int .i64 0, .int .i64 (-1)] 2)).alloc (.cells #[.int .i64 (-2), .slice (some ⟨w1.heap.size, 0, none⟩) 5 5] 34)).alloc (.cells #[.int .i64 0, .slice none 0 0] 34)).two
  have rf0_x2 := ((((r_1).alloc (.cells #[.int .i64 (-1), .int .i64 0, .int .i64 0, .int .i64 0, .int .i64 (-1)] 2)).alloc (.cells #[.int .i64 (-2), .slice (some ⟨w1.heap.size, 0, none⟩) 5 5] 34)).alloc (.cells #[.int .i64 0, .slice none 0 0] 34)).frozen 0
  have rf1_x2 := ((((r_1).alloc (.cells #[.int .i64 (-1), .int .i64 0, .int .i64 0, .int .i64 0, .int .i64 (-1)] 2)).alloc (.cells #[.int .i64 (-2), .slice (some ⟨w1.heap.size, 0, none⟩) 5 5] 34)).alloc (.cells #[.int .i64 0, .slice none 0 0] 34)).frozen 1
  obtain ⟨la_x2, lb_x2⟩ := ((Bx.new_ (w1.alloc (.cells #[.int .i64 (-1), .int .i64 0, .int .i64 0, .int .i64 0, .int .i64 (-1)] 2)) (w1.heap.size + 1) 34 #[.int .i64 (-2), .slice (some ⟨w1.heap.size, 0, none⟩) 5 5] (by simp)).alloc (.cells #[.int .i64 0, .slice none 0 0] 34)).two
  obtain ⟨pa_x2, pb_x2, pc_x2⟩ := ((((p_1).alloc (.cells #[.int .i64 (-1), .int .i64 0, .int .i64 0, .int .i64 0, .int .i64 (-1)] 2)).alloc (.cells #[.int .i64 (-2), .slice (some ⟨w1.heap.size, 0, none⟩) 5 5] 34)).alloc (.cells #[.int .i64 0, .slice none 0 0] 34)).three
  go_wp2_with fail
  go_loopw [21] (fun sv wr => ∃ (s : Nat) (A5 : Option Addr) (c5 : Nat), s ≤ 2 ^ crN xs ∧ sv = .int .i64 (s : Int) ∧ OwnI wr (w.heap.size + 2) A5 c5 (brTo wd ht xs s).2 ∧ Bx wr (w1.heap.size + 1 + 1) 34 #[.int .i64 (brTo wd ht xs s).1, .slice A5 (brTo wd ht xs s).2.length c5] ∧ RI wr (some ⟨w1.heap.size, 0, none⟩) [-1, 0, 0, 0, -1] ∧ Bx wr (w1.heap.size + 1) 34 #[.int .i64 (-2), .slice (some ⟨w1.heap.size, 0, none⟩) 5 5] ∧ OwnI wr (w.heap.size + 1) A3 c3 zs ∧ Bx wr w.heap.size 26 #[.int .i64 wd, .int .i64 ht, .slice A xs.length c] ∧ Bx wr (w.heap.size + 1) 34 #[.int .i64 0, .slice none 0 0] ∧ Below w.heap.size w wr) (fun sv _ => 2 ^ crN xs + 1 - (intOf sv).toNat)
  case atStart => exact ⟨0, none, 0, Nat.zero_le _, rfl, OwnI.nil _ _, o0, y2, l0, o33, p0, r0, B0⟩
  case round =>
    clear o0 y2 l0 o33 p0 r0 B0
    obtain ⟨s, A5, c5, hs2, rfl, own5, ho, hy, hl, own3, hp, hr, hB⟩ := hrel
    by_cases hlt : s < 2 ^ crN xs
    · have HD : decide ((s : Int) < wrap64 (2 ^ zs.length)) = true := by
        rw [HSH.out]
        exact decide_eq_true (by omega)
      have hs256 : s ≤ 255 := by omega
      obtain ⟨q5, hq5⟩ : ∃ q5, q5 = brTo wd ht xs s := ⟨_, rfl⟩
      rw [← hq5] at own5 ho
      obtain ⟨pa, pb, pc⟩ := hp.three
      have hwpl := hp.lt
      have HQ := hide (And.intro own5 (And.intro ho (And.intro hy (And.intro hl (And.intro own3 (And.intro hp (And.intro hr hB)))))))
      have hob := ho.lt
      have hB0 := hB
      clear own5 ho hy hl own3 hr hB
      have HBW := hide hB0
      have HP9 := hide hp
      clear hB0 hp
      go_upto_region 9 with fail
      obtain ⟨wo, hwo⟩ : ∃ wo, wo = wr := ⟨_, rfl⟩
      rw [← hwo] at HQ HBW HP9 hwpl hob ⊢
      have q0 := Bx.new_ wo (wo.heap.size) 26 #[.int .i64 wd, .int .i64 ht, .slice A xs.length c] rfl
      have b0 : Below wo.heap.size wo (wo.alloc (.cells #[.int .i64 wd, .int .i64 ht, .slice A xs.length c] 26)) := (Below.refl _ _).alloc (Nat.le_refl _) _
      have a0 := HRI.out _ (HBW.out.trans (b0.mono HBW.out.size))
      clear hwo pa pb pc
      go_loopw [8, 27] (fun pv iv wr => ∃ (i : Nat) (A7 : Option Addr) (c7 : Nat), i ≤ crN xs ∧ pv = .int .i64 (powTo s i) ∧ iv = .int .i64 (i : Int) ∧ RI wr A7 (wayT wd xs s i xs) ∧ Bx wr wo.heap.size 26 #[.int .i64 wd, .int .i64 ht, .slice A7 xs.length c7] ∧ Below wo.heap.size wo wr) (fun _ iv _ => crN xs + 1 - (intOf iv).toNat)
      case atStart => exact ⟨0, A, c, Nat.zero_le _, rfl, rfl, a0, q0, b0⟩
      case round =>
        clear q0 b0 a0
        obtain ⟨i, A7, c7, hi, rfl, rfl, rd7, hq, hB⟩ := hrel
        by_cases hil : i < crN xs
        · obtain ⟨hp1, hp2⟩ := psN_at hil
          have hi7 : i ≤ 7 := by omega
          have hiz : (i : Int) < (zs.length : Int) := by rw [HZ.out]; omega
          have hbit := bit_fact (i := i) hs256
          obtain ⟨p, hpp⟩ : ∃ p, p = psN xs i := ⟨_, rfl⟩
          rw [← hpp] at hp1 hp2
          obtain ⟨bb, hbb⟩ : ∃ bb, bb = decide (s / 2 ^ i % 2 = 1) := ⟨_, rfl⟩
          rw [← hbb] at hbit
          obtain ⟨ws, hws⟩ : ∃ ws, ws = wayT wd xs s i xs := ⟨_, rfl⟩
          have hwl : ws.length = xs.length := by rw [hws, wayT_len]
          rw [← hws] at rd7
          obtain ⟨w8s, hw8⟩ : ∃ l, l = ws.set p (kdB (pntX wd p) bb) := ⟨_, rfl⟩
          have h8l : Hid (w8s.length = xs.length) := hide (by rw [hw8, List.length_set, hwl])
          have HSM := hide (smoothed_any wd ht A7 c7 ws p bb wr rd7 (by rw [hwl]; exact hn) HS.out (by rw [hwl]; exact HL.out) (by omega))
          rw [hwl, ← hw8] at HSM
          have HW : Hid (w8s = wayT wd xs s (i + 1) xs) := hide (by rw [wayT_next, hw8, hws, hpp, hbb])
          have HPW : Hid (powTo s (i + 1) = powTo s i + (if bb = true then 1 else -1)) := hide (by
            rw [hbb]
            show powTo s i + _ = powTo s i + _
            congr 1
            simp)
          have hpb := powTo_b s i
          obtain ⟨pw, hpw2⟩ : ∃ pw, pw = powTo s i := ⟨_, rfl⟩
          obtain ⟨pw3, hpw3⟩ : ∃ pw, pw = powTo s (i + 1) := ⟨_, rfl⟩
          rw [← hpw2] at hpb HPW
          rw [← hpw3] at HPW
          have HPW3 := hide hpw3
          rw [← hpw2]
          have own3 := HQ.out.2.2.2.2.1.below hB
          obtain ⟨g3, v3, rfl, _, _, hv3, hgc3, _, _⟩ := own3.at_ (k := i) (by omega)
          have hpz : zs[i]? = some (p : Int) := by rw [HZS.out]; exact hp2
          obtain rfl : (p : Int) = v3 := Option.some.inj (hpz.symm.trans hv3)
          obtain ⟨qa, qb, qc⟩ := hq.three
          have HBB := hide hB
          have HQQ := hide hq
          have hqlt := hq.lt
          clear own3 hv3 hpz hp2 hpp hbb hws hwl hw8 hpw2 hpw3 rd7 hB hq
          go_wp2_with fail
          refine HSM.out.mono ?_
          rintro e w8 ⟨A8, c8, he, own8, hb8⟩
          rw [h8l.out] at he
          subst he
          have hq8 := HQQ.out.below hb8
          obtain ⟨za, zb, zc⟩ := hq8.three
          have f0 := hq8.frozen 0
          have f1 := hq8.frozen 1
          have f2 := hq8.frozen 2
          have HN := hide (And.intro (own8.far3 (b := wo.heap.size) (o0 := 0) (o1 := 1) (o2 := 2) (u0 := .int .i64 wd) (u1 := .int .i64 ht) (u2 := .slice A8 xs.length c8) (fun g' hg' => by have := (own8.ge hg').1; omega)).rd (And.intro (hq8.put3 (u0 := .int .i64 wd) (u1 := .int .i64 ht) (u2 := .slice A8 xs.length c8)) (below_put3 (b := wo.heap.size) (o0 := 0) (o1 := 1) (o2 := 2) (u0 := .int .i64 wd) (u1 := .int .i64 ht) (u2 := .slice A8 xs.length c8) (HBB.out.trans (hb8.mono HBB.out.size)) (Nat.le_refl _))))
          clear own8 hq8 qa qb qc hgc3 hbit
          cases bb
          · have e1 : powTo s (i + 1) = pw - 1 := by rw [← HPW3.out, HPW.out]; simp; omega
            go_wp2_with fail
            go_roundw
            case rel => exact ⟨i + 1, A8, c8, hil, by rw [e1], by go_num, by rw [← HW.out]; exact HN.out.1, HN.out.2.1, HN.out.2.2⟩
            case measure => simp [intOf]; omega
          · have e1 : powTo s (i + 1) = pw + 1 := by rw [← HPW3.out, HPW.out]; simp
            go_wp2_with fail
            go_roundw
            case rel => exact ⟨i + 1, A8, c8, hil, by rw [e1], by go_num, by rw [← HW.out]; exact HN.out.1, HN.out.2.1, HN.out.2.2⟩
            case measure => simp [intOf]; omega
        · obtain rfl : i = crN xs := by omega
          have hiz : ¬ ((crN xs : Int) < (zs.length : Int)) := by rw [HZ.out]; omega
          obtain ⟨ws, hws⟩ : ∃ ws, ws = wayT wd xs s (crN xs) xs := ⟨_, rfl⟩
          have hwl : ws.length = xs.length := by rw [hws, wayT_len]
          rw [← hws] at rd7
          obtain ⟨cnt, hcnt⟩ : ∃ cnt : Nat, cnt = (curL wd ht ws).length := ⟨_, rfl⟩
          have hc256 : cnt ≤ 256 := by rw [hcnt]; exact cur_le HS.out
          have hpb := powTo_b s (crN xs)
          obtain ⟨pw, hpw2⟩ : ∃ pw, pw = powTo s (crN xs) := ⟨_, rfl⟩
          have HPP : Hid (wayP wd ht xs s = summP pw (cnt - 1)) := hide (by unfold wayP wayM; rw [← hws, ← hcnt, hpw2])
          rw [← hpw2] at hpb
          rw [← hpw2]
          have HSB := hide (fun m => summ_bk (p := pw) (P := 8) (by omega) m)
          have HCC := hide (fun (W : World) (h : RI W A7 ws) => countCurves_any wd ht A7 c7 ws W h HS.out (by rw [hwl]; exact HL.out))
          rw [← hcnt, hwl] at HCC
          have HBB := hide hB
          have HQQ := hide hq
          have HRD := hide rd7
          have hqlt := hq.lt
          have hq2 := (hq.alloc (.cells #[.int .i64 1] 2)).alloc (.cells #[.int .i64 pw, .slice (some ⟨wr.heap.size, 0, none⟩) 1 1] 34)
          obtain ⟨qa, qb, qc⟩ := hq2.three
          have x1 := (OwnI.newI_ wr (base := w.heap.size + 2) (wr.heap.size) [1] #[.int .i64 1] rfl rfl (by have := hB.size; omega) (by simp [maxLen])).alloc (.cells #[.int .i64 pw, .slice (some ⟨wr.heap.size, 0, none⟩) 1 1] 34)
          have m1 := Bx.new_ (wr.alloc (.cells #[.int .i64 1] 2)) (wr.heap.size + 1) 34 #[.int .i64 pw, .slice (some ⟨wr.heap.size, 0, none⟩) 1 1] (by simp)
          have bb1 : Below wr.heap.size wr ((wr.alloc (.cells #[.int .i64 1] 2)).alloc (.cells #[.int .i64 pw, .slice (some ⟨wr.heap.size, 0, none⟩) 1 1] 34)) := ((Below.refl _ _).alloc (Nat.le_refl _) _).alloc (by simp) _
          clear rd7 hB hq hws hwl hcnt hpw2 hq2
          go_wp2_with fail
          refine (HCC.out _ (HRD.out.below bb1)).mono ?_
          rintro e w4 ⟨rfl, hb4⟩
          have x4 := x1.below hb4
          have m4 := m1.below hb4
          have B4 := bb1.trans (hb4.mono bb1.size)
          clear x1 m1 bb1 qa qb qc
          go_wp2_with fail
          obtain ⟨wi, hwi⟩ : ∃ wi, wi = wr := ⟨_, rfl⟩
          rw [← hwi] at HBB HQQ HRD x4 m4 B4 hqlt ⊢
          clear hwi
          go_loopw [53] (fun mv wr => ∃ (m : Nat) (A9 : Option Addr) (c9 : Nat), m ≤ cnt - 1 ∧ mv = .int .i64 (m : Int) ∧ OwnI wr (w.heap.size + 2) A9 c9 (summP pw m).2 ∧ Bx wr (wi.heap.size + 1) 34 #[.int .i64 (summP pw m).1, .slice A9 (summP pw m).2.length c9] ∧ Below wi.heap.size wi wr) (fun mv _ => cnt + 1 - (intOf mv).toNat)
          case atStart => exact ⟨0, _, _, Nat.zero_le _, rfl, x4, m4, B4⟩
          case round =>
            clear x4 m4 B4
            obtain ⟨m, A9, c9, hm, rfl, own9, hu, hB⟩ := hrel
            obtain ⟨own5, ho, hy, hl, own3, hp, hr, hBw⟩ := HQ.out
            have BW := HBB.out
            by_cases hml : m < cnt - 1
            · have hmi : (m : Int) < (cnt : Int) - 1 := by omega
              have hbk := HSB.out m
              have BWW := BW.trans (hB.mono BW.size)
              have HC := hide (mulPolys_any (summP pw m).1 A9 c9 (summP pw m).2 (-2) (some ⟨w1.heap.size, 0, none⟩) 5 [-1, 0, 0, 0, -1] wr own9.rd (hy.below BWW) (by unfold BK at hbk; omega) (by unfold BK at hbk; omega) (by omega) (by omega) (by unfold BK at hbk; omega) (by simp))
              have HQ2 : Hid (mulP (summP pw m).1 (summP pw m).2 (-2) [-1, 0, 0, 0, -1] = summP pw (m + 1)) := hide rfl
              rw [HQ2.out] at HC
              obtain ⟨q, hq⟩ : ∃ q, q = summP pw m := ⟨_, rfl⟩
              obtain ⟨q2, hq2⟩ : ∃ q, q = summP pw (m + 1) := ⟨_, rfl⟩
              rw [← hq] at HC hu
              rw [← hq2] at HC
              have HQ3 := hide hq2
              obtain ⟨ua, ub⟩ := hu.two
              obtain ⟨la, lb⟩ := (hl.below BWW).two
              have HU := hide hu
              have HB9 := hide hB
              have hul := hu.lt
              clear own5 ho hy hl own3 hp hr hBw own9 hB hu hq hq2 HQ2 hbk
              go_wp2_with fail
              refine HC.out.mono ?_
              rintro e w5 ⟨A2, c2, rfl, own2, hb5⟩
              have hu2 := HU.out.below hb5
              obtain ⟨va, vb⟩ := hu2.two
              have f0 := hu2.frozen 0
              have f1 := hu2.frozen 1
              have HN := hide (And.intro ((own2.far2 (b := wi.heap.size + 1) (o0 := 0) (o1 := 1) (u0 := .int .i64 q2.1) (u1 := .slice A2 q2.2.length c2) (fun g hg => by have := (own2.ge hg).1; omega)).mono (show w.heap.size + 2 ≤ wr.heap.size by have := BW.size; have := HB9.out.size; omega)) (And.intro (hu2.put2 (u0 := .int .i64 q2.1) (u1 := .slice A2 q2.2.length c2)) (below_put2 (b := wi.heap.size + 1) (o0 := 0) (o1 := 1) (u0 := .int .i64 q2.1) (u1 := .slice A2 q2.2.length c2) (HB9.out.trans (hb5.mono HB9.out.size)) (by omega))))
              clear hu2 own2 ua ub la lb
              go_wp2_with fail
              go_roundw
              case rel => exact ⟨m + 1, A2, c2, hml, by go_num, by rw [← HQ3.out]; exact HN.out.1, by rw [← HQ3.out]; exact HN.out.2.1, HN.out.2.2⟩
              case measure => simp [intOf]; omega
            · have hmi : ¬ ((m : Int) < (cnt : Int) - 1) := by omega
              have hme : summP pw m = wayP wd ht xs s := by rw [HPP.out, show m = cnt - 1 from by omega]
              have BWW := BW.trans (hB.mono BW.size)
              have HWB := wayP_bk HS.out h8 s
              have HQB := brTo_bk HS.out h8 s
              have HBN := brTo_next wd ht xs s
              rw [hme] at own9 hu
              rw [← hq5] at HQB HBN
              obtain ⟨P1, hP1⟩ : ∃ P1, P1 = wayP wd ht xs s := ⟨_, rfl⟩
              rw [← hP1] at HWB HBN own9 hu
              obtain ⟨Q6, hQ6⟩ : ∃ Q6, Q6 = brTo wd ht xs (s + 1) := ⟨_, rfl⟩
              rw [← hQ6] at HBN
              have HQ6 := hide hQ6
              have own5' := own5.below BWW
              have ho' := ho.below BWW
              have HC := hide (addPolys_any q5.1 A5 c5 q5.2 P1.1 A9 c9 P1.2 wr own5'.rd own9.rd (by unfold BK at HQB; omega) (by unfold BK at HQB; omega) (by unfold BK at HWB; omega) (by unfold BK at HWB; omega) (by unfold BK at HQB; omega) (by unfold BK at HWB; omega) own5'.cap_.1 own9.cap_.1 own5'.cap_.2 own9.cap_.2)
              rw [HBN] at HC
              obtain ⟨ua, ub⟩ := hu.two
              obtain ⟨oa, ob⟩ := ho'.two
              have HO := hide ho'
              have HR4 := hide (And.intro (hy.below BWW) (And.intro (hl.below BWW) (And.intro (own3.below BWW) (And.intro (hp.below BWW) (And.intro (hr.below BWW) (hBw.trans (BWW.mono hBw.size)))))))
              have hol := ho.lt
              have hzz := BWW.size
              have HLT := hide hlt
              have hpl := hr.lt
              clear own5 ho hy hl own3 hp hr hBw own9 hB hu hP1 hQ6 HBN HWB HQB hme own5' ho' BW BWW hq5 hlt hs2 hpw hpb hm
              go_wp2_with fail
              refine HC.out.mono ?_
              rintro e w5 ⟨A2, c2, rfl, own2, hb5⟩
              have ho5 := HO.out.below hb5
              obtain ⟨va, vb⟩ := ho5.two
              have f0 := ho5.frozen 0
              have f1 := ho5.frozen 1
              obtain ⟨hy, hl, own3, hp, hr, hBw⟩ := HR4.out
              have HN := hide (And.intro ((own2.far2 (b := w1.heap.size + 1 + 1) (o0 := 0) (o1 := 1) (u0 := .int .i64 Q6.1) (u1 := .slice A2 Q6.2.length c2) (fun g hg => by have := (own2.ge hg).1; omega)).mono (show w.heap.size + 2 ≤ wr.heap.size by omega)) (And.intro (ho5.put2 (u0 := .int .i64 Q6.1) (u1 := .slice A2 Q6.2.length c2)) (And.intro (Rd.setCell (Rd.setCell (hy.below hb5) (p := ⟨w1.heap.size + 1 + 1, 0, none⟩) (fun h => by have h' := blk_inj h; simp at h'; omega) (.int .i64 Q6.1)) (p := ⟨w1.heap.size + 1 + 1, 1, none⟩) (fun h => by have h' := blk_inj h; simp at h'; omega) (.slice A2 Q6.2.length c2)) (And.intro ((hl.below hb5).far2 (b := w1.heap.size + 1 + 1) (o0 := 0) (o1 := 1) (u0 := .int .i64 Q6.1) (u1 := .slice A2 Q6.2.length c2) (by omega)) (And.intro ((own3.below hb5).far2 (b := w1.heap.size + 1 + 1) (o0 := 0) (o1 := 1) (u0 := .int .i64 Q6.1) (u1 := .slice A2 Q6.2.length c2) (fun g hg => by have := hlow3 g hg; omega)) (And.intro ((hp.below hb5).far2 (b := w1.heap.size + 1 + 1) (o0 := 0) (o1 := 1) (u0 := .int .i64 Q6.1) (u1 := .slice A2 Q6.2.length c2) (by omega)) (And.intro ((hr.below hb5).far2 (b := w1.heap.size + 1 + 1) (o0 := 0) (o1 := 1) (u0 := .int .i64 Q6.1) (u1 := .slice A2 Q6.2.length c2) (by omega)) (below_put2 (b := w1.heap.size + 1 + 1) (o0 := 0) (o1 := 1) (u0 := .int .i64 Q6.1) (u1 := .slice A2 Q6.2.length c2) (hBw.trans (hb5.mono hBw.size)) (by omega)))))))))
              clear hy hl own3 hp hr hBw own2 ho5 ua ub oa ob
              go_wp2_with fail
              go_roundw
              case rel => exact ⟨s + 1, A2, c2, HLT.out, by go_num, by rw [← HQ6.out]; exact HN.out.1, by rw [← HQ6.out]; exact HN.out.2.1, HN.out.2.2.1, HN.out.2.2.2.1, HN.out.2.2.2.2.1, HN.out.2.2.2.2.2.1, HN.out.2.2.2.2.2.2.1, HN.out.2.2.2.2.2.2.2⟩
              case measure => have := HLT.out; simp [intOf]; omega
    · have hse : s = 2 ^ crN xs := by omega
      have HD : decide ((s : Int) < wrap64 (2 ^ zs.length)) = false := by
        rw [HSH.out]
        exact decide_eq_false (by omega)
      obtain ⟨q, hq9⟩ : ∃ q, q = brTo wd ht xs s := ⟨_, rfl⟩
      have HQ : Hid (brTo wd ht xs (2 ^ crN xs) = q) := hide (by rw [hq9, hse])
      rw [← hq9] at ho own5
      obtain ⟨oa, ob⟩ := ho.two
      obtain ⟨ra, rb⟩ := hr.two
      have rf0 := hr.frozen 0
      have rf1 := hr.frozen 1
      have HR := hide (hr.put2 (u0 := .int .i64 q.1) (u1 := .slice A5 q.2.length c5)).two
      have HOWN9 := hide ((own5.far2 (b := w.heap.size + 1) (o0 := 0) (o1 := 1) (u0 := .int .i64 q.1) (u1 := .slice A5 q.2.length c5) (fun g hg => by have := (own5.ge hg).1; omega)).mono (show w.heap.size ≤ w.heap.size + 2 by omega))
      have HB := hide (below_put2 (b := w.heap.size + 1) (o0 := 0) (o1 := 1) (u0 := .int .i64 q.1) (u1 := .slice A5 q.2.length c5) hB (by omega))
      clear hr ho own5 hy hl own3 hp hB hq9 hse hpw hlt hs2
      go_wp2_with fail
      obtain ⟨ra_9, rb_9⟩ := HR.out
      refine bodyPost_ret (v := .agg #[.int .i64 q.1, .slice A5 q.2.length c5]) (by simp [results, Try.results36, go_sem, ra_9, rb_9]) rfl ?_
      rw [HQ.out]
      exact ⟨A5, c5, rfl, HOWN9.out, HB.out⟩
end Go.Proofs.Ytgdgjcpkelokiaa

namespace Go.Proofs.Ytgdgjcpkelokiaa
open Go.RowKit
set_option linter.unusedVariables false

theorem take_val {P : Program} {md : Region.Mode} {ops : Array Oper} {Q : Exit → Act → World → Prop} {S : World → Prop} {i : Nat} {oi : Oper} {v : Value} {fuel : Nat} {listed : Array Bool} {a a' : Act} {w : World} (hi : ops[i]? = some oi)
    (hs : Region.noSelect ops = true) (hf : Region.free md ops listed i = true) (hr : (Region.ready md ops listed).contains i = true)
    (hQ : ∀ c a w, Q (.panic c) (a.put oi.dst v) w → Q (.panic c) a w) (hy : YieldsIf P ops S oi v a) (hp : a.put oi.dst v = a') (hS : S w)
    (h : wpAnyH P md ops Q S fuel (listed.setIfInBounds i true) a' w) : wpAnyH P md ops Q S (fuel + 1) listed a w :=
  wpAnyH_take hi hs hf hr hQ hy hS (by rw [hp]; exact h)
theorem take_skip {P : Program} {md : Region.Mode} {ops : Array Oper} {Q : Exit → Act → World → Prop} {S : World → Prop} {i : Nat} {oi : Oper} {fuel : Nat} {listed : Array Bool} {a : Act} {w : World} (hi : ops[i]? = some oi)
    (hs : Region.noSelect ops = true) (hf : Region.free md ops listed i = true) (hr : (Region.ready md ops listed).contains i = true)
    (hQ : ∀ c a w, Q (.panic c) (a.put oi.dst undef) w → Q (.panic c) a w) (hw : Region.wanted oi (yielded ops a.tmps) = false) (hp : a.put oi.dst undef = a) (hS : S w)
    (h : wpAnyH P md ops Q S fuel (listed.setIfInBounds i true) a w) : wpAnyH P md ops Q S (fuel + 1) listed a w :=
  wpAnyH_take hi hs hf hr hQ (.inr ⟨hw, rfl⟩) hS (by rw [hp]; exact h)
/-- the code of a panel whose bracket is wanted -/
def brC (wd ht : Int) (xs : List Int) : Int := if vldPan wd ht xs then (if 8 < crN xs then 5 else if 20 < wd * ht then 5 else 0) else 1
theorem brC_no {wd ht : Int} {xs : List Int} (h : vldPan wd ht xs = false) : brC wd ht xs = 1 := by unfold brC; rw [h]; rfl
theorem brC_cr {wd ht : Int} {xs : List Int} (h : vldPan wd ht xs = true) (h2 : 8 < crN xs) : brC wd ht xs = 5 := by unfold brC; rw [h, if_pos h2]; rfl
theorem brC_big {wd ht : Int} {xs : List Int} (h : vldPan wd ht xs = true) (h2 : ¬ 8 < crN xs) (h3 : 20 < wd * ht) : brC wd ht xs = 5 := by unfold brC; rw [h, if_neg h2, if_pos h3]; rfl
theorem brC_ok {wd ht : Int} {xs : List Int} (h : vldPan wd ht xs = true) (h2 : ¬ 8 < crN xs) (h3 : ¬ 20 < wd * ht) : brC wd ht xs = 0 := by unfold brC; rw [h, if_neg h2, if_neg h3]; rfl
theorem brC_zero {wd ht : Int} {xs : List Int} (h : brC wd ht xs = 0) : vldPan wd ht xs = true ∧ crN xs ≤ 8 ∧ wd * ht ≤ 20 := by
  unfold brC at h
  split at h
  · rename_i h1
    split at h
    · omega
    · rename_i h2
      split at h
      · omega
      · rename_i h3
        exact ⟨h1, by omega, by omega⟩
  · omega
/-- the bracket of a panel, and its code -/
noncomputable def brR (wd ht : Int) (xs : List Int) : (Int × List Int) × Int := if brC wd ht xs = 0 then (brTo wd ht xs (2 ^ crN xs), 0) else ((0, []), brC wd ht xs)
theorem brR_ok {wd ht : Int} {xs : List Int} (h : brC wd ht xs = 0) : brR wd ht xs = (brTo wd ht xs (2 ^ crN xs), 0) := by unfold brR; rw [if_pos h]
theorem brR_no {wd ht : Int} {xs : List Int} (h : ¬ brC wd ht xs = 0) : brR wd ht xs = ((0, []), brC wd ht xs) := by unfold brR; rw [if_neg h]
theorem brR_len {wd ht : Int} {xs : List Int} : (brR wd ht xs).1.2.length ≤ 2000 := by
  unfold brR
  split
  · rename_i h
    obtain ⟨h1, h2, _⟩ := brC_zero h
    obtain ⟨hs, _⟩ := vld_sz h1
    have := brTo_bk hs h2 (2 ^ crN xs)
    unfold BK at this
    show (brTo wd ht xs (2 ^ crN xs)).2.length ≤ 2000
    omega
  · simp
theorem BelowOf.ret_ {P : Program} {f : FuncId} {args : Array Value} {W0 W : World} {v : Value} (hW : Below W0.heap.size W0 W) (h : Calls P f args W (RetV W v)) : Calls P f args W fun e w' => e = .returned v ∧ Below W0.heap.size W0 w' :=
  h.mono fun _ _ ⟨he, hb⟩ => ⟨he, hW.trans (hb.mono hW.size)⟩

set_option maxRecDepth 20000 in
set_option maxHeartbeats 4000000 in
theorem l18Code_any (b0 : Nat) (wd ht : Int) (A : Option Addr) (c : Nat) (xs : List Int) (w : World) (hp : PA w b0 wd ht A c xs) (hn : xs.length ≤ 1048576) :
    Calls Try.prog 33 #[.pointer (some ⟨b0, 0, none⟩)] w (RetV w (.int .i64 (brC wd ht xs))) := by
  have HOK := hide (fun (W : World) (h : PA W b0 wd ht A c xs) => RetQ.v (l02Ok_any b0 wd ht A c xs W h.c0 h.c1 h.c2 h.rd hn))
  have HALL := hide (fun (W : World) (h : PA W b0 wd ht A c xs) => l13All_any b0 wd ht A c xs W h hn)
  have hcn := crN_le xs
  have hcn2 : crN xs ≤ 1048576 := by omega
  have HCN : Hid ((zTo xs xs.length).length = crN xs) := hide rfl
  cases hv : vldPan wd ht xs
  · have HV := hide (brC_no hv)
    go_enter Try.func33, Try.ntmps33
    go_wp2_with fail
    refine ((HOK.out _ hp)).mono ?_
    rintro e w1 ⟨rfl, hb1⟩
    have z_1 : w.heap.size ≤ w1.heap.size := hb1.size
    have B_1 := (Below.refl w.heap.size w).trans (hb1.mono (by first | omega | (simp; omega) | simp))
    rw [hv]
    go_wp2_with fail
    go_ret
    rw [HV.out]
    exact ⟨rfl, (B_1)⟩
  · have hsz := hide (vld_sz hv)
    have hm := mul_small (a := wd) (b := ht) (by have := hsz.out.1.1; omega) (by have := hsz.out.1.2.1; omega) (by have := hsz.out.1.2.2.1; omega) (by have := hsz.out.1.2.2.2; omega)
    have hwm : IntKind.i64.wrap (wd * ht) = wd * ht := by rw [IntKind.wrap_i64]; omega
    have hwm2 : wrap64 (wd * ht) = wd * ht := by unfold wrap64; omega
    by_cases h8 : 8 < crN xs
    · have HV := hide (brC_cr hv h8)
      have hd8 : (8 : Int) < (crN xs : Int) := by omega
      have hD8 : decide ((8 : Int) < (crN xs : Int)) = true := decide_eq_true hd8
      go_enter Try.func33, Try.ntmps33
      go_wp2_with fail
      refine ((HOK.out _ hp)).mono ?_
      rintro e w1 ⟨rfl, hb1⟩
      have z_1 : w.heap.size ≤ w1.heap.size := hb1.size
      have B_1 := (Below.refl w.heap.size w).trans (hb1.mono (by first | omega | (simp; omega) | simp))
      rw [hv]
      go_upto_region 3 with fail
      have B1d := ((B_1)).drew
      have PD := hp.below B1d
      have qp := And.intro PD.c0 PD.c1
      have HPD := hide PD
      clear PD hm hwm2
      refine wp_region_held_drew (S := fun _ => True) (by kernel_rfl) trivial (fun hHeld => ?_)
      refine take_val (i := 0) (v := .pointer (some ⟨b0, 0, none⟩)) (a' := ⟨#[.pointer (some ⟨b0, 0, none⟩), undef, .int .i64 0, .pointer (some ⟨b0, 0, none⟩), .bool true, .bool false, .pointer (some ⟨b0, 0, none⟩), undef, undef, undef, undef, undef, undef, undef, undef, undef, undef, undef, undef, undef, undef, undef], []⟩) rfl (by kernel_rfl) (by kernel_rfl) (by kernel_rfl) (fun _ _ _ h => h) (Or.inl ⟨by rfl, fun w9 _ => by go_simp⟩) (by kernel_rfl) trivial ?_
      refine wpAnyH_ready (rs := [1]) (by kernel_rfl) (by simp) ?_
      refine AllReadyH.cons rfl (fun K hK => ?_) AllReadyH.nil
      go_simp
      go_at_call 23
      refine (HALL.out _ HPD.out).mono ?_
      rintro e w2 ⟨A2, c2, rfl, _, hb2⟩
      rw [HCN.out]
      have B2 := B1d.trans (hb2.mono B1d.size)
      go_wp2_with fail
      refine hK.out _ _ trivial (fun _ => ?_)
      clear hK K
      change wpAnyH _ _ _ _ _ _ _ ⟨#[.pointer (some ⟨b0, 0, none⟩), undef, .int .i64 0, .pointer (some ⟨b0, 0, none⟩), .bool true, .bool false, .pointer (some ⟨b0, 0, none⟩), .slice A2 (crN xs) c2, undef, undef, undef, undef, undef, undef, undef, undef, undef, undef, undef, undef, undef, undef], []⟩ _
      refine take_val (i := 2) (v := .int .i64 (crN xs : Int)) (a' := ⟨#[.pointer (some ⟨b0, 0, none⟩), undef, .int .i64 0, .pointer (some ⟨b0, 0, none⟩), .bool true, .bool false, .pointer (some ⟨b0, 0, none⟩), .slice A2 (crN xs) c2, .int .i64 (crN xs : Int), undef, undef, undef, undef, undef, undef, undef, undef, undef, undef, undef, undef, undef], []⟩) rfl (by kernel_rfl) (by kernel_rfl) (by kernel_rfl) (fun _ _ _ h => h) (Or.inl ⟨by rfl, fun w9 _ => by go_simp⟩) (by kernel_rfl) trivial ?_
      refine take_val (i := 3) (v := .bool true) (a' := ⟨#[.pointer (some ⟨b0, 0, none⟩), undef, .int .i64 0, .pointer (some ⟨b0, 0, none⟩), .bool true, .bool false, .pointer (some ⟨b0, 0, none⟩), .slice A2 (crN xs) c2, .int .i64 (crN xs : Int), .bool true, undef, undef, undef, undef, undef, undef, undef, undef, undef, undef, undef, undef], []⟩) rfl (by kernel_rfl) (by kernel_rfl) (by kernel_rfl) (fun _ _ _ h => h) (Or.inl ⟨by rfl, fun w9 _ => by go_simp⟩) (by kernel_rfl) trivial ?_
      refine take_val (i := 4) (v := .bool true) (a' := ⟨#[.pointer (some ⟨b0, 0, none⟩), undef, .int .i64 0, .pointer (some ⟨b0, 0, none⟩), .bool true, .bool false, .pointer (some ⟨b0, 0, none⟩), .slice A2 (crN xs) c2, .int .i64 (crN xs : Int), .bool true, .bool true, undef, undef, undef, undef, undef, undef, undef, undef, undef, undef, undef], []⟩) rfl (by kernel_rfl) (by kernel_rfl) (by kernel_rfl) (fun _ _ _ h => h) (Or.inl ⟨by rfl, fun w9 _ => by go_simp⟩) (by kernel_rfl) trivial ?_
      refine take_skip (i := 5) rfl (by kernel_rfl) (by kernel_rfl) (by kernel_rfl) (fun _ _ _ h => h) (by rfl) (by kernel_rfl) trivial ?_
      refine take_skip (i := 6) rfl (by kernel_rfl) (by kernel_rfl) (by kernel_rfl) (fun _ _ _ h => h) (by rfl) (by kernel_rfl) trivial ?_
      refine take_skip (i := 7) rfl (by kernel_rfl) (by kernel_rfl) (by kernel_rfl) (fun _ _ _ h => h) (by rfl) (by kernel_rfl) trivial ?_
      refine take_skip (i := 8) rfl (by kernel_rfl) (by kernel_rfl) (by kernel_rfl) (fun _ _ _ h => h) (by rfl) (by kernel_rfl) trivial ?_
      refine take_skip (i := 9) rfl (by kernel_rfl) (by kernel_rfl) (by kernel_rfl) (fun _ _ _ h => h) (by rfl) (by kernel_rfl) trivial ?_
      refine take_skip (i := 10) rfl (by kernel_rfl) (by kernel_rfl) (by kernel_rfl) (fun _ _ _ h => h) (by rfl) (by kernel_rfl) trivial ?_
      refine take_skip (i := 11) rfl (by kernel_rfl) (by kernel_rfl) (by kernel_rfl) (fun _ _ _ h => h) (by rfl) (by kernel_rfl) trivial ?_
      refine take_skip (i := 12) rfl (by kernel_rfl) (by kernel_rfl) (by kernel_rfl) (fun _ _ _ h => h) (by rfl) (by kernel_rfl) trivial ?_
      refine take_skip (i := 13) rfl (by kernel_rfl) (by kernel_rfl) (by kernel_rfl) (fun _ _ _ h => h) (by rfl) (by kernel_rfl) trivial ?_
      refine take_skip (i := 14) rfl (by kernel_rfl) (by kernel_rfl) (by kernel_rfl) (fun _ _ _ h => h) (by rfl) (by kernel_rfl) trivial ?_
      refine take_val (i := 15) (v := .bool true) (a' := ⟨#[.pointer (some ⟨b0, 0, none⟩), undef, .int .i64 0, .pointer (some ⟨b0, 0, none⟩), .bool true, .bool false, .pointer (some ⟨b0, 0, none⟩), .slice A2 (crN xs) c2, .int .i64 (crN xs : Int), .bool true, .bool true, undef, undef, undef, undef, undef, undef, undef, undef, undef, undef, .bool true], []⟩) rfl (by kernel_rfl) (by kernel_rfl) (by kernel_rfl) (fun _ _ _ h => h) (Or.inl ⟨by rfl, fun w9 _ => by go_simp⟩) (by kernel_rfl) trivial ?_
      refine wpAnyH_done (by kernel_rfl) ?_ _
      all_goals
        go_wp2_with fail
        go_ret
        rw [HV.out]
        exact ⟨rfl, B2⟩
    · have hd8 : ¬ (8 : Int) < (crN xs : Int) := by omega
      have hD8 : decide ((8 : Int) < (crN xs : Int)) = false := decide_eq_false hd8
      by_cases h20 : 20 < wd * ht
      · have HV := hide (brC_big hv h8 h20)
        have HD : decide (20 < wd * ht) = true := decide_eq_true h20
        go_enter Try.func33, Try.ntmps33
        go_wp2_with fail
        refine ((HOK.out _ hp)).mono ?_
        rintro e w1 ⟨rfl, hb1⟩
        have z_1 : w.heap.size ≤ w1.heap.size := hb1.size
        have B_1 := (Below.refl w.heap.size w).trans (hb1.mono (by first | omega | (simp; omega) | simp))
        rw [hv]
        go_upto_region 3 with fail
        have B1d := ((B_1)).drew
        have PD := hp.below B1d
        have qp := And.intro PD.c0 PD.c1
        have HPD := hide PD
        clear PD hm hwm2
        go_region_held3 (fun w' => w'.cell? ⟨b0, 0, none⟩ = some (.int .i64 wd) ∧ w'.cell? ⟨b0, 1, none⟩ = some (.int .i64 ht)) (first | exact qp | exact qp2)
          (first
            | (go_at_call 23; refine (HALL.out _ HPD.out).mono ?_; rintro e w2 ⟨A2, c2, rfl, _, hb2⟩; rw [HCN.out]; have B2 := B1d.trans (hb2.mono B1d.size); have qp2 := And.intro (hp.below B2).c0 (hp.below B2).c1))
        all_goals
          go_wp2_with fail
          go_ret
          rw [HV.out]
          exact ⟨rfl, B2⟩
      · have HV := hide (brC_ok hv h8 h20)
        have HD : decide (20 < wd * ht) = false := decide_eq_false h20
        go_enter Try.func33, Try.ntmps33
        go_wp2_with fail
        refine ((HOK.out _ hp)).mono ?_
        rintro e w1 ⟨rfl, hb1⟩
        have z_1 : w.heap.size ≤ w1.heap.size := hb1.size
        have B_1 := (Below.refl w.heap.size w).trans (hb1.mono (by first | omega | (simp; omega) | simp))
        rw [hv]
        go_upto_region 3 with fail
        have B1d := ((B_1)).drew
        have PD := hp.below B1d
        have qp := And.intro PD.c0 PD.c1
        have HPD := hide PD
        clear PD hm hwm2
        go_region_held3 (fun w' => w'.cell? ⟨b0, 0, none⟩ = some (.int .i64 wd) ∧ w'.cell? ⟨b0, 1, none⟩ = some (.int .i64 ht)) (first | exact qp | exact qp2)
          (first
            | (go_at_call 23; refine (HALL.out _ HPD.out).mono ?_; rintro e w2 ⟨A2, c2, rfl, _, hb2⟩; rw [HCN.out]; have B2 := B1d.trans (hb2.mono B1d.size); have qp2 := And.intro (hp.below B2).c0 (hp.below B2).c1))
        all_goals
          go_wp2_with fail
          go_ret
          rw [HV.out]
          exact ⟨rfl, B2⟩
set_option maxRecDepth 20000 in
set_option maxHeartbeats 4000000 in
theorem bracketCode_any (wd ht : Int) (A : Option Addr) (c : Nat) (xs : List Int) (w : World) (hxs : RI w A xs) (hn : xs.length ≤ 1048576) :
    Calls Try.prog 35 #[.agg #[.int .i64 wd, .int .i64 ht, .slice A xs.length c]] w (RetV w (.int .i64 (brC wd ht xs))) := by
  have HOK := hide (fun (W : World) (h : RI W A xs) => validPanel_any wd ht A c xs W h hn)
  have HALL := hide (fun (W : World) (h : RI W A xs) => crossingNumbers_any wd ht A c xs W h hn)
  have hcn := crN_le xs
  have hcn2 : crN xs ≤ 1048576 := by omega
  have HCN : Hid ((zTo xs xs.length).length = crN xs) := hide rfl
  cases hv : vldPan wd ht xs
  · have HV := hide (brC_no hv)
    obtain ⟨pa_x1, pb_x1, pc_x1⟩ := (Bx.new_ w (w.heap.size) 26 #[.int .i64 wd, .int .i64 ht, .slice A xs.length c] (by simp)).three
    go_enter Try.func35, Try.ntmps35
    go_wp2_with fail
    refine ((HOK.out _ (hxs.below ((Below.refl w.heap.size w).alloc (by first | omega | (simp; omega) | simp) (.cells #[.int .i64 wd, .int .i64 ht, .slice A xs.length c] 26))))).mono ?_
    rintro e w1 ⟨rfl, hb1⟩
    have p_1 := (Bx.new_ w (w.heap.size) 26 #[.int .i64 wd, .int .i64 ht, .slice A xs.length c] (by simp)).below hb1
    obtain ⟨pa_1, pb_1, pc_1⟩ := (p_1).three
    have z_1 : (w.alloc (.cells #[.int .i64 wd, .int .i64 ht, .slice A xs.length c] 26)).heap.size ≤ w1.heap.size := hb1.size
    simp only [World.size_alloc] at z_1
    have B_1 := ((Below.refl w.heap.size w).alloc (by first | omega | (simp; omega) | simp) (.cells #[.int .i64 wd, .int .i64 ht, .slice A xs.length c] 26)).trans (hb1.mono (by first | omega | (simp; omega) | simp))
    rw [hv]
    go_wp2_with fail
    go_ret
    rw [HV.out]
    exact ⟨rfl, (B_1)⟩
  · have hsz := hide (vld_sz hv)
    have hm := mul_small (a := wd) (b := ht) (by have := hsz.out.1.1; omega) (by have := hsz.out.1.2.1; omega) (by have := hsz.out.1.2.2.1; omega) (by have := hsz.out.1.2.2.2; omega)
    have hwm : IntKind.i64.wrap (wd * ht) = wd * ht := by rw [IntKind.wrap_i64]; omega
    have hwm2 : wrap64 (wd * ht) = wd * ht := by unfold wrap64; omega
    by_cases h8 : 8 < crN xs
    · have HV := hide (brC_cr hv h8)
      have hd8 : (8 : Int) < (crN xs : Int) := by omega
      have hD8 : decide ((8 : Int) < (crN xs : Int)) = true := decide_eq_true hd8
      obtain ⟨pa_x1, pb_x1, pc_x1⟩ := (Bx.new_ w (w.heap.size) 26 #[.int .i64 wd, .int .i64 ht, .slice A xs.length c] (by simp)).three
      go_enter Try.func35, Try.ntmps35
      go_wp2_with fail
      refine ((HOK.out _ (hxs.below ((Below.refl w.heap.size w).alloc (by first | omega | (simp; omega) | simp) (.cells #[.int .i64 wd, .int .i64 ht, .slice A xs.length c] 26))))).mono ?_
      rintro e w1 ⟨rfl, hb1⟩
      have p_1 := (Bx.new_ w (w.heap.size) 26 #[.int .i64 wd, .int .i64 ht, .slice A xs.length c] (by simp)).below hb1
      obtain ⟨pa_1, pb_1, pc_1⟩ := (p_1).three
      have z_1 : (w.alloc (.cells #[.int .i64 wd, .int .i64 ht, .slice A xs.length c] 26)).heap.size ≤ w1.heap.size := hb1.size
      simp only [World.size_alloc] at z_1
      have B_1 := ((Below.refl w.heap.size w).alloc (by first | omega | (simp; omega) | simp) (.cells #[.int .i64 wd, .int .i64 ht, .slice A xs.length c] 26)).trans (hb1.mono (by first | omega | (simp; omega) | simp))
      rw [hv]
      have B1d := ((B_1))
      have HP1 := hide ((p_1))
      clear hm hwm2
      go_wp2_with fail
      refine (HALL.out _ (hxs.below B1d)).mono ?_
      rintro e w2 ⟨A2, c2, rfl, _, hb2⟩
      rw [HCN.out]
      have B2 := B1d.trans (hb2.mono B1d.size)
      obtain ⟨pa2, pb2, pc2⟩ := (HP1.out.below hb2).three
      go_wp2_with fail
      go_ret
      rw [HV.out]
      exact ⟨rfl, B2⟩
    · have hd8 : ¬ (8 : Int) < (crN xs : Int) := by omega
      have hD8 : decide ((8 : Int) < (crN xs : Int)) = false := decide_eq_false hd8
      by_cases h20 : 20 < wd * ht
      · have HV := hide (brC_big hv h8 h20)
        have HD : decide (20 < wd * ht) = true := decide_eq_true h20
        obtain ⟨pa_x1, pb_x1, pc_x1⟩ := (Bx.new_ w (w.heap.size) 26 #[.int .i64 wd, .int .i64 ht, .slice A xs.length c] (by simp)).three
        go_enter Try.func35, Try.ntmps35
        go_wp2_with fail
        refine ((HOK.out _ (hxs.below ((Below.refl w.heap.size w).alloc (by first | omega | (simp; omega) | simp) (.cells #[.int .i64 wd, .int .i64 ht, .slice A xs.length c] 26))))).mono ?_
        rintro e w1 ⟨rfl, hb1⟩
        have p_1 := (Bx.new_ w (w.heap.size) 26 #[.int .i64 wd, .int .i64 ht, .slice A xs.length c] (by simp)).below hb1
        obtain ⟨pa_1, pb_1, pc_1⟩ := (p_1).three
        have z_1 : (w.alloc (.cells #[.int .i64 wd, .int .i64 ht, .slice A xs.length c] 26)).heap.size ≤ w1.heap.size := hb1.size
        simp only [World.size_alloc] at z_1
        have B_1 := ((Below.refl w.heap.size w).alloc (by first | omega | (simp; omega) | simp) (.cells #[.int .i64 wd, .int .i64 ht, .slice A xs.length c] 26)).trans (hb1.mono (by first | omega | (simp; omega) | simp))
        rw [hv]
        have B1d := ((B_1))
        have HP1 := hide ((p_1))
        clear hm hwm2
        go_wp2_with fail
        refine (HALL.out _ (hxs.below B1d)).mono ?_
        rintro e w2 ⟨A2, c2, rfl, _, hb2⟩
        rw [HCN.out]
        have B2 := B1d.trans (hb2.mono B1d.size)
        obtain ⟨pa2, pb2, pc2⟩ := (HP1.out.below hb2).three
        go_wp2_with fail
        go_ret
        rw [HV.out]
        exact ⟨rfl, B2⟩
      · have HV := hide (brC_ok hv h8 h20)
        have HD : decide (20 < wd * ht) = false := decide_eq_false h20
        obtain ⟨pa_x1, pb_x1, pc_x1⟩ := (Bx.new_ w (w.heap.size) 26 #[.int .i64 wd, .int .i64 ht, .slice A xs.length c] (by simp)).three
        go_enter Try.func35, Try.ntmps35
        go_wp2_with fail
        refine ((HOK.out _ (hxs.below ((Below.refl w.heap.size w).alloc (by first | omega | (simp; omega) | simp) (.cells #[.int .i64 wd, .int .i64 ht, .slice A xs.length c] 26))))).mono ?_
        rintro e w1 ⟨rfl, hb1⟩
        have p_1 := (Bx.new_ w (w.heap.size) 26 #[.int .i64 wd, .int .i64 ht, .slice A xs.length c] (by simp)).below hb1
        obtain ⟨pa_1, pb_1, pc_1⟩ := (p_1).three
        have z_1 : (w.alloc (.cells #[.int .i64 wd, .int .i64 ht, .slice A xs.length c] 26)).heap.size ≤ w1.heap.size := hb1.size
        simp only [World.size_alloc] at z_1
        have B_1 := ((Below.refl w.heap.size w).alloc (by first | omega | (simp; omega) | simp) (.cells #[.int .i64 wd, .int .i64 ht, .slice A xs.length c] 26)).trans (hb1.mono (by first | omega | (simp; omega) | simp))
        rw [hv]
        have B1d := ((B_1))
        have HP1 := hide ((p_1))
        clear hm hwm2
        go_wp2_with fail
        refine (HALL.out _ (hxs.below B1d)).mono ?_
        rintro e w2 ⟨A2, c2, rfl, _, hb2⟩
        rw [HCN.out]
        have B2 := B1d.trans (hb2.mono B1d.size)
        obtain ⟨pa2, pb2, pc2⟩ := (HP1.out.below hb2).three
        go_wp2_with fail
        go_ret
        rw [HV.out]
        exact ⟨rfl, B2⟩
set_option maxRecDepth 20000 in
set_option maxHeartbeats 4000000 in
theorem specBracketOf_any (wd ht : Int) (A : Option Addr) (c : Nat) (xs : List Int) (w : World) (hxs : RI w A xs) (hn : xs.length ≤ 1048576) :
    Calls Try.prog 13 #[.agg #[.int .i64 wd, .int .i64 ht, .slice A xs.length c]] w (RetPC w (brR wd ht xs).1.1 (brR wd ht xs).1.2 (brR wd ht xs).2) := by
  obtain ⟨pa_x1, pb_x1, pc_x1⟩ := ((Bx.new_ w (w.heap.size) 26 #[.int .i64 wd, .int .i64 ht, .slice A xs.length c] (by simp)).alloc (.cells #[.int .i64 0, .slice none 0 0] 34)).three
  obtain ⟨ra_x1, rb_x1⟩ := (Bx.new_ (w.alloc (.cells #[.int .i64 wd, .int .i64 ht, .slice A xs.length c] 26)) (w.heap.size + 1) 34 #[.int .i64 0, .slice none 0 0] (by simp)).two
  have rf0_x1 := (Bx.new_ (w.alloc (.cells #[.int .i64 wd, .int .i64 ht, .slice A xs.length c] 26)) (w.heap.size + 1) 34 #[.int .i64 0, .slice none 0 0] (by simp)).frozen 0
  have rf1_x1 := (Bx.new_ (w.alloc (.cells #[.int .i64 wd, .int .i64 ht, .slice A xs.length c] 26)) (w.heap.size + 1) 34 #[.int .i64 0, .slice none 0 0] (by simp)).frozen 1
  have HCODE := hide (l18Code_any w.heap.size wd ht A c xs ((w.alloc (.cells #[.int .i64 wd, .int .i64 ht, .slice A xs.length c] 26)).alloc (.cells #[.int .i64 0, .slice none 0 0] 34)) (PA.mk ((Bx.new_ w (w.heap.size) 26 #[.int .i64 wd, .int .i64 ht, .slice A xs.length c] (by simp)).alloc (.cells #[.int .i64 0, .slice none 0 0] 34)) (hxs.below (((Below.refl w.heap.size w).alloc (by first | omega | (simp; omega) | simp) (.cells #[.int .i64 wd, .int .i64 ht, .slice A xs.length c] 26)).alloc (by first | omega | (simp; omega) | simp) (.cells #[.int .i64 0, .slice none 0 0] 34)))) hn)
  by_cases h0 : brC wd ht xs = 0
  · obtain ⟨hv, h8, _⟩ := brC_zero h0
    obtain ⟨hs, hl⟩ := vld_sz hv
    have HR := hide (brR_ok h0)
    have HC0 := hide h0
    have HBR := hide (fun (W : World) (h : PA W w.heap.size wd ht A c xs) => l18Bracket_any w.heap.size wd ht A c xs W h hn hs hl h8)
    obtain ⟨q, hq⟩ : ∃ q, q = brTo wd ht xs (2 ^ crN xs) := ⟨_, rfl⟩
    rw [← hq] at HR HBR
    clear h0 hs hl hq hv h8
    go_enter Try.func13, Try.ntmps13
    go_wp2_with fail
    refine ((HCODE.out)).mono ?_
    rintro e w1 ⟨rfl, hb1⟩
    have p_1 := ((Bx.new_ w (w.heap.size) 26 #[.int .i64 wd, .int .i64 ht, .slice A xs.length c] (by simp)).alloc (.cells #[.int .i64 0, .slice none 0 0] 34)).below hb1
    obtain ⟨pa_1, pb_1, pc_1⟩ := (p_1).three
    have r_1 := (Bx.new_ (w.alloc (.cells #[.int .i64 wd, .int .i64 ht, .slice A xs.length c] 26)) (w.heap.size + 1) 34 #[.int .i64 0, .slice none 0 0] (by simp)).below hb1
    obtain ⟨ra_1, rb_1⟩ := (r_1).two
    have rf0_1 := (r_1).frozen 0
    have rf1_1 := (r_1).frozen 1
    have z_1 : ((w.alloc (.cells #[.int .i64 wd, .int .i64 ht, .slice A xs.length c] 26)).alloc (.cells #[.int .i64 0, .slice none 0 0] 34)).heap.size ≤ w1.heap.size := hb1.size
    simp only [World.size_alloc] at z_1
    have B_1 := (((Below.refl w.heap.size w).alloc (by first | omega | (simp; omega) | simp) (.cells #[.int .i64 wd, .int .i64 ht, .slice A xs.length c] 26)).alloc (by first | omega | (simp; omega) | simp) (.cells #[.int .i64 0, .slice none 0 0] 34)).trans (hb1.mono (by first | omega | (simp; omega) | simp))
    rw [HC0.out]
    go_wp2_with fail
    refine (HBR.out _ (PA.mk (p_1) (hxs.below (B_1)))).mono ?_
    rintro e w2 ⟨A2, c2, rfl, own2, hb2⟩
    have p_2 := (p_1).below hb2
    obtain ⟨pa_2, pb_2, pc_2⟩ := (p_2).three
    have r_2 := (r_1).below hb2
    obtain ⟨ra_2, rb_2⟩ := (r_2).two
    have rf0_2 := (r_2).frozen 0
    have rf1_2 := (r_2).frozen 1
    have z_2 : w1.heap.size ≤ w2.heap.size := hb2.size
    have B_2 := (B_1).trans (hb2.mono (by first | omega | (simp; omega) | simp))
    have r2 := r_2
    have B2 := B_2
    have hz1 := hb1.size
    have HZ1 : Hid (w.heap.size + 2 ≤ w1.heap.size) := hide (by have := (r_1).lt; omega)
    obtain ⟨za, zb⟩ := r2.two
    have f0 := r2.frozen 0
    have f1 := r2.frozen 1
    have HRQ := hide (r2.put2 (u0 := .int .i64 q.1) (u1 := .slice A2 q.2.length c2)).two
    have OWN := hide ((own2.far2 (b := w.heap.size + 1) (o0 := 0) (o1 := 1) (u0 := .int .i64 q.1) (u1 := .slice A2 q.2.length c2) (fun g hg => by have := (own2.ge hg).1; have := HZ1.out; omega)).mono (show w.heap.size ≤ w1.heap.size by have := HZ1.out; omega))
    have HB := hide (below_put2 (b := w.heap.size + 1) (o0 := 0) (o1 := 1) (u0 := .int .i64 q.1) (u1 := .slice A2 q.2.length c2) B2 (by omega))
    clear own2 r2 B2
    go_wp2_with fail
    obtain ⟨ra_9, rb_9⟩ := HRQ.out
    refine bodyPost_ret (v := .tuple #[.agg #[.int .i64 q.1, .slice A2 q.2.length c2], .int .i64 0]) (by simp [results, Try.results13, go_sem, ra_9, rb_9]) rfl ?_
    rw [HR.out]
    exact ⟨A2, c2, rfl, OWN.out, HB.out⟩
  ·
    have HR := hide (brR_no h0)
    obtain ⟨v, hvv⟩ : ∃ v, v = brC wd ht xs := ⟨_, rfl⟩
    rw [← hvv] at HR h0
    have HVV := hide hvv
    have d0 : (v != 0) = true := by simpa using h0
    clear h0 hvv
    go_enter Try.func13, Try.ntmps13
    go_wp2_with fail
    refine ((HCODE.out)).mono ?_
    rintro e w1 ⟨rfl, hb1⟩
    have p_1 := ((Bx.new_ w (w.heap.size) 26 #[.int .i64 wd, .int .i64 ht, .slice A xs.length c] (by simp)).alloc (.cells #[.int .i64 0, .slice none 0 0] 34)).below hb1
    obtain ⟨pa_1, pb_1, pc_1⟩ := (p_1).three
    have r_1 := (Bx.new_ (w.alloc (.cells #[.int .i64 wd, .int .i64 ht, .slice A xs.length c] 26)) (w.heap.size + 1) 34 #[.int .i64 0, .slice none 0 0] (by simp)).below hb1
    obtain ⟨ra_1, rb_1⟩ := (r_1).two
    have rf0_1 := (r_1).frozen 0
    have rf1_1 := (r_1).frozen 1
    have z_1 : ((w.alloc (.cells #[.int .i64 wd, .int .i64 ht, .slice A xs.length c] 26)).alloc (.cells #[.int .i64 0, .slice none 0 0] 34)).heap.size ≤ w1.heap.size := hb1.size
    simp only [World.size_alloc] at z_1
    have B_1 := (((Below.refl w.heap.size w).alloc (by first | omega | (simp; omega) | simp) (.cells #[.int .i64 wd, .int .i64 ht, .slice A xs.length c] 26)).alloc (by first | omega | (simp; omega) | simp) (.cells #[.int .i64 0, .slice none 0 0] 34)).trans (hb1.mono (by first | omega | (simp; omega) | simp))
    rw [← HVV.out]
    have r3 := (r_1).put2 (u0 := .int .i64 0) (u1 := .slice none 0 0)
    have HRQ := hide r3.two
    have HB := hide (below_put2 (b := w.heap.size + 1) (o0 := 0) (o1 := 1) (u0 := .int .i64 0) (u1 := .slice none 0 0) (B_1) (by omega))
    clear r3
    go_wp2_with fail
    obtain ⟨ra_9, rb_9⟩ := HRQ.out
    refine bodyPost_ret (v := .tuple #[.agg #[.int .i64 0, .slice none 0 0], .int .i64 v]) (by simp [results, Try.results13, go_sem, ra_9, rb_9]) rfl ?_
    rw [HR.out]
    exact ⟨none, 0, rfl, OwnI.nil _ _, HB.out⟩
set_option maxRecDepth 20000 in
set_option maxHeartbeats 4000000 in
theorem implBracketOf_any (wd ht : Int) (A : Option Addr) (c : Nat) (xs : List Int) (w : World) (hxs : RI w A xs) (hn : xs.length ≤ 1048576) :
    Calls Try.prog 14 #[.agg #[.int .i64 wd, .int .i64 ht, .slice A xs.length c]] w (RetPC w (brR wd ht xs).1.1 (brR wd ht xs).1.2 (brR wd ht xs).2) := by
  obtain ⟨pa_x1, pb_x1, pc_x1⟩ := ((Bx.new_ w (w.heap.size) 26 #[.int .i64 wd, .int .i64 ht, .slice A xs.length c] (by simp)).alloc (.cells #[.int .i64 0, .slice none 0 0] 34)).three
  obtain ⟨ra_x1, rb_x1⟩ := (Bx.new_ (w.alloc (.cells #[.int .i64 wd, .int .i64 ht, .slice A xs.length c] 26)) (w.heap.size + 1) 34 #[.int .i64 0, .slice none 0 0] (by simp)).two
  have rf0_x1 := (Bx.new_ (w.alloc (.cells #[.int .i64 wd, .int .i64 ht, .slice A xs.length c] 26)) (w.heap.size + 1) 34 #[.int .i64 0, .slice none 0 0] (by simp)).frozen 0
  have rf1_x1 := (Bx.new_ (w.alloc (.cells #[.int .i64 wd, .int .i64 ht, .slice A xs.length c] 26)) (w.heap.size + 1) 34 #[.int .i64 0, .slice none 0 0] (by simp)).frozen 1
  have HCODE := hide (bracketCode_any wd ht A c xs ((w.alloc (.cells #[.int .i64 wd, .int .i64 ht, .slice A xs.length c] 26)).alloc (.cells #[.int .i64 0, .slice none 0 0] 34)) (hxs.below (((Below.refl w.heap.size w).alloc (by first | omega | (simp; omega) | simp) (.cells #[.int .i64 wd, .int .i64 ht, .slice A xs.length c] 26)).alloc (by first | omega | (simp; omega) | simp) (.cells #[.int .i64 0, .slice none 0 0] 34))) hn)
  by_cases h0 : brC wd ht xs = 0
  · obtain ⟨hv, h8, _⟩ := brC_zero h0
    obtain ⟨hs, hl⟩ := vld_sz hv
    have HR := hide (brR_ok h0)
    have HC0 := hide h0
    have HBR := hide (fun (W : World) (h : RI W A xs) => bracket_any wd ht A c xs W h hn hs hl h8)
    obtain ⟨q, hq⟩ : ∃ q, q = brTo wd ht xs (2 ^ crN xs) := ⟨_, rfl⟩
    rw [← hq] at HR HBR
    clear h0 hs hl hq hv h8
    go_enter Try.func14, Try.ntmps14
    go_wp2_with fail
    refine ((HCODE.out)).mono ?_
    rintro e w1 ⟨rfl, hb1⟩
    have p_1 := ((Bx.new_ w (w.heap.size) 26 #[.int .i64 wd, .int .i64 ht, .slice A xs.length c] (by simp)).alloc (.cells #[.int .i64 0, .slice none 0 0] 34)).below hb1
    obtain ⟨pa_1, pb_1, pc_1⟩ := (p_1).three
    have r_1 := (Bx.new_ (w.alloc (.cells #[.int .i64 wd, .int .i64 ht, .slice A xs.length c] 26)) (w.heap.size + 1) 34 #[.int .i64 0, .slice none 0 0] (by simp)).below hb1
    obtain ⟨ra_1, rb_1⟩ := (r_1).two
    have rf0_1 := (r_1).frozen 0
    have rf1_1 := (r_1).frozen 1
    have z_1 : ((w.alloc (.cells #[.int .i64 wd, .int .i64 ht, .slice A xs.length c] 26)).alloc (.cells #[.int .i64 0, .slice none 0 0] 34)).heap.size ≤ w1.heap.size := hb1.size
    simp only [World.size_alloc] at z_1
    have B_1 := (((Below.refl w.heap.size w).alloc (by first | omega | (simp; omega) | simp) (.cells #[.int .i64 wd, .int .i64 ht, .slice A xs.length c] 26)).alloc (by first | omega | (simp; omega) | simp) (.cells #[.int .i64 0, .slice none 0 0] 34)).trans (hb1.mono (by first | omega | (simp; omega) | simp))
    rw [HC0.out]
    go_wp2_with fail
    refine (HBR.out _ (hxs.below (B_1))).mono ?_
    rintro e w2 ⟨A2, c2, rfl, own2, hb2⟩
    have p_2 := (p_1).below hb2
    obtain ⟨pa_2, pb_2, pc_2⟩ := (p_2).three
    have r_2 := (r_1).below hb2
    obtain ⟨ra_2, rb_2⟩ := (r_2).two
    have rf0_2 := (r_2).frozen 0
    have rf1_2 := (r_2).frozen 1
    have z_2 : w1.heap.size ≤ w2.heap.size := hb2.size
    have B_2 := (B_1).trans (hb2.mono (by first | omega | (simp; omega) | simp))
    have r2 := r_2
    have B2 := B_2
    have hz1 := hb1.size
    have HZ1 : Hid (w.heap.size + 2 ≤ w1.heap.size) := hide (by have := (r_1).lt; omega)
    obtain ⟨za, zb⟩ := r2.two
    have f0 := r2.frozen 0
    have f1 := r2.frozen 1
    have HRQ := hide (r2.put2 (u0 := .int .i64 q.1) (u1 := .slice A2 q.2.length c2)).two
    have OWN := hide ((own2.far2 (b := w.heap.size + 1) (o0 := 0) (o1 := 1) (u0 := .int .i64 q.1) (u1 := .slice A2 q.2.length c2) (fun g hg => by have := (own2.ge hg).1; have := HZ1.out; omega)).mono (show w.heap.size ≤ w1.heap.size by have := HZ1.out; omega))
    have HB := hide (below_put2 (b := w.heap.size + 1) (o0 := 0) (o1 := 1) (u0 := .int .i64 q.1) (u1 := .slice A2 q.2.length c2) B2 (by omega))
    clear own2 r2 B2
    go_wp2_with fail
    obtain ⟨ra_9, rb_9⟩ := HRQ.out
    refine bodyPost_ret (v := .tuple #[.agg #[.int .i64 q.1, .slice A2 q.2.length c2], .int .i64 0]) (by simp [results, Try.results14, go_sem, ra_9, rb_9]) rfl ?_
    rw [HR.out]
    exact ⟨A2, c2, rfl, OWN.out, HB.out⟩
  ·
    have HR := hide (brR_no h0)
    obtain ⟨v, hvv⟩ : ∃ v, v = brC wd ht xs := ⟨_, rfl⟩
    rw [← hvv] at HR h0
    have HVV := hide hvv
    have d0 : (v != 0) = true := by simpa using h0
    clear h0 hvv
    go_enter Try.func14, Try.ntmps14
    go_wp2_with fail
    refine ((HCODE.out)).mono ?_
    rintro e w1 ⟨rfl, hb1⟩
    have p_1 := ((Bx.new_ w (w.heap.size) 26 #[.int .i64 wd, .int .i64 ht, .slice A xs.length c] (by simp)).alloc (.cells #[.int .i64 0, .slice none 0 0] 34)).below hb1
    obtain ⟨pa_1, pb_1, pc_1⟩ := (p_1).three
    have r_1 := (Bx.new_ (w.alloc (.cells #[.int .i64 wd, .int .i64 ht, .slice A xs.length c] 26)) (w.heap.size + 1) 34 #[.int .i64 0, .slice none 0 0] (by simp)).below hb1
    obtain ⟨ra_1, rb_1⟩ := (r_1).two
    have rf0_1 := (r_1).frozen 0
    have rf1_1 := (r_1).frozen 1
    have z_1 : ((w.alloc (.cells #[.int .i64 wd, .int .i64 ht, .slice A xs.length c] 26)).alloc (.cells #[.int .i64 0, .slice none 0 0] 34)).heap.size ≤ w1.heap.size := hb1.size
    simp only [World.size_alloc] at z_1
    have B_1 := (((Below.refl w.heap.size w).alloc (by first | omega | (simp; omega) | simp) (.cells #[.int .i64 wd, .int .i64 ht, .slice A xs.length c] 26)).alloc (by first | omega | (simp; omega) | simp) (.cells #[.int .i64 0, .slice none 0 0] 34)).trans (hb1.mono (by first | omega | (simp; omega) | simp))
    rw [← HVV.out]
    have r3 := (r_1).put2 (u0 := .int .i64 0) (u1 := .slice none 0 0)
    have HRQ := hide r3.two
    have HB := hide (below_put2 (b := w.heap.size + 1) (o0 := 0) (o1 := 1) (u0 := .int .i64 0) (u1 := .slice none 0 0) (B_1) (by omega))
    clear r3
    go_wp2_with fail
    obtain ⟨ra_9, rb_9⟩ := HRQ.out
    refine bodyPost_ret (v := .tuple #[.agg #[.int .i64 0, .slice none 0 0], .int .i64 v]) (by simp [results, Try.results14, go_sem, ra_9, rb_9]) rfl ?_
    rw [HR.out]
    exact ⟨none, 0, rfl, OwnI.nil _ _, HB.out⟩
end Go.Proofs.Ytgdgjcpkelokiaa

namespace Go.Proofs.Ytgdgjcpkelokiaa
open Go.RowKit
set_option linter.unusedVariables false

theorem fold_pm (l : List Int) : ∀ s : Int, (∀ x ∈ l, x = 1 ∨ x = -1) → s.natAbs + l.length ≤ 1000000 → (l.foldl (fun s x => wrap64 (s + x)) s).natAbs ≤ s.natAbs + l.length := by
  induction l with
  | nil => intro s _ _; exact Nat.le_refl _
  | cons x l ih =>
    intro s h h1
    have hx := h x List.mem_cons_self
    rw [List.length_cons] at h1 ⊢
    have hw : wrap64 (s + x) = s + x := by unfold wrap64; omega
    have := ih (s + x) (fun y hy => h y (List.mem_cons_of_mem _ hy)) (by omega)
    rw [List.foldl_cons, hw]
    omega
theorem sumW_pm {l : List Int} (h : ∀ x ∈ l, x = 1 ∨ x = -1) (hn : l.length ≤ 1000) : -(l.length : Int) ≤ sumW l ∧ sumW l ≤ l.length := by
  have := fold_pm l 0 h (by simp; omega)
  unfold sumW
  omega
theorem writhe_b {wd ht : Int} {xs : List Int} (hs : Sz wd ht) (hl : (xs.length : Int) = innerN wd ht) (h8 : crN xs ≤ 8) : -8 ≤ sumW (sgL wd ht xs) ∧ sumW (sgL wd ht xs) ≤ 8 := by
  have h1 := sgL_len (xs := xs) hs hl
  have h2 : (zTo xs xs.length).length = crN xs := rfl
  have := sumW_pm (l := sgL wd ht xs) (fun x hx => sgL_pm hx) (by omega)
  omega
/-- the factor of the normal bracket -/
def nbT (W : Int) : Int := if W.tmod 2 = 0 then 1 else -1
/-- the normal bracket of a panel, and its code -/
noncomputable def nbR (wd ht : Int) (xs : List Int) : (Int × List Int) × Int := if brC wd ht xs = 0 then (shiftP (brTo wd ht xs (2 ^ crN xs)).1 (brTo wd ht xs (2 ^ crN xs)).2 (-3 * sumW (sgL wd ht xs)) (nbT (sumW (sgL wd ht xs))), 0) else ((0, []), brC wd ht xs)
theorem nbR_ok {wd ht : Int} {xs : List Int} (h : brC wd ht xs = 0) : nbR wd ht xs = (shiftP (brTo wd ht xs (2 ^ crN xs)).1 (brTo wd ht xs (2 ^ crN xs)).2 (-3 * sumW (sgL wd ht xs)) (nbT (sumW (sgL wd ht xs))), 0) := by unfold nbR; rw [if_pos h]
theorem nbR_no {wd ht : Int} {xs : List Int} (h : ¬ brC wd ht xs = 0) : nbR wd ht xs = ((0, []), brC wd ht xs) := by unfold nbR; rw [if_neg h]
theorem nbR_bk {wd ht : Int} {xs : List Int} (h : brC wd ht xs = 0) : BK 1100 (shiftP (brTo wd ht xs (2 ^ crN xs)).1 (brTo wd ht xs (2 ^ crN xs)).2 (-3 * sumW (sgL wd ht xs)) (nbT (sumW (sgL wd ht xs)))) := by
  obtain ⟨h1, h2, _⟩ := brC_zero h
  obtain ⟨hs, hl⟩ := vld_sz h1
  have hb := brTo_bk (ht := ht) hs h2 (2 ^ crN xs)
  have hw := writhe_b hs hl h2
  rw [← mulP_one]
  refine BK.mono (mulP_bk (K0 := 1000) (K1 := 25) (q1 := (-3 * sumW (sgL wd ht xs), [nbT (sumW (sgL wd ht xs))])) hb ?_) (by omega)
  unfold BK
  simp only [List.length_cons, List.length_nil]
  omega
theorem nbR_len {wd ht : Int} {xs : List Int} : (nbR wd ht xs).1.2.length ≤ 3000 := by
  by_cases h : brC wd ht xs = 0
  · rw [nbR_ok h]
    have := nbR_bk h
    unfold BK at this
    dsimp only
    omega
  · rw [nbR_no h]
    simp

set_option maxRecDepth 20000 in
set_option maxHeartbeats 4000000 in
theorem specNormalBracket_any (wd ht : Int) (A : Option Addr) (c : Nat) (xs : List Int) (w : World) (hxs : RI w A xs) (hn : xs.length ≤ 1048576) :
    Calls Try.prog 18 #[.agg #[.int .i64 wd, .int .i64 ht, .slice A xs.length c]] w (RetPC w (nbR wd ht xs).1.1 (nbR wd ht xs).1.2 (nbR wd ht xs).2) := by
  obtain ⟨pa_x1, pb_x1, pc_x1⟩ := ((Bx.new_ w (w.heap.size) 26 #[.int .i64 wd, .int .i64 ht, .slice A xs.length c] (by simp)).alloc (.cells #[.int .i64 0, .slice none 0 0] 34)).three
  obtain ⟨ra_x1, rb_x1⟩ := (Bx.new_ (w.alloc (.cells #[.int .i64 wd, .int .i64 ht, .slice A xs.length c] 26)) (w.heap.size + 1) 34 #[.int .i64 0, .slice none 0 0] (by simp)).two
  have rf0_x1 := (Bx.new_ (w.alloc (.cells #[.int .i64 wd, .int .i64 ht, .slice A xs.length c] 26)) (w.heap.size + 1) 34 #[.int .i64 0, .slice none 0 0] (by simp)).frozen 0
  have rf1_x1 := (Bx.new_ (w.alloc (.cells #[.int .i64 wd, .int .i64 ht, .slice A xs.length c] 26)) (w.heap.size + 1) 34 #[.int .i64 0, .slice none 0 0] (by simp)).frozen 1
  have HCODE := hide (l18Code_any w.heap.size wd ht A c xs ((w.alloc (.cells #[.int .i64 wd, .int .i64 ht, .slice A xs.length c] 26)).alloc (.cells #[.int .i64 0, .slice none 0 0] 34)) (PA.mk ((Bx.new_ w (w.heap.size) 26 #[.int .i64 wd, .int .i64 ht, .slice A xs.length c] (by simp)).alloc (.cells #[.int .i64 0, .slice none 0 0] 34)) (hxs.below (((Below.refl w.heap.size w).alloc (by first | omega | (simp; omega) | simp) (.cells #[.int .i64 wd, .int .i64 ht, .slice A xs.length c] 26)).alloc (by first | omega | (simp; omega) | simp) (.cells #[.int .i64 0, .slice none 0 0] 34)))) hn)
  by_cases h0 : brC wd ht xs = 0
  · obtain ⟨hv, h8, _⟩ := brC_zero h0
    obtain ⟨hs, hl⟩ := vld_sz hv
    have HR := hide (nbR_ok h0)
    have HC0 := hide h0
    have HQB := hide (brTo_bk (ht := ht) hs h8 (2 ^ crN xs))
    have hsl : (sgL wd ht xs).length ≤ 1048576 := by have h1 := sgL_len (xs := xs) hs hl; have h2 : (zTo xs xs.length).length = crN xs := rfl; omega
    have hwb := writhe_b hs hl h8
    have HBR := hide (fun (W : World) (h : PA W w.heap.size wd ht A c xs) => l18Bracket_any w.heap.size wd ht A c xs W h hn hs hl h8)
    have HSG := hide (fun (W : World) (h : PA W w.heap.size wd ht A c xs) => l17Signs_any w.heap.size wd ht A c xs W h hs hl hn)
    have HSU := hide (fun (W : World) (B : Option Addr) (d : Nat) (h : RI W B (sgL wd ht xs)) => l17Sum_any B d _ W h hsl)
    obtain ⟨q, hq⟩ : ∃ q, q = brTo wd ht xs (2 ^ crN xs) := ⟨_, rfl⟩
    rw [← hq] at HR HBR HQB
    obtain ⟨sg, hsg⟩ : ∃ sg, sg = sgL wd ht xs := ⟨_, rfl⟩
    rw [← hsg] at HR HSG HSU hwb
    obtain ⟨V, hV⟩ : ∃ V, V = sumW sg := ⟨_, rfl⟩
    rw [← hV] at HR HSU hwb
    have hvw : IntKind.i64.wrap (-3 * V) = -3 * V := by rw [IntKind.wrap_i64]; omega
    obtain ⟨u, hu⟩ : ∃ u, u = nbT V := ⟨_, rfl⟩
    rw [← hu] at HR
    have HSH := hide (fun (W : World) (B : Option Addr) (d : Nat) (h : RI W B q.2) => l18Shift_any q.1 B d q.2 (-3 * V) u W h (by have := HQB.out; unfold BK at this; omega) (by have := HQB.out; unfold BK at this; omega) (by omega) (by omega) (by have := HQB.out; unfold BK at this; omega))
    obtain ⟨q2, hq2⟩ : ∃ q2, q2 = shiftP q.1 q.2 (-3 * V) u := ⟨_, rfl⟩
    rw [← hq2] at HR HSH
    clear h0 hs hl hq hv h8 hsg hV hq2 hsl
    by_cases ht2 : V.tmod 2 = 0
    · have hu1 : u = 1 := by rw [hu]; unfold nbT; rw [if_pos ht2]
      have hd : decide (V.tmod 2 = 0) = true := by simpa using ht2
      have hd2 : (V.tmod 2 != 0) = false := by simp [ht2]
      rw [hu1] at HSH
      clear hu hu1
      go_enter Try.func18, Try.ntmps18
      go_wp2_with fail
      refine ((HCODE.out)).mono ?_
      rintro e w1 ⟨rfl, hb1⟩
      have p_1 := ((Bx.new_ w (w.heap.size) 26 #[.int .i64 wd, .int .i64 ht, .slice A xs.length c] (by simp)).alloc (.cells #[.int .i64 0, .slice none 0 0] 34)).below hb1
      obtain ⟨pa_1, pb_1, pc_1⟩ := (p_1).three
      have r_1 := (Bx.new_ (w.alloc (.cells #[.int .i64 wd, .int .i64 ht, .slice A xs.length c] 26)) (w.heap.size + 1) 34 #[.int .i64 0, .slice none 0 0] (by simp)).below hb1
      obtain ⟨ra_1, rb_1⟩ := (r_1).two
      have rf0_1 := (r_1).frozen 0
      have rf1_1 := (r_1).frozen 1
      have z_1 : ((w.alloc (.cells #[.int .i64 wd, .int .i64 ht, .slice A xs.length c] 26)).alloc (.cells #[.int .i64 0, .slice none 0 0] 34)).heap.size ≤ w1.heap.size := hb1.size
      simp only [World.size_alloc] at z_1
      have B_1 := (((Below.refl w.heap.size w).alloc (by first | omega | (simp; omega) | simp) (.cells #[.int .i64 wd, .int .i64 ht, .slice A xs.length c] 26)).alloc (by first | omega | (simp; omega) | simp) (.cells #[.int .i64 0, .slice none 0 0] 34)).trans (hb1.mono (by first | omega | (simp; omega) | simp))
      rw [HC0.out]
      have B1x := hide ((B_1))
      go_wp2_with fail
      refine (HSG.out _ (PA.mk (p_1) (hxs.below (B_1)))).mono ?_
      rintro e w2 ⟨A2, c2, rfl, own2, hb2⟩
      have p_2 := (p_1).below hb2
      obtain ⟨pa_2, pb_2, pc_2⟩ := (p_2).three
      have r_2 := (r_1).below hb2
      obtain ⟨ra_2, rb_2⟩ := (r_2).two
      have rf0_2 := (r_2).frozen 0
      have rf1_2 := (r_2).frozen 1
      have z_2 : w1.heap.size ≤ w2.heap.size := hb2.size
      have B_2 := (B_1).trans (hb2.mono (by first | omega | (simp; omega) | simp))
      go_wp2_with fail
      refine (HSU.out _ A2 c2 own2.rd).mono ?_
      rintro e w2' ⟨rfl, rfl⟩
      clear own2
      go_wp2_with fail
      refine (HBR.out _ (PA.mk (p_2) (hxs.below (B_2)))).mono ?_
      rintro e w3 ⟨A3, c3, rfl, own3, hb3⟩
      have p_3 := (p_2).below hb3
      obtain ⟨pa_3, pb_3, pc_3⟩ := (p_3).three
      have r_3 := (r_2).below hb3
      obtain ⟨ra_3, rb_3⟩ := (r_3).two
      have rf0_3 := (r_3).frozen 0
      have rf1_3 := (r_3).frozen 1
      have z_3 : w2.heap.size ≤ w3.heap.size := hb3.size
      have B_3 := (B_2).trans (hb3.mono (by first | omega | (simp; omega) | simp))
      go_wp2_with fail
      refine (HSH.out _ A3 c3 own3.rd).mono ?_
      rintro e w4 ⟨A4, c4, rfl, own4, hb4⟩
      have p_4 := (p_3).below hb4
      obtain ⟨pa_4, pb_4, pc_4⟩ := (p_4).three
      have r_4 := (r_3).below hb4
      obtain ⟨ra_4, rb_4⟩ := (r_4).two
      have rf0_4 := (r_4).frozen 0
      have rf1_4 := (r_4).frozen 1
      have z_4 : w3.heap.size ≤ w4.heap.size := hb4.size
      have B_4 := (B_3).trans (hb4.mono (by first | omega | (simp; omega) | simp))
      have r2 := r_4
      have B2 := B_4
      have HZ1 : Hid (w.heap.size + 2 ≤ w3.heap.size) := hide (by have := (r_3).lt; omega)
      obtain ⟨za, zb⟩ := r2.two
      have f0 := r2.frozen 0
      have f1 := r2.frozen 1
      have HRQ := hide (r2.put2 (u0 := .int .i64 q2.1) (u1 := .slice A4 q2.2.length c4)).two
      have OWN := hide ((own4.far2 (b := w.heap.size + 1) (o0 := 0) (o1 := 1) (u0 := .int .i64 q2.1) (u1 := .slice A4 q2.2.length c4) (fun g hg => by have := (own4.ge hg).1; have := HZ1.out; omega)).mono (show w.heap.size ≤ w3.heap.size by have := HZ1.out; omega))
      have HB := hide (below_put2 (b := w.heap.size + 1) (o0 := 0) (o1 := 1) (u0 := .int .i64 q2.1) (u1 := .slice A4 q2.2.length c4) B2 (by omega))
      clear own3 own4 r2 B2
      go_wp2_with fail
      obtain ⟨ra_9, rb_9⟩ := HRQ.out
      refine bodyPost_ret (v := .tuple #[.agg #[.int .i64 q2.1, .slice A4 q2.2.length c4], .int .i64 0]) (by simp [results, Try.results18, go_sem, ra_9, rb_9]) rfl ?_
      rw [HR.out]
      exact ⟨A4, c4, rfl, OWN.out, HB.out⟩
    · have hu1 : u = -1 := by rw [hu]; unfold nbT; rw [if_neg ht2]
      have hd : decide (V.tmod 2 = 0) = false := by simpa using ht2
      have hd2 : (V.tmod 2 != 0) = true := by simp [ht2]
      rw [hu1] at HSH
      clear hu hu1
      go_enter Try.func18, Try.ntmps18
      go_wp2_with fail
      refine ((HCODE.out)).mono ?_
      rintro e w1 ⟨rfl, hb1⟩
      have p_1 := ((Bx.new_ w (w.heap.size) 26 #[.int .i64 wd, .int .i64 ht, .slice A xs.length c] (by simp)).alloc (.cells #[.int .i64 0, .slice none 0 0] 34)).below hb1
      obtain ⟨pa_1, pb_1, pc_1⟩ := (p_1).three
      have r_1 := (Bx.new_ (w.alloc (.cells #[.int .i64 wd, .int .i64 ht, .slice A xs.length c] 26)) (w.heap.size + 1) 34 #[.int .i64 0, .slice none 0 0] (by simp)).below hb1
      obtain ⟨ra_1, rb_1⟩ := (r_1).two
      have rf0_1 := (r_1).frozen 0
      have rf1_1 := (r_1).frozen 1
      have z_1 : ((w.alloc (.cells #[.int .i64 wd, .int .i64 ht, .slice A xs.length c] 26)).alloc (.cells #[.int .i64 0, .slice none 0 0] 34)).heap.size ≤ w1.heap.size := hb1.size
      simp only [World.size_alloc] at z_1
      have B_1 := (((Below.refl w.heap.size w).alloc (by first | omega | (simp; omega) | simp) (.cells #[.int .i64 wd, .int .i64 ht, .slice A xs.length c] 26)).alloc (by first | omega | (simp; omega) | simp) (.cells #[.int .i64 0, .slice none 0 0] 34)).trans (hb1.mono (by first | omega | (simp; omega) | simp))
      rw [HC0.out]
      have B1x := hide ((B_1))
      go_wp2_with fail
      refine (HSG.out _ (PA.mk (p_1) (hxs.below (B_1)))).mono ?_
      rintro e w2 ⟨A2, c2, rfl, own2, hb2⟩
      have p_2 := (p_1).below hb2
      obtain ⟨pa_2, pb_2, pc_2⟩ := (p_2).three
      have r_2 := (r_1).below hb2
      obtain ⟨ra_2, rb_2⟩ := (r_2).two
      have rf0_2 := (r_2).frozen 0
      have rf1_2 := (r_2).frozen 1
      have z_2 : w1.heap.size ≤ w2.heap.size := hb2.size
      have B_2 := (B_1).trans (hb2.mono (by first | omega | (simp; omega) | simp))
      go_wp2_with fail
      refine (HSU.out _ A2 c2 own2.rd).mono ?_
      rintro e w2' ⟨rfl, rfl⟩
      clear own2
      go_wp2_with fail
      refine (HBR.out _ (PA.mk (p_2) (hxs.below (B_2)))).mono ?_
      rintro e w3 ⟨A3, c3, rfl, own3, hb3⟩
      have p_3 := (p_2).below hb3
      obtain ⟨pa_3, pb_3, pc_3⟩ := (p_3).three
      have r_3 := (r_2).below hb3
      obtain ⟨ra_3, rb_3⟩ := (r_3).two
      have rf0_3 := (r_3).frozen 0
      have rf1_3 := (r_3).frozen 1
      have z_3 : w2.heap.size ≤ w3.heap.size := hb3.size
      have B_3 := (B_2).trans (hb3.mono (by first | omega | (simp; omega) | simp))
      go_wp2_with fail
      refine (HSH.out _ A3 c3 own3.rd).mono ?_
      rintro e w4 ⟨A4, c4, rfl, own4, hb4⟩
      have p_4 := (p_3).below hb4
      obtain ⟨pa_4, pb_4, pc_4⟩ := (p_4).three
      have r_4 := (r_3).below hb4
      obtain ⟨ra_4, rb_4⟩ := (r_4).two
      have rf0_4 := (r_4).frozen 0
      have rf1_4 := (r_4).frozen 1
      have z_4 : w3.heap.size ≤ w4.heap.size := hb4.size
      have B_4 := (B_3).trans (hb4.mono (by first | omega | (simp; omega) | simp))
      have r2 := r_4
      have B2 := B_4
      have HZ1 : Hid (w.heap.size + 2 ≤ w3.heap.size) := hide (by have := (r_3).lt; omega)
      obtain ⟨za, zb⟩ := r2.two
      have f0 := r2.frozen 0
      have f1 := r2.frozen 1
      have HRQ := hide (r2.put2 (u0 := .int .i64 q2.1) (u1 := .slice A4 q2.2.length c4)).two
      have OWN := hide ((own4.far2 (b := w.heap.size + 1) (o0 := 0) (o1 := 1) (u0 := .int .i64 q2.1) (u1 := .slice A4 q2.2.length c4) (fun g hg => by have := (own4.ge hg).1; have := HZ1.out; omega)).mono (show w.heap.size ≤ w3.heap.size by have := HZ1.out; omega))
      have HB := hide (below_put2 (b := w.heap.size + 1) (o0 := 0) (o1 := 1) (u0 := .int .i64 q2.1) (u1 := .slice A4 q2.2.length c4) B2 (by omega))
      clear own3 own4 r2 B2
      go_wp2_with fail
      obtain ⟨ra_9, rb_9⟩ := HRQ.out
      refine bodyPost_ret (v := .tuple #[.agg #[.int .i64 q2.1, .slice A4 q2.2.length c4], .int .i64 0]) (by simp [results, Try.results18, go_sem, ra_9, rb_9]) rfl ?_
      rw [HR.out]
      exact ⟨A4, c4, rfl, OWN.out, HB.out⟩
  ·
    have HR := hide (nbR_no h0)
    obtain ⟨v, hvv⟩ : ∃ v, v = brC wd ht xs := ⟨_, rfl⟩
    rw [← hvv] at HR h0
    have HVV := hide hvv
    have d0 : (v != 0) = true := by simpa using h0
    clear h0 hvv
    go_enter Try.func18, Try.ntmps18
    go_wp2_with fail
    refine ((HCODE.out)).mono ?_
    rintro e w1 ⟨rfl, hb1⟩
    have p_1 := ((Bx.new_ w (w.heap.size) 26 #[.int .i64 wd, .int .i64 ht, .slice A xs.length c] (by simp)).alloc (.cells #[.int .i64 0, .slice none 0 0] 34)).below hb1
    obtain ⟨pa_1, pb_1, pc_1⟩ := (p_1).three
    have r_1 := (Bx.new_ (w.alloc (.cells #[.int .i64 wd, .int .i64 ht, .slice A xs.length c] 26)) (w.heap.size + 1) 34 #[.int .i64 0, .slice none 0 0] (by simp)).below hb1
    obtain ⟨ra_1, rb_1⟩ := (r_1).two
    have rf0_1 := (r_1).frozen 0
    have rf1_1 := (r_1).frozen 1
    have z_1 : ((w.alloc (.cells #[.int .i64 wd, .int .i64 ht, .slice A xs.length c] 26)).alloc (.cells #[.int .i64 0, .slice none 0 0] 34)).heap.size ≤ w1.heap.size := hb1.size
    simp only [World.size_alloc] at z_1
    have B_1 := (((Below.refl w.heap.size w).alloc (by first | omega | (simp; omega) | simp) (.cells #[.int .i64 wd, .int .i64 ht, .slice A xs.length c] 26)).alloc (by first | omega | (simp; omega) | simp) (.cells #[.int .i64 0, .slice none 0 0] 34)).trans (hb1.mono (by first | omega | (simp; omega) | simp))
    rw [← HVV.out]
    have r3 := (r_1).put2 (u0 := .int .i64 0) (u1 := .slice none 0 0)
    have HRQ := hide r3.two
    have HB := hide (below_put2 (b := w.heap.size + 1) (o0 := 0) (o1 := 1) (u0 := .int .i64 0) (u1 := .slice none 0 0) (B_1) (by omega))
    clear r3
    go_wp2_with fail
    obtain ⟨ra_9, rb_9⟩ := HRQ.out
    refine bodyPost_ret (v := .tuple #[.agg #[.int .i64 0, .slice none 0 0], .int .i64 v]) (by simp [results, Try.results18, go_sem, ra_9, rb_9]) rfl ?_
    rw [HR.out]
    exact ⟨none, 0, rfl, OwnI.nil _ _, HB.out⟩
set_option maxRecDepth 20000 in
set_option maxHeartbeats 4000000 in
theorem implNormalBracket_any (wd ht : Int) (A : Option Addr) (c : Nat) (xs : List Int) (w : World) (hxs : RI w A xs) (hcap : xs.length ≤ c ∧ c ≤ 9223372036854775807) (hn : xs.length ≤ 1048576) :
    Calls Try.prog 19 #[.agg #[.int .i64 wd, .int .i64 ht, .slice A xs.length c]] w (RetPC w (nbR wd ht xs).1.1 (nbR wd ht xs).1.2 (nbR wd ht xs).2) := by
  obtain ⟨pa_x1, pb_x1, pc_x1⟩ := ((Bx.new_ w (w.heap.size) 26 #[.int .i64 wd, .int .i64 ht, .slice A xs.length c] (by simp)).alloc (.cells #[.int .i64 0, .slice none 0 0] 34)).three
  obtain ⟨ra_x1, rb_x1⟩ := (Bx.new_ (w.alloc (.cells #[.int .i64 wd, .int .i64 ht, .slice A xs.length c] 26)) (w.heap.size + 1) 34 #[.int .i64 0, .slice none 0 0] (by simp)).two
  have rf0_x1 := (Bx.new_ (w.alloc (.cells #[.int .i64 wd, .int .i64 ht, .slice A xs.length c] 26)) (w.heap.size + 1) 34 #[.int .i64 0, .slice none 0 0] (by simp)).frozen 0
  have rf1_x1 := (Bx.new_ (w.alloc (.cells #[.int .i64 wd, .int .i64 ht, .slice A xs.length c] 26)) (w.heap.size + 1) 34 #[.int .i64 0, .slice none 0 0] (by simp)).frozen 1
  have HCODE := hide (bracketCode_any wd ht A c xs ((w.alloc (.cells #[.int .i64 wd, .int .i64 ht, .slice A xs.length c] 26)).alloc (.cells #[.int .i64 0, .slice none 0 0] 34)) (hxs.below (((Below.refl w.heap.size w).alloc (by first | omega | (simp; omega) | simp) (.cells #[.int .i64 wd, .int .i64 ht, .slice A xs.length c] 26)).alloc (by first | omega | (simp; omega) | simp) (.cells #[.int .i64 0, .slice none 0 0] 34))) hn)
  by_cases h0 : brC wd ht xs = 0
  · obtain ⟨hv, h8, _⟩ := brC_zero h0
    obtain ⟨hs, hl⟩ := vld_sz hv
    have HR := hide (nbR_ok h0)
    have HC0 := hide h0
    have HQB := hide (brTo_bk (ht := ht) hs h8 (2 ^ crN xs))
    have hsl : (sgL wd ht xs).length ≤ 1048576 := by have h1 := sgL_len (xs := xs) hs hl; have h2 : (zTo xs xs.length).length = crN xs := rfl; omega
    have hwb := writhe_b hs hl h8
    have HBR := hide (fun (W : World) (h : RI W A xs) => bracket_any wd ht A c xs W h hn hs hl h8)
    have HSG := hide (fun (W : World) (h : RI W A xs) => signs_any wd ht A c xs W h hcap hs hl hn)
    have HSU := hide (fun (W : World) (B : Option Addr) (d : Nat) (h : RI W B (sgL wd ht xs)) => sumOf_any B d _ W h hsl)
    obtain ⟨q, hq⟩ : ∃ q, q = brTo wd ht xs (2 ^ crN xs) := ⟨_, rfl⟩
    rw [← hq] at HR HBR HQB
    obtain ⟨sg, hsg⟩ : ∃ sg, sg = sgL wd ht xs := ⟨_, rfl⟩
    rw [← hsg] at HR HSG HSU hwb
    obtain ⟨V, hV⟩ : ∃ V, V = sumW sg := ⟨_, rfl⟩
    rw [← hV] at HR HSU hwb
    have hvw : IntKind.i64.wrap (-3 * V) = -3 * V := by rw [IntKind.wrap_i64]; omega
    obtain ⟨u, hu⟩ : ∃ u, u = nbT V := ⟨_, rfl⟩
    rw [← hu] at HR
    have HSH := hide (fun (W : World) (B : Option Addr) (d : Nat) (h : RI W B q.2) => shiftPoly_any q.1 B d q.2 (-3 * V) u W h (by have := HQB.out; unfold BK at this; omega) (by have := HQB.out; unfold BK at this; omega) (by omega) (by omega) (by have := HQB.out; unfold BK at this; omega))
    obtain ⟨q2, hq2⟩ : ∃ q2, q2 = shiftP q.1 q.2 (-3 * V) u := ⟨_, rfl⟩
    rw [← hq2] at HR HSH
    clear h0 hs hl hq hv h8 hsg hV hq2 hsl
    by_cases ht2 : V.tmod 2 = 0
    · have hu1 : u = 1 := by rw [hu]; unfold nbT; rw [if_pos ht2]
      have hd : decide (V.tmod 2 = 0) = true := by simpa using ht2
      have hd2 : (V.tmod 2 != 0) = false := by simp [ht2]
      rw [hu1] at HSH
      clear hu hu1
      go_enter Try.func19, Try.ntmps19
      go_wp2_with fail
      refine ((HCODE.out)).mono ?_
      rintro e w1 ⟨rfl, hb1⟩
      have p_1 := ((Bx.new_ w (w.heap.size) 26 #[.int .i64 wd, .int .i64 ht, .slice A xs.length c] (by simp)).alloc (.cells #[.int .i64 0, .slice none 0 0] 34)).below hb1
      obtain ⟨pa_1, pb_1, pc_1⟩ := (p_1).three
      have r_1 := (Bx.new_ (w.alloc (.cells #[.int .i64 wd, .int .i64 ht, .slice A xs.length c] 26)) (w.heap.size + 1) 34 #[.int .i64 0, .slice none 0 0] (by simp)).below hb1
      obtain ⟨ra_1, rb_1⟩ := (r_1).two
      have rf0_1 := (r_1).frozen 0
      have rf1_1 := (r_1).frozen 1
      have z_1 : ((w.alloc (.cells #[.int .i64 wd, .int .i64 ht, .slice A xs.length c] 26)).alloc (.cells #[.int .i64 0, .slice none 0 0] 34)).heap.size ≤ w1.heap.size := hb1.size
      simp only [World.size_alloc] at z_1
      have B_1 := (((Below.refl w.heap.size w).alloc (by first | omega | (simp; omega) | simp) (.cells #[.int .i64 wd, .int .i64 ht, .slice A xs.length c] 26)).alloc (by first | omega | (simp; omega) | simp) (.cells #[.int .i64 0, .slice none 0 0] 34)).trans (hb1.mono (by first | omega | (simp; omega) | simp))
      rw [HC0.out]
      have B1x := hide ((B_1))
      go_wp2_with fail
      refine (HSG.out _ (hxs.below (B_1))).mono ?_
      rintro e w2 ⟨A2, c2, rfl, own2, hb2⟩
      have p_2 := (p_1).below hb2
      obtain ⟨pa_2, pb_2, pc_2⟩ := (p_2).three
      have r_2 := (r_1).below hb2
      obtain ⟨ra_2, rb_2⟩ := (r_2).two
      have rf0_2 := (r_2).frozen 0
      have rf1_2 := (r_2).frozen 1
      have z_2 : w1.heap.size ≤ w2.heap.size := hb2.size
      have B_2 := (B_1).trans (hb2.mono (by first | omega | (simp; omega) | simp))
      go_wp2_with fail
      refine (HSU.out _ A2 c2 own2.rd).mono ?_
      rintro e w2' ⟨rfl, rfl⟩
      clear own2
      go_wp2_with fail
      refine (HBR.out _ (hxs.below (B_2))).mono ?_
      rintro e w3 ⟨A3, c3, rfl, own3, hb3⟩
      have p_3 := (p_2).below hb3
      obtain ⟨pa_3, pb_3, pc_3⟩ := (p_3).three
      have r_3 := (r_2).below hb3
      obtain ⟨ra_3, rb_3⟩ := (r_3).two
      have rf0_3 := (r_3).frozen 0
      have rf1_3 := (r_3).frozen 1
      have z_3 : w2.heap.size ≤ w3.heap.size := hb3.size
      have B_3 := (B_2).trans (hb3.mono (by first | omega | (simp; omega) | simp))
      go_wp2_with fail
      refine (HSH.out _ A3 c3 own3.rd).mono ?_
      rintro e w4 ⟨A4, c4, rfl, own4, hb4⟩
      have p_4 := (p_3).below hb4
      obtain ⟨pa_4, pb_4, pc_4⟩ := (p_4).three
      have r_4 := (r_3).below hb4
      obtain ⟨ra_4, rb_4⟩ := (r_4).two
      have rf0_4 := (r_4).frozen 0
      have rf1_4 := (r_4).frozen 1
      have z_4 : w3.heap.size ≤ w4.heap.size := hb4.size
      have B_4 := (B_3).trans (hb4.mono (by first | omega | (simp; omega) | simp))
      have r2 := r_4
      have B2 := B_4
      have HZ1 : Hid (w.heap.size + 2 ≤ w3.heap.size) := hide (by have := (r_3).lt; omega)
      obtain ⟨za, zb⟩ := r2.two
      have f0 := r2.frozen 0
      have f1 := r2.frozen 1
      have HRQ := hide (r2.put2 (u0 := .int .i64 q2.1) (u1 := .slice A4 q2.2.length c4)).two
      have OWN := hide ((own4.far2 (b := w.heap.size + 1) (o0 := 0) (o1 := 1) (u0 := .int .i64 q2.1) (u1 := .slice A4 q2.2.length c4) (fun g hg => by have := (own4.ge hg).1; have := HZ1.out; omega)).mono (show w.heap.size ≤ w3.heap.size by have := HZ1.out; omega))
      have HB := hide (below_put2 (b := w.heap.size + 1) (o0 := 0) (o1 := 1) (u0 := .int .i64 q2.1) (u1 := .slice A4 q2.2.length c4) B2 (by omega))
      clear own3 own4 r2 B2
      go_wp2_with fail
      obtain ⟨ra_9, rb_9⟩ := HRQ.out
      refine bodyPost_ret (v := .tuple #[.agg #[.int .i64 q2.1, .slice A4 q2.2.length c4], .int .i64 0]) (by simp [results, Try.results19, go_sem, ra_9, rb_9]) rfl ?_
      rw [HR.out]
      exact ⟨A4, c4, rfl, OWN.out, HB.out⟩
    · have hu1 : u = -1 := by rw [hu]; unfold nbT; rw [if_neg ht2]
      have hd : decide (V.tmod 2 = 0) = false := by simpa using ht2
      have hd2 : (V.tmod 2 != 0) = true := by simp [ht2]
      rw [hu1] at HSH
      clear hu hu1
      go_enter Try.func19, Try.ntmps19
      go_wp2_with fail
      refine ((HCODE.out)).mono ?_
      rintro e w1 ⟨rfl, hb1⟩
      have p_1 := ((Bx.new_ w (w.heap.size) 26 #[.int .i64 wd, .int .i64 ht, .slice A xs.length c] (by simp)).alloc (.cells #[.int .i64 0, .slice none 0 0] 34)).below hb1
      obtain ⟨pa_1, pb_1, pc_1⟩ := (p_1).three
      have r_1 := (Bx.new_ (w.alloc (.cells #[.int .i64 wd, .int .i64 ht, .slice A xs.length c] 26)) (w.heap.size + 1) 34 #[.int .i64 0, .slice none 0 0] (by simp)).below hb1
      obtain ⟨ra_1, rb_1⟩ := (r_1).two
      have rf0_1 := (r_1).frozen 0
      have rf1_1 := (r_1).frozen 1
      have z_1 : ((w.alloc (.cells #[.int .i64 wd, .int .i64 ht, .slice A xs.length c] 26)).alloc (.cells #[.int .i64 0, .slice none 0 0] 34)).heap.size ≤ w1.heap.size := hb1.size
      simp only [World.size_alloc] at z_1
      have B_1 := (((Below.refl w.heap.size w).alloc (by first | omega | (simp; omega) | simp) (.cells #[.int .i64 wd, .int .i64 ht, .slice A xs.length c] 26)).alloc (by first | omega | (simp; omega) | simp) (.cells #[.int .i64 0, .slice none 0 0] 34)).trans (hb1.mono (by first | omega | (simp; omega) | simp))
      rw [HC0.out]
      have B1x := hide ((B_1))
      go_wp2_with fail
      refine (HSG.out _ (hxs.below (B_1))).mono ?_
      rintro e w2 ⟨A2, c2, rfl, own2, hb2⟩
      have p_2 := (p_1).below hb2
      obtain ⟨pa_2, pb_2, pc_2⟩ := (p_2).three
      have r_2 := (r_1).below hb2
      obtain ⟨ra_2, rb_2⟩ := (r_2).two
      have rf0_2 := (r_2).frozen 0
      have rf1_2 := (r_2).frozen 1
      have z_2 : w1.heap.size ≤ w2.heap.size := hb2.size
      have B_2 := (B_1).trans (hb2.mono (by first | omega | (simp; omega) | simp))
      go_wp2_with fail
      refine (HSU.out _ A2 c2 own2.rd).mono ?_
      rintro e w2' ⟨rfl, rfl⟩
      clear own2
      go_wp2_with fail
      refine (HBR.out _ (hxs.below (B_2))).mono ?_
      rintro e w3 ⟨A3, c3, rfl, own3, hb3⟩
      have p_3 := (p_2).below hb3
      obtain ⟨pa_3, pb_3, pc_3⟩ := (p_3).three
      have r_3 := (r_2).below hb3
      obtain ⟨ra_3, rb_3⟩ := (r_3).two
      have rf0_3 := (r_3).frozen 0
      have rf1_3 := (r_3).frozen 1
      have z_3 : w2.heap.size ≤ w3.heap.size := hb3.size
      have B_3 := (B_2).trans (hb3.mono (by first | omega | (simp; omega) | simp))
      go_wp2_with fail
      refine (HSH.out _ A3 c3 own3.rd).mono ?_
      rintro e w4 ⟨A4, c4, rfl, own4, hb4⟩
      have p_4 := (p_3).below hb4
      obtain ⟨pa_4, pb_4, pc_4⟩ := (p_4).three
      have r_4 := (r_3).below hb4
      obtain ⟨ra_4, rb_4⟩ := (r_4).two
      have rf0_4 := (r_4).frozen 0
      have rf1_4 := (r_4).frozen 1
      have z_4 : w3.heap.size ≤ w4.heap.size := hb4.size
      have B_4 := (B_3).trans (hb4.mono (by first | omega | (simp; omega) | simp))
      have r2 := r_4
      have B2 := B_4
      have HZ1 : Hid (w.heap.size + 2 ≤ w3.heap.size) := hide (by have := (r_3).lt; omega)
      obtain ⟨za, zb⟩ := r2.two
      have f0 := r2.frozen 0
      have f1 := r2.frozen 1
      have HRQ := hide (r2.put2 (u0 := .int .i64 q2.1) (u1 := .slice A4 q2.2.length c4)).two
      have OWN := hide ((own4.far2 (b := w.heap.size + 1) (o0 := 0) (o1 := 1) (u0 := .int .i64 q2.1) (u1 := .slice A4 q2.2.length c4) (fun g hg => by have := (own4.ge hg).1; have := HZ1.out; omega)).mono (show w.heap.size ≤ w3.heap.size by have := HZ1.out; omega))
      have HB := hide (below_put2 (b := w.heap.size + 1) (o0 := 0) (o1 := 1) (u0 := .int .i64 q2.1) (u1 := .slice A4 q2.2.length c4) B2 (by omega))
      clear own3 own4 r2 B2
      go_wp2_with fail
      obtain ⟨ra_9, rb_9⟩ := HRQ.out
      refine bodyPost_ret (v := .tuple #[.agg #[.int .i64 q2.1, .slice A4 q2.2.length c4], .int .i64 0]) (by simp [results, Try.results19, go_sem, ra_9, rb_9]) rfl ?_
      rw [HR.out]
      exact ⟨A4, c4, rfl, OWN.out, HB.out⟩
  ·
    have HR := hide (nbR_no h0)
    obtain ⟨v, hvv⟩ : ∃ v, v = brC wd ht xs := ⟨_, rfl⟩
    rw [← hvv] at HR h0
    have HVV := hide hvv
    have d0 : (v != 0) = true := by simpa using h0
    clear h0 hvv
    go_enter Try.func19, Try.ntmps19
    go_wp2_with fail
    refine ((HCODE.out)).mono ?_
    rintro e w1 ⟨rfl, hb1⟩
    have p_1 := ((Bx.new_ w (w.heap.size) 26 #[.int .i64 wd, .int .i64 ht, .slice A xs.length c] (by simp)).alloc (.cells #[.int .i64 0, .slice none 0 0] 34)).below hb1
    obtain ⟨pa_1, pb_1, pc_1⟩ := (p_1).three
    have r_1 := (Bx.new_ (w.alloc (.cells #[.int .i64 wd, .int .i64 ht, .slice A xs.length c] 26)) (w.heap.size + 1) 34 #[.int .i64 0, .slice none 0 0] (by simp)).below hb1
    obtain ⟨ra_1, rb_1⟩ := (r_1).two
    have rf0_1 := (r_1).frozen 0
    have rf1_1 := (r_1).frozen 1
    have z_1 : ((w.alloc (.cells #[.int .i64 wd, .int .i64 ht, .slice A xs.length c] 26)).alloc (.cells #[.int .i64 0, .slice none 0 0] 34)).heap.size ≤ w1.heap.size := hb1.size
    simp only [World.size_alloc] at z_1
    have B_1 := (((Below.refl w.heap.size w).alloc (by first | omega | (simp; omega) | simp) (.cells #[.int .i64 wd, .int .i64 ht, .slice A xs.length c] 26)).alloc (by first | omega | (simp; omega) | simp) (.cells #[.int .i64 0, .slice none 0 0] 34)).trans (hb1.mono (by first | omega | (simp; omega) | simp))
    rw [← HVV.out]
    have r3 := (r_1).put2 (u0 := .int .i64 0) (u1 := .slice none 0 0)
    have HRQ := hide r3.two
    have HB := hide (below_put2 (b := w.heap.size + 1) (o0 := 0) (o1 := 1) (u0 := .int .i64 0) (u1 := .slice none 0 0) (B_1) (by omega))
    clear r3
    go_wp2_with fail
    obtain ⟨ra_9, rb_9⟩ := HRQ.out
    refine bodyPost_ret (v := .tuple #[.agg #[.int .i64 0, .slice none 0 0], .int .i64 v]) (by simp [results, Try.results19, go_sem, ra_9, rb_9]) rfl ?_
    rw [HR.out]
    exact ⟨none, 0, rfl, OwnI.nil _ _, HB.out⟩
end Go.Proofs.Ytgdgjcpkelokiaa
