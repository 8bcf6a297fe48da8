/-
  Contract: the bracket of a panel with few crossings, program. Conditions: a valid panel's sides; at most eight crossings.
-/
import Derived.Test.YtjlifbdaieblpaaGreatBr2
import Derived.Test.YtjlifbdaieblpaaGreatPolyAddI
import Derived.Test.YtjlifbdaieblpaaGreatPolyMulI
namespace Go.Proofs.YtjlifbdaieblpaaGreat
open Go.RowKit
set_option linter.unusedVariables false

set_option maxRecDepth 20000 in
set_option maxHeartbeats 8000000 in
theorem bracket_any (wd ht : Int) (A : Option Addr) (c : Nat) (xs : List Int) (w : World) (hxs : RI w A xs) (hn : xs.length ≤ 1048576) (hs : Sz wd ht) (hl : (xs.length : Int) = innerN wd ht) (h8 : crN xs ≤ 8) :
    Calls Tryz.prog 25 #[.agg #[.int .i64 wd, .int .i64 ht, .slice A xs.length c]] w (RetP w (brTo wd ht xs (2 ^ crN xs)).1 (brTo wd ht xs (2 ^ crN xs)).2) := by
  have HS := hide hs
  have HL := hide hl
  have HZ : Hid ((zTo xs xs.length).length = crN xs) := hide rfl
  have HRI := hide (fun (W : World) (h : Below w.heap.size w W) => hxs.below h)
  have HALL := hide (fun (W : World) (h : RI W A xs) => crossingNumbers_any wd ht A c xs W h hn)
  obtain ⟨zs, hzs⟩ : ∃ zs, zs = zTo xs xs.length := ⟨_, rfl⟩
  rw [← hzs] at HZ HALL
  have HZS := hide hzs
  clear hs hl hxs hzs
  obtain ⟨pa_x1, pb_x1, pc_x1⟩ := ((Bx.new_ w (w.heap.size) 26 #[.int .i64 wd, .int .i64 ht, .slice A xs.length c] (by simp)).alloc (.cells #[.int .i64 0, .slice none 0 0] 29)).three
  go_enter Tryz.func25, Tryz.ntmps25
  go_wp2_with fail
  refine (HALL.out _ (HRI.out _ (((Below.refl w.heap.size w).alloc (by first | omega | (simp; omega) | simp) (.cells #[.int .i64 wd, .int .i64 ht, .slice A xs.length c] 26)).alloc (by first | omega | (simp; omega) | simp) (.cells #[.int .i64 0, .slice none 0 0] 29)))).mono ?_
  rintro e w1 ⟨A3, c3, rfl, own3, hb1⟩
  have p_1 := ((Bx.new_ w (w.heap.size) 26 #[.int .i64 wd, .int .i64 ht, .slice A xs.length c] (by simp)).alloc (.cells #[.int .i64 0, .slice none 0 0] 29)).below hb1
  obtain ⟨pa_1, pb_1, pc_1⟩ := (p_1).three
  have r_1 := (Bx.new_ (w.alloc (.cells #[.int .i64 wd, .int .i64 ht, .slice A xs.length c] 26)) (w.heap.size + 1) 29 #[.int .i64 0, .slice none 0 0] (by simp)).below hb1
  obtain ⟨ra_1, rb_1⟩ := (r_1).two
  have rf0_1 := (r_1).frozen 0
  have rf1_1 := (r_1).frozen 1
  have z_1 : ((w.alloc (.cells #[.int .i64 wd, .int .i64 ht, .slice A xs.length c] 26)).alloc (.cells #[.int .i64 0, .slice none 0 0] 29)).heap.size ≤ w1.heap.size := hb1.size
  simp only [World.size_alloc] at z_1
  have B_1 := (((Below.refl w.heap.size w).alloc (by first | omega | (simp; omega) | simp) (.cells #[.int .i64 wd, .int .i64 ht, .slice A xs.length c] 26)).alloc (by first | omega | (simp; omega) | simp) (.cells #[.int .i64 0, .slice none 0 0] 29)).trans (hb1.mono (by first | omega | (simp; omega) | simp))
  have hlow3 : ∀ g, blk A3 = some g → g < w1.heap.size := fun g hg => (own3.ge hg).2
  have h2 := OwnI.newI_ w1 (base := w.heap.size) (w1.heap.size) [-1, 0, 0, 0, -1] #[.int .i64 (-1), .int .i64 0, .int .i64 0, .int .i64 0, .int .i64 (-1)] (by simp) rfl (by omega) (by simp [maxLen])
  have y1 := h2.rd.alloc (.cells #[.int .i64 (-2), .slice (some ⟨w1.heap.size, 0, none⟩) 5 5] 29)
  have y2 := y1.alloc (.cells #[.int .i64 0, .slice none 0 0] 29)
  have o33 := (((own3.alloc (.cells #[.int .i64 (-1), .int .i64 0, .int .i64 0, .int .i64 0, .int .i64 (-1)] 2)).alloc (.cells #[.int .i64 (-2), .slice (some ⟨w1.heap.size, 0, none⟩) 5 5] 29)).alloc (.cells #[.int .i64 0, .slice none 0 0] 29)).mono (show w.heap.size + 1 ≤ _ by simp)
  have r0 := ((((r_1).alloc (.cells #[.int .i64 (-1), .int .i64 0, .int .i64 0, .int .i64 0, .int .i64 (-1)] 2)).alloc (.cells #[.int .i64 (-2), .slice (some ⟨w1.heap.size, 0, none⟩) 5 5] 29)).alloc (.cells #[.int .i64 0, .slice none 0 0] 29))
  have o0 := (Bx.new_ ((w1.alloc (.cells #[.int .i64 (-1), .int .i64 0, .int .i64 0, .int .i64 0, .int .i64 (-1)] 2)).alloc (.cells #[.int .i64 (-2), .slice (some ⟨w1.heap.size, 0, none⟩) 5 5] 29)) (w1.heap.size + 1 + 1) 29 #[.int .i64 0, .slice none 0 0] (by simp))
  have l0 := ((Bx.new_ (w1.alloc (.cells #[.int .i64 (-1), .int .i64 0, .int .i64 0, .int .i64 0, .int .i64 (-1)] 2)) (w1.heap.size + 1) 29 #[.int .i64 (-2), .slice (some ⟨w1.heap.size, 0, none⟩) 5 5] (by simp)).alloc (.cells #[.int .i64 0, .slice none 0 0] 29))
  have p0 := ((((p_1).alloc (.cells #[.int .i64 (-1), .int .i64 0, .int .i64 0, .int .i64 0, .int .i64 (-1)] 2)).alloc (.cells #[.int .i64 (-2), .slice (some ⟨w1.heap.size, 0, none⟩) 5 5] 29)).alloc (.cells #[.int .i64 0, .slice none 0 0] 29))
  have B0 := ((((B_1).alloc (by first | omega | (simp; omega) | simp) (.cells #[.int .i64 (-1), .int .i64 0, .int .i64 0, .int .i64 0, .int .i64 (-1)] 2)).alloc (by first | omega | (simp; omega) | simp) (.cells #[.int .i64 (-2), .slice (some ⟨w1.heap.size, 0, none⟩) 5 5] 29)).alloc (by first | omega | (simp; omega) | simp) (.cells #[.int .i64 0, .slice none 0 0] 29))
  have hz1 := r_1.lt
  have hpw : (2 : Nat) ^ crN xs ≤ 256 := by
    have : (2 : Nat) ^ crN xs ≤ 2 ^ 8 := Nat.pow_le_pow_right (by omega) h8
    exact this
  have hzl : zs.length ≤ 8 := by rw [HZ.out]; exact h8
  have HSH : Hid (wrap64 ((2 : Int) ^ zs.length) = ((2 ^ crN xs : Nat) : Int)) := hide (by rw [HZ.out]; exact shl_fact h8)
  clear own3 h2 y1
  obtain ⟨oa_x2, ob_x2⟩ := (Bx.new_ ((w1.alloc (.cells #[.int .i64 (-1), .int .i64 0, .int .i64 0, .int .i64 0, .int .i64 (-1)] 2)).alloc (.cells #[.int .i64 (-2), .slice (some ⟨w1.heap.size, 0, none⟩) 5 5] 29)) (w1.heap.size + 1 + 1) 29 #[.int .i64 0, .slice none 0 0] (by simp)).two
  have of0_x2 := (Bx.new_ ((w1.alloc (.cells #[.int .i64 (-1), .int .i64 0, .int .i64 0, .int .i64 0, .int .i64 (-1)] 2)).alloc (.cells #[.int .i64 (-2), .slice (some ⟨w1.heap.size, 0, none⟩) 5 5] 29)) (w1.heap.size + 1 + 1) 29 #[.int .i64 0, .slice none 0 0] (by simp)).frozen 0
  have of1_x2 := (Bx.new_ ((w1.alloc (.cells #[.int .i64 (-1), .int .i64 0, .int .i64 0, .int .i64 0, .int .i64 (-1)] 2)).alloc (.cells #[.int .i64 (-2), .slice (some ⟨w1.heap.size, 0, none⟩) 5 5] 29)) (w1.heap.size + 1 + 1) 29 #[.int .i64 0, .slice none 0 0] (by simp)).frozen 1
  obtain ⟨ra_x2, rb_x2⟩ := ((((r_1).alloc (.cells #[.int .i64 (-1), .int .i64 0, .int .i64 0, .int .i64 0, .int .i64 (-1)] 2)).alloc (.cells #[.int .i64 (-2), .slice (some ⟨w1.heap.size, 0, none⟩) 5 5] 29)).alloc (.cells #[.int .i64 0, .slice none 0 0] 29)).two
  have rf0_x2 := ((((r_1).alloc (.cells #[.int .i64 (-1), .int .i64 0, .int .i64 0, .int .i64 0, .int .i64 (-1)] 2)).alloc (.cells #[.int .i64 (-2), .slice (some ⟨w1.heap.size, 0, none⟩) 5 5] 29)).alloc (.cells #[.int .i64 0, .slice none 0 0] 29)).frozen 0
  have rf1_x2 := ((((r_1).alloc (.cells #[.int .i64 (-1), .int .i64 0, .int .i64 0, .int .i64 0, .int .i64 (-1)] 2)).alloc (.cells #[.int .i64 (-2), .slice (some ⟨w1.heap.size, 0, none⟩) 5 5] 29)).alloc (.cells #[.int .i64 0, .slice none 0 0] 29)).frozen 1
  obtain ⟨la_x2, lb_x2⟩ := ((Bx.new_ (w1.alloc (.cells #[.int .i64 (-1), .int .i64 0, .int .i64 0, .int .i64 0, .int .i64 (-1)] 2)) (w1.heap.size + 1) 29 #[.int .i64 (-2), .slice (some ⟨w1.heap.size, 0, none⟩) 5 5] (by simp)).alloc (.cells #[.int .i64 0, .slice none 0 0] 29)).two
  obtain ⟨pa_x2, pb_x2, pc_x2⟩ := ((((p_1).alloc (.cells #[.int .i64 (-1), .int .i64 0, .int .i64 0, .int .i64 0, .int .i64 (-1)] 2)).alloc (.cells #[.int .i64 (-2), .slice (some ⟨w1.heap.size, 0, none⟩) 5 5] 29)).alloc (.cells #[.int .i64 0, .slice none 0 0] 29)).three
  go_wp2_with fail
  go_loopw [21] (fun sv wr => ∃ (s : Nat) (A5 : Option Addr) (c5 : Nat), s ≤ 2 ^ crN xs ∧ sv = .int .i64 (s : Int) ∧ OwnI wr (w.heap.size + 2) A5 c5 (brTo wd ht xs s).2 ∧ Bx wr (w1.heap.size + 1 + 1) 29 #[.int .i64 (brTo wd ht xs s).1, .slice A5 (brTo wd ht xs s).2.length c5] ∧ RI wr (some ⟨w1.heap.size, 0, none⟩) [-1, 0, 0, 0, -1] ∧ Bx wr (w1.heap.size + 1) 29 #[.int .i64 (-2), .slice (some ⟨w1.heap.size, 0, none⟩) 5 5] ∧ OwnI wr (w.heap.size + 1) A3 c3 zs ∧ Bx wr w.heap.size 26 #[.int .i64 wd, .int .i64 ht, .slice A xs.length c] ∧ Bx wr (w.heap.size + 1) 29 #[.int .i64 0, .slice none 0 0] ∧ Below w.heap.size w wr) (fun sv _ => 2 ^ crN xs + 1 - (intOf sv).toNat)
  case atStart => exact ⟨0, none, 0, Nat.zero_le _, rfl, OwnI.nil _ _, o0, y2, l0, o33, p0, r0, B0⟩
  case round =>
    clear o0 y2 l0 o33 p0 r0 B0
    obtain ⟨s, A5, c5, hs2, rfl, own5, ho, hy, hl, own3, hp, hr, hB⟩ := hrel
    by_cases hlt : s < 2 ^ crN xs
    · have HD : decide ((s : Int) < wrap64 (2 ^ zs.length)) = true := by
        rw [HSH.out]
        exact decide_eq_true (by omega)
      have hs256 : s ≤ 255 := by omega
      obtain ⟨q5, hq5⟩ : ∃ q5, q5 = brTo wd ht xs s := ⟨_, rfl⟩
      rw [← hq5] at own5 ho
      obtain ⟨pa, pb, pc⟩ := hp.three
      have hwpl := hp.lt
      have HQ := hide (And.intro own5 (And.intro ho (And.intro hy (And.intro hl (And.intro own3 (And.intro hp (And.intro hr hB)))))))
      have hob := ho.lt
      have hB0 := hB
      clear own5 ho hy hl own3 hr hB
      have HBW := hide hB0
      have HP9 := hide hp
      clear hB0 hp
      go_upto_region 9 with fail
      obtain ⟨wo, hwo⟩ : ∃ wo, wo = wr := ⟨_, rfl⟩
      rw [← hwo] at HQ HBW HP9 hwpl hob ⊢
      have q0 := Bx.new_ wo (wo.heap.size) 26 #[.int .i64 wd, .int .i64 ht, .slice A xs.length c] rfl
      have b0 : Below wo.heap.size wo (wo.alloc (.cells #[.int .i64 wd, .int .i64 ht, .slice A xs.length c] 26)) := (Below.refl _ _).alloc (Nat.le_refl _) _
      have a0 := HRI.out _ (HBW.out.trans (b0.mono HBW.out.size))
      clear hwo pa pb pc
      go_loopw [8, 27] (fun pv iv wr => ∃ (i : Nat) (A7 : Option Addr) (c7 : Nat), i ≤ crN xs ∧ pv = .int .i64 (powTo s i) ∧ iv = .int .i64 (i : Int) ∧ RI wr A7 (wayT wd xs s i xs) ∧ Bx wr wo.heap.size 26 #[.int .i64 wd, .int .i64 ht, .slice A7 xs.length c7] ∧ Below wo.heap.size wo wr) (fun _ iv _ => crN xs + 1 - (intOf iv).toNat)
      case atStart => exact ⟨0, A, c, Nat.zero_le _, rfl, rfl, a0, q0, b0⟩
      case round =>
        clear q0 b0 a0
        obtain ⟨i, A7, c7, hi, rfl, rfl, rd7, hq, hB⟩ := hrel
        by_cases hil : i < crN xs
        · obtain ⟨hp1, hp2⟩ := psN_at hil
          have hi7 : i ≤ 7 := by omega
          have hiz : (i : Int) < (zs.length : Int) := by rw [HZ.out]; omega
          have hbit := bit_fact (i := i) hs256
          obtain ⟨p, hpp⟩ : ∃ p, p = psN xs i := ⟨_, rfl⟩
          rw [← hpp] at hp1 hp2
          obtain ⟨bb, hbb⟩ : ∃ bb, bb = decide (s / 2 ^ i % 2 = 1) := ⟨_, rfl⟩
          rw [← hbb] at hbit
          obtain ⟨ws, hws⟩ : ∃ ws, ws = wayT wd xs s i xs := ⟨_, rfl⟩
          have hwl : ws.length = xs.length := by rw [hws, wayT_len]
          rw [← hws] at rd7
          obtain ⟨w8s, hw8⟩ : ∃ l, l = ws.set p (kdB (pntX wd p) bb) := ⟨_, rfl⟩
          have h8l : Hid (w8s.length = xs.length) := hide (by rw [hw8, List.length_set, hwl])
          have HSM := hide (smoothed_any wd ht A7 c7 ws p bb wr rd7 (by rw [hwl]; exact hn) HS.out (by rw [hwl]; exact HL.out) (by omega))
          rw [hwl, ← hw8] at HSM
          have HW : Hid (w8s = wayT wd xs s (i + 1) xs) := hide (by rw [wayT_next, hw8, hws, hpp, hbb])
          have HPW : Hid (powTo s (i + 1) = powTo s i + (if bb = true then 1 else -1)) := hide (by
            rw [hbb]
            show powTo s i + _ = powTo s i + _
            congr 1
            simp)
          have hpb := powTo_b s i
          obtain ⟨pw, hpw2⟩ : ∃ pw, pw = powTo s i := ⟨_, rfl⟩
          obtain ⟨pw3, hpw3⟩ : ∃ pw, pw = powTo s (i + 1) := ⟨_, rfl⟩
          rw [← hpw2] at hpb HPW
          rw [← hpw3] at HPW
          have HPW3 := hide hpw3
          rw [← hpw2]
          have own3 := HQ.out.2.2.2.2.1.below hB
          obtain ⟨g3, v3, rfl, _, _, hv3, hgc3, _, _⟩ := own3.at_ (k := i) (by omega)
          have hpz : zs[i]? = some (p : Int) := by rw [HZS.out]; exact hp2
          obtain rfl : (p : Int) = v3 := Option.some.inj (hpz.symm.trans hv3)
          obtain ⟨qa, qb, qc⟩ := hq.three
          have HBB := hide hB
          have HQQ := hide hq
          have hqlt := hq.lt
          clear own3 hv3 hpz hp2 hpp hbb hws hwl hw8 hpw2 hpw3 rd7 hB hq
          go_wp2_with fail
          refine HSM.out.mono ?_
          rintro e w8 ⟨A8, c8, he, own8, hb8⟩
          rw [h8l.out] at he
          subst he
          have hq8 := HQQ.out.below hb8
          obtain ⟨za, zb, zc⟩ := hq8.three
          have f0 := hq8.frozen 0
          have f1 := hq8.frozen 1
          have f2 := hq8.frozen 2
          have HN := hide (And.intro (own8.far3 (b := wo.heap.size) (o0 := 0) (o1 := 1) (o2 := 2) (u0 := .int .i64 wd) (u1 := .int .i64 ht) (u2 := .slice A8 xs.length c8) (fun g' hg' => by have := (own8.ge hg').1; omega)).rd (And.intro (hq8.put3 (u0 := .int .i64 wd) (u1 := .int .i64 ht) (u2 := .slice A8 xs.length c8)) (below_put3 (b := wo.heap.size) (o0 := 0) (o1 := 1) (o2 := 2) (u0 := .int .i64 wd) (u1 := .int .i64 ht) (u2 := .slice A8 xs.length c8) (HBB.out.trans (hb8.mono HBB.out.size)) (Nat.le_refl _))))
          clear own8 hq8 qa qb qc hgc3 hbit
          cases bb
          · have e1 : powTo s (i + 1) = pw - 1 := by rw [← HPW3.out, HPW.out]; simp; omega
            go_wp2_with fail
            go_roundw
            case rel => exact ⟨i + 1, A8, c8, hil, by rw [e1], by go_num, by rw [← HW.out]; exact HN.out.1, HN.out.2.1, HN.out.2.2⟩
            case measure => simp [intOf]; omega
          · have e1 : powTo s (i + 1) = pw + 1 := by rw [← HPW3.out, HPW.out]; simp
            go_wp2_with fail
            go_roundw
            case rel => exact ⟨i + 1, A8, c8, hil, by rw [e1], by go_num, by rw [← HW.out]; exact HN.out.1, HN.out.2.1, HN.out.2.2⟩
            case measure => simp [intOf]; omega
        · obtain rfl : i = crN xs := by omega
          have hiz : ¬ ((crN xs : Int) < (zs.length : Int)) := by rw [HZ.out]; omega
          obtain ⟨ws, hws⟩ : ∃ ws, ws = wayT wd xs s (crN xs) xs := ⟨_, rfl⟩
          have hwl : ws.length = xs.length := by rw [hws, wayT_len]
          rw [← hws] at rd7
          obtain ⟨cnt, hcnt⟩ : ∃ cnt : Nat, cnt = (curL wd ht ws).length := ⟨_, rfl⟩
          have hc256 : cnt ≤ 256 := by rw [hcnt]; exact cur_le HS.out
          have hpb := powTo_b s (crN xs)
          obtain ⟨pw, hpw2⟩ : ∃ pw, pw = powTo s (crN xs) := ⟨_, rfl⟩
          have HPP : Hid (wayP wd ht xs s = summP pw (cnt - 1)) := hide (by unfold wayP wayM; rw [← hws, ← hcnt, hpw2])
          rw [← hpw2] at hpb
          rw [← hpw2]
          have HSB := hide (fun m => summ_bk (p := pw) (P := 8) (by omega) m)
          have HCC := hide (fun (W : World) (h : RI W A7 ws) => countCurves_any wd ht A7 c7 ws W h HS.out (by rw [hwl]; exact HL.out))
          rw [← hcnt, hwl] at HCC
          have HBB := hide hB
          have HQQ := hide hq
          have HRD := hide rd7
          have hqlt := hq.lt
          have hq2 := (hq.alloc (.cells #[.int .i64 1] 2)).alloc (.cells #[.int .i64 pw, .slice (some ⟨wr.heap.size, 0, none⟩) 1 1] 29)
          obtain ⟨qa, qb, qc⟩ := hq2.three
          have x1 := (OwnI.newI_ wr (base := w.heap.size + 2) (wr.heap.size) [1] #[.int .i64 1] rfl rfl (by have := hB.size; omega) (by simp [maxLen])).alloc (.cells #[.int .i64 pw, .slice (some ⟨wr.heap.size, 0, none⟩) 1 1] 29)
          have m1 := Bx.new_ (wr.alloc (.cells #[.int .i64 1] 2)) (wr.heap.size + 1) 29 #[.int .i64 pw, .slice (some ⟨wr.heap.size, 0, none⟩) 1 1] (by simp)
          have bb1 : Below wr.heap.size wr ((wr.alloc (.cells #[.int .i64 1] 2)).alloc (.cells #[.int .i64 pw, .slice (some ⟨wr.heap.size, 0, none⟩) 1 1] 29)) := ((Below.refl _ _).alloc (Nat.le_refl _) _).alloc (by simp) _
          clear rd7 hB hq hws hwl hcnt hpw2 hq2
          go_wp2_with fail
          refine (HCC.out _ (HRD.out.below bb1)).mono ?_
          rintro e w4 ⟨rfl, hb4⟩
          have x4 := x1.below hb4
          have m4 := m1.below hb4
          have B4 := bb1.trans (hb4.mono bb1.size)
          clear x1 m1 bb1 qa qb qc
          go_wp2_with fail
          obtain ⟨wi, hwi⟩ : ∃ wi, wi = wr := ⟨_, rfl⟩
          rw [← hwi] at HBB HQQ HRD x4 m4 B4 hqlt ⊢
          clear hwi
          go_loopw [53] (fun mv wr => ∃ (m : Nat) (A9 : Option Addr) (c9 : Nat), m ≤ cnt - 1 ∧ mv = .int .i64 (m : Int) ∧ OwnI wr (w.heap.size + 2) A9 c9 (summP pw m).2 ∧ Bx wr (wi.heap.size + 1) 29 #[.int .i64 (summP pw m).1, .slice A9 (summP pw m).2.length c9] ∧ Below wi.heap.size wi wr) (fun mv _ => cnt + 1 - (intOf mv).toNat)
          case atStart => exact ⟨0, _, _, Nat.zero_le _, rfl, x4, m4, B4⟩
          case round =>
            clear x4 m4 B4
            obtain ⟨m, A9, c9, hm, rfl, own9, hu, hB⟩ := hrel
            obtain ⟨own5, ho, hy, hl, own3, hp, hr, hBw⟩ := HQ.out
            have BW := HBB.out
            by_cases hml : m < cnt - 1
            · have hmi : (m : Int) < (cnt : Int) - 1 := by omega
              have hbk := HSB.out m
              have BWW := BW.trans (hB.mono BW.size)
              have HC := hide (mulPolys_any (summP pw m).1 A9 c9 (summP pw m).2 (-2) (some ⟨w1.heap.size, 0, none⟩) 5 [-1, 0, 0, 0, -1] wr own9.rd (hy.below BWW) (by unfold BK at hbk; omega) (by unfold BK at hbk; omega) (by omega) (by omega) (by unfold BK at hbk; omega) (by simp))
              have HQ2 : Hid (mulP (summP pw m).1 (summP pw m).2 (-2) [-1, 0, 0, 0, -1] = summP pw (m + 1)) := hide rfl
              rw [HQ2.out] at HC
              obtain ⟨q, hq⟩ : ∃ q, q = summP pw m := ⟨_, rfl⟩
              obtain ⟨q2, hq2⟩ : ∃ q, q = summP pw (m + 1) := ⟨_, rfl⟩
              rw [← hq] at HC hu
              rw [← hq2] at HC
              have HQ3 := hide hq2
              obtain ⟨ua, ub⟩ := hu.two
              obtain ⟨la, lb⟩ := (hl.below BWW).two
              have HU := hide hu
              have HB9 := hide hB
              have hul := hu.lt
              clear own5 ho hy hl own3 hp hr hBw own9 hB hu hq hq2 HQ2 hbk
              go_wp2_with fail
              refine HC.out.mono ?_
              rintro e w5 ⟨A2, c2, rfl, own2, hb5⟩
              have hu2 := HU.out.below hb5
              obtain ⟨va, vb⟩ := hu2.two
              have f0 := hu2.frozen 0
              have f1 := hu2.frozen 1
              have HN := hide (And.intro ((own2.far2 (b := wi.heap.size + 1) (o0 := 0) (o1 := 1) (u0 := .int .i64 q2.1) (u1 := .slice A2 q2.2.length c2) (fun g hg => by have := (own2.ge hg).1; omega)).mono (show w.heap.size + 2 ≤ wr.heap.size by have := BW.size; have := HB9.out.size; omega)) (And.intro (hu2.put2 (u0 := .int .i64 q2.1) (u1 := .slice A2 q2.2.length c2)) (below_put2 (b := wi.heap.size + 1) (o0 := 0) (o1 := 1) (u0 := .int .i64 q2.1) (u1 := .slice A2 q2.2.length c2) (HB9.out.trans (hb5.mono HB9.out.size)) (by omega))))
              clear hu2 own2 ua ub la lb
              go_wp2_with fail
              go_roundw
              case rel => exact ⟨m + 1, A2, c2, hml, by go_num, by rw [← HQ3.out]; exact HN.out.1, by rw [← HQ3.out]; exact HN.out.2.1, HN.out.2.2⟩
              case measure => simp [intOf]; omega
            · have hmi : ¬ ((m : Int) < (cnt : Int) - 1) := by omega
              have hme : summP pw m = wayP wd ht xs s := by rw [HPP.out, show m = cnt - 1 from by omega]
              have BWW := BW.trans (hB.mono BW.size)
              have HWB := wayP_bk HS.out h8 s
              have HQB := brTo_bk HS.out h8 s
              have HBN := brTo_next wd ht xs s
              rw [hme] at own9 hu
              rw [← hq5] at HQB HBN
              obtain ⟨P1, hP1⟩ : ∃ P1, P1 = wayP wd ht xs s := ⟨_, rfl⟩
              rw [← hP1] at HWB HBN own9 hu
              obtain ⟨Q6, hQ6⟩ : ∃ Q6, Q6 = brTo wd ht xs (s + 1) := ⟨_, rfl⟩
              rw [← hQ6] at HBN
              have HQ6 := hide hQ6
              have own5' := own5.below BWW
              have ho' := ho.below BWW
              have HC := hide (addPolys_any q5.1 A5 c5 q5.2 P1.1 A9 c9 P1.2 wr own5'.rd own9.rd (by unfold BK at HQB; omega) (by unfold BK at HQB; omega) (by unfold BK at HWB; omega) (by unfold BK at HWB; omega) (by unfold BK at HQB; omega) (by unfold BK at HWB; omega) own5'.cap_.1 own9.cap_.1 own5'.cap_.2 own9.cap_.2)
              rw [HBN] at HC
              obtain ⟨ua, ub⟩ := hu.two
              obtain ⟨oa, ob⟩ := ho'.two
              have HO := hide ho'
              have HR4 := hide (And.intro (hy.below BWW) (And.intro (hl.below BWW) (And.intro (own3.below BWW) (And.intro (hp.below BWW) (And.intro (hr.below BWW) (hBw.trans (BWW.mono hBw.size)))))))
              have hol := ho.lt
              have hzz := BWW.size
              have HLT := hide hlt
              have hpl := hr.lt
              clear own5 ho hy hl own3 hp hr hBw own9 hB hu hP1 hQ6 HBN HWB HQB hme own5' ho' BW BWW hq5 hlt hs2 hpw hpb hm
              go_wp2_with fail
              refine HC.out.mono ?_
              rintro e w5 ⟨A2, c2, rfl, own2, hb5⟩
              have ho5 := HO.out.below hb5
              obtain ⟨va, vb⟩ := ho5.two
              have f0 := ho5.frozen 0
              have f1 := ho5.frozen 1
              obtain ⟨hy, hl, own3, hp, hr, hBw⟩ := HR4.out
              have HN := hide (And.intro ((own2.far2 (b := w1.heap.size + 1 + 1) (o0 := 0) (o1 := 1) (u0 := .int .i64 Q6.1) (u1 := .slice A2 Q6.2.length c2) (fun g hg => by have := (own2.ge hg).1; omega)).mono (show w.heap.size + 2 ≤ wr.heap.size by omega)) (And.intro (ho5.put2 (u0 := .int .i64 Q6.1) (u1 := .slice A2 Q6.2.length c2)) (And.intro (Rd.setCell (Rd.setCell (hy.below hb5) (p := ⟨w1.heap.size + 1 + 1, 0, none⟩) (fun h => by have h' := blk_inj h; simp at h'; omega) (.int .i64 Q6.1)) (p := ⟨w1.heap.size + 1 + 1, 1, none⟩) (fun h => by have h' := blk_inj h; simp at h'; omega) (.slice A2 Q6.2.length c2)) (And.intro ((hl.below hb5).far2 (b := w1.heap.size + 1 + 1) (o0 := 0) (o1 := 1) (u0 := .int .i64 Q6.1) (u1 := .slice A2 Q6.2.length c2) (by omega)) (And.intro ((own3.below hb5).far2 (b := w1.heap.size + 1 + 1) (o0 := 0) (o1 := 1) (u0 := .int .i64 Q6.1) (u1 := .slice A2 Q6.2.length c2) (fun g hg => by have := hlow3 g hg; omega)) (And.intro ((hp.below hb5).far2 (b := w1.heap.size + 1 + 1) (o0 := 0) (o1 := 1) (u0 := .int .i64 Q6.1) (u1 := .slice A2 Q6.2.length c2) (by omega)) (And.intro ((hr.below hb5).far2 (b := w1.heap.size + 1 + 1) (o0 := 0) (o1 := 1) (u0 := .int .i64 Q6.1) (u1 := .slice A2 Q6.2.length c2) (by omega)) (below_put2 (b := w1.heap.size + 1 + 1) (o0 := 0) (o1 := 1) (u0 := .int .i64 Q6.1) (u1 := .slice A2 Q6.2.length c2) (hBw.trans (hb5.mono hBw.size)) (by omega)))))))))
              clear hy hl own3 hp hr hBw own2 ho5 ua ub oa ob
              go_wp2_with fail
              go_roundw
              case rel => exact ⟨s + 1, A2, c2, HLT.out, by go_num, by rw [← HQ6.out]; exact HN.out.1, by rw [← HQ6.out]; exact HN.out.2.1, HN.out.2.2.1, HN.out.2.2.2.1, HN.out.2.2.2.2.1, HN.out.2.2.2.2.2.1, HN.out.2.2.2.2.2.2.1, HN.out.2.2.2.2.2.2.2⟩
              case measure => have := HLT.out; simp [intOf]; omega
    · have hse : s = 2 ^ crN xs := by omega
      have HD : decide ((s : Int) < wrap64 (2 ^ zs.length)) = false := by
        rw [HSH.out]
        exact decide_eq_false (by omega)
      obtain ⟨q, hq9⟩ : ∃ q, q = brTo wd ht xs s := ⟨_, rfl⟩
      have HQ : Hid (brTo wd ht xs (2 ^ crN xs) = q) := hide (by rw [hq9, hse])
      rw [← hq9] at ho own5
      obtain ⟨oa, ob⟩ := ho.two
      obtain ⟨ra, rb⟩ := hr.two
      have rf0 := hr.frozen 0
      have rf1 := hr.frozen 1
      have HR := hide (hr.put2 (u0 := .int .i64 q.1) (u1 := .slice A5 q.2.length c5)).two
      have HOWN9 := hide ((own5.far2 (b := w.heap.size + 1) (o0 := 0) (o1 := 1) (u0 := .int .i64 q.1) (u1 := .slice A5 q.2.length c5) (fun g hg => by have := (own5.ge hg).1; omega)).mono (show w.heap.size ≤ w.heap.size + 2 by omega))
      have HB := hide (below_put2 (b := w.heap.size + 1) (o0 := 0) (o1 := 1) (u0 := .int .i64 q.1) (u1 := .slice A5 q.2.length c5) hB (by omega))
      clear hr ho own5 hy hl own3 hp hB hq9 hse hpw hlt hs2
      go_wp2_with fail
      obtain ⟨ra_9, rb_9⟩ := HR.out
      refine bodyPost_ret (v := .agg #[.int .i64 q.1, .slice A5 q.2.length c5]) (by simp [results, Tryz.results25, go_sem, ra_9, rb_9]) rfl ?_
      rw [HQ.out]
      exact ⟨A5, c5, rfl, HOWN9.out, HB.out⟩
end Go.Proofs.YtjlifbdaieblpaaGreat
