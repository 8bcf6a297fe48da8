/-
  Contracts: SmoothStroke, of the reference and of the program. Conditions: none beyond the lengths.
-/
import Derived.Test.YtbleipaekdhdmaaPts2
import Derived.Test.YtbleipaekdhdmaaStrokeKind
import Derived.Outline
namespace Go.Proofs.Ytbleipaekdhdmaa
open Go.RowKit
set_option linter.unusedVariables false

theorem cell_allocs {w : World} {b o : Nat} {v : Value} (hb : b < w.heap.size) (h : w.cell? ⟨b, o, none⟩ = some v) :
    (∀ o1, (w.alloc o1).cell? ⟨b, o, none⟩ = some v) ∧ (∀ o1 o2, ((w.alloc o1).alloc o2).cell? ⟨b, o, none⟩ = some v) ∧ (∀ o1 o2 o3, (((w.alloc o1).alloc o2).alloc o3).cell? ⟨b, o, none⟩ = some v) := by
  have h0 := Below.refl w.heap.size w
  refine ⟨fun o1 => ?_, fun o1 o2 => ?_, fun o1 o2 o3 => ?_⟩
  · exact (Below.cell (p := ⟨b, o, none⟩) (h0.alloc (Nat.le_refl _) o1) hb).trans h
  · exact (Below.cell (p := ⟨b, o, none⟩) ((h0.alloc (Nat.le_refl _) o1).alloc (by simp) o2) hb).trans h
  · exact (Below.cell (p := ⟨b, o, none⟩) (((h0.alloc (Nat.le_refl _) o1).alloc (by simp) o2).alloc (by simp; omega) o3) hb).trans h
def avgP (a b c : Int × Int) : Int × Int := ((a.1 + 2 * b.1 + c.1) / 4, (a.2 + 2 * b.2 + c.2) / 4)
/-- the stroke with the places before k made smooth -/
def smoothTo (ps : List (Int × Int)) (k : Nat) : List (Int × Int) := ps.mapIdx fun i p => if 0 < i ∧ i < k ∧ i + 1 < ps.length then avgP (ps.getD (i - 1) (0, 0)) p (ps.getD (i + 1) (0, 0)) else p
theorem smoothTo_length (ps : List (Int × Int)) (k : Nat) : (smoothTo ps k).length = ps.length := by simp [smoothTo]
theorem getD_ofP {xs : List (Int × Int)} {k : Nat} {x : Int × Int} (h : xs[k]? = some x) : xs.getD k (0, 0) = x := by
  rw [List.getD_eq_getElem?_getD, h]; rfl
theorem smoothTo_end {ps : List (Int × Int)} {i k : Nat} {p : Int × Int} (h : ps[i]? = some p) (hi : i = 0 ∨ i + 1 = ps.length) : (smoothTo ps k)[i]? = some p := by
  simp only [smoothTo, List.getElem?_mapIdx, h, Option.map_some]
  rw [if_neg (by omega)]
theorem smoothTo_mid {ps : List (Int × Int)} {i k : Nat} {a b c : Int × Int} (ha : ps[i]? = some a) (hb : ps[i + 1]? = some b) (hc : ps[i + 1 + 1]? = some c) (hk : i + 1 < k) : (smoothTo ps k)[i + 1]? = some (avgP a b c) := by
  have hl := (List.getElem?_eq_some_iff.1 hc).1
  simp only [smoothTo, List.getElem?_mapIdx, hb, Option.map_some]
  rw [if_pos ⟨by omega, by omega, by omega⟩, getD_ofP hc, show i + 1 - 1 = i by omega, getD_ofP ha]
theorem smoothTo_set {ps : List (Int × Int)} {i : Nat} {a b c : Int × Int} (ha : ps[i]? = some a) (hb : ps[i + 1]? = some b) (hc : ps[i + 1 + 1]? = some c) : (smoothTo ps (i + 1)).set (i + 1) (avgP a b c) = smoothTo ps (i + 1 + 1) := by
  have hl := (List.getElem?_eq_some_iff.1 hc).1
  apply List.ext_getElem?
  intro j
  by_cases hj : i + 1 = j
  · subst hj
    rw [List.getElem?_set_self (by rw [smoothTo_length]; omega), smoothTo_mid ha hb hc (by omega)]
  · rw [List.getElem?_set_ne hj]
    simp only [smoothTo, List.getElem?_mapIdx]
    congr 1
    funext p
    by_cases h1 : 0 < j ∧ j < i + 1 ∧ j + 1 < ps.length
    · rw [if_pos h1, if_pos (by omega)]
    · rw [if_neg h1, if_neg (by omega)]
theorem smoothTo_one (ps : List (Int × Int)) : smoothTo ps 1 = ps := by
  apply List.ext_getElem?
  intro j
  simp only [smoothTo, List.getElem?_mapIdx]
  cases ps[j]? with
  | none => rfl
  | some p => simp only [Option.map_some]; rw [if_neg (by omega)]
theorem smoothTo_all {ps : List (Int × Int)} {k m : Nat} (hk : ps.length ≤ k + 1) (hm : ps.length ≤ m + 1) : smoothTo ps k = smoothTo ps m := by
  apply List.ext_getElem?
  intro j
  simp only [smoothTo, List.getElem?_mapIdx]
  congr 1
  funext p
  by_cases h1 : 0 < j ∧ j < k ∧ j + 1 < ps.length
  · rw [if_pos h1, if_pos (by omega)]
  · rw [if_neg h1, if_neg (by omega)]
def smoothS (ps : List (Int × Int)) : List (Int × Int) := smoothTo ps ps.length
def smoothR (ps : List (Int × Int)) : List (Int × Int) × Int := if vldS ps = true then (smoothS ps, 0) else ([], 1)
theorem vldS_at {ps : List (Int × Int)} (h : vldS ps = true) {k : Nat} {p : Int × Int} (hk : ps[k]? = some p) : (0 ≤ p.1 ∧ p.1 ≤ 2000) ∧ (0 ≤ p.2 ∧ p.2 ≤ 2000) := by
  unfold vldS at h
  rw [Bool.and_eq_true, List.all_eq_true] at h
  exact placeB_in (h.2 p (List.mem_of_getElem? hk))
theorem take_nextG {α : Type} {xs : List α} {k : Nat} {x : α} (h : xs[k]? = some x) : xs.take k ++ [x] = xs.take (k + 1) := by
  rw [List.take_add_one, h]; rfl

set_option maxHeartbeats 4000000 in
theorem specSmoothStroke_any (A : Option Addr) (c : Nat) (ps : List (Int × Int)) (w : World) (hps : RP w A ps) (hn : ps.length ≤ 1048576) :
    Calls Try.prog 18 #[.slice A ps.length c] w (RetPSC w (smoothR ps).1 (smoothR ps).2) := by
  unfold smoothR
  cases hv : vldS ps
  · go_enter Try.func18, Try.ntmps18
    go_wp2_with fail
    refine (l19Ok_any _ _ ps _ hps hn).mono ?_
    rintro e w1 ⟨rfl, rfl⟩
    rw [hv]
    go_wp2_with fail
    go_ret2
    exact ⟨none, 0, rfl, OwnP.nil _ _, Below.refl _ _⟩
  · obtain ⟨hin, hpos, hlen⟩ := boxS_in hv
    clear hin
    have he : Own ptE (w.alloc (.cells #[] 30)) w.heap.size (some ⟨w.heap.size, 0, none⟩) 0 [] := Own.new (E := ptE) w [] #[] rfl (Nat.le_refl _) (by simp)
    go_enter Try.func18, Try.ntmps18
    go_wp2_with fail
    refine (l19Ok_any _ _ ps _ hps hn).mono ?_
    rintro e w1 ⟨rfl, rfl⟩
    rw [hv]
    go_wp2_with fail
    go_loopw [4, 5] (fun o i wr => ∃ (k : Nat) (A1 : Option Addr) (c1 : Nat) (zs : List (Int × Int)), k ≤ ps.length ∧ i = .int .i64 k ∧ o = .slice A1 zs.length c1 ∧ Hid (zs = (smoothS ps).take k) ∧ Own ptE wr w.heap.size A1 c1 zs ∧ Below w.heap.size w wr) (fun _ i _ => ps.length - (intOf i).toNat)
    case atStart => exact ⟨0, _, 0, [], Nat.zero_le _, rfl, rfl, hide (by simp), he, (Below.refl _ _).alloc (Nat.le_refl _) _⟩
    case round =>
      obtain ⟨k, A1, c1, zs, hk, rfl, rfl, hzs, own, hB⟩ := hrel
      clear he
      have hr := hps.below hB
      have hz := hB.size
      have hzl : zs.length = k := by rw [hzs.out, List.length_take]; unfold smoothS; rw [smoothTo_length]; omega
      have HZ := hide hzl
      have hzb : zs.length ≤ 60 := by omega
      by_cases hlt : k < ps.length
      · obtain ⟨b, off, x, y, rfl, hb, hx, hc, hd⟩ := hr.at_ hlt
        by_cases hend : k = 0 ∨ k + 1 = ps.length
        · have HN : Hid (zs ++ [(x, y)] = (smoothS ps).take (k + 1)) := hide (by rw [hzs.out]; exact take_nextG (smoothTo_end hx hend))
          have HX := hide hx
          clear hx hzs hzl
          by_cases h0 : k = 0
          · have t0 : ((k : Int) == 0) = true := by rw [beq_iff_eq]; omega
            clear h0 hend
            go_wp2_with (at_builtin; refine wpList_append_row ptE rfl (.tmp 28) (.tmp 33) rfl w.heap.size A1 c1 zs rfl (own.alloc _) (some ⟨wr.heap.size, 0, none⟩) 1 [(x, y)] rfl (RG.fresh (E := ptE) _ _ rfl (x, y) #[.int .i64 x, .int .i64 y] rfl _) (by simp; omega) (by simp [ptE]; omega) (by simp; omega) _ rfl ?_; intro A2 c2 w2 own2 hg2 hb2)
            go_roundw
            case rel => exact ⟨k + 1, A2, c2, _, by omega, by go_num, by simp, HN, own2, (hB.alloc (by omega) _).grown hg2 (by simp; omega) (fun k hk => (own.ge hk).1)⟩
            case measure => simp [intOf]; omega
          · have t0 : ((k : Int) == 0) = false := by rw [beq_eq_false_iff_ne]; omega
            have t1 : ((k : Int) == (ps.length : Int) - 1) = true := by rw [beq_iff_eq]; omega
            clear h0 hend
            go_wp2_with (at_builtin; refine wpList_append_row ptE rfl (.tmp 28) (.tmp 33) rfl w.heap.size A1 c1 zs rfl (own.alloc _) (some ⟨wr.heap.size, 0, none⟩) 1 [(x, y)] rfl (RG.fresh (E := ptE) _ _ rfl (x, y) #[.int .i64 x, .int .i64 y] rfl _) (by simp; omega) (by simp [ptE]; omega) (by simp; omega) _ rfl ?_; intro A2 c2 w2 own2 hg2 hb2)
            go_roundw
            case rel => exact ⟨k + 1, A2, c2, _, by omega, by go_num, by simp, HN, own2, (hB.alloc (by omega) _).grown hg2 (by simp; omega) (fun k hk => (own.ge hk).1)⟩
            case measure => simp [intOf]; omega
        · obtain ⟨m, rfl⟩ : ∃ m, k = m + 1 := ⟨k - 1, by omega⟩
          obtain ⟨b', off', xa, ya, hA', _, ha, hca, hda⟩ := hr.at_ (k := m) (by omega)
          injection hA' with hA'; injection hA' with e1 e2; subst e1 e2
          obtain ⟨b', off', xc, yc, hA', _, hcc, hec, hfc⟩ := hr.at_ (k := m + 1 + 1) (by omega)
          injection hA' with hA'; injection hA' with e1 e2; subst e1 e2
          have HN : Hid (zs ++ [((xa + 2 * x + xc) / 4, (ya + 2 * y + yc) / 4)] = (smoothS ps).take (m + 1 + 1)) := hide (by rw [hzs.out]; exact take_nextG (smoothTo_mid ha hx hcc (by omega)))
          obtain ⟨⟨p1, p2⟩, ⟨p3, p4⟩⟩ := vldS_at hv ha
          obtain ⟨⟨q1, q2⟩, ⟨q3, q4⟩⟩ := vldS_at hv hx
          obtain ⟨⟨r1, r2⟩, ⟨r3, r4⟩⟩ := vldS_at hv hcc
          simp only at p1 p2 p3 p4 q1 q2 q3 q4 r1 r2 r3 r4
          have t0 : ((m : Int) + 1 == 0) = false := by rw [beq_eq_false_iff_ne]; omega
          have t1 : ((m : Int) + 1 == (ps.length : Int) - 1) = false := by rw [beq_eq_false_iff_ne]; omega
          have hm2 : m + 2 < ps.length := by omega
          clear hx ha hcc hzs hzl hend
          go_wp2_with (at_builtin; refine wpList_append_row ptE rfl (.tmp 49) (.tmp 71) rfl w.heap.size A1 c1 zs rfl ((((own.alloc _).alloc _).alloc _).alloc _) (some ⟨wr.heap.size + 1 + 1 + 1, 0, none⟩) 1 [((xa + 2 * x + xc) / 4, (ya + 2 * y + yc) / 4)] rfl (RG.fresh (E := ptE) _ _ (by simp) _ #[.int .i64 ((xa + 2 * x + xc) / 4), .int .i64 ((ya + 2 * y + yc) / 4)] rfl _) (by simp; omega) (by simp [ptE]; omega) (by simp; omega) _ rfl ?_; intro A2 c2 w2 own2 hg2 hb2)
          go_roundw
          case rel => exact ⟨m + 1 + 1, A2, c2, _, by omega, by go_num, by simp, HN, own2, ((((hB.alloc (by omega) _).alloc (by simp; omega) _).alloc (by simp; omega) _).alloc (by simp; omega) _).grown hg2 (by simp; omega) (fun k hk => (own.ge hk).1)⟩
          case measure => simp [intOf]; omega
      · have hzs' := hzs.out
        rw [List.take_of_length_le (by unfold smoothS; rw [smoothTo_length]; omega)] at hzs'
        subst hzs'
        clear hzs HZ hzl
        go_wp2_with fail
        go_ret2
        exact ⟨A1, c1, rfl, own, hB⟩

set_option maxHeartbeats 4000000 in
theorem implSmoothStroke_any (A : Option Addr) (c : Nat) (ps : List (Int × Int)) (w : World) (hps : RP w A ps) (hn : ps.length ≤ 1048576) :
    Calls Try.prog 19 #[.slice A ps.length c] w (RetPSC w (smoothR ps).1 (smoothR ps).2) := by
  unfold smoothR
  cases hv : vldS ps
  · go_enter Try.func19, Try.ntmps19
    go_wp2_with fail
    refine (implValidStroke_any _ _ ps _ hps hn).mono ?_
    rintro e w1 ⟨rfl, hb⟩
    rw [hv]
    go_wp2_with fail
    go_ret2
    exact ⟨none, 0, rfl, OwnP.nil _ _, hb⟩
  · obtain ⟨hin, hpos, hlen⟩ := boxS_in hv
    clear hin
    go_enter Try.func19, Try.ntmps19
    go_wp2_with fail
    refine (implValidStroke_any _ _ ps _ hps hn).mono ?_
    rintro e w1 ⟨rfl, hb⟩
    rw [hv]
    go_wp2_with fail
    refine (pointsClone_any _ _ ps _ (hps.below hb) hn).mono ?_
    rintro e w2 ⟨A2, c2, rfl, own2, hb2⟩
    have hB2 := hb.trans (hb2.mono hb.size)
    have own2 := own2.mono hb.size
    go_wp2_with fail
    go_loopw [5] (fun i wr => ∃ (k : Nat) (zs : List (Int × Int)), 0 < k ∧ k ≤ ps.length ∧ i = .int .i64 k ∧ Hid (zs = smoothTo ps k) ∧ Hid (zs.length = ps.length) ∧ OwnP wr w.heap.size A2 c2 zs ∧ Below w.heap.size w wr) (fun i _ => ps.length - (intOf i).toNat)
    case atStart => exact ⟨1, ps, by omega, hpos, rfl, hide (smoothTo_one ps).symm, hide rfl, own2, hB2⟩
    case round =>
      obtain ⟨k, zs, hk0, hk, rfl, hzs, hzl, own, hB⟩ := hrel
      clear own2 hB2 hb hb2
      have hr := hps.below hB
      have hz := hB.size
      by_cases hlt : k + 1 < ps.length
      · obtain ⟨m, rfl⟩ : ∃ m, k = m + 1 := ⟨k - 1, by omega⟩
        obtain ⟨b, off, x, y, rfl, hb, hx, hc, hd⟩ := hr.at_ (k := m + 1) (by omega)
        obtain ⟨b', off', xa, ya, hA', _, ha, hca, hda⟩ := hr.at_ (k := m) (by omega)
        injection hA' with hA'; injection hA' with e1 e2; subst e1 e2
        obtain ⟨b', off', xc, yc, hA', _, hcc, hec, hfc⟩ := hr.at_ (k := m + 1 + 1) (by omega)
        injection hA' with hA'; injection hA' with e1 e2; subst e1 e2
        have HN : Hid (zs.set (m + 1) ((xa + 2 * x + xc) / 4, (ya + 2 * y + yc) / 4) = smoothTo ps (m + 1 + 1)) := hide (by rw [hzs.out]; exact smoothTo_set ha hx hcc)
        have HL : Hid ((zs.set (m + 1) ((xa + 2 * x + xc) / 4, (ya + 2 * y + yc) / 4)).length = ps.length) := hide (by rw [List.length_set]; exact hzl.out)
        obtain ⟨⟨p1, p2⟩, ⟨p3, p4⟩⟩ := vldS_at hv ha
        obtain ⟨⟨q1, q2⟩, ⟨q3, q4⟩⟩ := vldS_at hv hx
        obtain ⟨⟨r1, r2⟩, ⟨r3, r4⟩⟩ := vldS_at hv hcc
        simp only at p1 p2 p3 p4 q1 q2 q3 q4 r1 r2 r3 r4
        have hzl' := hzl.out
        clear hx ha hcc hzs hzl
        obtain ⟨a11, a12, a13⟩ := cell_allocs hb hc
        obtain ⟨a21, a22, a23⟩ := cell_allocs hb hd
        obtain ⟨a31, a32, a33⟩ := cell_allocs hb hca
        obtain ⟨a41, a42, a43⟩ := cell_allocs hb hda
        obtain ⟨a51, a52, a53⟩ := cell_allocs hb hec
        obtain ⟨a61, a62, a63⟩ := cell_allocs hb hfc
        have hm1 : m < ps.length := by omega
        have i1 : IntKind.i64.wrap (m : Int) = m := by rw [IntKind.wrap_i64]; omega
        go_upto_region 7 with fail
        go_cut [6, 7, 8] (fun s6 s7 s8 wx => ∃ (G6 G7 G8 : Nat), s6 = .pointer (some ⟨G6, 0, none⟩) ∧ s7 = .pointer (some ⟨G7, 0, none⟩) ∧ s8 = .pointer (some ⟨G8, 0, none⟩) ∧ Bx wx G6 30 #[.int .i64 xa, .int .i64 ya] ∧ Bx wx G7 30 #[.int .i64 x, .int .i64 y] ∧ Bx wx G8 30 #[.int .i64 xc, .int .i64 yc] ∧ OwnP wx w.heap.size A2 c2 zs ∧ Below w.heap.size w wx)
        case first =>
          have hF : ∀ o1 o2 o3, OwnP (((wr.alloc o1).alloc o2).alloc o3).drew w.heap.size A2 c2 zs ∧ Below w.heap.size w (((wr.alloc o1).alloc o2).alloc o3).drew := fun o1 o2 o3 => ⟨(((own.alloc _).alloc _).alloc _).drew, (((hB.alloc (by omega) _).alloc (by simp; omega) _).alloc (by simp; omega) _).drew⟩
          have b1 : ∀ (cs : Array Value) o2 o3, Bx (((wr.alloc (.cells cs 30)).alloc o2).alloc o3).drew wr.heap.size 30 cs := fun cs o2 o3 => (((Bx.new_ _ _ _ _ rfl).alloc _).alloc _).drew
          have b2 : ∀ (cs : Array Value) o2 o3, Bx (((wr.alloc o2).alloc (.cells cs 30)).alloc o3).drew (wr.heap.size + 1) 30 cs := fun cs o2 o3 => ((Bx.new_ _ _ _ _ (by simp)).alloc _).drew
          have b3 : ∀ (cs : Array Value) o2 o3, Bx (((wr.alloc o2).alloc o3).alloc (.cells cs 30)).drew (wr.heap.size + 1 + 1) 30 cs := fun cs o2 o3 => (Bx.new_ _ _ _ _ (by simp)).drew
          have HF := hide (And.intro hF (And.intro b1 (And.intro b2 b3)))
          clear hF b1 b2 b3
          go_region
          all_goals go_wp2_with fail
          all_goals go_meet
          all_goals obtain ⟨hF, b1, b2, b3⟩ := HF.out
          all_goals first
            | exact ⟨_, _, _, rfl, rfl, rfl, b1 _ _ _, b2 _ _ _, b3 _ _ _, hF _ _ _⟩
            | exact ⟨_, _, _, rfl, rfl, rfl, b1 _ _ _, b3 _ _ _, b2 _ _ _, hF _ _ _⟩
            | exact ⟨_, _, _, rfl, rfl, rfl, b2 _ _ _, b1 _ _ _, b3 _ _ _, hF _ _ _⟩
            | exact ⟨_, _, _, rfl, rfl, rfl, b2 _ _ _, b3 _ _ _, b1 _ _ _, hF _ _ _⟩
            | exact ⟨_, _, _, rfl, rfl, rfl, b3 _ _ _, b1 _ _ _, b2 _ _ _, hF _ _ _⟩
            | exact ⟨_, _, _, rfl, rfl, rfl, b3 _ _ _, b2 _ _ _, b1 _ _ _, hF _ _ _⟩
        case rest =>
          clear a11 a12 a13 a21 a22 a23 a31 a32 a33 a41 a42 a43 a51 a52 a53 a61 a62 a63 own hB hc hd hca hda hec hfc
          obtain ⟨G6, G7, G8, rfl, rfl, rfl, p6, p7, p8, own, hB⟩ := hcut
          obtain ⟨w3, rfl⟩ : ∃ w3 : World, w3 = wc := ⟨_, rfl⟩
          obtain ⟨p6a, p6b⟩ := p6.two
          obtain ⟨p7a, p7b⟩ := p7.two
          obtain ⟨p8a, p8b⟩ := p8.two
          have hz3 := hB.size
          obtain ⟨g, u, v, rfl, hgb, hgs, hu, hgc, hgd, hgf, hgg, hsx, hsy⟩ := own.at_ (k := m + 1) (by omega)
          obtain ⟨o1, g1⟩ := hsx ((xa + 2 * x + xc) / 4)
          obtain ⟨g', u', v', hg', _, _, hu', _, _, _, _, _, hsy2⟩ := o1.at_ (k := m + 1) (by rw [List.length_set]; omega)
          injection hg' with hg'; injection hg' with hg'; subst hg'
          rw [List.getElem?_set_self (by omega)] at hu'
          injection hu' with hu'; injection hu' with e1 e2
          subst e1 e2
          obtain ⟨o2, g2⟩ := hsy2 ((ya + 2 * y + yc) / 4)
          rw [List.set_set] at o2
          have HO := hide o2
          have HB := hide (below_own (below_own hB g1 (by omega) hgb) g2 (by have := g1.size; omega) hgb)
          clear hsx hsy hsy2 o1 o2 g1 g2 hu hzl'
          have hi0 : (0 : Int) ≤ (m : Int) + 1 := by omega
          have hi1 : (m : Int) + 1 < (ps.length : Int) := by omega
          go_wp2_with fail
          go_roundw
          case rel => exact ⟨m + 1 + 1, _, by omega, by omega, by go_num, HN, HL, HO.out, HB.out⟩
          case measure => simp [intOf]; omega
      · have hzs' := hzs.out
        rw [smoothTo_all (m := ps.length) (by omega) (by omega)] at hzs'
        have hzl' := hzl.out
        have HZ := hide hzs'
        have HL := hide hzl'
        clear hzs hzl hzs' hzl'
        go_wp2_with fail
        go_ret2
        refine ⟨A2, c2, ?_, ?_, hB⟩
        · have hs : (smoothS ps).length = ps.length := by unfold smoothS; rw [smoothTo_length]
          show Ending.returned (.tuple #[.slice A2 ps.length c2, .int .i64 0]) = .returned (.tuple #[.slice A2 (smoothS ps).length c2, .int .i64 0])
          rw [hs]
        · have := HZ.out
          show OwnP _ _ _ _ (smoothTo ps ps.length)
          rw [← this]
          exact own
end Go.Proofs.Ytbleipaekdhdmaa
