/-
  Contracts: ThinStroke, of the reference and of the program. Conditions: none beyond the lengths.
-/
import Derived.Test.YtbleipaekdhdmaaSmooth
namespace Go.Proofs.Ytbleipaekdhdmaa
open Go.RowKit
set_option linter.unusedVariables false

def awayP (a b : Int) : Int := highP (a - b) (b - a)
theorem l10Away_any (a b : Int) (w : World) (a0 : 0 ≤ a) (a1 : a ≤ 2000) (b0 : 0 ≤ b) (b1 : b ≤ 2000) : Calls Try.prog 43 #[.int .i64 a, .int .i64 b] w fun e w' => e = .returned (.int .i64 (awayP a b)) ∧ w = w' := by
  go_enter Try.func43, Try.ntmps43
  go_wp2_with (go_at_call 44; refine (l00MaxP_any _ _ _).mono ?_; rintro e w' ⟨rfl, rfl⟩)
  go_ret
  exact ⟨rfl, rfl⟩
theorem distance_any (a b : Int) (w : World) (a0 : 0 ≤ a) (a1 : a ≤ 2000) (b0 : 0 ≤ b) (b1 : b ≤ 2000) : Calls Try.prog 45 #[.int .i64 a, .int .i64 b] w fun e w' => e = .returned (.int .i64 (awayP a b)) ∧ w = w' := by
  have m := max_eq (a - b) (b - a)
  have HM : Hid ((if a - b < b - a then b - a else a - b) = awayP a b) := hide m
  clear m
  by_cases h1 : a - b < b - a
  · have e1 := HM.out
    rw [if_pos h1] at e1
    have HE := hide e1
    clear HM e1
    go_enter Try.func45, Try.ntmps45
    go_wp2
    go_ret
    exact ⟨ret_int HE.out, rfl⟩
  · have e1 := HM.out
    rw [if_neg h1] at e1
    have HE := hide e1
    clear HM e1
    go_enter Try.func45, Try.ntmps45
    go_wp2
    go_ret
    exact ⟨ret_int HE.out, rfl⟩

/-- is a place far enough from the last one? -/
def farP (step : Int) (a p : Int × Int) : Prop := step ≤ highP (awayP a.1 p.1) (awayP a.2 p.2)
instance (step : Int) (a p : Int × Int) : Decidable (farP step a p) := by unfold farP; infer_instance
theorem awayP_comm (a b : Int) : awayP a b = awayP b a := by
  unfold awayP highP
  split <;> split <;> omega
theorem farP_iff (step : Int) (a p : Int × Int) : farP step a p ↔ (step ≤ awayP p.1 a.1 ∨ step ≤ awayP p.2 a.2) := by
  unfold farP
  rw [awayP_comm p.1, awayP_comm p.2]
  generalize awayP a.1 p.1 = u
  generalize awayP a.2 p.2 = v
  unfold highP
  split <;> omega
def thinStep (step : Int) (acc : List (Int × Int)) (p : Int × Int) : List (Int × Int) := if farP step (acc.getD (acc.length - 1) (0, 0)) p then acc ++ [p] else acc
def thinTo (step : Int) (ps : List (Int × Int)) (k : Nat) : List (Int × Int) := ((ps.take k).drop 1).foldl (thinStep step) [ps.headD (0, 0)]
theorem thinTo_next {step : Int} {ps : List (Int × Int)} {k : Nat} {p : Int × Int} (hk : 0 < k) (h : ps[k]? = some p) : thinTo step ps (k + 1) = thinStep step (thinTo step ps k) p := by
  have hl := (List.getElem?_eq_some_iff.1 h).1
  unfold thinTo
  rw [List.take_add_one, h, List.drop_append_of_le_length (by rw [List.length_take]; omega), Option.toList_some, List.foldl_append]
  rfl
theorem thinTo_one {step : Int} {ps : List (Int × Int)} {p : Int × Int} (h : ps[0]? = some p) : thinTo step ps 1 = [p] := by
  unfold thinTo
  rw [headD_at h, List.drop_eq_nil_of_le (by rw [List.length_take]; omega)]
  rfl
def thinR (ps : List (Int × Int)) (step : Int) : List (Int × Int) × Int := if vldS ps = true then (if inB step 0 2000 = true then (thinTo step ps ps.length, 0) else ([], 2)) else ([], 1)
/-- what is known of the places kept -/
def keptB (zs : List (Int × Int)) (k : Nat) : Prop := 0 < zs.length ∧ zs.length ≤ k ∧ ∀ p ∈ zs, placeB p = true
theorem keptB_next {zs : List (Int × Int)} {k : Nat} {p : Int × Int} (h : keptB zs k) (hp : placeB p = true) : keptB (zs ++ [p]) (k + 1) := by
  obtain ⟨h1, h2, h3⟩ := h
  refine ⟨by simp, by simp; omega, fun q hq => ?_⟩
  rw [List.mem_append] at hq
  rcases hq with hq | hq
  · exact h3 q hq
  · rw [List.mem_singleton] at hq
    rw [hq]
    exact hp
theorem keptB_stay {zs : List (Int × Int)} {k : Nat} (h : keptB zs k) : keptB zs (k + 1) := ⟨h.1, Nat.le_succ_of_le h.2.1, h.2.2⟩
theorem placeB_at {ps : List (Int × Int)} (h : vldS ps = true) {k : Nat} {p : Int × Int} (hk : ps[k]? = some p) : placeB p = true := by
  unfold vldS at h
  rw [Bool.and_eq_true, List.all_eq_true] at h
  exact h.2 p (List.mem_of_getElem? hk)

set_option maxHeartbeats 4000000 in
theorem specThinStroke_any (A : Option Addr) (c : Nat) (ps : List (Int × Int)) (step : Int) (w : World) (hps : RP w A ps) (hn : ps.length ≤ 1048576) :
    Calls Try.prog 22 #[.slice A ps.length c, .int .i64 step] w (RetPSC w (thinR ps step).1 (thinR ps step).2) := by
  unfold thinR
  cases hv : vldS ps
  · go_enter Try.func22, Try.ntmps22
    go_wp2_with fail
    refine (l19Ok_any _ _ ps _ hps hn).mono ?_
    rintro e w1 ⟨rfl, rfl⟩
    rw [hv]
    go_wp2_with fail
    go_ret2
    exact ⟨none, 0, rfl, OwnP.nil _ _, Below.refl _ _⟩
  · cases hs : inB step 0 2000
    · go_enter Try.func22, Try.ntmps22
      go_wp2_with (first | (go_at_call 34; refine (l19Ok_any _ _ ps _ hps hn).mono ?_; rw [hv]; rintro e w1 ⟨rfl, rfl⟩) | (go_at_call 42; refine (l00In_any _ _ _ _).mono ?_; rw [hs]; rintro e w1 ⟨rfl, rfl⟩))
      go_ret2
      exact ⟨none, 0, rfl, OwnP.nil _ _, Below.refl _ _⟩
    · obtain ⟨hin, hpos, hlen⟩ := boxS_in hv
      clear hin
      obtain ⟨s0, s1⟩ := inB_true.1 hs
      obtain ⟨b, off, x0, y0, rfl, hb, hx, hc0, hd0⟩ := hps.at_ hpos
      have hc : w.cell? ⟨b, off, none⟩ = some (.int .i64 x0) := by simpa using hc0
      have hd : w.cell? ⟨b, off + 1, none⟩ = some (.int .i64 y0) := by simpa using hd0
      have H1 := hide (thinTo_one (step := step) hx).symm
      have HK : Hid (keptB [(x0, y0)] 1) := hide ⟨by simp, by simp, fun q hq => by rw [List.mem_singleton] at hq; rw [hq]; exact placeB_at hv hx⟩
      have hv' := hv
      have HV := hide hv'
      clear hx hc0 hd0 hv'
      have he : Own ptE (w.alloc (.cells #[.int .i64 x0, .int .i64 y0] 30)) w.heap.size (some ⟨w.heap.size, 0, none⟩) 1 [(x0, y0)] := Own.new (E := ptE) w [(x0, y0)] #[.int .i64 x0, .int .i64 y0] rfl (Nat.le_refl _) (by simp)
      go_enter Try.func22, Try.ntmps22
      go_wp2_with (first | (go_at_call 34; refine (l19Ok_any _ _ ps _ hps hn).mono ?_; rw [hv]; rintro e w1 ⟨rfl, rfl⟩) | (go_at_call 42; refine (l00In_any _ _ _ _).mono ?_; rw [hs]; rintro e w1 ⟨rfl, rfl⟩))
      go_loopw [6, 7] (fun o i wr => ∃ (k : Nat) (A1 : Option Addr) (c1 : Nat) (zs : List (Int × Int)), 0 < k ∧ k ≤ ps.length ∧ i = .int .i64 k ∧ o = .slice A1 zs.length c1 ∧ Hid (zs = thinTo step ps k) ∧ Hid (keptB zs k) ∧ Own ptE wr w.heap.size A1 c1 zs ∧ Below w.heap.size w wr) (fun _ i _ => ps.length - (intOf i).toNat)
      case atStart => exact ⟨1, _, 1, _, by omega, hpos, rfl, rfl, H1, HK, he, (Below.refl _ _).alloc (Nat.le_refl _) _⟩
      case round =>
        obtain ⟨k, A1, c1, zs, hk0, hk, rfl, rfl, hzs, hkp, own, hB⟩ := hrel
        clear he H1 HK hv hs hc hd
        have hr := hps.below hB
        have hz := hB.size
        obtain ⟨z1, z2, z3⟩ := hkp.out
        by_cases hlt : k < ps.length
        · obtain ⟨b', off', x, y, hA', _, hx, hc, hd⟩ := hr.at_ hlt
          injection hA' with hA'; injection hA' with e1 e2; subst e1 e2
          have hP := placeB_at HV.out hx
          obtain ⟨⟨q1, q2⟩, ⟨q3, q4⟩⟩ := placeB_in hP
          obtain ⟨g, ax, ay, rfl, hgb, hgs, ha, hgc, hgd, _⟩ := OwnP.at_ own (k := zs.length - 1) (by omega)
          obtain ⟨⟨p1, p2⟩, ⟨p3, p4⟩⟩ := placeB_in (z3 _ (List.mem_of_getElem? ha))
          simp only at p1 p2 p3 p4 q1 q2 q3 q4
          have HN := hzs.out
          have hnx := thinTo_next (step := step) hk0 hx
          rw [← HN] at hnx
          unfold thinStep at hnx
          rw [getD_ofP ha] at hnx
          have hl1 : 1 ≤ (zs.length : Int) := by omega
          have hbz : b < wr.heap.size := by omega
          have n1 : b ≠ wr.heap.size := by omega
          have n2 : g ≠ wr.heap.size := by omega
          obtain ⟨a11, -, -⟩ := cell_allocs hbz hc
          obtain ⟨a21, -, -⟩ := cell_allocs hbz hd
          have hk60 : k ≤ 60 := by omega
          by_cases hf : farP step (ax, ay) (x, y)
          · rw [if_pos hf] at hnx
            have HF : Hid (step ≤ highP (awayP ax x) (awayP ay y)) := hide hf
            have HX := hide hnx
            have HK2 := hide (keptB_next hkp.out hP)
            clear hnx HN hzs hkp hx ha hf hP z3
            go_wp2_with fail
            go_quiet ((go_at_call 43; exact quiet1 (l10Away_any _ _ _ p1 p2 q1 q2)))
            go_wp2_with fail
            go_quiet ((go_at_call 43; exact quiet2 (l10Away_any _ _ _ p3 p4 q3 q4)))
            have hf := HF.out
            go_wp2_with (first | (go_at_call 44; refine (l00MaxP_any _ _ _).mono ?_; rintro e w' ⟨rfl, rfl⟩) | (at_builtin; refine wpList_append_row ptE rfl (.tmp 54) (.tmp 59) rfl w.heap.size _ c1 zs rfl (((own.alloc _).drewN _).alloc _) (some ⟨wr.heap.size + 1, 0, none⟩) 1 [(x, y)] rfl (RG.fresh (E := ptE) _ _ (by simp) (x, y) #[.int .i64 x, .int .i64 y] rfl _) (by simp; omega) (by simp [ptE]; omega) (by simp; omega) _ rfl ?_; intro A2 c2 w2 own2 hg2 hb2))
            go_roundw
            case rel => exact ⟨k + 1, A2, c2, _, by omega, by omega, by go_num, by simp, hide HX.out.symm, HK2, own2, (below_drewN (hB.alloc (by omega) _) _ |>.alloc (by simp; omega) _).grown hg2 (by simp; omega) (fun k hk => (own.ge hk).1)⟩
            case measure => simp [intOf]; omega
          · rw [if_neg hf] at hnx
            have HF : Hid (¬ step ≤ highP (awayP ax x) (awayP ay y)) := hide hf
            have HX := hide hnx
            have HK2 := hide (keptB_stay hkp.out)
            clear hnx HN hzs hkp hx ha hf hP z3
            go_wp2_with fail
            go_quiet ((go_at_call 43; exact quiet1 (l10Away_any _ _ _ p1 p2 q1 q2)))
            go_wp2_with fail
            go_quiet ((go_at_call 43; exact quiet2 (l10Away_any _ _ _ p3 p4 q3 q4)))
            have hf := HF.out
            go_wp2_with (first | (go_at_call 44; refine (l00MaxP_any _ _ _).mono ?_; rintro e w' ⟨rfl, rfl⟩))
            go_roundw
            case rel => exact ⟨k + 1, _, c1, zs, by omega, by omega, by go_num, rfl, hide HX.out.symm, HK2, (own.alloc _).drewN _, below_drewN (hB.alloc (by omega) _) _⟩
            case measure => simp [intOf]; omega
        · have hkk : k = ps.length := by omega
          have hz2 := hzs.out
          rw [hkk] at hz2
          have HX := hide hz2
          clear hz2 hzs hkp hkk z3
          go_wp2_with fail
          go_ret2
          have := HX.out
          subst this
          exact ⟨A1, c1, rfl, own, hB⟩

theorem RP.tail2 {w : World} {b off : Nat} {ps : List (Int × Int)} (h : RP w (some ⟨b, off, none⟩) ps) : RP w (some ⟨b, off + 2, none⟩) (ps.drop 1) := fun hn => by
  have hl := flat_len ptC 2 ptC_len ps
  have hl1 := flat_len ptC 2 ptC_len (ps.drop 1)
  rw [hl1, List.length_drop] at hn
  obtain ⟨b', off', e, hc⟩ := h (by rw [hl]; omega)
  injection e with e
  injection e with e1 e2
  subst e1 e2
  refine ⟨b, off + 2, rfl, fun j u hu => ?_⟩
  have hd : (ps.drop 1).flatMap ptC = (ps.flatMap ptC).drop 2 := by
    cases ps with
    | nil => rfl
    | cons p t => rfl
  rw [hd, List.getElem?_drop] at hu
  have := hc (2 + j) u hu
  rwa [← Nat.add_assoc] at this

set_option maxHeartbeats 4000000 in
theorem implThinStroke_any (A : Option Addr) (c : Nat) (ps : List (Int × Int)) (step : Int) (w : World) (hps : RP w A ps) (hn : ps.length ≤ 1048576) (hcap : ps.length ≤ c ∧ c ≤ 9223372036854775807) :
    Calls Try.prog 23 #[.slice A ps.length c, .int .i64 step] w (RetPSC w (thinR ps step).1 (thinR ps step).2) := by
  unfold thinR
  cases hv : vldS ps
  · go_enter Try.func23, Try.ntmps23
    go_wp2_with fail
    refine (implValidStroke_any _ _ ps _ hps hn).mono ?_
    rintro e w1 ⟨rfl, hb⟩
    rw [hv]
    go_wp2_with fail
    go_ret2
    exact ⟨none, 0, rfl, OwnP.nil _ _, hb⟩
  · cases hs : inB step 0 2000
    · go_enter Try.func23, Try.ntmps23
      go_wp2_with fail
      refine (implValidStroke_any _ _ ps _ hps hn).mono ?_
      rintro e w1 ⟨rfl, hb⟩
      rw [hv]
      go_wp2_with (first | (go_at_call 35; refine (inRange_any _ _ _ _).mono ?_; rw [hs]; rintro e w1 ⟨rfl, rfl⟩))
      go_ret2
      exact ⟨none, 0, rfl, OwnP.nil _ _, hb⟩
    · obtain ⟨hin, hpos, hlen⟩ := boxS_in hv
      clear hin
      obtain ⟨s0, s1⟩ := inB_true.1 hs
      obtain ⟨hcap1, hcap2⟩ := hcap
      go_enter Try.func23, Try.ntmps23
      go_wp2_with fail
      refine (implValidStroke_any _ _ ps _ hps hn).mono ?_
      rintro e w1 ⟨rfl, hb1⟩
      rw [hv]
      have hps1 := hps.below hb1
      obtain ⟨b, off, x0, y0, rfl, hb, hx, hc0, hd0⟩ := hps1.at_ hpos
      have hc : w1.cell? ⟨b, off, none⟩ = some (.int .i64 x0) := by simpa using hc0
      have hd : w1.cell? ⟨b, off + 1, none⟩ = some (.int .i64 y0) := by simpa using hd0
      have H1 := hide (thinTo_one (step := step) hx).symm
      have HK : Hid (keptB [(x0, y0)] 1) := hide ⟨by simp, by simp, fun q hq => by rw [List.mem_singleton] at hq; rw [hq]; exact placeB_at hv hx⟩
      have hv' := hv
      have HV := hide hv'
      have hbw : b < w.heap.size := hps.lt (by omega) rfl
      clear hx hc0 hd0 hv' hv
      have he : Own ptE (w1.alloc (.cells #[.int .i64 x0, .int .i64 y0] 30)) w1.heap.size (some ⟨w1.heap.size, 0, none⟩) 1 [(x0, y0)] := Own.new (E := ptE) w1 [(x0, y0)] #[.int .i64 x0, .int .i64 y0] rfl (Nat.le_refl _) (by simp)
      have he := he.mono hb1.size
      have hdl : (ps.drop 1).length = ps.length - 1 := by simp
      have hge1 : (1 : Int) ≤ (ps.length : Int) := by omega
      have hge2 : (1 : Int) ≤ (c : Int) := by omega
      by_cases hc1 : c = 1
      · have hl1 : ps.length = 1 := by omega
        have hp1 : ps.length - 1 = 0 := by omega
        have HL := hide hl1
        have H1' := hide ((congrArg (thinTo step ps) hl1).trans H1.out.symm)
        clear hl1 hdl
        go_wp2_with (first | (go_at_call 35; refine (inRange_any _ _ _ _).mono ?_; rw [hs]; rintro e w1 ⟨rfl, rfl⟩))
        go_loopw [6, 23] (fun o i wr => i = .int .i64 0 ∧ o = .slice (some ⟨w1.heap.size, 0, none⟩) 1 1 ∧ Own ptE wr w.heap.size (some ⟨w1.heap.size, 0, none⟩) 1 [(x0, y0)] ∧ Below w.heap.size w wr) (fun _ _ _ => 0)
        case atStart => exact ⟨rfl, rfl, he, hb1.alloc hb1.size _⟩
        case round =>
          obtain ⟨rfl, rfl, own, hB⟩ := hrel
          clear he
          go_wp2_with fail
          go_ret2
          refine ⟨some ⟨w1.heap.size, 0, none⟩, 1, ?_, ?_, hB⟩
          · show Ending.returned (.tuple #[.slice (some ⟨w1.heap.size, 0, none⟩) 1 1, .int .i64 0]) = .returned (.tuple #[.slice (some ⟨w1.heap.size, 0, none⟩) (thinTo step ps ps.length).length 1, .int .i64 0])
            rw [H1'.out]
            rfl
          · show OwnP wr w.heap.size (some ⟨w1.heap.size, 0, none⟩) 1 (thinTo step ps ps.length)
            rw [H1'.out]
            exact own
      · go_wp2_with (first | (go_at_call 35; refine (inRange_any _ _ _ _).mono ?_; rw [hs]; rintro e w1 ⟨rfl, rfl⟩))
        go_loopw [6, 23] (fun o i wr => ∃ (k : Nat) (A1 : Option Addr) (c1 : Nat) (zs : List (Int × Int)), k ≤ ps.length - 1 ∧ i = .int .i64 k ∧ o = .slice A1 zs.length c1 ∧ Hid (zs = thinTo step ps (k + 1)) ∧ Hid (keptB zs (k + 1)) ∧ Own ptE wr w.heap.size A1 c1 zs ∧ Below w.heap.size w wr) (fun _ i _ => ps.length - (intOf i).toNat)
        case atStart => exact ⟨0, _, 1, _, by omega, rfl, rfl, H1, HK, he, hb1.alloc hb1.size _⟩
        case round =>
          obtain ⟨k, A1, c1, zs, hk, rfl, rfl, hzs, hkp, own, hB⟩ := hrel
          clear he H1 HK hs hc hd hdl hc1
          have hr := (hps.below hB).tail2
          have hz := hB.size
          obtain ⟨z1, z2, z3⟩ := hkp.out
          by_cases hlt : k < ps.length - 1
          · obtain ⟨b', off', x, y, hA', hbz, hx, hc, hd⟩ := hr.at_ (k := k) (by rw [List.length_drop]; omega)
            injection hA' with hA'; injection hA' with e1 e2; subst e1 e2
            rw [List.getElem?_drop, Nat.add_comm] at hx
            have hP := placeB_at HV.out hx
            obtain ⟨⟨q1, q2⟩, ⟨q3, q4⟩⟩ := placeB_in hP
            obtain ⟨g, ax, ay, rfl, hgb, hgs, ha, hgc, hgd, _⟩ := OwnP.at_ own (k := zs.length - 1) (by omega)
            obtain ⟨⟨p1, p2⟩, ⟨p3, p4⟩⟩ := placeB_in (z3 _ (List.mem_of_getElem? ha))
            simp only at p1 p2 p3 p4 q1 q2 q3 q4
            have HN := hzs.out
            have hnx := thinTo_next (step := step) (by omega) hx
            rw [← HN] at hnx
            unfold thinStep at hnx
            rw [getD_ofP ha] at hnx
            have hl1 : 1 ≤ (zs.length : Int) := by omega
            obtain ⟨a11, a12, -⟩ := cell_allocs hgs hgc
            obtain ⟨a21, a22, -⟩ := cell_allocs hgs hgd
            have hk60 : k ≤ 60 := by omega
            have hltI : (k : Int) < ((ps.length - 1 : Nat) : Int) := by omega
            simp only [farP_iff] at hnx
            by_cases t1 : step ≤ awayP x ax
            · have hf : step ≤ awayP x ax ∨ step ≤ awayP y ay := .inl t1
              rw [if_pos hf] at hnx
              have HX := hide hnx
              have HK2 := hide (keptB_next hkp.out hP)
              clear hnx HN hzs hkp hx ha hf hP z3
              go_wp2_with (first | (go_at_call 45; refine (distance_any _ _ _ (by assumption) (by assumption) (by assumption) (by assumption)).mono ?_; rintro e w' ⟨rfl, rfl⟩) | (at_builtin; refine wpList_append_row ptE rfl (.tmp 49) (.tmp 51) rfl w.heap.size _ c1 zs rfl (((own.alloc _).alloc _).alloc _) (some ⟨wr.heap.size + 1 + 1, 0, none⟩) 1 [(x, y)] rfl (RG.fresh (E := ptE) _ _ (by simp) (x, y) #[.int .i64 x, .int .i64 y] rfl _) (by simp; omega) (by simp [ptE]; omega) (by simp; omega) _ rfl ?_; intro A2 c2 w2 own2 hg2 hb2))
              go_roundw
              case rel => exact ⟨k + 1, A2, c2, _, by omega, by go_num, by simp, hide HX.out.symm, HK2, own2, (((hB.alloc (by omega) _).alloc (by simp; omega) _).alloc (by simp; omega) _).grown hg2 (by simp; omega) (fun k hk => (own.ge hk).1)⟩
              case measure => simp [intOf]; omega
            · by_cases t2 : step ≤ awayP y ay
              · have hf : step ≤ awayP x ax ∨ step ≤ awayP y ay := .inr t2
                rw [if_pos hf] at hnx
                have HX := hide hnx
                have HK2 := hide (keptB_next hkp.out hP)
                clear hnx HN hzs hkp hx ha hf hP z3
                go_wp2_with (first | (go_at_call 45; refine (distance_any _ _ _ (by assumption) (by assumption) (by assumption) (by assumption)).mono ?_; rintro e w' ⟨rfl, rfl⟩) | (at_builtin; refine wpList_append_row ptE rfl (.tmp 49) (.tmp 51) rfl w.heap.size _ c1 zs rfl (((own.alloc _).alloc _).alloc _) (some ⟨wr.heap.size + 1 + 1, 0, none⟩) 1 [(x, y)] rfl (RG.fresh (E := ptE) _ _ (by simp) (x, y) #[.int .i64 x, .int .i64 y] rfl _) (by simp; omega) (by simp [ptE]; omega) (by simp; omega) _ rfl ?_; intro A2 c2 w2 own2 hg2 hb2))
                go_roundw
                case rel => exact ⟨k + 1, A2, c2, _, by omega, by go_num, by simp, hide HX.out.symm, HK2, own2, (((hB.alloc (by omega) _).alloc (by simp; omega) _).alloc (by simp; omega) _).grown hg2 (by simp; omega) (fun k hk => (own.ge hk).1)⟩
                case measure => simp [intOf]; omega
              · have hf : ¬ (step ≤ awayP x ax ∨ step ≤ awayP y ay) := by omega
                rw [if_neg hf] at hnx
                have HX := hide hnx
                have HK2 := hide (keptB_stay hkp.out)
                clear hnx HN hzs hkp hx ha hf hP z3
                go_wp2_with (first | (go_at_call 45; refine (distance_any _ _ _ (by assumption) (by assumption) (by assumption) (by assumption)).mono ?_; rintro e w' ⟨rfl, rfl⟩))
                go_roundw
                case rel => exact ⟨k + 1, _, c1, zs, by omega, by go_num, rfl, hide HX.out.symm, HK2, (own.alloc _).alloc _, (hB.alloc (by omega) _).alloc (by simp; omega) _⟩
                case measure => simp [intOf]; omega
          · have hkk : k + 1 = ps.length := by omega
            have hz2 := hzs.out
            rw [hkk] at hz2
            have HX := hide hz2
            have hge : ¬ (k : Int) < ((ps.length - 1 : Nat) : Int) := by omega
            clear hz2 hzs hkp hkk z3
            go_wp2_with fail
            go_ret2
            have := HX.out
            subst this
            exact ⟨A1, c1, rfl, own, hB⟩
end Go.Proofs.Ytbleipaekdhdmaa
