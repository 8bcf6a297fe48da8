/-
  Contract: a code that is drawn and bent. Conditions: the numbers of bytes and of choices are far below the machine's.
-/
import Derived.Test.YtnjojnnapdhijaaBentL
import Derived.Test.YtnjojnnapdhijaaCopyM
import Derived.Deep.RegionLaw
namespace Go.Proofs.Ytnjojnnapdhijaa
open Go.RowKit
set_option linter.unusedVariables false

set_option maxRecDepth 40000 in
set_option maxHeartbeats 16000000 in
theorem l15Bent_any (b : Nat) (A : Option Addr) (c : Nat) (xs : List Int) (K : Nat) (w : World) (h : Sr w b A c xs K) (hK : K ≤ 80000) (hx : ∀ x ∈ xs, 0 ≤ x ∧ x ≤ 255) (hn : xs.length ≤ 1048576) :
    Calls Try.prog 55 #[.pointer (some ⟨b, 0, none⟩)] w (RetDv w b A c xs (K + 410) 64 65) := by
  have hb0 := h.lt
  have H0 := hide h
  have HX := hide hx
  have HD := hide (l14Draw_any b A c xs K w h (by omega) hx hn)
  clear h hx
  go_enter Try.func55, Try.ntmps55
  go_wp2_with fail
  refine HD.out.mono ?_
  rintro e w1 ⟨code, B, d, rfl, hcb, own1, s1, g1⟩
  have hz1 := g1.size
  have hsum := hcb.sum
  have hcl := hcb.1
  have HCP := hide (l14Copy_any B d w1.heap.size code w1 (own1.dr (Nat.le_refl _)).rc (by omega))
  have HCB := hide hcb
  clear own1 HD hsum hcb
  go_wp2_with fail
  refine HCP.out.mono ?_
  rintro e w2 ⟨B2, d2, rfl, own2, b2⟩
  have hz2 := b2.size
  have s2 := s1.below b2
  have g2 := gr_below g1 b2
  obtain ⟨T, hT⟩ : ∃ T, T = w1.heap.size := ⟨_, rfl⟩
  rw [← hT] at own2 hz2 hz1
  obtain ⟨N, hN⟩ : ∃ N, N = code.length := ⟨_, rfl⟩
  have HN := hide hN
  have HT := hide hT
  rw [← hN] at hcl ⊢
  clear hN hT s1 g1 b2 HCP
  by_cases hN0 : N = 0
  · have hNi : (N : Int) = 0 := by omega
    have HF := hide (And.intro own2 (And.intro s2 g2))
    clear own2 s2 g2
    go_wp2_with fail
    go_ret
    exact ⟨code, B2, d2, by rw [← HN.out, hN0]; rfl, ⟨HCB.out.1, fun r hr => ⟨Nat.le_trans (HCB.out.2 r hr).1 (by omega), (HCB.out.2 r hr).2⟩⟩, (HF.out.1.dr (Nat.le_refl _)).mono hz1, HF.out.2.1.more (by omega), HF.out.2.2⟩
  · have hNi : ¬ ((N : Int) = 0) := by omega
    go_wp2_with fail
    refine (pickG_any b A c xs _ (N : Int) _ s2 (by omega) HX.out hn (by omega) (by omega)).mono ?_
    rintro e w3 ⟨p, rfl, hp, s3, g3⟩
    have own3 := (own2.src g3 (by omega) (Nat.le_refl _)).mono (Nat.le_refl _) g3.size
    have G3 := gr_trans g2 g3
    have hz3 := g3.size
    have hpN : p < N := by omega
    have hpc : p < code.length := by rw [← HN.out]; exact hpN
    obtain ⟨g, B4, d4, ys, rfl, hgT, hgs, hys, hc3, oR, hBT, RS⟩ := own3.rowSrc (Nat.le_refl _) (b := b) (by omega) hpc
    have hyb := HCB.out.2 ys (List.mem_of_getElem? hys)
    have hyl : ys.length ≤ 64 := hyb.1
    have HYS := hide hys
    have HYB := hide hyb
    have HRS := hide RS
    obtain ⟨L, hL⟩ : ∃ L, L = ys.length := ⟨_, rfl⟩
    have HL := hide hL
    have hc3' := hc3
    rw [← hL] at hyl hc3'
    have HO3 := hide (And.intro own3 (And.intro oR (And.intro s2 hc3)))
    clear own2 s2 g2 g3 own3 hyb hys RS hL oR hc3
    go_wp2_with fail
    refine (pickG_any b A c xs _ 12 _ s3 (by omega) HX.out hn (by omega) (by omega)).mono ?_
    rintro e w4 ⟨v, rfl, hv, s4, g4⟩
    have hz4 := g4.size
    have R4 := HRS.out w4 g4
    have G4 := gr_trans G3 g4
    have HR4 := hide R4
    clear s3 G3 hc3'
    by_cases h0 : v = 0
    · subst h0
      by_cases hL0 : 0 < L
      · have hLi : (0 : Int) < (L : Int) := by omega
        clear R4
        go_wp2_with fail
        refine (pickG_any b A c xs _ (L : Int) _ s4 (by omega) HX.out hn (by omega) (by omega)).mono ?_
        rintro e w5 ⟨q, rfl, hq, s5, g5⟩
        have hqL : q < L := by omega
        have S5 := hide (And.intro (s5.alloc (.cells #[.int .i64 0, .int .i64 1, .int .i64 (-1), .int .i64 2, .int .i64 99, .int .i64 (-9223372036854775808), .int .i64 9223372036854775807] 2)) (And.intro g5 (And.intro G4 g4)))
        have hz5 := g5.size
        have HNEW := hide (OwnI.new (base := 0) w5 [0, 1, -1, 2, 99, -9223372036854775808, 9223372036854775807] #[.int .i64 0, .int .i64 1, .int .i64 (-1), .int .i64 2, .int .i64 99, .int .i64 (-9223372036854775808), .int .i64 9223372036854775807] rfl (Nat.zero_le _) (by simp [maxLen])).rd
        clear s4 s5 g5 G4 g4
        go_wp2_with fail
        refine (among_any b A c xs _ (some ⟨w5.heap.size, 0, none⟩) 7 [0, 1, -1, 2, 99, -9223372036854775808, 9223372036854775807] _ S5.out.1 (by omega) HX.out hn HNEW.out (fun q hq => by simp [blk] at hq; omega) (by simp) (by simp)).mono ?_
        rintro e w7 ⟨x, rfl, hxm, s7, g7⟩
        have hxI : I64 x := by
          simp at hxm
          rcases hxm with rfl | rfl | rfl | rfl | rfl | rfl | rfl <;> (unfold I64; omega)
        have G7 := gr_trans (gr_below (gr_trans S5.out.2.2.2 S5.out.2.1) ((Below.refl w5.heap.size w5).alloc (Nat.le_refl _) _)) g7
        have hz7 := G7.size
        obtain ⟨o7, _, _, cl7, _⟩ := HRS.out w7 G7
        obtain ⟨gB, x0, hB4, hgBb, hgBs, hx0, hcB, hfB, hst⟩ := o7.at_ (k := q) (by rw [← HL.out]; exact hqL)
        have hown8 := cl7 _ (ys.set q x) (by simp) (hst x).1 (by rw [hB4]; exact (hst x).2)
        have HF := hide (And.intro hown8 (And.intro (s7.far (p := ⟨gB, q, none⟩) (show b ≠ gB by omega) (fun h1 e => by have := H0.out.row_lt h1 e; simp at this; omega) (.int .i64 x)) (gr_new (gr_trans (gr_below (gr_trans S5.out.2.2.1 S5.out.2.1) ((Below.refl w5.heap.size w5).alloc (Nat.le_refl _) _)) g7) (p := ⟨gB, q, none⟩) (show w.heap.size ≤ gB by omega) (.int .i64 x))))
        subst hB4
        have HXI := hide hxI
        clear o7 cl7 hown8 hst s7 g7 G7 S5 HNEW hxm hx0 hxI
        go_wp2_with fail
        go_ret
        exact ⟨code.set p (ys.set q x), _, d2, by rw [List.length_set, ← HN.out]; rfl, (HCB.out.mono (Nat.le_refl _) (show 64 ≤ 65 by omega)).set (by rw [List.length_set]; have := HYB.out.1; omega) (fun y hy => by
          rcases List.mem_or_eq_of_mem_set hy with h | h
          · exact HYB.out.2 y h
          · rw [h]; exact HXI.out), (HF.out.1.dr (by rw [World.size_setCell]; omega)).mono hz1, HF.out.2.1.more (by omega), HF.out.2.2⟩
      · have hLi : ¬ ((0 : Int) < (L : Int)) := by omega
        have HF := hide (And.intro ((HO3.out.1.src g4 (by omega) (Nat.le_refl _)).dr hz4) (And.intro s4 G4))
        clear s4 G4 R4
        go_wp2_with fail
        go_ret
        exact ⟨code, _, d2, by rw [← HN.out]; rfl, ⟨HCB.out.1, fun r hr => ⟨Nat.le_trans (HCB.out.2 r hr).1 (by omega), (HCB.out.2 r hr).2⟩⟩, HF.out.1.mono hz1, HF.out.2.1.more (by omega), HF.out.2.2⟩
    · have h0i : ¬ ((v : Int) = 0) := by omega
      by_cases h1 : v = 1
      · subst h1
        have hL := HL.out
        subst hL
        have S4 := hide (And.intro G4 g4)
        clear R4 G4 g4
        go_wp2_with fail
        refine (pick_any b A c xs _ 9 _ s4 (by omega) HX.out hn (by omega) (by omega)).mono ?_
        rintro e w5 ⟨x, rfl, hx0, hx9, s5, g5⟩
        have hz5 := g5.size
        have G5 := gr_trans S4.out.1 g5
        obtain ⟨o5, _, _, _, push⟩ := HRS.out w5 (gr_trans S4.out.2 g5)
        have HPUSH := hide push
        have hxw : IntKind.i64.wrap (x - 4) = x - 4 := by rw [IntKind.wrap_i64]; omega
        obtain ⟨ps2, hps2⟩ : ∃ ps2, ps2 = ys ++ [x - 4] := ⟨_, rfl⟩
        have HP2 := hide hps2
        have hxI : I64 (x - 4) := by unfold I64; omega
        have HXI := hide hxI
        have S5 := hide (And.intro s5 G5)
        have HO5 := hide o5
        clear push s4 s5 g5 G5 o5 hps2 hxI
        go_wp2_with (at_builtin; refine wpList_append_ints rfl (.tmp 42) (.tmp 46) rfl T B4 d4 ys rfl (HO5.out.alloc _) (some ⟨w5.heap.size, 0, none⟩) 1 [x - 4] rfl (OwnI.new (base := 0) w5 [x - 4] #[.int .i64 (x - 4)] rfl (Nat.zero_le _) (by simp [maxLen])).rd (by simp; omega) (by simp; omega) ps2 HP2.out ?_; intro A6 c6 w6 own6 hg6 hb6; have q0 := HPUSH.out _ w6 A6 c6 ps2 hg6 own6 hb6; have q1 := q0.1; have q2 := q0.2.1; have HQ := hide (And.intro q0.2.2 (And.intro (((S5.out.1.alloc _).grownOld H0.out (fun q hq => (hBT q hq).1) hz1 hg6).far (p := ⟨g, p, none⟩) (show b ≠ g by omega) (fun h1 e => by have := H0.out.row_lt h1 e; simp at this; omega) (.slice A6 ps2.length c6)) (gr_new (gr_own (gr_below S5.out.2 ((Below.refl _ _).alloc (Nat.le_refl _) _)) (fun q hq => (hBT q hq).1) hz1 hg6) (p := ⟨g, p, none⟩) (show w.heap.size ≤ g by omega) (.slice A6 ps2.length c6)))); clear q0 own6 hg6 hb6)
        go_ret
        exact ⟨code.set p ps2, _, d2, by rw [List.length_set, ← HN.out]; rfl, (HCB.out.mono (Nat.le_refl _) (show 64 ≤ 65 by omega)).set (by rw [HP2.out, List.length_append]; simp; omega) (fun y hy => by
          rw [HP2.out] at hy
          rcases List.mem_append.1 hy with h | h
          · exact HYB.out.2 y h
          · rw [List.mem_singleton.1 h]; exact HXI.out), (HQ.out.1.dr (by rw [World.size_setCell]; exact Nat.le_refl _)).mono hz1, HQ.out.2.1.more (by omega), HQ.out.2.2⟩
      · have h1i : ¬ ((v : Int) = 1) := by omega
        by_cases h2 : v = 2
        · subst h2
          by_cases hL0 : 1 < L
          · have hLi : (1 : Int) < (L : Int) := by omega
            obtain ⟨_, c4, f4, _, _⟩ := R4
            have own4 := HO3.out.1.src g4 (by omega) (Nat.le_refl _)
            have hcp := HO3.out.2.1.cap
            obtain ⟨gB, hB4, hgBb, hdr⟩ := own4.tailDr hz4 hpc HYS.out c4 (by rw [← HL.out]; exact hL0)
            have hcp1 : L ≤ d4 := by rw [HL.out]; exact hcp.1
            have hcp2 : d4 ≤ 9223372036854775807 := by simpa [maxLen] using hcp.2
            rw [← HL.out] at c4 hdr
            have HF := hide (And.intro hdr (And.intro (s4.far (p := ⟨g, p, none⟩) (show b ≠ g by omega) (fun h1 e => by have := H0.out.row_lt h1 e; simp at this; omega) (.slice (some ⟨gB, 1, none⟩) (L - 1) (d4 - 1))) (gr_new G4 (p := ⟨g, p, none⟩) (show w.heap.size ≤ g by omega) (.slice (some ⟨gB, 1, none⟩) (L - 1) (d4 - 1)))))
            subst hB4
            have hLd : (L : Int) ≤ (d4 : Int) := by omega
            have h1d : (1 : Int) ≤ (d4 : Int) := by omega
            have h1L : (1 : Int) ≤ (L : Int) := by omega
            clear own4 hdr s4 G4 hcp g4
            go_wp2_with fail
            go_ret
            exact ⟨code.set p ys.tail, _, d2, by rw [List.length_set, ← HN.out]; rfl, (HCB.out.mono (Nat.le_refl _) (show 64 ≤ 65 by omega)).set (by rw [List.length_tail]; have := HYB.out.1; omega) (fun y hy => HYB.out.2 y (List.mem_of_mem_tail hy)), HF.out.1.mono hz1, HF.out.2.1.more (by omega), HF.out.2.2⟩
          · have hLi : ¬ ((1 : Int) < (L : Int)) := by omega
            have HF := hide (And.intro ((HO3.out.1.src g4 (by omega) (Nat.le_refl _)).dr hz4) (And.intro s4 G4))
            clear s4 G4 R4
            go_wp2_with fail
            go_ret
            exact ⟨code, _, d2, by rw [← HN.out]; rfl, ⟨HCB.out.1, fun r hr => ⟨Nat.le_trans (HCB.out.2 r hr).1 (by omega), (HCB.out.2 r hr).2⟩⟩, HF.out.1.mono hz1, HF.out.2.1.more (by omega), HF.out.2.2⟩
        · have h2i : ¬ ((v : Int) = 2) := by omega
          by_cases h3 : v = 3
          · subst h3
            by_cases hL0 : 1 < L
            · have hLi : (1 : Int) < (L : Int) := by omega
              obtain ⟨o7, _, _, cl7, _⟩ := R4
              obtain ⟨gB, x, hB4, hgBb, hgBs, hx1, hcB, hfB, hst⟩ := o7.at_ (k := 0) (by rw [← HL.out]; omega)
              subst hB4
              obtain ⟨gB2, y, hB5, _, _, hy1, hcB2, hfB2, _⟩ := o7.at_ (k := 1) (by rw [← HL.out]; omega)
              injection hB5 with hB5
              injection hB5 with hB5
              subst hB5
              have o5 := hst y
              obtain ⟨gB3, y3, hB6, _, _, hy3, hcB3, hfB3, hst3⟩ := o5.1.at_ (k := 1) (by rw [List.length_set, ← HL.out]; omega)
              injection hB6 with hB6
              injection hB6 with hB6
              subst hB6
              have o6 := hst3 x
              have hown8 := cl7 _ ((ys.set 0 y).set 1 x) (by simp) o6.1 (gr_trans o5.2 o6.2)
              have HXX := hide (And.intro (List.mem_of_getElem? hx1) (List.mem_of_getElem? hy1))
              have HF := hide (And.intro hown8 (And.intro ((s4.far (p := ⟨gB, 0, none⟩) (show b ≠ gB by omega) (fun h1 e => by have := H0.out.row_lt h1 e; simp at this; omega) (.int .i64 y)).far (p := ⟨gB, 1, none⟩) (show b ≠ gB by omega) (fun h1 e => by have := H0.out.row_lt h1 e; simp at this; omega) (.int .i64 x)) (gr_new (gr_new G4 (p := ⟨gB, 0, none⟩) (show w.heap.size ≤ gB by omega) (.int .i64 y)) (p := ⟨gB, 1, none⟩) (show w.heap.size ≤ gB by omega) (.int .i64 x))))
              clear o7 cl7 hown8 hst hst3 o5 o6 s4 G4 g4 hx1 hy1 hy3
              go_wp2_with fail
              go_ret
              exact ⟨code.set p ((ys.set 0 y).set 1 x), _, d2, by rw [List.length_set, ← HN.out]; rfl, (HCB.out.mono (Nat.le_refl _) (show 64 ≤ 65 by omega)).set (by rw [List.length_set, List.length_set]; have := HYB.out.1; omega) (fun q hq => by
                rcases List.mem_or_eq_of_mem_set hq with h | h
                · rcases List.mem_or_eq_of_mem_set h with h | h
                  · exact HYB.out.2 q h
                  · rw [h]; exact HYB.out.2 y HXX.out.2
                · rw [h]; exact HYB.out.2 x HXX.out.1), (HF.out.1.dr (by simp; omega)).mono hz1, HF.out.2.1.more (by omega), HF.out.2.2⟩
            · have hLi : ¬ ((1 : Int) < (L : Int)) := by omega
              have HF := hide (And.intro ((HO3.out.1.src g4 (by omega) (Nat.le_refl _)).dr hz4) (And.intro s4 G4))
              clear s4 G4 R4
              go_wp2_with fail
              go_ret
              exact ⟨code, _, d2, by rw [← HN.out]; rfl, ⟨HCB.out.1, fun r hr => ⟨Nat.le_trans (HCB.out.2 r hr).1 (by omega), (HCB.out.2 r hr).2⟩⟩, HF.out.1.mono hz1, HF.out.2.1.more (by omega), HF.out.2.2⟩
          · have h3i : ¬ ((v : Int) = 3) := by omega
            have HF := hide (And.intro ((HO3.out.1.src g4 (by omega) (Nat.le_refl _)).dr hz4) (And.intro s4 G4))
            clear s4 G4 R4
            go_wp2_with fail
            go_ret
            exact ⟨code, _, d2, by rw [← HN.out]; rfl, ⟨HCB.out.1, fun r hr => ⟨Nat.le_trans (HCB.out.2 r hr).1 (by omega), (HCB.out.2 r hr).2⟩⟩, HF.out.1.mono hz1, HF.out.2.1.more (by omega), HF.out.2.2⟩
end Go.Proofs.Ytnjojnnapdhijaa
