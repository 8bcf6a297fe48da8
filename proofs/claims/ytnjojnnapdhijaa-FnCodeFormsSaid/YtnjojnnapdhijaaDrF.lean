/-
  Contracts: what is drawn for the law of forms. Conditions: none beyond the lengths. Printed by gen_drf.py.
-/
import Derived.Test.YtnjojnnapdhijaaBentA
import Derived.Test.YtnjojnnapdhijaaBentC
import Derived.Test.YtnjojnnapdhijaaDrawDM
namespace Go.Proofs.Ytnjojnnapdhijaa
open Go.RowKit
set_option linter.unusedVariables false

/-- the first row alone -/
theorem Dr.take_ {w : World} {base : Nat} {A : Option Addr} {c : Nat} {code : List (List Int)} (h : Dr w base A c code) (n : Nat) : Dr w base A c (code.take n) := by
  obtain ⟨hs, h1, h2, h3, h4, h5⟩ := h
  refine ⟨hs.take n, h1.take_ n, fun g hg hp => h2 g hg (by rw [List.length_take] at hp; omega), by rw [List.length_take, List.length_take, h3], ⟨by rw [List.length_take]; omega, h4.2⟩, fun i h xs e1 e2 => ?_⟩
  rw [List.getElem?_take] at e1 e2
  split at e1
  · rename_i hi
    rw [if_pos hi] at e2
    exact h5 i h xs e1 e2
  · cases e1
theorem CodeB.take_ {n m : Nat} {code : List (List Int)} (h : CodeB n m code) (k : Nat) : CodeB n m (code.take k) :=
  ⟨by rw [List.length_take]; have := h.1; omega, fun r hr => h.2 r (List.mem_of_mem_take hr)⟩
set_option maxHeartbeats 4000000 in
theorem drawRenameCode_any (A : Option Addr) (c : Nat) (xs : List Int) (w : World) (h : RB w A xs) (hx : ∀ x ∈ xs, 0 ≤ x ∧ x ≤ 255) (hn : xs.length ≤ 1048576) :
    Calls Try.prog 20 #[.slice A xs.length c] w (RetDB w) := by
  have hs := Sr.new (c := c) w h
  have hb := (Below.refl w.heap.size w).alloc (Nat.le_refl _) (.cells #[.slice A xs.length c, .int .i64 0, .int .u64 0] 101)
  have HD := hide (l15Bent_any w.heap.size A c xs 0 _ hs (by omega) hx hn)
  clear h hx hs
  go_enter Try.func20, Try.ntmps20
  go_wp2_with fail
  refine (l00From_any A xs.length c w).mono ?_
  rintro e w1 ⟨rfl, rfl⟩
  go_wp2_with fail
  refine HD.out.mono ?_
  rintro e w2 ⟨code, B, d, rfl, hcb, hdr, s2, g2⟩
  have HF := hide (And.intro (hdr.mono (base' := w.heap.size) (by simp)) (below_gr hb g2 (Nat.le_refl _)))
  clear hdr s2 g2 hb
  go_wp2_with fail
  go_ret
  exact ⟨code, B, d, rfl, hcb.mono (Nat.le_refl _) (by omega), HF.out.1, HF.out.2⟩
set_option maxHeartbeats 4000000 in
theorem drawSortCurves_any (A : Option Addr) (c : Nat) (xs : List Int) (w : World) (h : RB w A xs) (hx : ∀ x ∈ xs, 0 ≤ x ∧ x ≤ 255) (hn : xs.length ≤ 1048576) :
    Calls Try.prog 26 #[.slice A xs.length c] w (RetDB w) := by
  have hs := Sr.new (c := c) w h
  have hb := (Below.refl w.heap.size w).alloc (Nat.le_refl _) (.cells #[.slice A xs.length c, .int .i64 0, .int .u64 0] 101)
  have HD := hide (l15Bent_any w.heap.size A c xs 0 _ hs (by omega) hx hn)
  clear h hx hs
  go_enter Try.func26, Try.ntmps26
  go_wp2_with fail
  refine (l00From_any A xs.length c w).mono ?_
  rintro e w1 ⟨rfl, rfl⟩
  go_wp2_with fail
  refine HD.out.mono ?_
  rintro e w2 ⟨code, B, d, rfl, hcb, hdr, s2, g2⟩
  have HF := hide (And.intro (hdr.mono (base' := w.heap.size) (by simp)) (below_gr hb g2 (Nat.le_refl _)))
  clear hdr s2 g2 hb
  go_wp2_with fail
  go_ret
  exact ⟨code, B, d, rfl, hcb.mono (Nat.le_refl _) (by omega), HF.out.1, HF.out.2⟩
set_option maxRecDepth 40000 in
set_option maxHeartbeats 16000000 in
theorem drawLeastCode_any (A : Option Addr) (c : Nat) (xs : List Int) (w : World) (h : RB w A xs) (hx : ∀ x ∈ xs, 0 ≤ x ∧ x ≤ 255) (hn : xs.length ≤ 1048576) :
    Calls Try.prog 23 #[.slice A xs.length c] w (RetDB w) := by
  have HX := hide hx
  have hs := Sr.new (c := c) w h
  obtain ⟨w1, hw1⟩ : ∃ w1, w1 = w.alloc (.cells #[.slice A xs.length c, .int .i64 0, .int .u64 0] 101) := ⟨_, rfl⟩
  have hb1 : Below w.heap.size w w1 := by rw [hw1]; exact (Below.refl w.heap.size w).alloc (Nat.le_refl _) _
  have hsz : w1.heap.size = w.heap.size + 1 := by rw [hw1]; simp
  rw [← hw1] at hs
  have HFR := hide (l00From_any A xs.length c w)
  rw [← hw1] at HFR
  obtain ⟨b, hbe⟩ : ∃ b, b = w.heap.size := ⟨_, rfl⟩
  have hbw : w.heap.size ≤ b := by omega
  have hbw' : w.heap.size ≤ b + 1 := by omega
  rw [← hbe] at hs hsz HFR
  have HD := hide (l15Bent_any b A c xs 0 w1 hs (by omega) hx hn)
  have H0 := hide hs
  have HB1 := hide hb1
  clear h hx hw1 hbe hs hb1
  go_enter Try.func23, Try.ntmps23
  go_wp2_with fail
  refine HFR.out.mono ?_
  rintro e w1 ⟨rfl, rfl⟩
  go_wp2_with fail
  refine HD.out.mono ?_
  rintro e w2 ⟨code, B, d, rfl, hcb, hdr, s2, G2⟩
  have hz2 := G2.size
  rw [hsz] at hdr
  have HCB := hide (hcb.mono (Nat.le_refl 64) (show 65 ≤ 300 by omega))
  have hcl := hcb.1
  have hcp := hdr.cap_
  obtain ⟨N, hN⟩ : ∃ N, N = code.length := ⟨_, rfl⟩
  have NE := hide hN
  have HDR := hide hdr
  rw [← hN] at hcl hcp ⊢
  clear hcb hdr hN HD HFR
  by_cases h1N : 1 < N
  · have h1I : (1 : Int) < (N : Int) := by omega
    have h1d : (1 : Int) ≤ (d : Int) := by omega
    go_wp2_with fail
    refine (one_any b A c xs _ 2 w2 s2 (by omega) HX.out hn (by omega) (by omega)).mono ?_
    rintro e w3 ⟨v3, rfl, s3, g3⟩
    have G3 := gr_trans G2 g3
    have HD3 := hide (HDR.out.src g3 (by omega))
    rcases v3 with _ | _
    ·
      go_wp2_with fail
      refine (one_any b A c xs _ 2 w3 s3 (by omega) HX.out hn (by omega) (by omega)).mono ?_
      rintro e w4 ⟨v4, rfl, s4, g4⟩
      have G4 := gr_trans G3 g4; have HG4 := hide g4
      have hz4 := G4.size
      clear s3 g4 G3
      rcases v4 with _ | _
      · have HF := hide G4
        clear s4 G4
        go_wp2_with fail
        go_ret
        exact ⟨code, B, d, by rw [← NE.out]; rfl, HCB.out, (HD3.out.src HG4.out (by omega)).mono hbw', below_gr HB1.out HF.out hbw⟩
      · go_wp2_with fail
        refine (pick_any b A c xs _ 6 w4 s4 (by omega) HX.out hn (by omega) (by omega)).mono ?_
        rintro e w5 ⟨n0, rfl, hn0, hn1, s5, g5⟩
        obtain ⟨n, rfl⟩ : ∃ n : Nat, n0 = (n : Int) - 1 := ⟨(n0 + 1).toNat, by omega⟩
        have hn6 : n ≤ 6 := by omega
        have hwn1 : IntKind.i64.wrap (1 + ((n : Int) - 1)) = (n : Int) := by rw [IntKind.wrap_i64]; omega
        have G5 := gr_trans G4 g5
        have hz5 := G5.size
        have own0 : OwnI (w5.alloc (.cells #[] 2)) (b + 1) (some ⟨w5.heap.size, 0, none⟩) 0 [] := OwnI.empty w5 (by omega)
        have s6 := s5.alloc (.cells #[] 2)
        have G6 := gr_below G5 ((Below.refl w5.heap.size w5).alloc (Nat.le_refl _) (.cells #[] 2))
        clear s4 G4 s5 g5 G5 hn0 hn1
        go_wp2_with fail
        go_loopw [6, 7] (fun s6 s7 wr => ∃ (k : Nat) (A1 : Option Addr) (c1 : Nat) (zs : List Int) (L : Nat), 1 ≤ k ∧ k ≤ n + 1 ∧ s7 = .int .i64 (k : Int) ∧ s6 = .slice A1 L c1 ∧ L + 2 = 2 * k ∧ Hid (zs.length = L) ∧ Hid (∀ x ∈ zs, I64 x) ∧ OwnI wr (b + 1) A1 c1 zs ∧ Sr wr b A c xs (420 + 2 * k) ∧ w1.grownBy wr (some b)) (fun _ s7 _ => n + 1 - (intOf s7).toNat)
        case atStart => exact ⟨1, _, 0, [], 0, Nat.le_refl _, by omega, rfl, rfl, by omega, hide rfl, hide (by simp), own0, s6.more (by omega), G6⟩
        case round =>
          clear own0 s6 G6
          obtain ⟨k, A1, c1, zs, L, hk1, hk2, rfl, rfl, hzl, LE, zsI, own, hs, hg⟩ := hrel
          have hz := hg.size
          by_cases hlt : k ≤ n
          · have hkn : (k : Int) ≤ (n : Int) := by omega
            have hwn : IntKind.i64.wrap (-(k : Int)) = -(k : Int) := by rw [IntKind.wrap_i64]; omega
            have hwk : IntKind.i64.wrap ((k : Int) + 1) = (k : Int) + 1 := by rw [IntKind.wrap_i64]; omega
            have hLw : IntKind.i64.wrap ((L : Int) + 1) = (L : Int) + 1 := by rw [IntKind.wrap_i64]; omega
            have ownA := hide own
            have SA := hide hs
            have GA := hide hg
            clear own hs hg
            go_wp2_with fail
            refine (pickG_any b A c xs _ ((L : Int) + 1) _ SA.out (by omega) HX.out hn (by omega) (by omega)).mono ?_
            rintro e uA ⟨qA, rfl, hqA, sA1, gA1⟩
            have hqLA : qA ≤ L := by omega
            have hzA1 := gA1.size
            obtain ⟨pA, hpA⟩ : ∃ pA, pA = zs.take qA := ⟨_, rfl⟩
            obtain ⟨rA, hrA⟩ : ∃ rA, rA = zs.drop qA := ⟨_, rfl⟩
            have pLA : Hid (pA.length = qA) := hide (by rw [hpA, List.length_take, LE.out]; omega)
            have rLA : Hid (rA.length = L - qA) := hide (by rw [hrA, List.length_drop, LE.out])
            have pIA : Hid (∀ x ∈ pA, I64 x) := hide fun x hx => zsI.out x (List.mem_of_mem_take (hpA ▸ hx))
            have rIA : Hid (∀ x ∈ rA, I64 x) := hide fun x hx => zsI.out x (List.mem_of_mem_drop (hrA ▸ hx))
            have hcapA := ownA.out.cap
            have hLdA : L ≤ c1 := by rw [← LE.out]; exact hcapA.1
            have hdA : c1 ≤ 9223372036854775807 := by simpa [maxLen] using hcapA.2
            have OSHA : Hid ((A1 = none ∧ c1 = 0 ∧ L = 0) ∨ ∃ g, A1 = some ⟨g, 0, none⟩) := hide (by have := ownA.out.shape; rw [LE.out] at this; exact this)
            have HTKA : Hid (RI uA A1 pA) := hide (by rw [hpA]; exact (ownA.out.src gA1 (by omega)).rd.take_ qA)
            have HDPA : Hid (∀ W, wr.grownBy W (some b) → RI W (if c1 = qA then A1 else A1.map (·.add qA)) rA) := hide fun W hW => by rw [hrA]; exact (ownA.out.src hW (by omega)).rd.drop_ qA (by rw [LE.out]; exact hLdA)
            have HCPA := hide (l00Own_any A1 c1 pA uA HTKA.out (by rw [pLA.out]; omega))
            rw [pLA.out] at HCPA
            have hqiA : (qA : Int) ≤ (L : Int) := by omega
            have hqdA : (qA : Int) ≤ (c1 : Int) := by omega
            have hLdiA : (L : Int) ≤ (c1 : Int) := by omega
            have hqnA : qA ≤ c1 := by omega
            obtain ⟨mA, hmA⟩ : ∃ mA, mA = pA ++ [(k : Int)] := ⟨_, rfl⟩
            have mEA := hide hmA
            have mLA : Hid (mA.length = qA + 1) := hide (by rw [hmA, List.length_append, pLA.out]; rfl)
            have mIA : Hid (∀ x ∈ mA, I64 x) := hide (by rw [hmA]; intro x hx; refine (List.mem_append.1 hx).elim (pIA.out x) (fun hx => ?_); simp at hx; unfold I64; omega)
            obtain ⟨nA, hnA⟩ : ∃ nA, nA = mA ++ rA := ⟨_, rfl⟩
            have nEA := hide hnA
            have nLA : Hid (nA.length = L + 1) := hide (by rw [hnA, List.length_append, mLA.out, rLA.out]; omega)
            have nAI : Hid (∀ x ∈ nA, I64 x) := hide (by rw [hnA]; intro x hx; exact (List.mem_append.1 hx).elim (mIA.out x) (rIA.out x))
            have UA := hide (And.intro sA1 gA1)
            clear hpA hrA hmA hnA hcapA sA1 gA1
            go_wp2_with fail
            refine HCPA.out.mono ?_
            rintro e vA ⟨AA2, cA2, rfl, ownA2, hbA2⟩
            rw [pLA.out]
            obtain ⟨tA, htA⟩ : ∃ tA, tA = uA.heap.size := ⟨_, rfl⟩
            rw [← htA] at ownA2
            have htAr : wr.heap.size ≤ tA := by omega
            have hzA2 := hbA2.size
            have XA : Hid (NX wr vA b A c xs _ tA AA2 cA2 pA) := hide ⟨ownA2, UA.out.1.below hbA2, gr_below UA.out.2 hbA2, htAr, by omega⟩
            clear ownA2 hbA2 HCPA HTKA
            go_upto_region 13 with (at_builtin; refine wpList_append_ints rfl (.tmp 44) (.tmp 46) rfl tA AA2 cA2 pA (by rw [pLA.out]; rfl) (XA.out.1.alloc _) (some ⟨vA.heap.size, 0, none⟩) 1 [(k : Int)] rfl (OwnI.new (base := 0) vA [(k : Int)] #[.int .i64 ((k : Int))] rfl (Nat.zero_le _) (by simp [maxLen])).rd (by rw [pLA.out]; simp; omega) (by have := XA.out.2.2.2.2; simp; omega) mA mEA.out ?_; intro AA3 cA3 wA3 ownA3 hgA3 hbA3; rw [mLA.out]; have YA := hide (XA.out.app SA.out ownA3 hgA3); clear ownA3 hgA3 hbA3)
            go_cut [6] (fun s6 wx => ∃ A9 c9, s6 = .slice A9 (L + 1) c9 ∧ NX wr wx b A c xs (420 + 2 * k + 1) tA A9 c9 nA)
            case first =>
              rcases OSHA.out with ⟨e1, e2, e3⟩ | ⟨gq, e1⟩
              · have hq0 : qA = 0 := by omega
                have hL0 : L = 0 := by omega
                have HDQ : Hid (∀ W, wr.grownBy W (some b) → RI W none rA) := hide (fun W _ => by rw [List.eq_nil_of_length_eq_zero (show rA.length = 0 by rw [rLA.out]; omega)]; exact Rd.nil W none)
                subst e1 e2 hq0 hL0
                go_wp2_with (at_builtin; refine wpList_append_ints rfl (.tmp 48) (.tmp 51) rfl tA AA3 cA3 mA (by rw [mLA.out]; rfl) YA.out.1 none 0 rA (by rw [rLA.out]; rfl) (HDQ.out _ YA.out.2.2.1) (by rw [mLA.out, rLA.out]; omega) YA.out.2.2.2.2 nA nEA.out ?_; intro AA4 cA4 wA4 ownA4 hgA4 hbA4; rw [nLA.out]; have ZA := hide (YA.out.app0 SA.out ownA4 hgA4); clear ownA4 hgA4 hbA4)
                go_meet
                exact ⟨_, _, rfl, ZA.out⟩
              · by_cases hcq : c1 = qA
                · have HDQ : Hid (∀ W, wr.grownBy W (some b) → RI W (some ⟨gq, 0, none⟩) rA) := hide (fun W hW => by have := HDPA.out W hW; rw [if_pos hcq, e1] at this; exact this)
                  subst e1
                  clear hLdA hLdiA
                  subst hcq
                  go_wp2_with (at_builtin; refine wpList_append_ints rfl (.tmp 48) (.tmp 51) rfl tA AA3 cA3 mA (by rw [mLA.out]; rfl) YA.out.1 (some ⟨gq, 0, none⟩) _ rA (by rw [rLA.out]; rfl) (HDQ.out _ YA.out.2.2.1) (by rw [mLA.out, rLA.out]; omega) YA.out.2.2.2.2 nA nEA.out ?_; intro AA4 cA4 wA4 ownA4 hgA4 hbA4; rw [nLA.out]; have ZA := hide (YA.out.app0 SA.out ownA4 hgA4); clear ownA4 hgA4 hbA4)
                  go_meet
                  exact ⟨_, _, rfl, ZA.out⟩
                · have hcqi : ¬ ((c1 : Int) = (qA : Int)) := by omega
                  have HDQ : Hid (∀ W, wr.grownBy W (some b) → RI W (some ⟨gq, qA, none⟩) rA) := hide (fun W hW => by have := HDPA.out W hW; rw [if_neg hcq, e1] at this; simpa [Addr.add_lit] using this)
                  subst e1
                  go_wp2_with (at_builtin; refine wpList_append_ints rfl (.tmp 48) (.tmp 51) rfl tA AA3 cA3 mA (by rw [mLA.out]; rfl) YA.out.1 (some ⟨gq, qA, none⟩) (c1 - qA) rA (by rw [rLA.out]; rfl) (HDQ.out _ YA.out.2.2.1) (by rw [mLA.out, rLA.out]; omega) YA.out.2.2.2.2 nA nEA.out ?_; intro AA4 cA4 wA4 ownA4 hgA4 hbA4; rw [nLA.out]; have ZA := hide (YA.out.app0 SA.out ownA4 hgA4); clear ownA4 hgA4 hbA4)
                  go_meet
                  exact ⟨_, _, rfl, ZA.out⟩
            case rest =>
              obtain ⟨wv, rfl⟩ : ∃ wv : World, wv = wc := ⟨_, rfl⟩
              obtain ⟨A9, c9, rfl, hnx⟩ := hcut
              have hzv := hnx.2.2.1.size
              have ownB := hide (hnx.1.mono (show b + 1 ≤ tA by omega))
              have SB := hide hnx.2.1
              have GB := hide (gr_trans GA.out hnx.2.2.1)
              have hzv1 := GB.out.size
              obtain ⟨M, hM⟩ : ∃ M, M = L + 1 := ⟨_, rfl⟩
              rw [← hM] at nLA ⊢
              have ME := nLA
              have HM := hide hM
              have hMb : M ≤ 20 := by omega
              clear hM
              have hLw2 : IntKind.i64.wrap ((M : Int) + 1) = (M : Int) + 1 := by rw [IntKind.wrap_i64]; omega
              clear hnx
              go_wp2_with fail
              refine (pickG_any b A c xs _ ((M : Int) + 1) _ SB.out (by omega) HX.out hn (by omega) (by omega)).mono ?_
              rintro e uB ⟨qB, rfl, hqB, sB1, gB1⟩
              have hqLB : qB ≤ M := by omega
              have hzB1 := gB1.size
              obtain ⟨pB, hpB⟩ : ∃ pB, pB = nA.take qB := ⟨_, rfl⟩
              obtain ⟨rB, hrB⟩ : ∃ rB, rB = nA.drop qB := ⟨_, rfl⟩
              have pLB : Hid (pB.length = qB) := hide (by rw [hpB, List.length_take, ME.out]; omega)
              have rLB : Hid (rB.length = M - qB) := hide (by rw [hrB, List.length_drop, ME.out])
              have pIB : Hid (∀ x ∈ pB, I64 x) := hide fun x hx => nAI.out x (List.mem_of_mem_take (hpB ▸ hx))
              have rIB : Hid (∀ x ∈ rB, I64 x) := hide fun x hx => nAI.out x (List.mem_of_mem_drop (hrB ▸ hx))
              have hcapB := ownB.out.cap
              have hLdB : M ≤ c9 := by rw [← ME.out]; exact hcapB.1
              have hdB : c9 ≤ 9223372036854775807 := by simpa [maxLen] using hcapB.2
              have OSHB : Hid ((A9 = none ∧ c9 = 0 ∧ M = 0) ∨ ∃ g, A9 = some ⟨g, 0, none⟩) := hide (by have := ownB.out.shape; rw [ME.out] at this; exact this)
              have HTKB : Hid (RI uB A9 pB) := hide (by rw [hpB]; exact (ownB.out.src gB1 (by omega)).rd.take_ qB)
              have HDPB : Hid (∀ W, wv.grownBy W (some b) → RI W (if c9 = qB then A9 else A9.map (·.add qB)) rB) := hide fun W hW => by rw [hrB]; exact (ownB.out.src hW (by omega)).rd.drop_ qB (by rw [ME.out]; exact hLdB)
              have HCPB := hide (l00Own_any A9 c9 pB uB HTKB.out (by rw [pLB.out]; omega))
              rw [pLB.out] at HCPB
              have hqiB : (qB : Int) ≤ (M : Int) := by omega
              have hqdB : (qB : Int) ≤ (c9 : Int) := by omega
              have hLdiB : (M : Int) ≤ (c9 : Int) := by omega
              have hqnB : qB ≤ c9 := by omega
              obtain ⟨mB, hmB⟩ : ∃ mB, mB = pB ++ [-(k : Int)] := ⟨_, rfl⟩
              have mEB := hide hmB
              have mLB : Hid (mB.length = qB + 1) := hide (by rw [hmB, List.length_append, pLB.out]; rfl)
              have mIB : Hid (∀ x ∈ mB, I64 x) := hide (by rw [hmB]; intro x hx; refine (List.mem_append.1 hx).elim (pIB.out x) (fun hx => ?_); simp at hx; unfold I64; omega)
              obtain ⟨nB, hnB⟩ : ∃ nB, nB = mB ++ rB := ⟨_, rfl⟩
              have nEB := hide hnB
              have nLB : Hid (nB.length = M + 1) := hide (by rw [hnB, List.length_append, mLB.out, rLB.out]; omega)
              have nBI : Hid (∀ x ∈ nB, I64 x) := hide (by rw [hnB]; intro x hx; exact (List.mem_append.1 hx).elim (mIB.out x) (rIB.out x))
              have UB := hide (And.intro sB1 gB1)
              clear hpB hrB hmB hnB hcapB sB1 gB1
              go_wp2_with fail
              refine HCPB.out.mono ?_
              rintro e vB ⟨AB2, cB2, rfl, ownB2, hbB2⟩
              rw [pLB.out]
              obtain ⟨tB, htB⟩ : ∃ tB, tB = uB.heap.size := ⟨_, rfl⟩
              rw [← htB] at ownB2
              have htBr : wv.heap.size ≤ tB := by omega
              have hzB2 := hbB2.size
              have XB : Hid (NX wv vB b A c xs _ tB AB2 cB2 pB) := hide ⟨ownB2, UB.out.1.below hbB2, gr_below UB.out.2 hbB2, htBr, by omega⟩
              clear ownB2 hbB2 HCPB HTKB
              go_upto_region 16 with (at_builtin; refine wpList_append_ints rfl (.tmp 61) (.tmp 64) rfl tB AB2 cB2 pB (by rw [pLB.out]; rfl) (XB.out.1.alloc _) (some ⟨vB.heap.size, 0, none⟩) 1 [-(k : Int)] rfl (OwnI.new (base := 0) vB [-(k : Int)] #[.int .i64 (-(k : Int))] rfl (Nat.zero_le _) (by simp [maxLen])).rd (by rw [pLB.out]; simp; omega) (by have := XB.out.2.2.2.2; simp; omega) mB mEB.out ?_; intro AB3 cB3 wB3 ownB3 hgB3 hbB3; rw [mLB.out]; have YB := hide (XB.out.app SB.out ownB3 hgB3); clear ownB3 hgB3 hbB3)
              rcases OSHB.out with ⟨e1, e2, e3⟩ | ⟨gq, e1⟩
              · exfalso; have := HM.out; omega
              · by_cases hcq : c9 = qB
                · have HDQ : Hid (∀ W, wv.grownBy W (some b) → RI W (some ⟨gq, 0, none⟩) rB) := hide (fun W hW => by have := HDPB.out W hW; rw [if_pos hcq, e1] at this; exact this)
                  subst e1
                  clear hLdB hLdiB
                  subst hcq
                  go_wp2_with (at_builtin; refine wpList_append_ints rfl (.tmp 66) (.tmp 69) rfl tB AB3 cB3 mB (by rw [mLB.out]; rfl) YB.out.1 (some ⟨gq, 0, none⟩) _ rB (by rw [rLB.out]; rfl) (HDQ.out _ YB.out.2.2.1) (by rw [mLB.out, rLB.out]; omega) YB.out.2.2.2.2 nB nEB.out ?_; intro AB4 cB4 wB4 ownB4 hgB4 hbB4; rw [nLB.out]; have ZB := hide (YB.out.app0 SB.out ownB4 hgB4); clear ownB4 hgB4 hbB4)
                  go_roundw
                  case rel => exact ⟨k + 1, _, _, nB, M + 1, by omega, by omega, by go_num, by first | rfl | simp, by have := HM.out; omega, nLB, nBI, ZB.out.1.mono (by omega), ZB.out.2.1.more (by omega), gr_trans GB.out ZB.out.2.2.1⟩
                  case measure => simp [intOf]; omega
                · have hcqi : ¬ ((c9 : Int) = (qB : Int)) := by omega
                  have HDQ : Hid (∀ W, wv.grownBy W (some b) → RI W (some ⟨gq, qB, none⟩) rB) := hide (fun W hW => by have := HDPB.out W hW; rw [if_neg hcq, e1] at this; simpa [Addr.add_lit] using this)
                  subst e1
                  go_wp2_with (at_builtin; refine wpList_append_ints rfl (.tmp 66) (.tmp 69) rfl tB AB3 cB3 mB (by rw [mLB.out]; rfl) YB.out.1 (some ⟨gq, qB, none⟩) (c9 - qB) rB (by rw [rLB.out]; rfl) (HDQ.out _ YB.out.2.2.1) (by rw [mLB.out, rLB.out]; omega) YB.out.2.2.2.2 nB nEB.out ?_; intro AB4 cB4 wB4 ownB4 hgB4 hbB4; rw [nLB.out]; have ZB := hide (YB.out.app0 SB.out ownB4 hgB4); clear ownB4 hgB4 hbB4)
                  go_roundw
                  case rel => exact ⟨k + 1, _, _, nB, M + 1, by omega, by omega, by go_num, by first | rfl | simp, by have := HM.out; omega, nLB, nBI, ZB.out.1.mono (by omega), ZB.out.2.1.more (by omega), gr_trans GB.out ZB.out.2.2.1⟩
                  case measure => simp [intOf]; omega
          · have hkn : ¬ (k : Int) ≤ (n : Int) := by omega
            have HF := hide (And.intro own hg)
            have HL := hide (show CodeB 64 300 [zs] from codeB_long (by omega) (by rw [LE.out]; omega) zsI.out)
            clear own hs hg
            go_wp2_with fail
            go_ret
            exact ⟨[zs], _, _, rfl, HL.out, by have := Dr.one HF.out.1 (by omega); rw [LE.out] at this; exact this.mono hbw', below_gr HB1.out (gr_below HF.out.2 ((Below.refl _ _).alloc (Nat.le_refl _) _)) hbw⟩
    · have HF := hide G3
      clear s3 s2 G2 g3 G3
      go_wp2_with fail
      go_ret
      exact ⟨code.take 1, B, d, by rw [List.length_take, ← NE.out, Nat.min_eq_left (by omega)]; rfl, HCB.out.take_ 1, (HD3.out.take_ 1).mono hbw', below_gr HB1.out HF.out hbw⟩
  · have h1I : ¬ (1 : Int) < (N : Int) := by omega
    have s3 := s2.more (show _ ≤ 0 + 410 + 1 by omega)
    have G3 := G2
    obtain ⟨w3, hw3⟩ : ∃ w3, w3 = w2 := ⟨_, rfl⟩
    have HD3 := HDR
    rw [← hw3] at HD3 s3 G3 ⊢
    clear s2 G2 hw3
    go_wp2_with fail
    refine (one_any b A c xs _ 2 w3 s3 (by omega) HX.out hn (by omega) (by omega)).mono ?_
    rintro e w4 ⟨v4, rfl, s4, g4⟩
    have G4 := gr_trans G3 g4; have HG4 := hide g4
    have hz4 := G4.size
    clear s3 g4 G3
    rcases v4 with _ | _
    · have HF := hide G4
      clear s4 G4
      go_wp2_with fail
      go_ret
      exact ⟨code, B, d, by rw [← NE.out]; rfl, HCB.out, (HD3.out.src HG4.out (by omega)).mono hbw', below_gr HB1.out HF.out hbw⟩
    · go_wp2_with fail
      refine (pick_any b A c xs _ 6 w4 s4 (by omega) HX.out hn (by omega) (by omega)).mono ?_
      rintro e w5 ⟨n0, rfl, hn0, hn1, s5, g5⟩
      obtain ⟨n, rfl⟩ : ∃ n : Nat, n0 = (n : Int) - 1 := ⟨(n0 + 1).toNat, by omega⟩
      have hn6 : n ≤ 6 := by omega
      have hwn1 : IntKind.i64.wrap (1 + ((n : Int) - 1)) = (n : Int) := by rw [IntKind.wrap_i64]; omega
      have G5 := gr_trans G4 g5
      have hz5 := G5.size
      have own0 : OwnI (w5.alloc (.cells #[] 2)) (b + 1) (some ⟨w5.heap.size, 0, none⟩) 0 [] := OwnI.empty w5 (by omega)
      have s6 := s5.alloc (.cells #[] 2)
      have G6 := gr_below G5 ((Below.refl w5.heap.size w5).alloc (Nat.le_refl _) (.cells #[] 2))
      clear s4 G4 s5 g5 G5 hn0 hn1
      go_wp2_with fail
      go_loopw [6, 7] (fun s6 s7 wr => ∃ (k : Nat) (A1 : Option Addr) (c1 : Nat) (zs : List Int) (L : Nat), 1 ≤ k ∧ k ≤ n + 1 ∧ s7 = .int .i64 (k : Int) ∧ s6 = .slice A1 L c1 ∧ L + 2 = 2 * k ∧ Hid (zs.length = L) ∧ Hid (∀ x ∈ zs, I64 x) ∧ OwnI wr (b + 1) A1 c1 zs ∧ Sr wr b A c xs (420 + 2 * k) ∧ w1.grownBy wr (some b)) (fun _ s7 _ => n + 1 - (intOf s7).toNat)
      case atStart => exact ⟨1, _, 0, [], 0, Nat.le_refl _, by omega, rfl, rfl, by omega, hide rfl, hide (by simp), own0, s6.more (by omega), G6⟩
      case round =>
        clear own0 s6 G6
        obtain ⟨k, A1, c1, zs, L, hk1, hk2, rfl, rfl, hzl, LE, zsI, own, hs, hg⟩ := hrel
        have hz := hg.size
        by_cases hlt : k ≤ n
        · have hkn : (k : Int) ≤ (n : Int) := by omega
          have hwn : IntKind.i64.wrap (-(k : Int)) = -(k : Int) := by rw [IntKind.wrap_i64]; omega
          have hwk : IntKind.i64.wrap ((k : Int) + 1) = (k : Int) + 1 := by rw [IntKind.wrap_i64]; omega
          have hLw : IntKind.i64.wrap ((L : Int) + 1) = (L : Int) + 1 := by rw [IntKind.wrap_i64]; omega
          have ownA := hide own
          have SA := hide hs
          have GA := hide hg
          clear own hs hg
          go_wp2_with fail
          refine (pickG_any b A c xs _ ((L : Int) + 1) _ SA.out (by omega) HX.out hn (by omega) (by omega)).mono ?_
          rintro e uA ⟨qA, rfl, hqA, sA1, gA1⟩
          have hqLA : qA ≤ L := by omega
          have hzA1 := gA1.size
          obtain ⟨pA, hpA⟩ : ∃ pA, pA = zs.take qA := ⟨_, rfl⟩
          obtain ⟨rA, hrA⟩ : ∃ rA, rA = zs.drop qA := ⟨_, rfl⟩
          have pLA : Hid (pA.length = qA) := hide (by rw [hpA, List.length_take, LE.out]; omega)
          have rLA : Hid (rA.length = L - qA) := hide (by rw [hrA, List.length_drop, LE.out])
          have pIA : Hid (∀ x ∈ pA, I64 x) := hide fun x hx => zsI.out x (List.mem_of_mem_take (hpA ▸ hx))
          have rIA : Hid (∀ x ∈ rA, I64 x) := hide fun x hx => zsI.out x (List.mem_of_mem_drop (hrA ▸ hx))
          have hcapA := ownA.out.cap
          have hLdA : L ≤ c1 := by rw [← LE.out]; exact hcapA.1
          have hdA : c1 ≤ 9223372036854775807 := by simpa [maxLen] using hcapA.2
          have OSHA : Hid ((A1 = none ∧ c1 = 0 ∧ L = 0) ∨ ∃ g, A1 = some ⟨g, 0, none⟩) := hide (by have := ownA.out.shape; rw [LE.out] at this; exact this)
          have HTKA : Hid (RI uA A1 pA) := hide (by rw [hpA]; exact (ownA.out.src gA1 (by omega)).rd.take_ qA)
          have HDPA : Hid (∀ W, wr.grownBy W (some b) → RI W (if c1 = qA then A1 else A1.map (·.add qA)) rA) := hide fun W hW => by rw [hrA]; exact (ownA.out.src hW (by omega)).rd.drop_ qA (by rw [LE.out]; exact hLdA)
          have HCPA := hide (l00Own_any A1 c1 pA uA HTKA.out (by rw [pLA.out]; omega))
          rw [pLA.out] at HCPA
          have hqiA : (qA : Int) ≤ (L : Int) := by omega
          have hqdA : (qA : Int) ≤ (c1 : Int) := by omega
          have hLdiA : (L : Int) ≤ (c1 : Int) := by omega
          have hqnA : qA ≤ c1 := by omega
          obtain ⟨mA, hmA⟩ : ∃ mA, mA = pA ++ [(k : Int)] := ⟨_, rfl⟩
          have mEA := hide hmA
          have mLA : Hid (mA.length = qA + 1) := hide (by rw [hmA, List.length_append, pLA.out]; rfl)
          have mIA : Hid (∀ x ∈ mA, I64 x) := hide (by rw [hmA]; intro x hx; refine (List.mem_append.1 hx).elim (pIA.out x) (fun hx => ?_); simp at hx; unfold I64; omega)
          obtain ⟨nA, hnA⟩ : ∃ nA, nA = mA ++ rA := ⟨_, rfl⟩
          have nEA := hide hnA
          have nLA : Hid (nA.length = L + 1) := hide (by rw [hnA, List.length_append, mLA.out, rLA.out]; omega)
          have nAI : Hid (∀ x ∈ nA, I64 x) := hide (by rw [hnA]; intro x hx; exact (List.mem_append.1 hx).elim (mIA.out x) (rIA.out x))
          have UA := hide (And.intro sA1 gA1)
          clear hpA hrA hmA hnA hcapA sA1 gA1
          go_wp2_with fail
          refine HCPA.out.mono ?_
          rintro e vA ⟨AA2, cA2, rfl, ownA2, hbA2⟩
          rw [pLA.out]
          obtain ⟨tA, htA⟩ : ∃ tA, tA = uA.heap.size := ⟨_, rfl⟩
          rw [← htA] at ownA2
          have htAr : wr.heap.size ≤ tA := by omega
          have hzA2 := hbA2.size
          have XA : Hid (NX wr vA b A c xs _ tA AA2 cA2 pA) := hide ⟨ownA2, UA.out.1.below hbA2, gr_below UA.out.2 hbA2, htAr, by omega⟩
          clear ownA2 hbA2 HCPA HTKA
          go_upto_region 13 with (at_builtin; refine wpList_append_ints rfl (.tmp 44) (.tmp 46) rfl tA AA2 cA2 pA (by rw [pLA.out]; rfl) (XA.out.1.alloc _) (some ⟨vA.heap.size, 0, none⟩) 1 [(k : Int)] rfl (OwnI.new (base := 0) vA [(k : Int)] #[.int .i64 ((k : Int))] rfl (Nat.zero_le _) (by simp [maxLen])).rd (by rw [pLA.out]; simp; omega) (by have := XA.out.2.2.2.2; simp; omega) mA mEA.out ?_; intro AA3 cA3 wA3 ownA3 hgA3 hbA3; rw [mLA.out]; have YA := hide (XA.out.app SA.out ownA3 hgA3); clear ownA3 hgA3 hbA3)
          go_cut [6] (fun s6 wx => ∃ A9 c9, s6 = .slice A9 (L + 1) c9 ∧ NX wr wx b A c xs (420 + 2 * k + 1) tA A9 c9 nA)
          case first =>
            rcases OSHA.out with ⟨e1, e2, e3⟩ | ⟨gq, e1⟩
            · have hq0 : qA = 0 := by omega
              have hL0 : L = 0 := by omega
              have HDQ : Hid (∀ W, wr.grownBy W (some b) → RI W none rA) := hide (fun W _ => by rw [List.eq_nil_of_length_eq_zero (show rA.length = 0 by rw [rLA.out]; omega)]; exact Rd.nil W none)
              subst e1 e2 hq0 hL0
              go_wp2_with (at_builtin; refine wpList_append_ints rfl (.tmp 48) (.tmp 51) rfl tA AA3 cA3 mA (by rw [mLA.out]; rfl) YA.out.1 none 0 rA (by rw [rLA.out]; rfl) (HDQ.out _ YA.out.2.2.1) (by rw [mLA.out, rLA.out]; omega) YA.out.2.2.2.2 nA nEA.out ?_; intro AA4 cA4 wA4 ownA4 hgA4 hbA4; rw [nLA.out]; have ZA := hide (YA.out.app0 SA.out ownA4 hgA4); clear ownA4 hgA4 hbA4)
              go_meet
              exact ⟨_, _, rfl, ZA.out⟩
            · by_cases hcq : c1 = qA
              · have HDQ : Hid (∀ W, wr.grownBy W (some b) → RI W (some ⟨gq, 0, none⟩) rA) := hide (fun W hW => by have := HDPA.out W hW; rw [if_pos hcq, e1] at this; exact this)
                subst e1
                clear hLdA hLdiA
                subst hcq
                go_wp2_with (at_builtin; refine wpList_append_ints rfl (.tmp 48) (.tmp 51) rfl tA AA3 cA3 mA (by rw [mLA.out]; rfl) YA.out.1 (some ⟨gq, 0, none⟩) _ rA (by rw [rLA.out]; rfl) (HDQ.out _ YA.out.2.2.1) (by rw [mLA.out, rLA.out]; omega) YA.out.2.2.2.2 nA nEA.out ?_; intro AA4 cA4 wA4 ownA4 hgA4 hbA4; rw [nLA.out]; have ZA := hide (YA.out.app0 SA.out ownA4 hgA4); clear ownA4 hgA4 hbA4)
                go_meet
                exact ⟨_, _, rfl, ZA.out⟩
              · have hcqi : ¬ ((c1 : Int) = (qA : Int)) := by omega
                have HDQ : Hid (∀ W, wr.grownBy W (some b) → RI W (some ⟨gq, qA, none⟩) rA) := hide (fun W hW => by have := HDPA.out W hW; rw [if_neg hcq, e1] at this; simpa [Addr.add_lit] using this)
                subst e1
                go_wp2_with (at_builtin; refine wpList_append_ints rfl (.tmp 48) (.tmp 51) rfl tA AA3 cA3 mA (by rw [mLA.out]; rfl) YA.out.1 (some ⟨gq, qA, none⟩) (c1 - qA) rA (by rw [rLA.out]; rfl) (HDQ.out _ YA.out.2.2.1) (by rw [mLA.out, rLA.out]; omega) YA.out.2.2.2.2 nA nEA.out ?_; intro AA4 cA4 wA4 ownA4 hgA4 hbA4; rw [nLA.out]; have ZA := hide (YA.out.app0 SA.out ownA4 hgA4); clear ownA4 hgA4 hbA4)
                go_meet
                exact ⟨_, _, rfl, ZA.out⟩
          case rest =>
            obtain ⟨wv, rfl⟩ : ∃ wv : World, wv = wc := ⟨_, rfl⟩
            obtain ⟨A9, c9, rfl, hnx⟩ := hcut
            have hzv := hnx.2.2.1.size
            have ownB := hide (hnx.1.mono (show b + 1 ≤ tA by omega))
            have SB := hide hnx.2.1
            have GB := hide (gr_trans GA.out hnx.2.2.1)
            have hzv1 := GB.out.size
            obtain ⟨M, hM⟩ : ∃ M, M = L + 1 := ⟨_, rfl⟩
            rw [← hM] at nLA ⊢
            have ME := nLA
            have HM := hide hM
            have hMb : M ≤ 20 := by omega
            clear hM
            have hLw2 : IntKind.i64.wrap ((M : Int) + 1) = (M : Int) + 1 := by rw [IntKind.wrap_i64]; omega
            clear hnx
            go_wp2_with fail
            refine (pickG_any b A c xs _ ((M : Int) + 1) _ SB.out (by omega) HX.out hn (by omega) (by omega)).mono ?_
            rintro e uB ⟨qB, rfl, hqB, sB1, gB1⟩
            have hqLB : qB ≤ M := by omega
            have hzB1 := gB1.size
            obtain ⟨pB, hpB⟩ : ∃ pB, pB = nA.take qB := ⟨_, rfl⟩
            obtain ⟨rB, hrB⟩ : ∃ rB, rB = nA.drop qB := ⟨_, rfl⟩
            have pLB : Hid (pB.length = qB) := hide (by rw [hpB, List.length_take, ME.out]; omega)
            have rLB : Hid (rB.length = M - qB) := hide (by rw [hrB, List.length_drop, ME.out])
            have pIB : Hid (∀ x ∈ pB, I64 x) := hide fun x hx => nAI.out x (List.mem_of_mem_take (hpB ▸ hx))
            have rIB : Hid (∀ x ∈ rB, I64 x) := hide fun x hx => nAI.out x (List.mem_of_mem_drop (hrB ▸ hx))
            have hcapB := ownB.out.cap
            have hLdB : M ≤ c9 := by rw [← ME.out]; exact hcapB.1
            have hdB : c9 ≤ 9223372036854775807 := by simpa [maxLen] using hcapB.2
            have OSHB : Hid ((A9 = none ∧ c9 = 0 ∧ M = 0) ∨ ∃ g, A9 = some ⟨g, 0, none⟩) := hide (by have := ownB.out.shape; rw [ME.out] at this; exact this)
            have HTKB : Hid (RI uB A9 pB) := hide (by rw [hpB]; exact (ownB.out.src gB1 (by omega)).rd.take_ qB)
            have HDPB : Hid (∀ W, wv.grownBy W (some b) → RI W (if c9 = qB then A9 else A9.map (·.add qB)) rB) := hide fun W hW => by rw [hrB]; exact (ownB.out.src hW (by omega)).rd.drop_ qB (by rw [ME.out]; exact hLdB)
            have HCPB := hide (l00Own_any A9 c9 pB uB HTKB.out (by rw [pLB.out]; omega))
            rw [pLB.out] at HCPB
            have hqiB : (qB : Int) ≤ (M : Int) := by omega
            have hqdB : (qB : Int) ≤ (c9 : Int) := by omega
            have hLdiB : (M : Int) ≤ (c9 : Int) := by omega
            have hqnB : qB ≤ c9 := by omega
            obtain ⟨mB, hmB⟩ : ∃ mB, mB = pB ++ [-(k : Int)] := ⟨_, rfl⟩
            have mEB := hide hmB
            have mLB : Hid (mB.length = qB + 1) := hide (by rw [hmB, List.length_append, pLB.out]; rfl)
            have mIB : Hid (∀ x ∈ mB, I64 x) := hide (by rw [hmB]; intro x hx; refine (List.mem_append.1 hx).elim (pIB.out x) (fun hx => ?_); simp at hx; unfold I64; omega)
            obtain ⟨nB, hnB⟩ : ∃ nB, nB = mB ++ rB := ⟨_, rfl⟩
            have nEB := hide hnB
            have nLB : Hid (nB.length = M + 1) := hide (by rw [hnB, List.length_append, mLB.out, rLB.out]; omega)
            have nBI : Hid (∀ x ∈ nB, I64 x) := hide (by rw [hnB]; intro x hx; exact (List.mem_append.1 hx).elim (mIB.out x) (rIB.out x))
            have UB := hide (And.intro sB1 gB1)
            clear hpB hrB hmB hnB hcapB sB1 gB1
            go_wp2_with fail
            refine HCPB.out.mono ?_
            rintro e vB ⟨AB2, cB2, rfl, ownB2, hbB2⟩
            rw [pLB.out]
            obtain ⟨tB, htB⟩ : ∃ tB, tB = uB.heap.size := ⟨_, rfl⟩
            rw [← htB] at ownB2
            have htBr : wv.heap.size ≤ tB := by omega
            have hzB2 := hbB2.size
            have XB : Hid (NX wv vB b A c xs _ tB AB2 cB2 pB) := hide ⟨ownB2, UB.out.1.below hbB2, gr_below UB.out.2 hbB2, htBr, by omega⟩
            clear ownB2 hbB2 HCPB HTKB
            go_upto_region 16 with (at_builtin; refine wpList_append_ints rfl (.tmp 61) (.tmp 64) rfl tB AB2 cB2 pB (by rw [pLB.out]; rfl) (XB.out.1.alloc _) (some ⟨vB.heap.size, 0, none⟩) 1 [-(k : Int)] rfl (OwnI.new (base := 0) vB [-(k : Int)] #[.int .i64 (-(k : Int))] rfl (Nat.zero_le _) (by simp [maxLen])).rd (by rw [pLB.out]; simp; omega) (by have := XB.out.2.2.2.2; simp; omega) mB mEB.out ?_; intro AB3 cB3 wB3 ownB3 hgB3 hbB3; rw [mLB.out]; have YB := hide (XB.out.app SB.out ownB3 hgB3); clear ownB3 hgB3 hbB3)
            rcases OSHB.out with ⟨e1, e2, e3⟩ | ⟨gq, e1⟩
            · exfalso; have := HM.out; omega
            · by_cases hcq : c9 = qB
              · have HDQ : Hid (∀ W, wv.grownBy W (some b) → RI W (some ⟨gq, 0, none⟩) rB) := hide (fun W hW => by have := HDPB.out W hW; rw [if_pos hcq, e1] at this; exact this)
                subst e1
                clear hLdB hLdiB
                subst hcq
                go_wp2_with (at_builtin; refine wpList_append_ints rfl (.tmp 66) (.tmp 69) rfl tB AB3 cB3 mB (by rw [mLB.out]; rfl) YB.out.1 (some ⟨gq, 0, none⟩) _ rB (by rw [rLB.out]; rfl) (HDQ.out _ YB.out.2.2.1) (by rw [mLB.out, rLB.out]; omega) YB.out.2.2.2.2 nB nEB.out ?_; intro AB4 cB4 wB4 ownB4 hgB4 hbB4; rw [nLB.out]; have ZB := hide (YB.out.app0 SB.out ownB4 hgB4); clear ownB4 hgB4 hbB4)
                go_roundw
                case rel => exact ⟨k + 1, _, _, nB, M + 1, by omega, by omega, by go_num, by first | rfl | simp, by have := HM.out; omega, nLB, nBI, ZB.out.1.mono (by omega), ZB.out.2.1.more (by omega), gr_trans GB.out ZB.out.2.2.1⟩
                case measure => simp [intOf]; omega
              · have hcqi : ¬ ((c9 : Int) = (qB : Int)) := by omega
                have HDQ : Hid (∀ W, wv.grownBy W (some b) → RI W (some ⟨gq, qB, none⟩) rB) := hide (fun W hW => by have := HDPB.out W hW; rw [if_neg hcq, e1] at this; simpa [Addr.add_lit] using this)
                subst e1
                go_wp2_with (at_builtin; refine wpList_append_ints rfl (.tmp 66) (.tmp 69) rfl tB AB3 cB3 mB (by rw [mLB.out]; rfl) YB.out.1 (some ⟨gq, qB, none⟩) (c9 - qB) rB (by rw [rLB.out]; rfl) (HDQ.out _ YB.out.2.2.1) (by rw [mLB.out, rLB.out]; omega) YB.out.2.2.2.2 nB nEB.out ?_; intro AB4 cB4 wB4 ownB4 hgB4 hbB4; rw [nLB.out]; have ZB := hide (YB.out.app0 SB.out ownB4 hgB4); clear ownB4 hgB4 hbB4)
                go_roundw
                case rel => exact ⟨k + 1, _, _, nB, M + 1, by omega, by omega, by go_num, by first | rfl | simp, by have := HM.out; omega, nLB, nBI, ZB.out.1.mono (by omega), ZB.out.2.1.more (by omega), gr_trans GB.out ZB.out.2.2.1⟩
                case measure => simp [intOf]; omega
        · have hkn : ¬ (k : Int) ≤ (n : Int) := by omega
          have HF := hide (And.intro own hg)
          have HL := hide (show CodeB 64 300 [zs] from codeB_long (by omega) (by rw [LE.out]; omega) zsI.out)
          clear own hs hg
          go_wp2_with fail
          go_ret
          exact ⟨[zs], _, _, rfl, HL.out, by have := Dr.one HF.out.1 (by omega); rw [LE.out] at this; exact this.mono hbw', below_gr HB1.out (gr_below HF.out.2 ((Below.refl _ _).alloc (Nat.le_refl _) _)) hbw⟩
end Go.Proofs.Ytnjojnnapdhijaa
