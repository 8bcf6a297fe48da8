/-
  Contracts: a code that is seldom none, with the index of a curve. Conditions: the numbers of bytes and of choices are far below the machine's.
-/
import Derived.Test.YtnjojnnapdhijaaBentL
import Derived.Test.YtnjojnnapdhijaaSrc
import Derived.Deep.RegionLaw
namespace Go.Proofs.Ytnjojnnapdhijaa
open Go.RowKit
set_option linter.unusedVariables false

theorem codeB_long {n m : Nat} {l : List Int} (hn : 1 ≤ n) (h1 : l.length ≤ m) (h2 : ∀ x ∈ l, I64 x) : CodeB n m [l] :=
  ⟨by simpa using hn, fun r hr => by rw [List.mem_singleton.1 hr]; exact ⟨h1, h2⟩⟩
/-- a code of one row of its own -/
theorem Dr.one {w : World} {base : Nat} {B : Option Addr} {d : Nat} {l : List Int} (h : OwnI w base B d l) (hb : base ≤ w.heap.size) : Dr (w.alloc (.cells #[.slice B l.length d] 34)) base (some ⟨w.heap.size, 0, none⟩) 1 [l] := by
  have h' := h.alloc (.cells #[.slice B l.length d] 34)
  have hcap := h.cap
  refine ⟨[⟨B, l.length, d⟩], RG.fresh (E := hdE) w _ rfl ⟨B, l.length, d⟩ #[.slice B l.length d] rfl _, fun g hg _ => ?_, rfl, by simp, fun i hd xs e1 e2 => ?_⟩
  · have e9 : g = w.heap.size := by simp [blk] at hg; exact hg.symm
    rw [World.size_alloc]
    omega
  · rcases i with _ | i
    · simp at e1 e2
      subst e1 e2
      exact ⟨rfl, hcap.1, by simpa [maxLen] using hcap.2, h'.rd, fun g hg _ => h'.ge hg⟩
    · simp at e1
set_option maxRecDepth 40000 in
set_option maxHeartbeats 16000000 in
theorem l14Bent_any (b : Nat) (A : Option Addr) (c : Nat) (xs : List Int) (K : Nat) (w : World) (h : Sr w b A c xs K) (hK : K ≤ 80000) (hx : ∀ x ∈ xs, 0 ≤ x ∧ x ≤ 255) (hn : xs.length ≤ 1048576) :
    Calls Try.prog 124 #[.pointer (some ⟨b, 0, none⟩)] w (RetDv w b A c xs (K + 450) 64 300) := by
  have hb0 := h.lt
  have H0 := hide h
  have HX := hide hx
  have HD := hide (l14Draw_any b A c xs K w h (by omega) hx hn)
  clear h hx
  go_enter Try.func124, Try.ntmps124
  go_wp2_with fail
  refine HD.out.mono ?_
  rintro e w1 ⟨code, B, d, rfl, hcb, own1, s1, g1⟩
  have hz1 := g1.size
  have HCB := hide (hcb.mono (Nat.le_refl 64) (show 64 ≤ 300 by omega))
  have hcl := hcb.1
  have HCB0 := hide hcb
  obtain ⟨N, hN⟩ : ∃ N, N = code.length := ⟨_, rfl⟩
  have HN := hide hN
  rw [← hN] at hcl ⊢
  clear hN hcb HD
  go_wp2_with fail
  refine (one_any b A c xs _ 24 _ s1 (by omega) HX.out hn (by omega) (by omega)).mono ?_
  rintro e w2 ⟨v, rfl, s2, g2⟩
  have hz2 := g2.size
  have own2 := (own1.src g2 hb0 (Nat.le_refl _)).mono (Nat.le_refl _) g2.size
  have G2 := gr_trans g1 g2
  clear own1 s1 g1 g2
  rcases v with _ | _
  · by_cases hN0 : N = 0
    · have hNi : (N : Int) = 0 := by omega
      have HF := hide (And.intro own2 (And.intro s2 G2))
      clear own2 s2 G2
      go_wp2_with fail
      go_ret
      exact ⟨code, B, d, by rw [← HN.out, hN0]; rfl, HCB.out, HF.out.1.dr (Nat.le_refl _), HF.out.2.1.more (by omega), HF.out.2.2⟩
    · have hNi : ¬ ((N : Int) = 0) := by omega
      go_wp2_with fail
      refine (pickG_any b A c xs _ (N : Int) _ s2 (by omega) HX.out hn (by omega) (by omega)).mono ?_
      rintro e w3 ⟨p, rfl, hp, s3, g3⟩
      have own3 := (own2.src g3 hb0 (Nat.le_refl _)).mono (Nat.le_refl _) g3.size
      have G3 := gr_trans G2 g3
      have hz3 := g3.size
      have hpN : p < N := by omega
      have hpc : p < code.length := by rw [← HN.out]; exact hpN
      obtain ⟨g, B4, d4, ys, rfl, hgT, hgs, hys, hc3, oR, hBT, RS⟩ := own3.rowSrc (Nat.le_refl _) (b := b) hb0 hpc
      have hyb := HCB.out.2 ys (List.mem_of_getElem? hys)
      have HYB := hide hyb
      have HRS := hide RS
      obtain ⟨L, hL⟩ : ∃ L, L = ys.length := ⟨_, rfl⟩
      have HL := hide hL
      have HO3 := hide (And.intro own3 oR)
      have hLl : L ≤ 64 := by rw [hL]; exact (HCB0.out.2 ys (List.mem_of_getElem? hys)).1
      clear own2 s2 G2 g3 own3 hyb hys RS hL oR hc3
      go_wp2_with fail
      refine (pickG_any b A c xs _ 16 _ s3 (by omega) HX.out hn (by omega) (by omega)).mono ?_
      rintro e w4 ⟨v, rfl, hv, s4, g4⟩
      have hz4 := g4.size
      have R4 := HRS.out w4 g4
      have G4 := gr_trans G3 g4
      clear s3 G3
      have HDN := hide (And.intro ((HO3.out.1.src g4 hb0 (Nat.le_refl _)).dr hz4) (And.intro s4 G4))
      obtain ⟨o4, c4, f4, _, _⟩ := R4
      rw [← HL.out] at c4
      by_cases h0 : v = 0
      · subst h0
        have HS4 := hide s4.drew
        have HO4 := hide (And.intro g4 G4)
        have hc4d : w4.drew.cell? ⟨g, p, none⟩ = some (.slice B4 L d4) := c4
        have hg4 : g < w4.drew.heap.size := (by show g < w4.heap.size; omega)
        clear o4 s4 G4 g4 c4 f4
        go_wp2_with fail
        go_region_law (first
          | (go_simp; go_at_call 54; refine (pick_any b A c xs _ 7 _ HS4.out (by omega) HX.out hn (by omega) (by omega)).mono ?_; rintro e w5 ⟨x, rfl, hx0, hx6, s5, g5⟩; have hz5 : w4.heap.size ≤ w5.heap.size := g5.size; have hg5 : g < w5.heap.size := (by omega); have GG5 := hide (gr_trans (gr_draw HO4.out.2) g5); have R5 := HRS.out w5 (gr_trans (gr_draw HO4.out.1) g5); have o5 := hide R5.1; have c5 := R5.2.1; have push := hide R5.2.2.2.2; rw [← HL.out] at c5; have hxw : IntKind.i64.wrap (x - 3) = x - 3 := (by rw [IntKind.wrap_i64]; omega); have S5 := hide s5; obtain ⟨ps2, hps2⟩ : ∃ ps2, ps2 = ys ++ [x - 3] := ⟨_, rfl⟩; have HP2 := hide hps2; have hxI : I64 (x - 3) := (by unfold I64; omega); have HXI := hide hxI; clear R5 s5 g5 hps2 hxI)
          | (refine step_append_row intE rfl (.tmp 35) (.tmp 39) rfl w.heap.size B4 d4 ys (by rw [← HL.out]; rfl) (by rw [intE_own]; exact o5.out.alloc _) (some ⟨w5.heap.size, 0, none⟩) 1 [x - 3] rfl (RG.fresh (E := intE) _ _ rfl _ #[.int .i64 (x - 3)] rfl _) (by rw [← HL.out]; simp; omega) (by rw [← HL.out]; simp [intE]; omega) (by simp; omega) ps2 HP2.out ?_; intro A6 c6 w6 own6 hg6 hb6; rw [intE_own] at own6; have q0 := push.out _ w6 A6 c6 ps2 hg6 own6 hb6; have q1 := q0.1; have q2 := q0.2.1; rw [← HL.out] at q1; have HQ := hide (And.intro q0.2.2 (And.intro (((S5.out.alloc _).grownOld H0.out (fun q hq => (hBT q hq).1) (Nat.le_refl _) hg6).far (p := ⟨g, p, none⟩) (show b ≠ g by omega) (fun h1 e => by have := H0.out.row_lt h1 e; simp at this; omega) (.slice A6 ps2.length c6)) (gr_new (gr_own (gr_below GG5.out ((Below.refl _ _).alloc (Nat.le_refl _) _)) (fun q hq => (hBT q hq).1) (Nat.le_refl _) hg6) (p := ⟨g, p, none⟩) (show w.heap.size ≤ g by omega) (.slice A6 ps2.length c6)))); clear q0 own6 hg6 hb6))
        all_goals
          go_wp2_with fail
          go_ret
          exact ⟨code.set p ps2, _, d, by rw [List.length_set, ← HN.out]; rfl, HCB.out.set (by rw [HP2.out, List.length_append, ← HL.out]; simp; omega) (fun y hy => by
            rw [HP2.out] at hy
            rcases List.mem_append.1 hy with h | h
            · exact HYB.out.2 y h
            · rw [List.mem_singleton.1 h]; exact HXI.out), HQ.out.1.dr (by rw [World.size_setCell]; exact Nat.le_refl _), HQ.out.2.1.more (by omega), HQ.out.2.2⟩
      · by_cases h1 : v = 1
        · subst h1
          by_cases hL0 : 0 < L
          · have hLi : (0 : Int) < (L : Int) := by omega
            obtain ⟨gB, x0, hB4, hgBb, hgBs, hx0', hcB, hfB, _⟩ := o4.at_ (k := 0) (by rw [← HL.out]; exact hL0)
            subst hB4
            have hg4 : g < w4.drew.heap.size := (by show g < w4.heap.size; omega)
            have hg4n : g < w4.heap.size := by omega
            have hcBd : w4.drew.cell? ⟨g, p, none⟩ = some (.slice (some ⟨gB, 0, none⟩) L d4) := c4
            have HO4 := hide (And.intro g4 (And.intro G4 (s4.drew.alloc (.cells #[.int .i64 0, .int .i64 1, .int .i64 (-1), .int .i64 99, .int .i64 (-9223372036854775808)] 2))))
            have HNEW := hide (OwnI.new (base := 0) w4.drew [0, 1, -1, 99, -9223372036854775808] #[.int .i64 0, .int .i64 1, .int .i64 (-1), .int .i64 99, .int .i64 (-9223372036854775808)] rfl (Nat.zero_le _) (by simp [maxLen])).rd
            have hlb4 := s4.lt
            clear o4 s4 G4 g4 f4 hx0' hcB hfB
            go_wp2_with fail
            go_region_law
              (first
                | (go_simp; go_at_call 103; refine (among_any b A c xs _ (some ⟨w4.heap.size, 0, none⟩) 5 [0, 1, -1, 99, -9223372036854775808] _ HO4.out.2.2 (by omega) HX.out hn HNEW.out (fun q hq => by simp [blk] at hq; omega) (by simp) (by simp)).mono ?_; rintro e w5 ⟨x, rfl, hxm, s5, g5⟩; have hz5 : w4.heap.size ≤ w5.heap.size := (by have := g5.size; rw [World.size_alloc] at this; exact Nat.le_trans (Nat.le_succ _) this); have hg5 : g < w5.heap.size := (by omega); have GW5 := gr_trans (gr_below (gr_draw HO4.out.1) ((Below.refl _ _).alloc (Nat.le_refl _) _)) g5; have GG5 := gr_trans (gr_below (gr_draw HO4.out.2.1) ((Below.refl _ _).alloc (Nat.le_refl _) _)) g5; have R5 := HRS.out w5 GW5; have c5 := R5.2.1; rw [← HL.out] at c5; have hHH := R5.1.at_ (k := 0) (by rw [← HL.out]; exact hL0); obtain ⟨gC, y0, hgC, _, _, _, hcC, hfC, hstC⟩ := hHH; have hgC2 : gC = gB := (by injection hgC with h; injection h with h; exact h.symm); subst hgC2; have HR5 := hide R5; have HG5 := hide (And.intro GG5 s5); have HXM := hide hxm; have HST := hide hstC; clear R5 GW5 GG5 s5 g5 hxm hgC hstC)
                | fail)
            all_goals
              have hxI : I64 x := by
                have hxm := HXM.out
                simp at hxm
                rcases hxm with rfl | rfl | rfl | rfl | rfl <;> (unfold I64; omega)
              have HXI := hide hxI
              have HF := hide (And.intro (HR5.out.2.2.2.1 _ (ys.set 0 x) (by simp) (HST.out x).1 (HST.out x).2) (And.intro (HG5.out.2.far (p := ⟨gC, 0, none⟩) (show b ≠ gC by omega) (fun h1 e => by have := H0.out.row_lt h1 e; simp at this; omega) (.int .i64 x)) (gr_new HG5.out.1 (p := ⟨gC, 0, none⟩) (show w.heap.size ≤ gC by omega) (.int .i64 x))))
              clear hxI
              go_wp2_with fail
              go_ret
              exact ⟨code.set p (ys.set 0 x), _, d, by rw [List.length_set, ← HN.out]; rfl, HCB.out.set (by rw [List.length_set]; exact HYB.out.1) (fun y hy => by
                rcases List.mem_or_eq_of_mem_set hy with h | h
                · exact HYB.out.2 y h
                · rw [h]; exact HXI.out), HF.out.1.dr (by rw [World.size_setCell]; omega), HF.out.2.1.more (by omega), HF.out.2.2⟩
          · have hLi : ¬ ((0 : Int) < (L : Int)) := by omega
            clear o4 f4 s4 G4 g4
            go_wp2_with fail
            go_ret
            exact ⟨code, _, d, by rw [← HN.out]; rfl, HCB.out, HDN.out.1, HDN.out.2.1.more (by omega), HDN.out.2.2⟩
        · by_cases h2 : v = 2
          · subst h2
            clear o4 c4 f4
            go_wp2_with fail
            refine (pick_any b A c xs _ 2 _ s4 (by omega) HX.out hn (by omega) (by omega)).mono ?_
            rintro e w5 ⟨x, rfl, hx0, hx1, s5, g5⟩
            obtain ⟨n, hnn⟩ : ∃ n : Nat, 120 + x = (n : Int) := ⟨(120 + x).toNat, by omega⟩
            have hw120 : IntKind.i64.wrap (120 + x) = (n : Int) := by rw [IntKind.wrap_i64]; omega
            have hn121 : n ≤ 121 := by omega
            have hz5 := g5.size
            have own0 := OwnI.empty_ w5 (base := w.heap.size) w5.heap.size rfl (by omega)
            have s6 := s5.alloc (.cells #[] 2)
            have G6 := gr_below (gr_trans G4 g5) ((Below.refl w5.heap.size w5).alloc (Nat.le_refl _) (.cells #[] 2))
            clear s4 G4 g4 s5 g5 hnn hx0 hx1 HDN HRS HO3
            go_wp2_with fail
            go_loopw [7, 8] (fun s7 s8 wr => ∃ (k : Nat) (A1 : Option Addr) (c1 : Nat) (zs : List Int), 1 ≤ k ∧ k ≤ n + 1 ∧ s8 = .int .i64 (k : Int) ∧ s7 = .slice A1 zs.length c1 ∧ zs.length + 2 = 2 * k ∧ Hid (∀ x ∈ zs, -200 ≤ x ∧ x ≤ 200) ∧ OwnI wr w.heap.size A1 c1 zs ∧ Sr wr b A c xs (K + 420) ∧ w.grownBy wr (some b)) (fun _ s8 _ => n + 1 - (intOf s8).toNat)
            case atStart => exact ⟨1, _, 0, [], Nat.le_refl _, by omega, rfl, rfl, by simp, hide (by simp), own0, s6.more (by omega), G6⟩
            case round =>
              clear own0 s6 G6
              obtain ⟨k, A1, c1, zs, hk1, hk2, rfl, rfl, hzl, hzb, own, hs, hg⟩ := hrel
              have hz := hg.size
              have hB9 : ∀ g, blk A1 = some g → w.heap.size ≤ g := fun g hg => (own.ge hg).1
              by_cases hlt : k ≤ n
              · have hkn : (k : Int) ≤ (n : Int) := by omega
                have hwn : IntKind.i64.wrap (-(k : Int)) = -(k : Int) := by rw [IntKind.wrap_i64]; omega
                have HZB : Hid (∀ x ∈ zs ++ [(k : Int), -(k : Int)], -200 ≤ x ∧ x ≤ 200) := hide fun x hx => by
                  rcases List.mem_append.1 hx with hx | hx
                  · exact hzb.out x hx
                  · simp at hx; omega
                go_wp2_with (at_builtin; refine wpList_append_ints rfl (.tmp 69) (.tmp 73) rfl w.heap.size A1 c1 zs rfl (own.alloc _) (some ⟨wr.heap.size, 0, none⟩) 2 [(k : Int), -(k : Int)] rfl (OwnI.new (base := 0) wr [(k : Int), -(k : Int)] #[.int .i64 (k : Int), .int .i64 (-(k : Int))] rfl (Nat.zero_le _) (by simp [maxLen])).rd (by simp; omega) (by simp; omega) (zs ++ [(k : Int), -(k : Int)]) rfl ?_; intro A3 c3 w3 own3 hg3 hb3)
                go_roundw
                case rel => exact ⟨k + 1, A3, c3, _, by omega, by omega, by go_num, (by simp; omega), (by simp only [List.length_append, List.length_cons, List.length_nil]; omega), HZB, own3, (hs.alloc _).grownOld H0.out hB9 (Nat.le_refl _) hg3, gr_own (gr_below hg ((Below.refl _ _).alloc (Nat.le_refl _) _)) hB9 (Nat.le_refl _) hg3⟩
                case measure => simp [intOf]; omega
              · have hkn : ¬ ((k : Int) ≤ (n : Int)) := by omega
                have HF := hide (And.intro (Dr.one own (by omega)) (And.intro (hs.alloc (.cells #[.slice A1 zs.length c1] 34)) (gr_below hg ((Below.refl _ _).alloc (Nat.le_refl _) (.cells #[.slice A1 zs.length c1] 34)))))
                clear own hs hg hB9
                go_wp2_with fail
                go_ret
                exact ⟨[zs], _, 1, rfl, codeB_long (by omega) (by omega) (fun x hx => by have := hzb.out x hx; unfold I64; omega), HF.out.1, HF.out.2.1.more (by omega), HF.out.2.2⟩
          · have e0 : (((v : Nat) : Int) == 0) = false := by simp; omega
            have e1 : (((v : Nat) : Int) == 1) = false := by simp; omega
            have e2 : (((v : Nat) : Int) == 2) = false := by simp; omega
            clear o4 c4 f4 s4 G4 g4
            go_wp2_with fail
            go_ret
            exact ⟨code, _, d, by rw [← HN.out]; rfl, HCB.out, HDN.out.1, HDN.out.2.1.more (by omega), HDN.out.2.2⟩
  · have own3 := own2
    clear own3 own2
    go_wp2_with fail
    refine (pick_any b A c xs _ 2 _ s2 (by omega) HX.out hn (by omega) (by omega)).mono ?_
    rintro e w3 ⟨x, rfl, hx0, hx1, s3, g3⟩
    obtain ⟨n, hnn⟩ : ∃ n : Nat, 40 + x = (n : Int) := ⟨(40 + x).toNat, by omega⟩
    have hw40 : IntKind.i64.wrap (40 + x) = (n : Int) := by rw [IntKind.wrap_i64]; omega
    have hn64 : n ≤ 64 := by omega
    have hz3 := g3.size
    have hmk := fun W : World => run_make_hd n (by omega) W
    have hown : OwnC (w3.alloc (.cells (madeCells hdE.z.cells (n * hdE.size)) 34)) w3.heap.size (w3.heap.size + 1) (some ⟨w3.heap.size, 0, none⟩) n (List.replicate n []) := OwnC.made w3 _ rfl (Nat.le_refl _) (by omega)
    have HF := hide (And.intro ((hown.dr (by simp)).mono (show w.heap.size ≤ w3.heap.size by omega)) (And.intro (s3.alloc (.cells (madeCells hdE.z.cells (n * hdE.size)) 34)) (gr_below (gr_trans G2 g3) ((Below.refl _ _).alloc (Nat.le_refl _) (.cells (madeCells hdE.z.cells (n * hdE.size)) 34)))))
    clear hown s3 g3 G2 s2 hnn hx0 hx1
    go_wp2_with fail
    go_ret
    exact ⟨List.replicate n [], _, n, by simp, ⟨by simpa using hn64, fun r hr => by rw [(List.mem_replicate.1 hr).2]; exact ⟨by simp, fun x hx => nomatch hx⟩⟩, HF.out.1, HF.out.2.1.more (by omega), HF.out.2.2⟩
end Go.Proofs.Ytnjojnnapdhijaa
