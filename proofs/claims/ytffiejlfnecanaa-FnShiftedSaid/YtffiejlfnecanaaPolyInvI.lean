/-
  Contract: InversePoly of the program. Conditions: none beyond the lengths.
-/
import Derived.Test.YtffiejlfnecanaaPolyRev
import Derived.Deep.DeepCutAuto
import Derived.Deep.RegionHeld3
namespace Go.Proofs.Ytffiejlfnecanaa
open Go.RowKit
set_option linter.unusedVariables false

set_option maxRecDepth 20000 in
set_option maxHeartbeats 4000000 in
theorem implInversePoly_any (l0 : Int) (A0 : Option Addr) (c0 : Nat) (xs0 : List Int) (w : World) (h0 : RI w A0 xs0) (n0 : xs0.length ≤ 1048576) (k0 : xs0.length ≤ c0 ∧ c0 ≤ 9223372036854775807) :
    Calls Try.prog 16 #[.agg #[.int .i64 l0, .slice A0 xs0.length c0]] w (RetPC w (invPR l0 xs0).1 (invPR l0 xs0).2.1 (invPR l0 xs0).2.2) := by
  cases v0 : vldP l0 xs0
  · have HF := hide (show invPR l0 xs0 = (0, [], 1) by unfold invPR; rw [if_neg (by rw [v0]; simp)])
    go_enter Try.func16, Try.ntmps16
    go_wp2_with fail
    refine (implValidPoly_any l0 A0 c0 xs0 _ (((h0).alloc (.cells #[.int .i64 l0, .slice A0 xs0.length c0] 26)).alloc (.cells #[.int .i64 0, .slice none 0 0] 26)) n0).mono ?_
    rintro e w1 ⟨rfl, hb1⟩
    have r0_1 := (((h0).alloc (.cells #[.int .i64 l0, .slice A0 xs0.length c0] 26)).alloc (.cells #[.int .i64 0, .slice none 0 0] 26)).below hb1
    have p0_1 := ((Bx.new_ w (w.heap.size) 26 #[.int .i64 l0, .slice A0 xs0.length c0] (by simp)).alloc (.cells #[.int .i64 0, .slice none 0 0] 26)).below hb1
    obtain ⟨p0a_1, p0b_1⟩ := (p0_1).two
    have p2_1 := (Bx.new_ (w.alloc (.cells #[.int .i64 l0, .slice A0 xs0.length c0] 26)) (w.heap.size + 1) 26 #[.int .i64 0, .slice none 0 0] (by simp)).below hb1
    obtain ⟨p2a_1, p2b_1⟩ := (p2_1).two
    have p2f0_1 := (p2_1).frozen 0
    have p2f1_1 := (p2_1).frozen 1
    have z_1 : ((w.alloc (.cells #[.int .i64 l0, .slice A0 xs0.length c0] 26)).alloc (.cells #[.int .i64 0, .slice none 0 0] 26)).heap.size ≤ w1.heap.size := hb1.size
    simp only [World.size_alloc] at z_1
    have B_1 := (((Below.refl w.heap.size w).alloc (by first | omega | (simp; omega) | simp) (.cells #[.int .i64 l0, .slice A0 xs0.length c0] 26)).alloc (by first | omega | (simp; omega) | simp) (.cells #[.int .i64 0, .slice none 0 0] 26)).trans (hb1.mono (by first | omega | (simp; omega) | simp))
    go_wp2_with fail
    refine bodyPost_ret (v := .tuple #[.agg #[.int .i64 0, .slice none 0 0], .int .i64 1]) (by simp [results, Try.results16, go_sem, p2a_1, p2b_1]) rfl ?_
    rw [HF.out]
    exact ⟨none, 0, rfl, OwnI.nil _ _, (B_1.setCell (by first | omega | (simp; omega) | simp) _).setCell (by first | omega | (simp; omega) | simp) _⟩
  · obtain ⟨ba, bb, bc, _⟩ := vldP_bounds v0
    by_cases hz : xs0.length = 0
    · have HF := hide (invPR_none hz v0)
      have hz' : ((xs0.length : Int) == 0) = true := by rw [beq_iff_eq]; omega
      clear hz
      go_enter Try.func16, Try.ntmps16
      go_wp2_with fail
      refine (implValidPoly_any l0 A0 c0 xs0 _ (((h0).alloc (.cells #[.int .i64 l0, .slice A0 xs0.length c0] 26)).alloc (.cells #[.int .i64 0, .slice none 0 0] 26)) n0).mono ?_
      rintro e w1 ⟨rfl, hb1⟩
      have r0_1 := (((h0).alloc (.cells #[.int .i64 l0, .slice A0 xs0.length c0] 26)).alloc (.cells #[.int .i64 0, .slice none 0 0] 26)).below hb1
      have p0_1 := ((Bx.new_ w (w.heap.size) 26 #[.int .i64 l0, .slice A0 xs0.length c0] (by simp)).alloc (.cells #[.int .i64 0, .slice none 0 0] 26)).below hb1
      obtain ⟨p0a_1, p0b_1⟩ := (p0_1).two
      have p2_1 := (Bx.new_ (w.alloc (.cells #[.int .i64 l0, .slice A0 xs0.length c0] 26)) (w.heap.size + 1) 26 #[.int .i64 0, .slice none 0 0] (by simp)).below hb1
      obtain ⟨p2a_1, p2b_1⟩ := (p2_1).two
      have p2f0_1 := (p2_1).frozen 0
      have p2f1_1 := (p2_1).frozen 1
      have z_1 : ((w.alloc (.cells #[.int .i64 l0, .slice A0 xs0.length c0] 26)).alloc (.cells #[.int .i64 0, .slice none 0 0] 26)).heap.size ≤ w1.heap.size := hb1.size
      simp only [World.size_alloc] at z_1
      have B_1 := (((Below.refl w.heap.size w).alloc (by first | omega | (simp; omega) | simp) (.cells #[.int .i64 l0, .slice A0 xs0.length c0] 26)).alloc (by first | omega | (simp; omega) | simp) (.cells #[.int .i64 0, .slice none 0 0] 26)).trans (hb1.mono (by first | omega | (simp; omega) | simp))
      go_wp2_with fail
      refine bodyPost_ret (v := .tuple #[.agg #[.int .i64 0, .slice none 0 0], .int .i64 0]) (by simp [results, Try.results16, go_sem, p2a_1, p2b_1]) rfl ?_
      rw [HF.out]
      exact ⟨none, 0, rfl, OwnI.nil _ _, (B_1.setCell (by first | omega | (simp; omega) | simp) _).setCell (by first | omega | (simp; omega) | simp) _⟩
    · have HF := hide (invPR_some (by omega) v0)
      have hz' : ((xs0.length : Int) == 0) = false := by rw [beq_eq_false_iff_ne]; omega
      obtain ⟨LL, hLL⟩ : ∃ LL, LL = -(l0 + (xs0.length : Int) - 1) := ⟨_, rfl⟩
      have hLL' := hide hLL
      rw [← hLL] at HF
      have hlb : -10000 ≤ LL ∧ LL ≤ 10000 := by omega
      have hw : IntKind.i64.wrap (-IntKind.i64.wrap (IntKind.i64.wrap (l0 + (xs0.length : Int)) - 1)) = LL := by
        rw [IntKind.wrap_i64, IntKind.wrap_i64, IntKind.wrap_i64]
        omega
      clear hLL
      go_enter Try.func16, Try.ntmps16
      go_wp2_with fail
      refine (implValidPoly_any l0 A0 c0 xs0 _ (((h0).alloc (.cells #[.int .i64 l0, .slice A0 xs0.length c0] 26)).alloc (.cells #[.int .i64 0, .slice none 0 0] 26)) n0).mono ?_
      rintro e w1 ⟨rfl, hb1⟩
      have r0_1 := (((h0).alloc (.cells #[.int .i64 l0, .slice A0 xs0.length c0] 26)).alloc (.cells #[.int .i64 0, .slice none 0 0] 26)).below hb1
      have p0_1 := ((Bx.new_ w (w.heap.size) 26 #[.int .i64 l0, .slice A0 xs0.length c0] (by simp)).alloc (.cells #[.int .i64 0, .slice none 0 0] 26)).below hb1
      obtain ⟨p0a_1, p0b_1⟩ := (p0_1).two
      have p2_1 := (Bx.new_ (w.alloc (.cells #[.int .i64 l0, .slice A0 xs0.length c0] 26)) (w.heap.size + 1) 26 #[.int .i64 0, .slice none 0 0] (by simp)).below hb1
      obtain ⟨p2a_1, p2b_1⟩ := (p2_1).two
      have p2f0_1 := (p2_1).frozen 0
      have p2f1_1 := (p2_1).frozen 1
      have z_1 : ((w.alloc (.cells #[.int .i64 l0, .slice A0 xs0.length c0] 26)).alloc (.cells #[.int .i64 0, .slice none 0 0] 26)).heap.size ≤ w1.heap.size := hb1.size
      simp only [World.size_alloc] at z_1
      have B_1 := (((Below.refl w.heap.size w).alloc (by first | omega | (simp; omega) | simp) (.cells #[.int .i64 l0, .slice A0 xs0.length c0] 26)).alloc (by first | omega | (simp; omega) | simp) (.cells #[.int .i64 0, .slice none 0 0] 26)).trans (hb1.mono (by first | omega | (simp; omega) | simp))
      go_upto_region 5 with fail
      go_cut [4] (fun s4 wx => ∃ (G : Nat) (A : Option Addr) (c : Nat), s4 = .pointer (some ⟨G, 0, none⟩) ∧ w1.heap.size ≤ G ∧ OwnI wx w1.heap.size A c xs0 ∧ Bx wx G 26 #[.int .i64 LL, .slice A xs0.length c] ∧ Below w1.heap.size w1 wx)
      case first =>
        have BS : Below w1.heap.size w1 w1.drew := (Below.refl _ _).drew
        have keepS : Hid (∀ W, Below w1.heap.size w1 W → (fun w' : World => w'.cell? ⟨w.heap.size, 0, none⟩ = some (.int .i64 l0) ∧ w'.cell? ⟨w.heap.size, 1, none⟩ = some (.slice A0 xs0.length c0)) W) := hide fun W hW => (p0_1.below hW).two
        go_region_held3 (fun w' => w'.cell? ⟨w.heap.size, 0, none⟩ = some (.int .i64 l0) ∧ w'.cell? ⟨w.heap.size, 1, none⟩ = some (.slice A0 xs0.length c0)) (exact keepS.out _ (by first | exact B2 | exact B2.alloc (Below.size B2) _ | exact BS | exact BS.alloc (Below.size BS) _ | exact (B2.setCell (Below.size BS) _).setCell (Below.size BS) _ | exact (B2.setCell (Nat.le_refl _) _).setCell (Nat.le_refl _) _ | exact ((B2.alloc (Below.size B2) _).setCell (Below.size B2) _).setCell (Below.size B2) _))
          (first | (go_at_call 34; refine (slicesClone_any _ _ xs0 _ (r0_1.below (by first | exact BS | exact BS.alloc (Below.size BS) _)) (by omega)).mono ?_; rintro e w2 ⟨A2, c2, rfl, ho2, hb2⟩; have B2 : Below w1.heap.size w1 w2 := Below.trans (by first | exact BS | exact BS.alloc (Below.size BS) _) (hb2.mono (by first | exact (Below.size BS) | exact (BS.alloc (Below.size BS) _).size)); (try (have box2 := (Bx.new _ _ _).below hb2; (try simp only [World.size_drew] at box2); obtain ⟨ba2, bb2⟩ := box2.two; have bf2 := box2.frozen 0; have bg2 := box2.frozen 1)); (try (have box2 := ((Bx.new _ _ _).drew).below hb2; obtain ⟨ba2, bb2⟩ := box2.two; have bf2 := box2.frozen 0; have bg2 := box2.frozen 1))))
        all_goals go_wp2_with fail
        all_goals go_meet
        all_goals first
          | exact ⟨_, _, _, rfl, Below.size B2, (ho2.mono (by first | exact (Below.size BS) | exact (BS.alloc (Below.size BS) _).size)).alloc _, Bx.new _ _ _, B2.alloc (Below.size B2) _⟩
          | exact ⟨_, _, _, rfl, Nat.le_refl _, ((ho2.setLow (by simp) _).setLow (by simp) _).mono (by simp), (box2.set_ 0 _).set_ 1 _, (B2.setCell (Nat.le_refl _) _).setCell (Nat.le_refl _) _⟩
      case rest =>
        obtain ⟨G, A, c, rfl, hG, own, p4, hb2⟩ := hcut
        obtain ⟨w2, rfl⟩ : ∃ w2 : World, w2 = wc := ⟨_, rfl⟩
        have r0_2 := (r0_1).below hb2
        have p0_2 := (p0_1).below hb2
        obtain ⟨p0a_2, p0b_2⟩ := (p0_2).two
        have p2_2 := (p2_1).below hb2
        obtain ⟨p2a_2, p2b_2⟩ := (p2_2).two
        have p2f0_2 := (p2_2).frozen 0
        have p2f1_2 := (p2_2).frozen 1
        have z_2 : w1.heap.size ≤ w2.heap.size := hb2.size
        have B_2 := (B_1).trans (hb2.mono (by first | omega | (simp; omega) | simp))
        obtain ⟨p4a, p4b⟩ := p4.two
        go_wp2_with fail
        refine (slicesReverse_any A c w1.heap.size xs0 _ own n0 z_2).mono ?_
        rintro e w3 ⟨rfl, ho, hg⟩
        have p2_3 := p2_2.grownOwn own (by decide) hg
        have p4_3 := p4.grownOwn own (by decide) hg
        have B_3 := below_mark B_2 own hg (by omega) (by omega)
        obtain ⟨p2a_3, p2b_3⟩ := p2_3.two
        have p2f0_3 := p2_3.frozen 0
        have p2f1_3 := p2_3.frozen 1
        obtain ⟨Y, hY⟩ : ∃ Y, xs0.reverse = Y := ⟨_, rfl⟩
        have hYl : xs0.length = Y.length := by rw [← hY, List.length_reverse]
        rw [hY] at ho HF
        rw [hYl] at p4_3
        have hl2 : Y.length ≤ 1048576 := by omega
        obtain ⟨p4a_3, p4b_3⟩ := p4_3.two
        have z_3 := hg.size
        have hHF := HF.out
        clear hYl hY p4 p4a p4b HF
        have hB := B_3
        have p2 := p2_3
        obtain ⟨p2a_x1, p2b_x1⟩ := (p2).two
        have p2f0_x1 := (p2).frozen 0
        have p2f1_x1 := (p2).frozen 1
        cases v3 : vldP LL Y
        · have HR := hide (hHF.trans (resP_no (p := (LL, Y)) v3))
          go_wp2_with fail
          refine (polyResult_no LL A c Y _ ho.rd hl2 v3).mono ?_
          rintro e w9 ⟨rfl, hb9⟩
          have p2_9 := (p2).below hb9
          obtain ⟨p2a_9, p2b_9⟩ := (p2_9).two
          have p2f0_9 := (p2_9).frozen 0
          have p2f1_9 := (p2_9).frozen 1
          have z_9 : w3.heap.size ≤ w9.heap.size := hb9.size
          have B_9 := (hB).trans (hb9.mono (by first | omega | (simp; omega) | simp))
          go_wp2_with fail
          refine bodyPost_ret (v := .tuple #[.agg #[.int .i64 0, .slice none 0 0], .int .i64 5]) (by simp [results, Try.results16, go_sem, p2a_9, p2b_9]) rfl ?_
          rw [HR.out]
          exact ⟨none, 0, rfl, OwnI.nil _ _, (B_9.setCell (by first | omega | (simp; omega) | simp) _).setCell (by first | omega | (simp; omega) | simp) _⟩
        · have HR := hide (hHF.trans (resP_yes (p := (LL, Y)) v3))
          go_wp2_with fail
          refine (polyResult_yes LL A c Y _ ho.rd hl2 v3).mono ?_
          rintro e w9 ⟨rfl, hb9⟩
          have p2_9 := (p2).below hb9
          obtain ⟨p2a_9, p2b_9⟩ := (p2_9).two
          have p2f0_9 := (p2_9).frozen 0
          have p2f1_9 := (p2_9).frozen 1
          have ho_9 := (ho).below hb9
          have z_9 : w3.heap.size ≤ w9.heap.size := hb9.size
          have B_9 := (hB).trans (hb9.mono (by first | omega | (simp; omega) | simp))
          go_wp2_with fail
          refine bodyPost_ret (v := .tuple #[.agg #[.int .i64 LL, .slice A Y.length c], .int .i64 0]) (by simp [results, Try.results16, go_sem, p2a_9, p2b_9]) rfl ?_
          rw [HR.out]
          exact ⟨A, c, rfl, ((ho_9.setLow (by first | omega | (simp; omega) | simp) _).setLow (by first | omega | (simp; omega) | simp) _).mono (by first | omega | (simp; omega) | simp), (B_9.setCell (by first | omega | (simp; omega) | simp) _).setCell (by first | omega | (simp; omega) | simp) _⟩
end Go.Proofs.Ytffiejlfnecanaa
