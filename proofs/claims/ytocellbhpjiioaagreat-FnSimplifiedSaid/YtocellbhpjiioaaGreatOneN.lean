/-
  Contract: a move drawn for a list that is no code. Conditions: the numbers of bytes and of choices are far below the machine's.
-/
import Derived.Test.YtocellbhpjiioaaGreatDrawD
import Derived.Test.YtocellbhpjiioaaGreatApply
namespace Go.Proofs.YtocellbhpjiioaaGreat
open Go.RowKit
set_option linter.unusedVariables false

/-- a move that is drawn -/
def RetMv (w : World) (b : Nat) (A : Option Addr) (c : Nat) (xs : List Int) (K : Nat) (e : Ending) (w' : World) : Prop :=
  ∃ x y z : Int, e = .returned (.agg #[.int .i64 x, .int .i64 y, .int .i64 z]) ∧ Sr w' b A c xs K ∧ w.grownBy w' (some b)
theorem Bx.grownNe_ {w w' : World} {b0 b : Nat} {t : TypeId} {cs : Array Value} (h : Bx w b0 t cs) (hg : w.grownBy w' (some b)) (hb : b0 ≠ b) : Bx w' b0 t cs := (hg.block b0 h.lt (fun e => by injection e with e; exact hb e)).trans h
set_option maxRecDepth 40000 in
set_option maxHeartbeats 16000000 in
theorem l16One_no (b : Nat) (A : Option Addr) (c : Nat) (xs : List Int) (K : Nat) (B : Option Addr) (d : Nat) (code : List (List Int)) (w : World) (h : Sr w b A c xs K) (hK : K ≤ 80000) (hx : ∀ x ∈ xs, 0 ≤ x ∧ x ≤ 255) (hn : xs.length ≤ 1048576) (hd : Dr w (b + 1) B d code) (hcb : code.length + sumLen code ≤ 1048576) (hv : validC code = false) :
    Calls Tryz.prog 33 #[.pointer (some ⟨b, 0, none⟩), .slice B code.length d] w (RetMv w b A c xs (K + 10)) := by
  have hb0 := h.lt
  have H0 := hide h
  have HX := hide hx
  have r0 : Bx (w.alloc (.cells #[.int .i64 0, .int .i64 0, .int .i64 0] 46)) w.heap.size 46 #[.int .i64 0, .int .i64 0, .int .i64 0] := Bx.new _ _ _
  have s0 := h.alloc (.cells #[.int .i64 0, .int .i64 0, .int .i64 0] 46)
  have G0 : w.grownBy (w.alloc (.cells #[.int .i64 0, .int .i64 0, .int .i64 0] 46)) (some b) := gr_below (gr_refl _ _) ((Below.refl _ _).alloc (Nat.le_refl _) _)
  have d0 := hd.alloc (.cells #[.int .i64 0, .int .i64 0, .int .i64 0] 46)
  have HOK := hide (l14Ok_any B d _ code _ d0.rc hcb)
  rw [hv] at HOK
  have HS := hide (And.intro r0 (And.intro s0 (And.intro G0 d0)))
  clear h hx hd r0 s0 G0 d0
  go_enter Tryz.func33, Tryz.ntmps33
  go_wp2_with fail
  refine HOK.out.mono ?_
  rintro e w1 ⟨rfl, hb1⟩
  have r1 := HS.out.1.below hb1
  have s1 := HS.out.2.1.below hb1
  have G1 := gr_below HS.out.2.2.1 hb1
  have d1 := HS.out.2.2.2.below hb1
  have hz1 := r1.lt
  have rT := r1
  have sT := s1
  have gT := G1
  clear r1 s1 G1 d1 hb1 HOK HS hv
  have RT := hide (And.intro rT (And.intro sT gT))
  clear rT sT gT
  go_wp2_with fail
  refine (pick_any b A c xs _ 2 _ RT.out.2.1 (by omega) HX.out hn (by omega) (by omega)).mono ?_
  rintro e w5 ⟨x1, rfl, hx10, hx11, s5, g5⟩
  have r5 := RT.out.1.grownNe_ g5 (by omega)
  have G5 := gr_trans RT.out.2.2 g5
  have hx1w : IntKind.i64.wrap (1 + x1) = 1 + x1 := by rw [IntKind.wrap_i64]; omega
  clear g5
  go_wp2_with fail
  refine (pick_any b A c xs _ 5 _ s5 (by omega) HX.out hn (by omega) (by omega)).mono ?_
  rintro e w6 ⟨x2, rfl, hx20, hx21, s6, g6⟩
  have hz6 := (r5.grownNe_ g6 (by omega)).lt
  have r6 := (r5.grownNe_ g6 (by omega)).alloc (.cells #[.int .i64 (1 + x1), .int .i64 x2, .int .i64 0] 46)
  have m6 : Bx (w6.alloc (.cells #[.int .i64 (1 + x1), .int .i64 x2, .int .i64 0] 46)) w6.heap.size 46 #[.int .i64 (1 + x1), .int .i64 x2, .int .i64 0] := Bx.new _ _ _
  have S6 := s6.alloc (.cells #[.int .i64 (1 + x1), .int .i64 x2, .int .i64 0] 46)
  have hb6 := s6.lt
  have G6 := gr_below (gr_trans G5 g6) ((Below.refl _ _).alloc (Nat.le_refl _) (.cells #[.int .i64 (1 + x1), .int .i64 x2, .int .i64 0] 46))
  clear s5 s6 g6 G5 r5
  obtain ⟨k0, hk0⟩ : ∃ k0, k0 = 1 + x1 := ⟨_, rfl⟩
  have hk0b : 1 ≤ k0 ∧ k0 ≤ 2 := by omega
  by_cases hx2 : k0 = 2
  · have hkb : ((1 + x1 : Int) == 2) = true := by rw [← hk0, hx2]; rfl
    have QQ := hide (And.intro r6 (And.intro m6 (And.intro S6 G6)))
    obtain ⟨ma, mb_, mc⟩ := m6.three
    have HD := hide (And.intro QQ.out.1.drew (And.intro QQ.out.2.1.drew (And.intro QQ.out.2.2.1.drew (gr_draw QQ.out.2.2.2))))
    have hpc := m6.drew.three
    clear hk0 hx2 r6 m6 S6 G6
    go_upto_region 7 with fail
    obtain ⟨pa, pb, pc⟩ := hpc
    go_region_with
      (first
        | (go_at_call 32; refine (pick_any b A c xs _ 4 _ HD.out.2.2.1 (by omega) HX.out hn (by omega) (by omega)).mono ?_; rintro e w7 ⟨x7, rfl, h70, h71, s7, g7⟩; have R7 := hide (And.intro (HD.out.1.grownNe_ g7 (by omega)) (And.intro (HD.out.2.1.grownNe_ g7 (by omega)) (And.intro s7 (gr_trans HD.out.2.2.2 g7)))); have hx27 : IntKind.i64.wrap (x2 + x7) = x2 + x7 := (by rw [IntKind.wrap_i64]; omega); obtain ⟨na, nb, nc⟩ := R7.out.2.1.three; have nf := R7.out.2.1.frozen 2; have hz7 := R7.out.2.1.lt; clear s7 g7)
        | fail)
    all_goals
      have mM := R7.out.2.1.set_ 2 (.int .i64 (x2 + x7))
      have rM := R7.out.1.far (p := ⟨w6.heap.size, 2, none⟩) (show w.heap.size ≠ w6.heap.size by omega) (.int .i64 (x2 + x7))
      have sM := R7.out.2.2.1.far (p := ⟨w6.heap.size, 2, none⟩) (show b ≠ w6.heap.size by omega) (fun h1 e => by have := H0.out.row_lt h1 e; simp at this; omega) (.int .i64 (x2 + x7))
      have gM := gr_new R7.out.2.2.2 (p := ⟨w6.heap.size, 2, none⟩) (show w.heap.size ≤ w6.heap.size by omega) (.int .i64 (x2 + x7))
      clear pa pb pc na nb nc nf ma mb_ mc QQ HD R7
      have QM := hide (And.intro rM (And.intro mM (And.intro sM gM)))
      clear rM mM sM gM
      go_wp2_with fail
      refine (pick_any b A c xs _ 12 _ QM.out.2.2.1 (by omega) HX.out hn (by omega) (by omega)).mono ?_
      rintro e w8 ⟨x8, rfl, h80, h81, s8, g8⟩
      have r8 := QM.out.1.grownNe_ g8 (by omega)
      have m8 := QM.out.2.1.grownNe_ g8 (by omega)
      have G8 := gr_trans QM.out.2.2.2 g8
      have hz8 := m8.lt
      clear g8
      by_cases h0 : x8 = 0
      · subst h0
        clear h80 h81
        go_wp2_with fail
        refine (pick_any b A c xs _ 5 _ s8 (by omega) HX.out hn (by omega) (by omega)).mono ?_
        rintro e w9 ⟨x9, rfl, h90, h91, s9, g9⟩
        have r9 := r8.grownNe_ g9 (by omega)
        have m9 := m8.grownNe_ g9 (by omega)
        have G9 := gr_trans G8 g9
        have hx9w : IntKind.i64.wrap (x9 - 1) = x9 - 1 := by rw [IntKind.wrap_i64]; omega
        clear s8 g9 r8 m8 G8
        have mF := m9.set_ 0 (.int .i64 (x9 - 1))
        have rF := r9.far (p := ⟨w6.heap.size, 0, none⟩) (show w.heap.size ≠ w6.heap.size by omega) (.int .i64 (x9 - 1))
        have sF := s9.far (p := ⟨w6.heap.size, 0, none⟩) (show b ≠ w6.heap.size by omega) (fun h1 e => by have := H0.out.row_lt h1 e; simp at this; omega) (.int .i64 (x9 - 1))
        have gF := gr_new G9 (p := ⟨w6.heap.size, 0, none⟩) (show w.heap.size ≤ w6.heap.size by omega) (.int .i64 (x9 - 1))
        have mf9 := m9.frozen 0
        obtain ⟨na, nb, nc⟩ := m9.three
        clear m9 r9 s9 G9
        obtain ⟨ma, mb_, mc⟩ := mF.three
        obtain ⟨ra, rb, rc⟩ := rF.three
        have f0 := rF.frozen 0
        have f1 := (rF.set_ 0 (.int .i64 (x9 - 1))).frozen 1
        have f2 := ((rF.set_ 0 (.int .i64 (x9 - 1))).set_ 1 (.int .i64 x2)).frozen 2
        obtain ⟨q0, q1, q2⟩ := (((rF.set_ 0 (.int .i64 (x9 - 1))).set_ 1 (.int .i64 x2)).set_ 2 (.int .i64 (x2 + x7))).three
        have HF := hide (And.intro (sr_far3 (b := w.heap.size) (o0 := 0) (o1 := 1) (o2 := 2) (u0 := .int .i64 (x9 - 1)) (u1 := .int .i64 x2) (u2 := .int .i64 (x2 + x7)) sF (by omega) (fun h0 e => by have := H0.out.row_lt h0 e; omega)) (gr_new3 (b := w.heap.size) (o0 := 0) (o1 := 1) (o2 := 2) (u0 := .int .i64 (x9 - 1)) (u1 := .int .i64 x2) (u2 := .int .i64 (x2 + x7)) gF (Nat.le_refl _)))
        clear mF rF sF gF
        go_wp2_with fail
        refine bodyPost_ret (v := .agg #[.int .i64 (x9 - 1), .int .i64 x2, .int .i64 (x2 + x7)]) (by simp [results, Tryz.results33, go_sem, q0, q1, q2]) rfl ?_
        exact ⟨(x9 - 1), x2, (x2 + x7), rfl, HF.out.1.more (by omega), HF.out.2⟩
      · by_cases h1 : x8 = 1
        · subst h1
          clear h80 h81
          have S8 := hide (s8.alloc (.cells #[.int .i64 (-1), .int .i64 119, .int .i64 120] 2))
          have HNEW := hide (OwnI.new (base := 0) w8 [-1, 119, 120] #[.int .i64 (-1), .int .i64 119, .int .i64 120] rfl (Nat.zero_le _) (by simp [maxLen])).rd
          have hlt8 := S8.out.lt
          have r8' := r8.alloc (.cells #[.int .i64 (-1), .int .i64 119, .int .i64 120] 2)
          have m8' := m8.alloc (.cells #[.int .i64 (-1), .int .i64 119, .int .i64 120] 2)
          have G8' := gr_below G8 ((Below.refl _ _).alloc (Nat.le_refl _) (.cells #[.int .i64 (-1), .int .i64 119, .int .i64 120] 2))
          have hb8 := s8.lt
          clear s8 r8 m8 G8
          go_wp2_with fail
          refine (among_any b A c xs _ (some ⟨w8.heap.size, 0, none⟩) 3 [-1, 119, 120] _ S8.out (by omega) HX.out hn HNEW.out (fun q hq => by simp [blk] at hq; omega) (by simp) (by simp)).mono ?_
          rintro e w9 ⟨x9, rfl, hxm, s9, g9⟩
          have r9 := r8'.grownNe_ g9 (by omega)
          have m9 := m8'.grownNe_ g9 (by omega)
          have G9 := gr_trans G8' g9
          clear hxm g9 r8' m8' G8'
          have mF := m9.set_ 1 (.int .i64 x9)
          have rF := r9.far (p := ⟨w6.heap.size, 1, none⟩) (show w.heap.size ≠ w6.heap.size by omega) (.int .i64 x9)
          have sF := s9.far (p := ⟨w6.heap.size, 1, none⟩) (show b ≠ w6.heap.size by omega) (fun h1 e => by have := H0.out.row_lt h1 e; simp at this; omega) (.int .i64 x9)
          have gF := gr_new G9 (p := ⟨w6.heap.size, 1, none⟩) (show w.heap.size ≤ w6.heap.size by omega) (.int .i64 x9)
          have mf9 := m9.frozen 1
          obtain ⟨na, nb, nc⟩ := m9.three
          clear m9 r9 s9 G9
          obtain ⟨ma, mb_, mc⟩ := mF.three
          obtain ⟨ra, rb, rc⟩ := rF.three
          have f0 := rF.frozen 0
          have f1 := (rF.set_ 0 (.int .i64 (1 + x1))).frozen 1
          have f2 := ((rF.set_ 0 (.int .i64 (1 + x1))).set_ 1 (.int .i64 x9)).frozen 2
          obtain ⟨q0, q1, q2⟩ := (((rF.set_ 0 (.int .i64 (1 + x1))).set_ 1 (.int .i64 x9)).set_ 2 (.int .i64 (x2 + x7))).three
          have HF := hide (And.intro (sr_far3 (b := w.heap.size) (o0 := 0) (o1 := 1) (o2 := 2) (u0 := .int .i64 (1 + x1)) (u1 := .int .i64 x9) (u2 := .int .i64 (x2 + x7)) sF (by omega) (fun h0 e => by have := H0.out.row_lt h0 e; omega)) (gr_new3 (b := w.heap.size) (o0 := 0) (o1 := 1) (o2 := 2) (u0 := .int .i64 (1 + x1)) (u1 := .int .i64 x9) (u2 := .int .i64 (x2 + x7)) gF (Nat.le_refl _)))
          clear mF rF sF gF
          go_wp2_with fail
          refine bodyPost_ret (v := .agg #[.int .i64 (1 + x1), .int .i64 x9, .int .i64 (x2 + x7)]) (by simp [results, Tryz.results33, go_sem, q0, q1, q2]) rfl ?_
          exact ⟨(1 + x1), x9, (x2 + x7), rfl, HF.out.1.more (by omega), HF.out.2⟩
        · by_cases h2 : x8 = 2
          · subst h2
            clear h80 h81
            have S8 := hide (s8.alloc (.cells #[.int .i64 (-1), .int .i64 119, .int .i64 120] 2))
            have HNEW := hide (OwnI.new (base := 0) w8 [-1, 119, 120] #[.int .i64 (-1), .int .i64 119, .int .i64 120] rfl (Nat.zero_le _) (by simp [maxLen])).rd
            have hlt8 := S8.out.lt
            have r8' := r8.alloc (.cells #[.int .i64 (-1), .int .i64 119, .int .i64 120] 2)
            have m8' := m8.alloc (.cells #[.int .i64 (-1), .int .i64 119, .int .i64 120] 2)
            have G8' := gr_below G8 ((Below.refl _ _).alloc (Nat.le_refl _) (.cells #[.int .i64 (-1), .int .i64 119, .int .i64 120] 2))
            have hb8 := s8.lt
            clear s8 r8 m8 G8
            go_wp2_with fail
            refine (among_any b A c xs _ (some ⟨w8.heap.size, 0, none⟩) 3 [-1, 119, 120] _ S8.out (by omega) HX.out hn HNEW.out (fun q hq => by simp [blk] at hq; omega) (by simp) (by simp)).mono ?_
            rintro e w9 ⟨x9, rfl, hxm, s9, g9⟩
            have r9 := r8'.grownNe_ g9 (by omega)
            have m9 := m8'.grownNe_ g9 (by omega)
            have G9 := gr_trans G8' g9
            clear hxm g9 r8' m8' G8'
            have mF := m9.set_ 2 (.int .i64 x9)
            have rF := r9.far (p := ⟨w6.heap.size, 2, none⟩) (show w.heap.size ≠ w6.heap.size by omega) (.int .i64 x9)
            have sF := s9.far (p := ⟨w6.heap.size, 2, none⟩) (show b ≠ w6.heap.size by omega) (fun h1 e => by have := H0.out.row_lt h1 e; simp at this; omega) (.int .i64 x9)
            have gF := gr_new G9 (p := ⟨w6.heap.size, 2, none⟩) (show w.heap.size ≤ w6.heap.size by omega) (.int .i64 x9)
            have mf9 := m9.frozen 2
            obtain ⟨na, nb, nc⟩ := m9.three
            clear m9 r9 s9 G9
            obtain ⟨ma, mb_, mc⟩ := mF.three
            obtain ⟨ra, rb, rc⟩ := rF.three
            have f0 := rF.frozen 0
            have f1 := (rF.set_ 0 (.int .i64 (1 + x1))).frozen 1
            have f2 := ((rF.set_ 0 (.int .i64 (1 + x1))).set_ 1 (.int .i64 x2)).frozen 2
            obtain ⟨q0, q1, q2⟩ := (((rF.set_ 0 (.int .i64 (1 + x1))).set_ 1 (.int .i64 x2)).set_ 2 (.int .i64 x9)).three
            have HF := hide (And.intro (sr_far3 (b := w.heap.size) (o0 := 0) (o1 := 1) (o2 := 2) (u0 := .int .i64 (1 + x1)) (u1 := .int .i64 x2) (u2 := .int .i64 x9) sF (by omega) (fun h0 e => by have := H0.out.row_lt h0 e; omega)) (gr_new3 (b := w.heap.size) (o0 := 0) (o1 := 1) (o2 := 2) (u0 := .int .i64 (1 + x1)) (u1 := .int .i64 x2) (u2 := .int .i64 x9) gF (Nat.le_refl _)))
            clear mF rF sF gF
            go_wp2_with fail
            refine bodyPost_ret (v := .agg #[.int .i64 (1 + x1), .int .i64 x2, .int .i64 x9]) (by simp [results, Tryz.results33, go_sem, q0, q1, q2]) rfl ?_
            exact ⟨(1 + x1), x2, x9, rfl, HF.out.1.more (by omega), HF.out.2⟩
          · have e0 : (x8 == 0) = false := by simpa using h0
            have e1 : (x8 == 1) = false := by simpa using h1
            have e2 : (x8 == 2) = false := by simpa using h2
            have mF := m8
            have rF := r8
            have sF := s8
            have gF := G8
            clear m8 r8 s8 G8
            obtain ⟨ma, mb_, mc⟩ := mF.three
            obtain ⟨ra, rb, rc⟩ := rF.three
            have f0 := rF.frozen 0
            have f1 := (rF.set_ 0 (.int .i64 (1 + x1))).frozen 1
            have f2 := ((rF.set_ 0 (.int .i64 (1 + x1))).set_ 1 (.int .i64 x2)).frozen 2
            obtain ⟨q0, q1, q2⟩ := (((rF.set_ 0 (.int .i64 (1 + x1))).set_ 1 (.int .i64 x2)).set_ 2 (.int .i64 (x2 + x7))).three
            have HF := hide (And.intro (sr_far3 (b := w.heap.size) (o0 := 0) (o1 := 1) (o2 := 2) (u0 := .int .i64 (1 + x1)) (u1 := .int .i64 x2) (u2 := .int .i64 (x2 + x7)) sF (by omega) (fun h0 e => by have := H0.out.row_lt h0 e; omega)) (gr_new3 (b := w.heap.size) (o0 := 0) (o1 := 1) (o2 := 2) (u0 := .int .i64 (1 + x1)) (u1 := .int .i64 x2) (u2 := .int .i64 (x2 + x7)) gF (Nat.le_refl _)))
            clear mF rF sF gF
            go_wp2_with fail
            refine bodyPost_ret (v := .agg #[.int .i64 (1 + x1), .int .i64 x2, .int .i64 (x2 + x7)]) (by simp [results, Tryz.results33, go_sem, q0, q1, q2]) rfl ?_
            exact ⟨(1 + x1), x2, (x2 + x7), rfl, HF.out.1.more (by omega), HF.out.2⟩
  · have hkb : ((1 + x1 : Int) == 2) = false := by rw [← hk0]; simpa using hx2
    obtain ⟨ma, mb_, mc⟩ := m6.three
    have rM := r6
    have mM := m6
    have sM := S6
    have gM := G6
    clear hk0 hx2 r6 m6 S6 G6
    have QM := hide (And.intro rM (And.intro mM (And.intro sM gM)))
    clear rM mM sM gM
    go_wp2_with fail
    refine (pick_any b A c xs _ 12 _ QM.out.2.2.1 (by omega) HX.out hn (by omega) (by omega)).mono ?_
    rintro e w8 ⟨x8, rfl, h80, h81, s8, g8⟩
    have r8 := QM.out.1.grownNe_ g8 (by omega)
    have m8 := QM.out.2.1.grownNe_ g8 (by omega)
    have G8 := gr_trans QM.out.2.2.2 g8
    have hz8 := m8.lt
    clear g8
    by_cases h0 : x8 = 0
    · subst h0
      clear h80 h81
      go_wp2_with fail
      refine (pick_any b A c xs _ 5 _ s8 (by omega) HX.out hn (by omega) (by omega)).mono ?_
      rintro e w9 ⟨x9, rfl, h90, h91, s9, g9⟩
      have r9 := r8.grownNe_ g9 (by omega)
      have m9 := m8.grownNe_ g9 (by omega)
      have G9 := gr_trans G8 g9
      have hx9w : IntKind.i64.wrap (x9 - 1) = x9 - 1 := by rw [IntKind.wrap_i64]; omega
      clear s8 g9 r8 m8 G8
      have mF := m9.set_ 0 (.int .i64 (x9 - 1))
      have rF := r9.far (p := ⟨w6.heap.size, 0, none⟩) (show w.heap.size ≠ w6.heap.size by omega) (.int .i64 (x9 - 1))
      have sF := s9.far (p := ⟨w6.heap.size, 0, none⟩) (show b ≠ w6.heap.size by omega) (fun h1 e => by have := H0.out.row_lt h1 e; simp at this; omega) (.int .i64 (x9 - 1))
      have gF := gr_new G9 (p := ⟨w6.heap.size, 0, none⟩) (show w.heap.size ≤ w6.heap.size by omega) (.int .i64 (x9 - 1))
      have mf9 := m9.frozen 0
      obtain ⟨na, nb, nc⟩ := m9.three
      clear m9 r9 s9 G9
      obtain ⟨ma, mb_, mc⟩ := mF.three
      obtain ⟨ra, rb, rc⟩ := rF.three
      have f0 := rF.frozen 0
      have f1 := (rF.set_ 0 (.int .i64 (x9 - 1))).frozen 1
      have f2 := ((rF.set_ 0 (.int .i64 (x9 - 1))).set_ 1 (.int .i64 x2)).frozen 2
      obtain ⟨q0, q1, q2⟩ := (((rF.set_ 0 (.int .i64 (x9 - 1))).set_ 1 (.int .i64 x2)).set_ 2 (.int .i64 0)).three
      have HF := hide (And.intro (sr_far3 (b := w.heap.size) (o0 := 0) (o1 := 1) (o2 := 2) (u0 := .int .i64 (x9 - 1)) (u1 := .int .i64 x2) (u2 := .int .i64 0) sF (by omega) (fun h0 e => by have := H0.out.row_lt h0 e; omega)) (gr_new3 (b := w.heap.size) (o0 := 0) (o1 := 1) (o2 := 2) (u0 := .int .i64 (x9 - 1)) (u1 := .int .i64 x2) (u2 := .int .i64 0) gF (Nat.le_refl _)))
      clear mF rF sF gF
      go_wp2_with fail
      refine bodyPost_ret (v := .agg #[.int .i64 (x9 - 1), .int .i64 x2, .int .i64 0]) (by simp [results, Tryz.results33, go_sem, q0, q1, q2]) rfl ?_
      exact ⟨(x9 - 1), x2, 0, rfl, HF.out.1.more (by omega), HF.out.2⟩
    · by_cases h1 : x8 = 1
      · subst h1
        clear h80 h81
        have S8 := hide (s8.alloc (.cells #[.int .i64 (-1), .int .i64 119, .int .i64 120] 2))
        have HNEW := hide (OwnI.new (base := 0) w8 [-1, 119, 120] #[.int .i64 (-1), .int .i64 119, .int .i64 120] rfl (Nat.zero_le _) (by simp [maxLen])).rd
        have hlt8 := S8.out.lt
        have r8' := r8.alloc (.cells #[.int .i64 (-1), .int .i64 119, .int .i64 120] 2)
        have m8' := m8.alloc (.cells #[.int .i64 (-1), .int .i64 119, .int .i64 120] 2)
        have G8' := gr_below G8 ((Below.refl _ _).alloc (Nat.le_refl _) (.cells #[.int .i64 (-1), .int .i64 119, .int .i64 120] 2))
        have hb8 := s8.lt
        clear s8 r8 m8 G8
        go_wp2_with fail
        refine (among_any b A c xs _ (some ⟨w8.heap.size, 0, none⟩) 3 [-1, 119, 120] _ S8.out (by omega) HX.out hn HNEW.out (fun q hq => by simp [blk] at hq; omega) (by simp) (by simp)).mono ?_
        rintro e w9 ⟨x9, rfl, hxm, s9, g9⟩
        have r9 := r8'.grownNe_ g9 (by omega)
        have m9 := m8'.grownNe_ g9 (by omega)
        have G9 := gr_trans G8' g9
        clear hxm g9 r8' m8' G8'
        have mF := m9.set_ 1 (.int .i64 x9)
        have rF := r9.far (p := ⟨w6.heap.size, 1, none⟩) (show w.heap.size ≠ w6.heap.size by omega) (.int .i64 x9)
        have sF := s9.far (p := ⟨w6.heap.size, 1, none⟩) (show b ≠ w6.heap.size by omega) (fun h1 e => by have := H0.out.row_lt h1 e; simp at this; omega) (.int .i64 x9)
        have gF := gr_new G9 (p := ⟨w6.heap.size, 1, none⟩) (show w.heap.size ≤ w6.heap.size by omega) (.int .i64 x9)
        have mf9 := m9.frozen 1
        obtain ⟨na, nb, nc⟩ := m9.three
        clear m9 r9 s9 G9
        obtain ⟨ma, mb_, mc⟩ := mF.three
        obtain ⟨ra, rb, rc⟩ := rF.three
        have f0 := rF.frozen 0
        have f1 := (rF.set_ 0 (.int .i64 (1 + x1))).frozen 1
        have f2 := ((rF.set_ 0 (.int .i64 (1 + x1))).set_ 1 (.int .i64 x9)).frozen 2
        obtain ⟨q0, q1, q2⟩ := (((rF.set_ 0 (.int .i64 (1 + x1))).set_ 1 (.int .i64 x9)).set_ 2 (.int .i64 0)).three
        have HF := hide (And.intro (sr_far3 (b := w.heap.size) (o0 := 0) (o1 := 1) (o2 := 2) (u0 := .int .i64 (1 + x1)) (u1 := .int .i64 x9) (u2 := .int .i64 0) sF (by omega) (fun h0 e => by have := H0.out.row_lt h0 e; omega)) (gr_new3 (b := w.heap.size) (o0 := 0) (o1 := 1) (o2 := 2) (u0 := .int .i64 (1 + x1)) (u1 := .int .i64 x9) (u2 := .int .i64 0) gF (Nat.le_refl _)))
        clear mF rF sF gF
        go_wp2_with fail
        refine bodyPost_ret (v := .agg #[.int .i64 (1 + x1), .int .i64 x9, .int .i64 0]) (by simp [results, Tryz.results33, go_sem, q0, q1, q2]) rfl ?_
        exact ⟨(1 + x1), x9, 0, rfl, HF.out.1.more (by omega), HF.out.2⟩
      · by_cases h2 : x8 = 2
        · subst h2
          clear h80 h81
          have S8 := hide (s8.alloc (.cells #[.int .i64 (-1), .int .i64 119, .int .i64 120] 2))
          have HNEW := hide (OwnI.new (base := 0) w8 [-1, 119, 120] #[.int .i64 (-1), .int .i64 119, .int .i64 120] rfl (Nat.zero_le _) (by simp [maxLen])).rd
          have hlt8 := S8.out.lt
          have r8' := r8.alloc (.cells #[.int .i64 (-1), .int .i64 119, .int .i64 120] 2)
          have m8' := m8.alloc (.cells #[.int .i64 (-1), .int .i64 119, .int .i64 120] 2)
          have G8' := gr_below G8 ((Below.refl _ _).alloc (Nat.le_refl _) (.cells #[.int .i64 (-1), .int .i64 119, .int .i64 120] 2))
          have hb8 := s8.lt
          clear s8 r8 m8 G8
          go_wp2_with fail
          refine (among_any b A c xs _ (some ⟨w8.heap.size, 0, none⟩) 3 [-1, 119, 120] _ S8.out (by omega) HX.out hn HNEW.out (fun q hq => by simp [blk] at hq; omega) (by simp) (by simp)).mono ?_
          rintro e w9 ⟨x9, rfl, hxm, s9, g9⟩
          have r9 := r8'.grownNe_ g9 (by omega)
          have m9 := m8'.grownNe_ g9 (by omega)
          have G9 := gr_trans G8' g9
          clear hxm g9 r8' m8' G8'
          have mF := m9.set_ 2 (.int .i64 x9)
          have rF := r9.far (p := ⟨w6.heap.size, 2, none⟩) (show w.heap.size ≠ w6.heap.size by omega) (.int .i64 x9)
          have sF := s9.far (p := ⟨w6.heap.size, 2, none⟩) (show b ≠ w6.heap.size by omega) (fun h1 e => by have := H0.out.row_lt h1 e; simp at this; omega) (.int .i64 x9)
          have gF := gr_new G9 (p := ⟨w6.heap.size, 2, none⟩) (show w.heap.size ≤ w6.heap.size by omega) (.int .i64 x9)
          have mf9 := m9.frozen 2
          obtain ⟨na, nb, nc⟩ := m9.three
          clear m9 r9 s9 G9
          obtain ⟨ma, mb_, mc⟩ := mF.three
          obtain ⟨ra, rb, rc⟩ := rF.three
          have f0 := rF.frozen 0
          have f1 := (rF.set_ 0 (.int .i64 (1 + x1))).frozen 1
          have f2 := ((rF.set_ 0 (.int .i64 (1 + x1))).set_ 1 (.int .i64 x2)).frozen 2
          obtain ⟨q0, q1, q2⟩ := (((rF.set_ 0 (.int .i64 (1 + x1))).set_ 1 (.int .i64 x2)).set_ 2 (.int .i64 x9)).three
          have HF := hide (And.intro (sr_far3 (b := w.heap.size) (o0 := 0) (o1 := 1) (o2 := 2) (u0 := .int .i64 (1 + x1)) (u1 := .int .i64 x2) (u2 := .int .i64 x9) sF (by omega) (fun h0 e => by have := H0.out.row_lt h0 e; omega)) (gr_new3 (b := w.heap.size) (o0 := 0) (o1 := 1) (o2 := 2) (u0 := .int .i64 (1 + x1)) (u1 := .int .i64 x2) (u2 := .int .i64 x9) gF (Nat.le_refl _)))
          clear mF rF sF gF
          go_wp2_with fail
          refine bodyPost_ret (v := .agg #[.int .i64 (1 + x1), .int .i64 x2, .int .i64 x9]) (by simp [results, Tryz.results33, go_sem, q0, q1, q2]) rfl ?_
          exact ⟨(1 + x1), x2, x9, rfl, HF.out.1.more (by omega), HF.out.2⟩
        · have e0 : (x8 == 0) = false := by simpa using h0
          have e1 : (x8 == 1) = false := by simpa using h1
          have e2 : (x8 == 2) = false := by simpa using h2
          have mF := m8
          have rF := r8
          have sF := s8
          have gF := G8
          clear m8 r8 s8 G8
          obtain ⟨ma, mb_, mc⟩ := mF.three
          obtain ⟨ra, rb, rc⟩ := rF.three
          have f0 := rF.frozen 0
          have f1 := (rF.set_ 0 (.int .i64 (1 + x1))).frozen 1
          have f2 := ((rF.set_ 0 (.int .i64 (1 + x1))).set_ 1 (.int .i64 x2)).frozen 2
          obtain ⟨q0, q1, q2⟩ := (((rF.set_ 0 (.int .i64 (1 + x1))).set_ 1 (.int .i64 x2)).set_ 2 (.int .i64 0)).three
          have HF := hide (And.intro (sr_far3 (b := w.heap.size) (o0 := 0) (o1 := 1) (o2 := 2) (u0 := .int .i64 (1 + x1)) (u1 := .int .i64 x2) (u2 := .int .i64 0) sF (by omega) (fun h0 e => by have := H0.out.row_lt h0 e; omega)) (gr_new3 (b := w.heap.size) (o0 := 0) (o1 := 1) (o2 := 2) (u0 := .int .i64 (1 + x1)) (u1 := .int .i64 x2) (u2 := .int .i64 0) gF (Nat.le_refl _)))
          clear mF rF sF gF
          go_wp2_with fail
          refine bodyPost_ret (v := .agg #[.int .i64 (1 + x1), .int .i64 x2, .int .i64 0]) (by simp [results, Tryz.results33, go_sem, q0, q1, q2]) rfl ?_
          exact ⟨(1 + x1), x2, 0, rfl, HF.out.1.more (by omega), HF.out.2⟩
end Go.Proofs.YtocellbhpjiioaaGreat
