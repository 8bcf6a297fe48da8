/-
  Contract: three polynomials that are drawn. Conditions: the number of bytes is far below the machine's.
-/
import Derived.Test.YtffiejlfnecanaaDrawP
import Derived.Deep.RegionWith
namespace Go.Proofs.Ytffiejlfnecanaa
open Go.RowKit
set_option linter.unusedVariables false

set_option maxRecDepth 20000 in
set_option maxHeartbeats 8000000 in
theorem a2Polys_any (A : Option Addr) (c : Nat) (xs : List Int) (w : World) (h : RB w A xs) (hx : ∀ x ∈ xs, 0 ≤ x ∧ x ≤ 255) (hn : xs.length ≤ 1048576) :
    Calls Try.prog 6 #[.slice A xs.length c] w fun e w' => ∃ (q0 q1 q2 : Int × List Int) (B0 B1 B2 : Option Addr) (d0 d1 d2 : Nat), e = .returned (.tuple #[.agg #[.int .i64 q0.1, .slice B0 q0.2.length d0], .agg #[.int .i64 q1.1, .slice B1 q1.2.length d1], .agg #[.int .i64 q2.1, .slice B2 q2.2.length d2]]) ∧ Dw q0 ∧ Dw q1 ∧ Dw q2 ∧ OwnI w' w.heap.size B0 d0 q0.2 ∧ OwnI w' w.heap.size B1 d1 q1.2 ∧ OwnI w' w.heap.size B2 d2 q2.2 ∧ Below w.heap.size w w' := by
  have r0 := (((Bx.new w 26 #[.int .i64 0, .slice none 0 0]).alloc (.cells #[.int .i64 0, .slice none 0 0] 26)).alloc (.cells #[.int .i64 0, .slice none 0 0] 26)).alloc (.cells #[.slice A xs.length c, .int .i64 0, .int .u64 0] 57)
  have r1 := ((Bx.new_ (w.alloc (.cells #[.int .i64 0, .slice none 0 0] 26)) (w.heap.size + 1) 26 #[.int .i64 0, .slice none 0 0] (by simp)).alloc (.cells #[.int .i64 0, .slice none 0 0] 26)).alloc (.cells #[.slice A xs.length c, .int .i64 0, .int .u64 0] 57)
  have r2 := (Bx.new_ ((w.alloc (.cells #[.int .i64 0, .slice none 0 0] 26)).alloc (.cells #[.int .i64 0, .slice none 0 0] 26)) (w.heap.size + 1 + 1) 26 #[.int .i64 0, .slice none 0 0] (by simp)).alloc (.cells #[.slice A xs.length c, .int .i64 0, .int .u64 0] 57)
  have s0 : Sr ((((w.alloc (.cells #[.int .i64 0, .slice none 0 0] 26)).alloc (.cells #[.int .i64 0, .slice none 0 0] 26)).alloc (.cells #[.int .i64 0, .slice none 0 0] 26)).alloc (.cells #[.slice A xs.length c, .int .i64 0, .int .u64 0] 57)) (w.heap.size + 1 + 1 + 1) A c xs 0 := ⟨0, 0, by omega, by omega, by omega, Bx.new_ (((w.alloc (.cells #[.int .i64 0, .slice none 0 0] 26)).alloc (.cells #[.int .i64 0, .slice none 0 0] 26)).alloc (.cells #[.int .i64 0, .slice none 0 0] 26)) (w.heap.size + 1 + 1 + 1) 57 #[.slice A xs.length c, .int .i64 0, .int .u64 0] (by simp), Rd.alloc (Rd.alloc (Rd.alloc (Rd.alloc h _) _) _) _, fun h0 e => by have := rb_lt h h0 e; omega⟩
  have b0 : Below w.heap.size w ((((w.alloc (.cells #[.int .i64 0, .slice none 0 0] 26)).alloc (.cells #[.int .i64 0, .slice none 0 0] 26)).alloc (.cells #[.int .i64 0, .slice none 0 0] 26)).alloc (.cells #[.slice A xs.length c, .int .i64 0, .int .u64 0] 57)) := ((((Below.refl _ _).alloc (Nat.le_refl _) _).alloc (by simp) _).alloc (by simp; omega) _).alloc (by simp; omega) _
  have hz4 : ((((w.alloc (.cells #[.int .i64 0, .slice none 0 0] 26)).alloc (.cells #[.int .i64 0, .slice none 0 0] 26)).alloc (.cells #[.int .i64 0, .slice none 0 0] 26)).alloc (.cells #[.slice A xs.length c, .int .i64 0, .int .u64 0] 57)).heap.size = w.heap.size + 4 := by simp
  obtain ⟨w4, hw4⟩ : ∃ w4, w4 = ((((w.alloc (.cells #[.int .i64 0, .slice none 0 0] 26)).alloc (.cells #[.int .i64 0, .slice none 0 0] 26)).alloc (.cells #[.int .i64 0, .slice none 0 0] 26)).alloc (.cells #[.slice A xs.length c, .int .i64 0, .int .u64 0] 57)) := ⟨_, rfl⟩
  rw [← hw4] at r0 r1 r2 s0 b0 hz4
  go_enter Try.func6, Try.ntmps6
  go_wp2_with fail
  refine (l00From_any A xs.length c _).mono ?_
  rintro e w1 ⟨rfl, rfl⟩
  go_wp2_with fail
  rw [← hw4]
  refine (l18Draw_any (w.heap.size + 1 + 1 + 1) A c xs 0 w4 s0 (by omega) hx hn).mono ?_
  rintro e w5 ⟨q0, B0, d0, rfl, D0, o0, s1, g1⟩
  have z5 := g1.size
  have R0 := r0.grownNe g1 (by omega)
  have R1 := r1.grownNe g1 (by omega)
  have R2 := r2.grownNe g1 (by omega)
  have b1 := b0.grown g1 (by omega) (fun k hk => by injection hk; omega)
  clear r0 r1 r2 b0 g1 s0 hw4
  have s2 := s1.alloc (.cells #[.int .i64 q0.1, .slice B0 q0.2.length d0] 26)
  have r0 := R0.alloc (.cells #[.int .i64 q0.1, .slice B0 q0.2.length d0] 26)
  have r1 := R1.alloc (.cells #[.int .i64 q0.1, .slice B0 q0.2.length d0] 26)
  have r2 := R2.alloc (.cells #[.int .i64 q0.1, .slice B0 q0.2.length d0] 26)
  have a0 := Bx.new w5 26 #[.int .i64 q0.1, .slice B0 q0.2.length d0]
  have p0 := o0.alloc (.cells #[.int .i64 q0.1, .slice B0 q0.2.length d0] 26)
  have b2 := b1.alloc (by omega) (.cells #[.int .i64 q0.1, .slice B0 q0.2.length d0] 26)
  go_wp2_with fail
  refine (l18Draw_any (w.heap.size + 1 + 1 + 1) A c xs 8 _ s2 (by omega) hx hn).mono ?_
  rintro e w6 ⟨q1, B1, d1, rfl, D1, o1, s3, g2⟩
  have z6 := g2.size
  simp only [World.size_alloc] at z6
  have o1 := o1.mono (show w.heap.size + 4 ≤ _ by simp; omega)
  have p1 := p0.mono (show w.heap.size + 4 ≤ _ by omega)
  have hne0 : blk B0 = none ∨ blk B0 ≠ some (w.heap.size + 1 + 1 + 1) := by
    by_cases hbn : blk B0 = none
    · exact .inl hbn
    · exact .inr (fun e => by have := (p1.ge e).1; omega)
  have p2 := p1.grown g2 hne0
  have R0 := r0.grownNe g2 (by omega)
  have R1 := r1.grownNe g2 (by omega)
  have R2 := r2.grownNe g2 (by omega)
  have A0 := a0.grownNe g2 (by omega)
  have b3 := b2.grown g2 (by simp; omega) (fun k hk => by injection hk; omega)
  clear r0 r1 r2 a0 b1 b2 g2 s1 s2 o0 p0 p1
  have s4 := s3.alloc (.cells #[.int .i64 q1.1, .slice B1 q1.2.length d1] 26)
  have r0 := R0.alloc (.cells #[.int .i64 q1.1, .slice B1 q1.2.length d1] 26)
  have r1 := R1.alloc (.cells #[.int .i64 q1.1, .slice B1 q1.2.length d1] 26)
  have r2 := R2.alloc (.cells #[.int .i64 q1.1, .slice B1 q1.2.length d1] 26)
  have a0 := A0.alloc (.cells #[.int .i64 q1.1, .slice B1 q1.2.length d1] 26)
  have a1 := Bx.new w6 26 #[.int .i64 q1.1, .slice B1 q1.2.length d1]
  have p0 := p2.alloc (.cells #[.int .i64 q1.1, .slice B1 q1.2.length d1] 26)
  have p1 := o1.alloc (.cells #[.int .i64 q1.1, .slice B1 q1.2.length d1] 26)
  have b4 := b3.alloc (by omega) (.cells #[.int .i64 q1.1, .slice B1 q1.2.length d1] 26)
  obtain ⟨w7, hw7⟩ : ∃ w7, w7 = w6.alloc (.cells #[.int .i64 q1.1, .slice B1 q1.2.length d1] 26) := ⟨_, rfl⟩
  have z7 : w7.heap.size = w6.heap.size + 1 := by rw [hw7]; simp
  go_upto_region 4 with fail
  rw [← hw7] at s4 r0 r1 r2 a0 a1 p0 p1 b4 ⊢
  clear hw7 R0 R1 R2 A0 b3 o1 p2 s3
  have S4 := hide (s4.drew)
  have QA := And.intro a0.drew.two a1.drew.two
  have AA := hide (And.intro a0.drew a1.drew)
  have RR := hide (And.intro r0.drew (And.intro r1.drew r2.drew))
  have PP := hide (And.intro p0.drew p1.drew)
  have BB := hide b4.drew
  have hwz : w7.drew.heap.size = w7.heap.size := rfl
  have hr2 := r2.lt
  have ha0 := a0.lt
  have hr0 := r0.lt
  clear s4 r0 r1 r2 a0 a1 p0 p1 b4
  go_region_with
    (first
      | (go_at_call 20; refine (l18Draw_any (w.heap.size + 1 + 1 + 1) A c xs 16 _ S4.out (by omega) hx hn).mono ?_; rintro e w8 ⟨q2, B2, d2, rfl, D2, o2, s5, g3⟩; have z8 := g3.size; have A0 := hide (AA.out.1.grownNe g3 (by omega)); have A1 := hide (AA.out.2.grownNe g3 (by omega)); have QA8 := And.intro A0.out.two A1.out.two; have E0 := hide (bx_far2 (b := w.heap.size) (o0 := 0) (o1 := 1) (u0 := .int .i64 q0.1) (u1 := .slice B0 q0.2.length d0) A0.out (by omega)); have E1 := hide (bx_far2 (b := w.heap.size) (o0 := 0) (o1 := 1) (u0 := .int .i64 q0.1) (u1 := .slice B0 q0.2.length d0) A1.out (by omega)); have QA9 := hide (And.intro E0.out.two E1.out.two); have F0 := hide (bx_far2 (b := (w.heap.size + 1)) (o0 := 0) (o1 := 1) (u0 := .int .i64 q1.1) (u1 := .slice B1 q1.2.length d1) E0.out (by omega)); have F1 := hide (bx_far2 (b := (w.heap.size + 1)) (o0 := 0) (o1 := 1) (u0 := .int .i64 q1.1) (u1 := .slice B1 q1.2.length d1) E1.out (by omega)); have QA10 := hide (And.intro F0.out.two F1.out.two); have QA11 := hide (And.intro (bx_far2 (b := (w.heap.size + 1 + 1)) (o0 := 0) (o1 := 1) (u0 := .int .i64 q2.1) (u1 := .slice B2 q2.2.length d2) F0.out (by omega)).two (bx_far2 (b := (w.heap.size + 1 + 1)) (o0 := 0) (o1 := 1) (u0 := .int .i64 q2.1) (u1 := .slice B2 q2.2.length d2) F1.out (by omega)).two); have R0 := hide (RR.out.1.grownNe g3 (by omega)); have R1 := hide (RR.out.2.1.grownNe g3 (by omega)); have R2 := hide (RR.out.2.2.grownNe g3 (by omega)); have HG3 := hide g3; have HO2 := hide o2; have HD2 := hide D2; clear g3 o2 s5 D2; obtain ⟨R0a, R0b⟩ := R0.out.two; obtain ⟨R1a, R1b⟩ := R1.out.two; obtain ⟨R2a, R2b⟩ := R2.out.two; have f00 := R0.out.frozen 0; have f01 := R0.out.frozen 1; have f10 := R1.out.frozen 0; have f11 := R1.out.frozen 1; have f20 := R2.out.frozen 0; have f21 := R2.out.frozen 1))
  all_goals
    have T0 := hide (bx_far2 (b := (w.heap.size + 1 + 1)) (o0 := 0) (o1 := 1) (u0 := .int .i64 q2.1) (u1 := .slice B2 q2.2.length d2) (bx_far2 (b := (w.heap.size + 1)) (o0 := 0) (o1 := 1) (u0 := .int .i64 q1.1) (u1 := .slice B1 q1.2.length d1) (bx_put2 (u0 := .int .i64 q0.1) (u1 := .slice B0 q0.2.length d0) R0.out) (by omega)) (by omega)).two
    have T1 := hide (bx_far2 (b := (w.heap.size + 1 + 1)) (o0 := 0) (o1 := 1) (u0 := .int .i64 q2.1) (u1 := .slice B2 q2.2.length d2) (bx_put2 (u0 := .int .i64 q1.1) (u1 := .slice B1 q1.2.length d1) (bx_far2 (b := w.heap.size) (o0 := 0) (o1 := 1) (u0 := .int .i64 q0.1) (u1 := .slice B0 q0.2.length d0) R1.out (by omega))) (by omega)).two
    have T2 := hide (bx_put2 (u0 := .int .i64 q2.1) (u1 := .slice B2 q2.2.length d2) (bx_far2 (b := (w.heap.size + 1)) (o0 := 0) (o1 := 1) (u0 := .int .i64 q1.1) (u1 := .slice B1 q1.2.length d1) (bx_far2 (b := w.heap.size) (o0 := 0) (o1 := 1) (u0 := .int .i64 q0.1) (u1 := .slice B0 q0.2.length d0) R2.out (by omega)) (by omega))).two
    have hne : ∀ {B : Option Addr}, (∀ g, blk B = some g → w.heap.size + 4 ≤ g) → blk B = none ∨ blk B ≠ some (w.heap.size + 1 + 1 + 1) := fun {B} hB => by
      by_cases hbn : blk B = none
      · exact .inl hbn
      · exact .inr (fun e => by have := hB _ e; omega)
    have P0 := hide (own_low2 (b := (w.heap.size + 1 + 1)) (o0 := 0) (o1 := 1) (u0 := .int .i64 q2.1) (u1 := .slice B2 q2.2.length d2) (own_low2 (b := (w.heap.size + 1)) (o0 := 0) (o1 := 1) (u0 := .int .i64 q1.1) (u1 := .slice B1 q1.2.length d1) (own_low2 (b := w.heap.size) (o0 := 0) (o1 := 1) (u0 := .int .i64 q0.1) (u1 := .slice B0 q0.2.length d0) (PP.out.1.grown HG3.out (hne fun g hg => (PP.out.1.ge hg).1)) (by omega)) (by omega)) (by omega))
    have P1 := hide (own_low2 (b := (w.heap.size + 1 + 1)) (o0 := 0) (o1 := 1) (u0 := .int .i64 q2.1) (u1 := .slice B2 q2.2.length d2) (own_low2 (b := (w.heap.size + 1)) (o0 := 0) (o1 := 1) (u0 := .int .i64 q1.1) (u1 := .slice B1 q1.2.length d1) (own_low2 (b := w.heap.size) (o0 := 0) (o1 := 1) (u0 := .int .i64 q0.1) (u1 := .slice B0 q0.2.length d0) (PP.out.2.grown HG3.out (hne fun g hg => (PP.out.2.ge hg).1)) (by omega)) (by omega)) (by omega))
    have P2 := hide (own_low2 (b := (w.heap.size + 1 + 1)) (o0 := 0) (o1 := 1) (u0 := .int .i64 q2.1) (u1 := .slice B2 q2.2.length d2) (own_low2 (b := (w.heap.size + 1)) (o0 := 0) (o1 := 1) (u0 := .int .i64 q1.1) (u1 := .slice B1 q1.2.length d1) (own_low2 (b := w.heap.size) (o0 := 0) (o1 := 1) (u0 := .int .i64 q0.1) (u1 := .slice B0 q0.2.length d0) (HO2.out.mono (show w.heap.size + 4 ≤ _ by omega)) (by omega)) (by omega)) (by omega))
    have PB := hide (below_put2_ (b := (w.heap.size + 1 + 1)) (o0 := 0) (o1 := 1) (u0 := .int .i64 q2.1) (u1 := .slice B2 q2.2.length d2) (below_put2_ (b := (w.heap.size + 1)) (o0 := 0) (o1 := 1) (u0 := .int .i64 q1.1) (u1 := .slice B1 q1.2.length d1) (below_put2_ (b := w.heap.size) (o0 := 0) (o1 := 1) (u0 := .int .i64 q0.1) (u1 := .slice B0 q0.2.length d0) (BB.out.grown HG3.out (by omega) (fun k hk => by injection hk; omega)) (by omega)) (by omega)) (by omega))
    clear R0a R0b R1a R1b R2a R2b f00 f01 f10 f11 f20 f21 QA QA8
    go_wp2_with fail
    obtain ⟨t0a, t0b⟩ := T0.out
    obtain ⟨t1a, t1b⟩ := T1.out
    obtain ⟨t2a, t2b⟩ := T2.out
    refine bodyPost_ret (v := .tuple #[.agg #[.int .i64 q0.1, .slice B0 q0.2.length d0], .agg #[.int .i64 q1.1, .slice B1 q1.2.length d1], .agg #[.int .i64 q2.1, .slice B2 q2.2.length d2]]) (by simp [results, Try.results6, go_sem, t0a, t0b, t1a, t1b, t2a, t2b]) rfl ?_
    exact ⟨q0, q1, q2, B0, B1, B2, d0, d1, d2, rfl, D0, D1, HD2.out, P0.out.mono (by omega), P1.out.mono (by omega), P2.out.mono (by omega), PB.out⟩
end Go.Proofs.Ytffiejlfnecanaa
