/-
  Contracts: the panel without breaks, a panel that is drawn. Conditions: the numbers of bytes and of choices are far below the machine's.
-/
import Derived.Test.YtnjojnnapdhijaaSrc
import Derived.Test.YtnjojnnapdhijaaPanel
import Derived.Deep.RegionHeld3
namespace Go.Proofs.Ytnjojnnapdhijaa
open Go.RowKit
set_option linter.unusedVariables false

section
variable {w w0 : World} {b : Nat} {o0 o1 o2 : Nat} {u0 u1 u2 : Value}
theorem bx_put3 {t : TypeId} {v0 v1 v2 : Value} (h : Bx w b t #[v0, v1, v2]) : Bx (((w.setCell ⟨b, 0, none⟩ u0).setCell ⟨b, 1, none⟩ u1).setCell ⟨b, 2, none⟩ u2) b t #[u0, u1, u2] :=
  ((h.set_ 0 u0).set_ 1 u1).set_ 2 u2
theorem own_low3 {base : Nat} {A : Option Addr} {c : Nat} {xs : List Int} (h : OwnI w base A c xs) (hb : b < base) : OwnI (((w.setCell ⟨b, o0, none⟩ u0).setCell ⟨b, o1, none⟩ u1).setCell ⟨b, o2, none⟩ u2) base A c xs := ((h.setLow hb u0).setLow hb u1).setLow hb u2
theorem below_put3_ {B : Nat} (h : Below B w0 w) (hb : B ≤ b) : Below B w0 (((w.setCell ⟨b, o0, none⟩ u0).setCell ⟨b, o1, none⟩ u1).setCell ⟨b, o2, none⟩ u2) :=
  ((h.setCell (p := ⟨b, o0, none⟩) hb u0).setCell (p := ⟨b, o1, none⟩) hb u1).setCell (p := ⟨b, o2, none⟩) hb u2
theorem sr_far3 {b' : Nat} {A : Option Addr} {c : Nat} {xs : List Int} {K : Nat} (h : Sr w b' A c xs K) (hb : b' ≠ b) (hA : 0 < xs.length → blk A ≠ some b) : Sr (((w.setCell ⟨b, o0, none⟩ u0).setCell ⟨b, o1, none⟩ u1).setCell ⟨b, o2, none⟩ u2) b' A c xs K :=
  ((h.far (p := ⟨b, o0, none⟩) hb hA u0).far (p := ⟨b, o1, none⟩) hb hA u1).far (p := ⟨b, o2, none⟩) hb hA u2
theorem gr_new3 {a : World} {s : Nat} (h : a.grownBy w (some s)) (hp : a.heap.size ≤ b) : a.grownBy (((w.setCell ⟨b, o0, none⟩ u0).setCell ⟨b, o1, none⟩ u1).setCell ⟨b, o2, none⟩ u2) (some s) :=
  gr_new (gr_new (gr_new h (p := ⟨b, o0, none⟩) hp u0) (p := ⟨b, o1, none⟩) hp u1) (p := ⟨b, o2, none⟩) hp u2
end
theorem inner_bound {wd ht : Int} (h1 : 1 ≤ wd) (h2 : wd ≤ 8) (h3 : 1 ≤ ht) (h4 : ht ≤ 8) : 0 ≤ innerN wd ht ∧ innerN wd ht ≤ 112 := by
  unfold innerN
  have : wd = 1 ∨ wd = 2 ∨ wd = 3 ∨ wd = 4 ∨ wd = 5 ∨ wd = 6 ∨ wd = 7 ∨ wd = 8 := by omega
  rcases this with rfl | rfl | rfl | rfl | rfl | rfl | rfl | rfl <;> omega
theorem inB_of {x a b : Int} (h1 : a ≤ x) (h2 : x ≤ b) : inB x a b = true := inB_true.2 ⟨h1, h2⟩

set_option maxHeartbeats 4000000 in
theorem l02New_any (wd ht : Int) (w : World) (h1 : 1 ≤ wd) (h2 : wd ≤ 8) (h3 : 1 ≤ ht) (h4 : ht ≤ 8) :
    Calls Try.prog 107 #[.int .i64 wd, .int .i64 ht] w (RetPan w wd ht (List.replicate (innerN wd ht).toNat 0)) := by
  obtain ⟨n0, n1⟩ := inner_bound h1 h2 h3 h4
  have HI := hide (fun W : World => l02Inner_any wd ht W (inB_of h1 h2) (inB_of h3 h4))
  obtain ⟨N, hN⟩ : ∃ N : Nat, innerN wd ht = (N : Int) := ⟨(innerN wd ht).toNat, by omega⟩
  have HL : Hid ((List.replicate N (0 : Int)).length = N) := hide (by simp)
  rw [hN] at HI n1 ⊢
  rw [Int.toNat_natCast]
  have hmk := fun W : World => run_make_i64 N (by omega) W
  have hr := (Bx.new w 36 #[.int .i64 0, .int .i64 0, .slice none 0 0]).alloc (.cells (madeCells #[.int .i64 0] N) 2)
  have hr2 := (Bx.new w 36 #[.int .i64 wd, .int .i64 ht, .slice (some ⟨w.heap.size + 1, 0, none⟩) N N]).alloc (.cells (madeCells #[.int .i64 0] N) 2)
  have own := OwnI.made (w.alloc (.cells #[.int .i64 wd, .int .i64 ht, .slice (some ⟨w.heap.size + 1, 0, none⟩) N N] 36)) (base := w.heap.size) (w.heap.size + 1) (m := N) (by simp) (by simp) (by omega)
  have hB := (((Below.refl w.heap.size w).alloc (Nat.le_refl _) (.cells #[.int .i64 wd, .int .i64 ht, .slice (some ⟨w.heap.size + 1, 0, none⟩) N N] 36)).alloc (by simp) (.cells (madeCells #[.int .i64 0] N) 2))
  obtain ⟨ra, rb, rc⟩ := hr.three
  have rf0 := hr.frozen 0
  have rf1 := hr.frozen 1
  have rf2 := hr.frozen 2
  have HR := hide hr2.three
  have OWN := hide own
  have HB := hide hB
  clear hr2
  clear hr own hB hN
  go_enter Try.func107, Try.ntmps107
  go_wp2_with (go_at_call 129; refine (HI.out _).mono ?_; rintro e w' ⟨rfl, rfl⟩)
  obtain ⟨ra_9, rb_9, rc_9⟩ := HR.out
  refine bodyPost_ret (v := .agg #[.int .i64 wd, .int .i64 ht, .slice (some ⟨w.heap.size + 1, 0, none⟩) N N]) (by simp [results, Try.results107, go_sem, ra_9, rb_9, rc_9]) rfl ?_
  exact ⟨_, N, by rw [HL.out], OWN.out, HB.out⟩

set_option maxRecDepth 20000 in
set_option maxHeartbeats 8000000 in
theorem l02Draw_any (b : Nat) (A : Option Addr) (c : Nat) (xs : List Int) (K : Nat) (most : Int) (w : World) (h : Sr w b A c xs K) (hK : K ≤ 100000) (hx : ∀ x ∈ xs, 0 ≤ x ∧ x ≤ 255) (hn : xs.length ≤ 1048576) (m1 : 2 ≤ most) (m2 : most ≤ 8) :
    Calls Try.prog 106 #[.pointer (some ⟨b, 0, none⟩), .int .i64 most] w fun e w' => ∃ (wd ht : Int) (ys : List Int) (B : Option Addr) (d : Nat), e = .returned (.agg #[.int .i64 wd, .int .i64 ht, .slice B ys.length d]) ∧ (1 ≤ wd ∧ wd ≤ most) ∧ (1 ≤ ht ∧ ht ≤ most) ∧ vldPan wd ht ys = true ∧ OwnI w' w.heap.size B d ys ∧ Sr w' b A c xs (K + 300) ∧ w.grownBy w' (some b) := by
  have hb0 := h.lt
  have H0 := hide h
  have h1 := h.alloc (.cells #[.int .i64 0, .int .i64 0, .slice none 0 0] 36)
  have r1 := Bx.new w 36 #[.int .i64 0, .int .i64 0, .slice none 0 0]
  have g1 : w.grownBy (w.alloc (.cells #[.int .i64 0, .int .i64 0, .slice none 0 0] 36)) (some b) := gr_below (gr_refl w _) ((Below.refl _ _).alloc (Nat.le_refl _) _)
  clear h
  go_enter Try.func106, Try.ntmps106
  go_wp2_with fail
  refine (pick_any b A c xs K most _ h1 (by omega) hx hn (by omega) (by omega)).mono ?_
  rintro e w1 ⟨p0, rfl, hp0, hp1, hs1, hg1⟩
  have r2 := r1.grownNe hg1 (by omega)
  have g2 := gr_trans g1 hg1
  have hz1 := g2.size
  have hl1 := r2.lt
  clear h1 r1 g1 hg1
  obtain ⟨wd, hwd⟩ : ∃ wd, wd = 1 + p0 := ⟨_, rfl⟩
  have hww : IntKind.i64.wrap (1 + p0) = wd := by rw [IntKind.wrap_i64]; omega
  have hwb : 1 ≤ wd ∧ wd ≤ most := by omega
  clear hwd
  go_wp2_with fail
  clear hww hp0 hp1
  refine (pick_any b A c xs (K + 1) most _ hs1 (by omega) hx hn (by omega) (by omega)).mono ?_
  rintro e w2 ⟨p1, rfl, hp0, hp1, hs2, hg2⟩
  have r3 := r2.grownNe hg2 (by omega)
  have g3 := gr_trans g2 hg2
  have hz2 := g3.size
  have hl2 := r3.lt
  obtain ⟨ht, hht⟩ : ∃ ht, ht = 1 + p1 := ⟨_, rfl⟩
  have hwh : IntKind.i64.wrap (1 + p1) = ht := by rw [IntKind.wrap_i64]; omega
  have hhb : 1 ≤ ht ∧ ht ≤ most := by omega
  clear hht r2 g2 hg2 hs1
  go_wp2_with fail
  clear hwh
  refine (l02New_any wd ht _ (by omega) (by omega) (by omega) (by omega)).mono ?_
  rintro e w3 ⟨B, d, rfl, own, hb3⟩
  obtain ⟨n0, n1⟩ := inner_bound hwb.1 (show wd ≤ 8 by omega) hhb.1 (show ht ≤ 8 by omega)
  obtain ⟨N, hN⟩ : ∃ N : Nat, innerN wd ht = (N : Int) := ⟨(innerN wd ht).toNat, by omega⟩
  have hNt : (innerN wd ht).toNat = N := by omega
  rw [hNt] at own ⊢
  have HN := hide hN
  have hN1 : N ≤ 112 := by omega
  have HRL : Hid ((List.replicate N (0 : Int)).length = N) := hide (by simp)
  rw [HRL.out]
  have r4 := (r3.below hb3).alloc (.cells #[.int .i64 wd, .int .i64 ht, .slice B N d] 36)
  have s4 := (hs2.below hb3).alloc (.cells #[.int .i64 wd, .int .i64 ht, .slice B N d] 36)
  have p4 := Bx.new w3 36 #[.int .i64 wd, .int .i64 ht, .slice B N d]
  have own4 := (own.mono (show w.heap.size ≤ _ by omega)).alloc (.cells #[.int .i64 wd, .int .i64 ht, .slice B N d] 36)
  have g4 := gr_below g3 (hb3.trans ((Below.refl w3.heap.size w3).alloc (Nat.le_refl _) (.cells #[.int .i64 wd, .int .i64 ht, .slice B N d] 36) |>.mono hb3.size))
  have hz3 := hb3.size
  have hBB : Hid (∀ g, blk B = some g → w2.heap.size ≤ g ∧ g < w3.heap.size) := hide fun g hg => own.ge hg
  have HS3 := s4
  clear n0 n1 hN hNt r3 hs2 hb3 own g3
  go_wp2_with fail
  refine (pick_any b A c xs (K + 2) 4 _ s4 (by omega) hx hn (by omega) (by omega)).mono ?_
  rintro e w4 ⟨some_, rfl, hp0, hp1, hs5, hg5⟩
  have hz4 := hg5.size
  simp only [World.size_alloc] at hz4
  have hne : blk B = none ∨ blk B ≠ some b := by
    by_cases hbn : blk B = none
    · exact .inl hbn
    · exact .inr (fun e => by have := (hBB.out _ e).1; omega)
  have r5 := r4.grownNe hg5 (by omega)
  have p5 := p4.grownNe hg5 (by omega)
  have own5 := own4.grown hg5 hne
  have g5 := gr_trans g4 hg5
  clear r4 p4 own4 g4 hg5 s4
  go_wp2_with fail
  go_loopw [8] (fun i wr => ∃ (k : Nat) (ys : List Int), k ≤ N ∧ i = .int .i64 (k : Int) ∧ ys.length = N ∧ Hid (∀ y ∈ ys, 0 ≤ y ∧ y ≤ 2) ∧ OwnI wr w.heap.size B d ys ∧ Sr wr b A c xs (K + 3 + 2 * k) ∧ Bx wr w.heap.size 36 #[.int .i64 0, .int .i64 0, .slice none 0 0] ∧ Bx wr w3.heap.size 36 #[.int .i64 wd, .int .i64 ht, .slice B N d] ∧ w.grownBy wr (some b) ∧ w4.heap.size ≤ wr.heap.size) (fun i _ => N - (intOf i).toNat)
  case atStart => exact ⟨0, _, Nat.zero_le _, rfl, HRL.out, hide (fun y hy => by have := List.eq_of_mem_replicate hy; omega), own5, hs5, r5, p5, g5, Nat.le_refl _⟩
  case round =>
    clear own5 hs5 r5 p5 g5
    obtain ⟨k, ys, hk, rfl, hyl, hyb, own, hs, hr, hp, hg, hzw⟩ := hrel
    obtain ⟨pa, pb, pc⟩ := hp.three
    have hrl := hr.lt
    have hpl := hp.lt
    by_cases hlt : k < N
    · go_wp2_with fail
      refine (pick_any b A c xs (K + 3 + 2 * k) 4 _ hs (by omega) hx hn (by omega) (by omega)).mono ?_
      rintro e w5 ⟨q, rfl, hq0, hq1, hs6, hg6⟩
      have own6 := own.grown hg6 hne
      have r6 := hr.grownNe hg6 (by omega)
      have p6 := hp.grownNe hg6 (by omega)
      have g6 := gr_trans hg hg6
      have hz6 := hg6.size
      clear own hs hr hp hg hg6 pa pb pc
      by_cases hq : q < some_
      · have hqd : decide (q < some_) = true := decide_eq_true hq
        have S6 := hide hs6.drew
        have O6 := hide own6.drew
        have R6 := hide r6.drew
        have P6 := hide p6.drew
        have G6 := hide (gr_draw g6)
        have hpc := p6.drew.three
        have hzd : w5.drew.heap.size = w5.heap.size := rfl
        clear hs6 own6 r6 p6 g6
        go_upto_region 8 with fail
        obtain ⟨pa, pb, pc⟩ := hpc
        go_region_with
          (first
            | (go_at_call 54; refine (pick_any b A c xs (K + 3 + 2 * k + 1) 2 _ S6.out (by omega) hx hn (by omega) (by omega)).mono ?_; rintro e w6 ⟨v, rfl, hv0, hv1, hs7, hg7⟩; have S7 := hide hs7; have O7 := hide (O6.out.grown hg7 hne); have R7 := hide (R6.out.grownNe hg7 (by omega)); have P7 := hide (P6.out.grownNe hg7 (by omega)); have G7 := hide (gr_trans G6.out hg7); have hz7 := hg7.size; obtain ⟨pa7, pb7, pc7⟩ := P7.out.three; clear hs7 hg7; have hvv : IntKind.i64.wrap (1 + v) = 1 + v := (by rw [IntKind.wrap_i64]; omega); obtain ⟨g, y, hgB, hgb, hgs, hyy, hgc, hgf, hst⟩ := O7.out.at_ (k := k) (by omega); subst hgB; have HST := hide (hst (1 + v)); have HSF := hide (fun (hg1 : w3.heap.size ≠ g) (hg2 : b ≠ g) => S7.out.far (p := ⟨g, k, none⟩) hg2 (fun h0 e => by have := H0.out.row_lt h0 e; simp at this; omega) (.int .i64 (1 + v))); clear hst))
        all_goals
          have hgb2 := hBB.out g rfl
          have hpl7 := P7.out.lt
          have HYS : Hid ((ys.set k (1 + v)).length = N) := hide (by rw [List.length_set]; exact hyl)
          have HYB : Hid (∀ y ∈ ys.set k (1 + v), 0 ≤ y ∧ y ≤ 2) := hide fun y hy => by
            rcases List.mem_or_eq_of_mem_set hy with h | h
            · exact hyb.out y h
            · omega
          clear hyy pa pb pc pa7 pb7 pc7 hgc hgf
          go_wp2_with fail
          go_roundw
          case rel => exact ⟨k + 1, _, by omega, by go_num, HYS.out, HYB, HST.out.1, (HSF.out (by omega) (by omega)).more (by omega), R7.out.far (p := ⟨g, k, none⟩) (show w.heap.size ≠ g by omega) _, P7.out.far (p := ⟨g, k, none⟩) (show w3.heap.size ≠ g by omega) _, gr_new G7.out (p := ⟨g, k, none⟩) (show w.heap.size ≤ g by omega) _, by simp; omega⟩
          case measure => simp [intOf]; omega
      · have hqd : decide (q < some_) = false := decide_eq_false hq
        go_wp2_with fail
        go_roundw
        case rel => exact ⟨k + 1, _, by omega, by go_num, hyl, hyb, own6, hs6.more (by omega), r6, p6, g6, by omega⟩
        case measure => simp [intOf]; omega
    · have hkk : k = N := by omega
      have hv : vldPan wd ht ys = true := by
        unfold vldPan
        rw [inB_of hwb.1 (by omega), inB_of hhb.1 (by omega), decide_eq_true (show (ys.length : Int) = innerN wd ht by rw [HN.out, hyl])]
        simp only [Bool.true_and]
        exact List.all_eq_true.2 fun y hy => by have := hyb.out y hy; exact inB_of this.1 this.2
      have HV := hide hv
      have HYL := hide hyl
      obtain ⟨ra, rb, rc⟩ := hr.three
      have rf0 := hr.frozen 0
      have rf1 := hr.frozen 1
      have rf2 := hr.frozen 2
      have HR := hide (bx_put3 (u0 := .int .i64 wd) (u1 := .int .i64 ht) (u2 := .slice B N d) hr).three
      have OWN := hide (own.keep (fun b' hb' h2 => by
        have h3 := hBB.out b' h2
        rw [Below.heap_setCell _ ⟨w.heap.size, 2, none⟩ (.slice B N d) b' (show b' ≠ w.heap.size by omega), Below.heap_setCell _ ⟨w.heap.size, 1, none⟩ (.int .i64 ht) b' (show b' ≠ w.heap.size by omega), Below.heap_setCell wr ⟨w.heap.size, 0, none⟩ (.int .i64 wd) b' (show b' ≠ w.heap.size by omega)]))
      have SRC := hide (sr_far3 (b := w.heap.size) (o0 := 0) (o1 := 1) (o2 := 2) (u0 := .int .i64 wd) (u1 := .int .i64 ht) (u2 := .slice B N d) hs (by omega) (fun h0 e => by have := H0.out.row_lt h0 e; omega))
      have GR := hide (gr_new3 (b := w.heap.size) (o0 := 0) (o1 := 1) (o2 := 2) (u0 := .int .i64 wd) (u1 := .int .i64 ht) (u2 := .slice B N d) hg (Nat.le_refl _))
      clear hv hyl own hs hr hp hg hkk
      go_wp2_with fail
      obtain ⟨ra_9, rb_9, rc_9⟩ := HR.out
      refine bodyPost_ret (v := .agg #[.int .i64 wd, .int .i64 ht, .slice B N d]) (by simp [results, Try.results106, go_sem, ra_9, rb_9, rc_9]) rfl ?_
      exact ⟨wd, ht, ys, B, d, by rw [HYL.out], hwb, hhb, HV.out, OWN.out, SRC.out.more (by omega), GR.out⟩
end Go.Proofs.Ytnjojnnapdhijaa
