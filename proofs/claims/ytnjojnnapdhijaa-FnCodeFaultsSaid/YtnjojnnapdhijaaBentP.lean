/-
  Contract: a panel that is often wrong, as it is drawn. Conditions: the numbers of bytes and of choices are far below the machine's.
-/
import Derived.Test.YtnjojnnapdhijaaDrawPan
import Derived.Test.YtnjojnnapdhijaaDrC
import Derived.Deep.RegionHeld3
namespace Go.Proofs.Ytnjojnnapdhijaa
open Go.RowKit
set_option linter.unusedVariables false

/-- a panel in a box, the result's box, the row of breaks -/
structure Bd (w0 : World) (b R P base : Nat) (wd ht : Int) (B : Option Addr) (d : Nat) (ys : List Int) (W : World) : Prop where
  p : Bx W P 36 #[.int .i64 wd, .int .i64 ht, .slice B ys.length d]
  r : Bx W R 36 #[.int .i64 0, .int .i64 0, .slice none 0 0]
  own : OwnI W base B d ys
  g : w0.grownBy W (some b)
section
variable {w0 W W' : World} {b R P base d d' K K0 : Nat} {wd ht : Int} {A B B' : Option Addr} {c : Nat} {xs ys ys' : List Int}
theorem Bd.alloc (h : Bd w0 b R P base wd ht B d ys W) (o : Obj) : Bd w0 b R P base wd ht B d ys (W.alloc o) := ⟨h.p.alloc o, h.r.alloc o, h.own.alloc o, gr_below h.g ((Below.refl _ _).alloc (Nat.le_refl _) o)⟩
theorem Bd.drew (h : Bd w0 b R P base wd ht B d ys W) : Bd w0 b R P base wd ht B d ys W.drew := ⟨h.p, h.r, h.own, gr_draw h.g⟩
theorem Bd.src (h : Bd w0 b R P base wd ht B d ys W) (hg : W.grownBy W' (some b)) (h1 : P ≠ b) (h2 : R ≠ b) (h3 : b < base) : Bd w0 b R P base wd ht B d ys W' := ⟨h.p.grownNe hg h1, h.r.grownNe hg h2, h.own.src hg h3, gr_trans h.g hg⟩
theorem Bd.ne (h : Bd w0 b R P base wd ht B d ys W) : blk B ≠ some P := Own.box_ne (intE_own.2 h.own) h.p (by decide)
theorem own_off {q o : Nat} (h : OwnI W base B d ys) (hne : blk B ≠ some q) (u : Value) : OwnI (W.setCell ⟨q, o, none⟩ u) base B d ys :=
  h.keep fun k _ hk => Below.heap_setCell W ⟨q, o, none⟩ u k (fun e => hne (by rw [hk]; exact congrArg some e))
theorem Bd.setW (h : Bd w0 b R P base wd ht B d ys W) (v : Int) (hP : w0.heap.size ≤ P) (hne : R ≠ P) : Bd w0 b R P base v ht B d ys (W.setCell ⟨P, 0, none⟩ (.int .i64 v)) :=
  ⟨h.p.set_ 0 _, h.r.far (p := ⟨P, 0, none⟩) hne _, own_off h.own h.ne _, gr_new h.g (p := ⟨P, 0, none⟩) hP _⟩
theorem Bd.setB (h : Bd w0 b R P base wd ht B d ys W) (hg : W.grownBy W' (blk B)) (ho : OwnI W' base B' d' ys') (hw : w0.heap.size ≤ base) (hP : w0.heap.size ≤ P) (hne : R ≠ P) : Bx W' P 36 #[.int .i64 wd, .int .i64 ht, .slice B ys.length d] ∧ Bd w0 b R P base wd ht B' d' ys' (W'.setCell ⟨P, 2, none⟩ (.slice B' ys'.length d')) := by
  have hp := h.p.grownOwn h.own (by decide) hg
  exact ⟨hp, hp.set_ 2 _, (h.r.grownOwn h.own (by decide) hg).far (p := ⟨P, 2, none⟩) hne _, own_off ho (Own.box_ne (intE_own.2 ho) hp (by decide)) _, gr_new (gr_own h.g (fun q hq => (h.own.ge hq).1) hw hg) (p := ⟨P, 2, none⟩) hP _⟩
theorem Bd.row (h : Bd w0 b R P base wd ht B d ys W) (hg : W.grownBy W' (blk B)) (ho : OwnI W' base B d ys') (hl : ys'.length = ys.length) (hw : w0.heap.size ≤ base) : Bd w0 b R P base wd ht B d ys' W' :=
  ⟨by rw [hl]; exact h.p.grownOwn h.own (by decide) hg, h.r.grownOwn h.own (by decide) hg, ho, gr_own h.g (fun q hq => (h.own.ge hq).1) hw hg⟩
theorem Bd.all (h : Bd w0 b R P base wd ht B d ys W) (ho : OwnI W base B' d' ys') (v u : Int) (hP : w0.heap.size ≤ P) (hne : R ≠ P) : Bd w0 b R P base v u B' d' ys' (((W.setCell ⟨P, 0, none⟩ (.int .i64 v)).setCell ⟨P, 1, none⟩ (.int .i64 u)).setCell ⟨P, 2, none⟩ (.slice B' ys'.length d')) :=
  have hb := Own.box_ne (intE_own.2 ho) h.p (by decide)
  ⟨bx_put3 h.p, ((h.r.far (p := ⟨P, 0, none⟩) hne _).far (p := ⟨P, 1, none⟩) hne _).far (p := ⟨P, 2, none⟩) hne _, own_off (own_off (own_off ho hb _) hb _) hb _, gr_new3 h.g hP⟩
theorem bd_fin (h : Bd w0 b w0.heap.size P base wd ht B d ys W) (hb : w0.heap.size < base) (s : Sr W b A c xs K) (s0 : Sr w0 b A c xs K0) :
    ((((W.setCell ⟨w0.heap.size, 0, none⟩ (.int .i64 wd)).setCell ⟨w0.heap.size, 1, none⟩ (.int .i64 ht)).setCell ⟨w0.heap.size, 2, none⟩ (.slice B ys.length d)).cell? ⟨w0.heap.size, 0, none⟩ = some (.int .i64 wd) ∧
      (((W.setCell ⟨w0.heap.size, 0, none⟩ (.int .i64 wd)).setCell ⟨w0.heap.size, 1, none⟩ (.int .i64 ht)).setCell ⟨w0.heap.size, 2, none⟩ (.slice B ys.length d)).cell? ⟨w0.heap.size, 1, none⟩ = some (.int .i64 ht) ∧
      (((W.setCell ⟨w0.heap.size, 0, none⟩ (.int .i64 wd)).setCell ⟨w0.heap.size, 1, none⟩ (.int .i64 ht)).setCell ⟨w0.heap.size, 2, none⟩ (.slice B ys.length d)).cell? ⟨w0.heap.size, 2, none⟩ = some (.slice B ys.length d)) ∧
    OwnI (((W.setCell ⟨w0.heap.size, 0, none⟩ (.int .i64 wd)).setCell ⟨w0.heap.size, 1, none⟩ (.int .i64 ht)).setCell ⟨w0.heap.size, 2, none⟩ (.slice B ys.length d)) w0.heap.size B d ys ∧
    Sr (((W.setCell ⟨w0.heap.size, 0, none⟩ (.int .i64 wd)).setCell ⟨w0.heap.size, 1, none⟩ (.int .i64 ht)).setCell ⟨w0.heap.size, 2, none⟩ (.slice B ys.length d)) b A c xs K ∧
    w0.grownBy (((W.setCell ⟨w0.heap.size, 0, none⟩ (.int .i64 wd)).setCell ⟨w0.heap.size, 1, none⟩ (.int .i64 ht)).setCell ⟨w0.heap.size, 2, none⟩ (.slice B ys.length d)) (some b) :=
  ⟨(bx_put3 h.r).three, (own_low3 h.own hb).mono (by omega), sr_far3 s (by have := s0.lt; omega) (fun h1 e => by have := s0.row_lt h1 e; omega), gr_new3 h.g (Nat.le_refl _)⟩
end
/-- a panel of any kind, drawn -/
def RetBp (w : World) (b : Nat) (A : Option Addr) (c : Nat) (xs : List Int) (K : Nat) (e : Ending) (w' : World) : Prop :=
  ∃ (wd ht : Int) (ys : List Int) (B : Option Addr) (d : Nat), e = .returned (.agg #[.int .i64 wd, .int .i64 ht, .slice B ys.length d]) ∧ ys.length ≤ 200 ∧ OwnI w' w.heap.size B d ys ∧ Sr w' b A c xs K ∧ w.grownBy w' (some b)

set_option maxRecDepth 40000 in
set_option maxHeartbeats 16000000 in
theorem l02Bent_any (b : Nat) (A : Option Addr) (c : Nat) (xs : List Int) (K : Nat) (w : World) (h : Sr w b A c xs K) (hK : K ≤ 80000) (hx : ∀ x ∈ xs, 0 ≤ x ∧ x ≤ 255) (hn : xs.length ≤ 1048576) :
    Calls Try.prog 66 #[.pointer (some ⟨b, 0, none⟩)] w (RetBp w b A c xs (K + 310)) := by
  have hb0 := h.lt
  have H0 := hide h
  have HX := hide hx
  have s1 := h.alloc (.cells #[.int .i64 0, .int .i64 0, .slice none 0 0] 36)
  have r1 := Bx.new w 36 #[.int .i64 0, .int .i64 0, .slice none 0 0]
  have g1 : w.grownBy (w.alloc (.cells #[.int .i64 0, .int .i64 0, .slice none 0 0] 36)) (some b) := gr_below (gr_refl w _) ((Below.refl _ _).alloc (Nat.le_refl _) _)
  have HD := hide (l02Draw_any b A c xs K 5 _ s1 (by omega) hx hn (by omega) (by omega))
  clear h hx s1
  go_enter Try.func66, Try.ntmps66
  go_wp2_with fail
  refine HD.out.mono ?_
  rintro e w2 ⟨wd, ht, ys, B, d, rfl, hwd, hht, hv, own2, s2, g2⟩
  have hyl : ys.length ≤ 112 := by
    obtain ⟨v1, v2, hl, v4⟩ := vldPan_true hv
    have := inner_bound (inB_true.1 v1).1 (inB_true.1 v1).2 (inB_true.1 v2).1 (inB_true.1 v2).2
    omega
  have hz2 := g2.size
  rw [World.size_alloc] at hz2 own2
  have B3 : Bd w b w.heap.size w2.heap.size (w.heap.size + 1) wd ht B d ys (w2.alloc (.cells #[.int .i64 wd, .int .i64 ht, .slice B ys.length d] 36)) :=
    ⟨Bx.new _ _ _, (r1.grownNe g2 (by omega)).alloc _, own2.alloc _, gr_below (gr_trans g1 g2) ((Below.refl _ _).alloc (Nat.le_refl _) _)⟩
  have s3 := s2.alloc (.cells #[.int .i64 wd, .int .i64 ht, .slice B ys.length d] 36)
  have HB3 := hide B3
  obtain ⟨P, hP⟩ : ∃ P, P = w2.heap.size := ⟨_, rfl⟩
  clear own2 s2 g2 r1 g1 hv hwd hht HD B3
  go_wp2_with fail
  refine (pickG_any b A c xs _ 20 _ s3 (by omega) HX.out hn (by omega) (by omega)).mono ?_
  rintro e w4 ⟨v, rfl, hv20, s4, g4⟩
  rw [← hP] at HB3 ⊢
  have B4 := HB3.out.src g4 (by omega) (by omega) (by omega)
  have hwP : w.heap.size < P := by omega
  have hz4 := B4.g.size
  have hbP : b < P := by omega
  clear s3 g4 HB3 hz2
  obtain ⟨pa_4, pb_4, pc_4⟩ := B4.p.three
  have hPw4 := B4.p.lt
  clear hP
  by_cases h0 : v = 0
  · subst h0
    have s5 := s4.alloc (.cells #[.int .i64 0, .int .i64 8, .int .i64 9, .int .i64 (-9223372036854775808)] 2)
    have B5 := B4.alloc (.cells #[.int .i64 0, .int .i64 8, .int .i64 9, .int .i64 (-9223372036854775808)] 2)
    have HNEW := hide (OwnI.new (base := 0) w4 [0, 8, 9, -9223372036854775808] #[.int .i64 0, .int .i64 8, .int .i64 9, .int .i64 (-9223372036854775808)] rfl (Nat.zero_le _) (by simp [maxLen])).rd
    clear s4
    go_wp2_with fail
    refine (among_any b A c xs _ (some ⟨w4.heap.size, 0, none⟩) 4 [0, 8, 9, -9223372036854775808] _ s5 (by omega) HX.out hn HNEW.out (fun q hq => by simp [blk] at hq; omega) (by simp) (by simp)).mono ?_
    rintro e w5 ⟨x, rfl, hxm, s6, g6⟩
    have B6 := B5.src g6 (by omega) (by omega) (by omega)
    obtain ⟨pa_6, pb_6, pc_6⟩ := B6.p.three
    have pf_6 := B6.p.frozen 0
    have HB7 := hide (B6.setW x (by omega) (by omega))
    have HS7 := hide (s6.far (p := ⟨P, 0, none⟩) (by show b ≠ P; omega) (fun h1 e => by have := H0.out.row_lt h1 e; simp at this; omega) (.int .i64 x))
    clear B4 B5 B6 s5 s6 g6 pa_4 pb_4 pc_4
    go_upto_region 12 with fail
    obtain ⟨w7, hw7⟩ : ∃ w7, w7 = w5.setCell ⟨P, 0, none⟩ (.int .i64 x) := ⟨_, rfl⟩
    rw [← hw7] at HB7 HS7 ⊢
    clear hw7 pa_6 pb_6 pc_6 pf_6
    obtain ⟨pa, pb, pc⟩ := (HB7.out).p.three
    obtain ⟨ra, rb, rc⟩ := (HB7.out).r.three
    have rf0 := (HB7.out).r.frozen 0
    have rf1 := (HB7.out).r.frozen 1
    have rf2 := (HB7.out).r.frozen 2
    have HF := hide (bd_fin (HB7.out) (by omega) HS7.out H0.out)
    clear HB7 HS7
    go_wp2_with fail
    obtain ⟨ra_9, rb_9, rc_9⟩ := HF.out.1
    refine bodyPost_ret (v := .agg #[.int .i64 (x), .int .i64 (ht), .slice (B) ys.length d]) (by simp [results, Try.results66, go_sem, ra_9, rb_9, rc_9]) rfl ?_
    exact ⟨_, _, ys, _, _, by rfl, by omega, HF.out.2.1, HF.out.2.2.1.more (by omega), HF.out.2.2.2⟩
  · by_cases h1 : v = 1
    · subst h1
      have s5 := s4.alloc (.cells #[.int .i64 0] 2)
      have B5 := B4.alloc (.cells #[.int .i64 0] 2)
      have hnr : RI (w4.alloc (.cells #[.int .i64 0] 2)) (some ⟨w4.heap.size, 0, none⟩) [0] := (OwnI.new (base := 0) w4 [0] #[.int .i64 0] rfl (Nat.zero_le _) (by simp [maxLen])).rd
      obtain ⟨zs, hzs⟩ : ∃ zs, zs = ys ++ [0] := ⟨_, rfl⟩
      have hzl : zs.length ≤ 200 := by rw [hzs]; simp; omega
      have HZ := hide hzs
      clear hzs
      go_upto_region 12 with (at_builtin; refine wpList_append_ints rfl (.tmp 17) (.tmp 18) rfl (w.heap.size + 1) B d ys rfl B5.own (some ⟨w4.heap.size, 0, none⟩) 1 [0] rfl hnr (by simp; omega) (by simp; omega) zs HZ.out ?_; intro A6 c6 w6 own6 hg6 hb6; have Q6 := B5.setB hg6 own6 (by omega) (by omega) (by omega); have S6 := hide (s5.grownOld H0.out (fun q hq => (B5.own.ge hq).1) (by omega) hg6); obtain ⟨pa_6, pb_6, pc_6⟩ := Q6.1.three; have pf_6 := Q6.1.frozen 2; have HB7 := hide Q6.2; clear Q6)
      have HS7 := hide (S6.out.far (p := ⟨P, 2, none⟩) (by show b ≠ P; omega) (fun h1 e => by have := H0.out.row_lt h1 e; simp at this; omega) (.slice A6 zs.length c6))
      obtain ⟨w7, hw7⟩ : ∃ w7, w7 = w6.setCell ⟨P, 2, none⟩ (.slice A6 zs.length c6) := ⟨_, rfl⟩
      rw [← hw7] at HB7 HS7 ⊢
      clear hw7 pa_6 pb_6 pc_6 pf_6 pa_4 pb_4 pc_4 B4 B5 s4 s5 hg6
      obtain ⟨pa, pb, pc⟩ := (HB7.out).p.three
      obtain ⟨ra, rb, rc⟩ := (HB7.out).r.three
      have rf0 := (HB7.out).r.frozen 0
      have rf1 := (HB7.out).r.frozen 1
      have rf2 := (HB7.out).r.frozen 2
      have HF := hide (bd_fin (HB7.out) (by omega) HS7.out H0.out)
      clear HB7 HS7
      go_wp2_with fail
      obtain ⟨ra_9, rb_9, rc_9⟩ := HF.out.1
      refine bodyPost_ret (v := .agg #[.int .i64 (wd), .int .i64 (ht), .slice (A6) zs.length c6]) (by simp [results, Try.results66, go_sem, ra_9, rb_9, rc_9]) rfl ?_
      exact ⟨_, _, zs, _, _, by rfl, by omega, HF.out.2.1, HF.out.2.2.1.more (by omega), HF.out.2.2.2⟩
    · by_cases h2 : v = 2
      · subst h2
        by_cases hN0 : 0 < ys.length
        · have hNi : (0 : Int) < (ys.length : Int) := by omega
          obtain ⟨gB, x0, rfl, hgBb, hgBs, _⟩ := B4.own.at_ (k := 0) (by omega)
          have hgP : gB ≠ P := fun e => B4.ne (by rw [← e]; rfl)
          have HA1 := hide (And.intro s4.drew B4.drew)
          have HA2 := hide (And.intro (s4.alloc (.cells #[.int .i64 (-1), .int .i64 2, .int .i64 3] 2)).drew (B4.alloc (.cells #[.int .i64 (-1), .int .i64 2, .int .i64 3] 2)).drew)
          have HPK : Hid (∀ W : World, Sr W b A c xs (K + 301) ∧ Bd w b w.heap.size P (w.heap.size + 1) wd ht (some ⟨gB, 0, none⟩) d ys W → Calls Try.prog 54 #[.pointer (some ⟨b, 0, none⟩), .int .i64 (ys.length : Int)] W fun e w' => ∃ q : Nat, e = .returned (.int .i64 (q : Int)) ∧ q < ys.length ∧ W.grownBy w' (some b) ∧ Sr w' b A c xs (K + 302) ∧ Bd w b w.heap.size P (w.heap.size + 1) wd ht (some ⟨gB, 0, none⟩) d ys w') := hide fun W hW => (pickG_any b A c xs _ (ys.length : Int) W hW.1 (by omega) HX.out hn (by omega) (by omega)).mono fun e w' h => by
            obtain ⟨q, h1, h2, h3, h4⟩ := h
            exact ⟨q, h1, by omega, h4, h3.more (by omega), hW.2.src h4 (by omega) (by omega) (by omega)⟩
          have HAM : Hid (∀ (W : World) (g : Nat), Sr W b A c xs (K + 302) ∧ Bd w b w.heap.size P (w.heap.size + 1) wd ht (some ⟨gB, 0, none⟩) d ys W → RI W (some ⟨g, 0, none⟩) [-1, 2, 3] → g ≠ b → Calls Try.prog 103 #[.pointer (some ⟨b, 0, none⟩), .slice (some ⟨g, 0, none⟩) 3 3] W fun e w' => ∃ x : Int, e = .returned (.int .i64 x) ∧ Sr w' b A c xs (K + 303) ∧ Bd w b w.heap.size P (w.heap.size + 1) wd ht (some ⟨gB, 0, none⟩) d ys w') := hide fun W g hW hr hg => (among_any b A c xs _ (some ⟨g, 0, none⟩) 3 [-1, 2, 3] W hW.1 (by omega) HX.out hn hr (fun q hq => by simp [blk] at hq; omega) (by simp) (by simp)).mono fun e w' h => by
            obtain ⟨x, h1, h2, h3, h4⟩ := h
            exact ⟨x, h1, h3.more (by omega), hW.2.src h4 (by omega) (by omega) (by omega)⟩
          have HNW : Hid (∀ W : World, RI (W.alloc (.cells #[.int .i64 (-1), .int .i64 2, .int .i64 3] 2)) (some ⟨W.heap.size, 0, none⟩) [-1, 2, 3]) := hide fun W => (OwnI.new (base := 0) W [-1, 2, 3] #[.int .i64 (-1), .int .i64 2, .int .i64 3] rfl (Nat.zero_le _) (by simp [maxLen])).rd
          have hb4 : b < w4.heap.size := by omega
          clear B4 s4 pa_4 pb_4
          go_wp2_with fail
          clear pc_4
          go_region_held3 (fun W => W.cell? ⟨P, 2, none⟩ = some (.slice (some ⟨gB, 0, none⟩) ys.length d))
            (first | with_reducible exact (HB6.out.p.grownOwn HB6.out.own (by decide) (HST.out x).2).three.2.2 | with_reducible exact HB6.out.p.three.2.2 | with_reducible exact (HST5.out.2.alloc _).p.three.2.2 | with_reducible exact HST5.out.2.p.three.2.2 | with_reducible exact HA2.out.2.p.three.2.2 | with_reducible exact HA1.out.2.p.three.2.2 | fail)
            (first
              | (go_at_call 54; refine (HPK.out _ (by first | with_reducible exact HA1.out | with_reducible exact HA2.out)).mono ?_; rintro e w5 ⟨q, rfl, hq, g5, st5⟩; have HST5 := hide st5; have HG5 := hide g5; have hz5 : w4.heap.size ≤ w5.heap.size := (by have h9 := g5.size; simp at h9; omega); clear st5 g5)
              | (go_at_call_of 103 (Value.slice (some ⟨w5.heap.size, 0, none⟩) 3 3); refine (HAM.out _ w5.heap.size ⟨HST5.out.1.alloc _, HST5.out.2.alloc _⟩ (HNW.out _) (by omega)).mono ?_; rintro e w6 ⟨x, rfl, s6, b6⟩; have HB6 := hide b6; have HS6 := hide s6; clear s6 b6; obtain ⟨gC, x1, hgC, _, _, _, hcC, hfC, hstC⟩ := HB6.out.own.at_ (k := q) hq; injection hgC with hgC; injection hgC with hgC; subst hgC; have HST := hide hstC; clear hstC)
              | (go_at_call_of 103 (Value.slice (some ⟨w4.heap.size, 0, none⟩) 3 3); refine (HAM.out _ w4.heap.size HST5.out (RI.grown (w := (w4.alloc (.cells #[.int .i64 (-1), .int .i64 2, .int .i64 3] 2)).drew) (HNW.out w4) HG5.out (.inr (fun e => by simp [blk] at e; omega))) (by omega)).mono ?_; rintro e w6 ⟨x, rfl, s6, b6⟩; have HB6 := hide b6; have HS6 := hide s6; clear s6 b6; obtain ⟨gC, x1, hgC, _, _, _, hcC, hfC, hstC⟩ := HB6.out.own.at_ (k := q) hq; injection hgC with hgC; injection hgC with hgC; subst hgC; have HST := hide hstC; clear hstC)
              | fail)
          all_goals
            obtain ⟨zs, hzs⟩ : ∃ zs, zs = ys.set q x := ⟨_, rfl⟩
            have hzl : zs.length = ys.length := by rw [hzs, List.length_set]
            have HB7 := hide (HB6.out.row (HST.out x).2 (HST.out x).1 (by simp) (by omega))
            rw [← hzs] at HB7
            have HS7 := hide (HS6.out.far (p := ⟨gB, q, none⟩) (show b ≠ gB by omega) (fun h1 e => by have := H0.out.row_lt h1 e; simp at this; omega) (.int .i64 x))
            have HZL := hide hzl
            have hzb : zs.length ≤ 200 := by omega
            clear hzs hzl hcC hfC
            go_upto_region 12 with fail
            obtain ⟨w7, hw7⟩ : ∃ w7, w7 = w6.setCell ⟨gB, q, none⟩ (.int .i64 x) := ⟨_, rfl⟩
            rw [← hw7] at HB7 HS7 ⊢
            rw [← HZL.out]
            clear hw7
            obtain ⟨pa, pb, pc⟩ := (HB7.out).p.three
            obtain ⟨ra, rb, rc⟩ := (HB7.out).r.three
            have rf0 := (HB7.out).r.frozen 0
            have rf1 := (HB7.out).r.frozen 1
            have rf2 := (HB7.out).r.frozen 2
            have HF := hide (bd_fin (HB7.out) (by omega) HS7.out H0.out)
            clear HB7 HS7
            go_wp2_with fail
            obtain ⟨ra_9, rb_9, rc_9⟩ := HF.out.1
            refine bodyPost_ret (v := .agg #[.int .i64 (wd), .int .i64 (ht), .slice (some ⟨gB, 0, none⟩) zs.length d]) (by simp [results, Try.results66, go_sem, ra_9, rb_9, rc_9]) rfl ?_
            exact ⟨_, _, zs, _, _, by rfl, by omega, HF.out.2.1, HF.out.2.2.1.more (by omega), HF.out.2.2.2⟩
        · have hNi : ¬ (0 : Int) < (ys.length : Int) := by omega
          have HB7 := hide B4
          have HS7 := hide s4
          clear B4 s4 pa_4 pb_4 pc_4
          obtain ⟨pa, pb, pc⟩ := (HB7.out).p.three
          obtain ⟨ra, rb, rc⟩ := (HB7.out).r.three
          have rf0 := (HB7.out).r.frozen 0
          have rf1 := (HB7.out).r.frozen 1
          have rf2 := (HB7.out).r.frozen 2
          have HF := hide (bd_fin (HB7.out) (by omega) HS7.out H0.out)
          clear HB7 HS7
          go_wp2_with fail
          obtain ⟨ra_9, rb_9, rc_9⟩ := HF.out.1
          refine bodyPost_ret (v := .agg #[.int .i64 (wd), .int .i64 (ht), .slice (B) ys.length d]) (by simp [results, Try.results66, go_sem, ra_9, rb_9, rc_9]) rfl ?_
          exact ⟨_, _, ys, _, _, by rfl, by omega, HF.out.2.1, HF.out.2.2.1.more (by omega), HF.out.2.2.2⟩

      · by_cases h3 : v = 3
        · subst h3
          have HNP := hide (fun W : World => l02New_any 8 8 W (by omega) (by omega) (by omega) (by omega))
          clear pa_4 pb_4 pc_4
          go_wp2_with fail
          refine (HNP.out _).mono ?_
          rintro e w5 ⟨B9, d9, rfl, own5, b5⟩
          have B5 : Bd w b w.heap.size P (w.heap.size + 1) wd ht B d ys w5 := ⟨B4.p.below b5, B4.r.below b5, B4.own.below b5, gr_below B4.g b5⟩
          have s5 := s4.below b5
          obtain ⟨zs, hzs⟩ : ∃ zs, zs = List.replicate (innerN 8 8).toNat (0 : Int) := ⟨_, rfl⟩
          have hzl : zs.length ≤ 200 := by rw [hzs]; decide
          rw [← hzs] at own5 ⊢
          obtain ⟨pa_5, pb_5, pc_5⟩ := B5.p.three
          have pf_5 := B5.p.frozen 0
          have pf_6 := B5.p.frozen 1
          have pf_7 := B5.p.frozen 2
          have HB7 := hide (B5.all (own5.mono (show w.heap.size + 1 ≤ w4.heap.size by omega)) 8 8 (by omega) (by omega))
          have HS7 := hide (sr_far3 (b := P) (o0 := 0) (o1 := 1) (o2 := 2) (u0 := .int .i64 8) (u1 := .int .i64 8) (u2 := .slice B9 zs.length d9) s5 (by omega) (fun h1 e => by have := H0.out.row_lt h1 e; omega))
          clear B4 B5 s4 s5 own5 hzs
          go_upto_region 12 with fail
          obtain ⟨w7, hw7⟩ : ∃ w7, w7 = ((w5.setCell ⟨P, 0, none⟩ (.int .i64 8)).setCell ⟨P, 1, none⟩ (.int .i64 8)).setCell ⟨P, 2, none⟩ (.slice B9 zs.length d9) := ⟨_, rfl⟩
          rw [← hw7] at HB7 HS7 ⊢
          clear hw7 pa_5 pb_5 pc_5 pf_5 pf_6 pf_7
          obtain ⟨pa, pb, pc⟩ := (HB7.out).p.three
          obtain ⟨ra, rb, rc⟩ := (HB7.out).r.three
          have rf0 := (HB7.out).r.frozen 0
          have rf1 := (HB7.out).r.frozen 1
          have rf2 := (HB7.out).r.frozen 2
          have HF := hide (bd_fin (HB7.out) (by omega) HS7.out H0.out)
          clear HB7 HS7
          go_wp2_with fail
          obtain ⟨ra_9, rb_9, rc_9⟩ := HF.out.1
          refine bodyPost_ret (v := .agg #[.int .i64 (8), .int .i64 (8), .slice (B9) zs.length d9]) (by simp [results, Try.results66, go_sem, ra_9, rb_9, rc_9]) rfl ?_
          exact ⟨_, _, zs, _, _, by rfl, by omega, HF.out.2.1, HF.out.2.2.1.more (by omega), HF.out.2.2.2⟩
        · have e0 : (((v : Nat) : Int) == 0) = false := by simp; omega
          have e1 : (((v : Nat) : Int) == 1) = false := by simp; omega
          have e2 : (((v : Nat) : Int) == 2) = false := by simp; omega
          have e3 : (((v : Nat) : Int) == 3) = false := by simp; omega
          have HB7 := hide B4
          have HS7 := hide s4
          clear B4 s4 pa_4 pb_4 pc_4
          obtain ⟨pa, pb, pc⟩ := (HB7.out).p.three
          obtain ⟨ra, rb, rc⟩ := (HB7.out).r.three
          have rf0 := (HB7.out).r.frozen 0
          have rf1 := (HB7.out).r.frozen 1
          have rf2 := (HB7.out).r.frozen 2
          have HF := hide (bd_fin (HB7.out) (by omega) HS7.out H0.out)
          clear HB7 HS7
          go_wp2_with fail
          obtain ⟨ra_9, rb_9, rc_9⟩ := HF.out.1
          refine bodyPost_ret (v := .agg #[.int .i64 (wd), .int .i64 (ht), .slice (B) ys.length d]) (by simp [results, Try.results66, go_sem, ra_9, rb_9, rc_9]) rfl ?_
          exact ⟨_, _, ys, _, _, by rfl, by omega, HF.out.2.1, HF.out.2.2.1.more (by omega), HF.out.2.2.2⟩
set_option maxHeartbeats 4000000 in
theorem drawCountCurves_any (A : Option Addr) (c : Nat) (xs : List Int) (w : World) (h : RB w A xs) (hx : ∀ x ∈ xs, 0 ≤ x ∧ x ≤ 255) (hn : xs.length ≤ 1048576) :
    Calls Try.prog 18 #[.slice A xs.length c] w fun e w' => ∃ (wd ht : Int) (ys : List Int) (B : Option Addr) (d : Nat), e = .returned (.agg #[.int .i64 wd, .int .i64 ht, .slice B ys.length d]) ∧ ys.length ≤ 200 ∧ OwnI w' w.heap.size B d ys ∧ Below w.heap.size w w' := by
  have r0 := (Bx.new w 36 #[.int .i64 0, .int .i64 0, .slice none 0 0]).alloc (.cells #[.slice A xs.length c, .int .i64 0, .int .u64 0] 101)
  have s0 := Sr.new (w.alloc (.cells #[.int .i64 0, .int .i64 0, .slice none 0 0] 36)) (c := c) (h.alloc (.cells #[.int .i64 0, .int .i64 0, .slice none 0 0] 36))
  have b0 := ((Below.refl w.heap.size w).alloc (Nat.le_refl _) (.cells #[.int .i64 0, .int .i64 0, .slice none 0 0] 36)).alloc (by simp) (.cells #[.slice A xs.length c, .int .i64 0, .int .u64 0] 101)
  rw [World.size_alloc] at s0
  obtain ⟨w1, hw1⟩ : ∃ w1, w1 = (w.alloc (.cells #[.int .i64 0, .int .i64 0, .slice none 0 0] 36)).alloc (.cells #[.slice A xs.length c, .int .i64 0, .int .u64 0] 101) := ⟨_, rfl⟩
  have z1 : w1.heap.size = w.heap.size + 2 := by rw [hw1]; simp
  rw [← hw1] at r0 s0 b0
  go_enter Try.func18, Try.ntmps18
  go_wp2_with fail
  refine (l00From_any A xs.length c _).mono ?_
  rintro e w2 ⟨rfl, rfl⟩
  rw [World.size_alloc, ← hw1]
  clear hw1
  go_wp2_with fail
  refine (l02Bent_any (w.heap.size + 1) A c xs 0 w1 s0 (by omega) hx hn).mono ?_
  rintro e w3 ⟨wd, ht, ys, B, d, rfl, hyl, own, hs3, hg3⟩
  have r3 := r0.grownNe hg3 (by omega)
  have b3 := below_gr b0 hg3 (by omega)
  obtain ⟨ra, rb, rc⟩ := r3.three
  have rf0 := r3.frozen 0
  have rf1 := r3.frozen 1
  have rf2 := r3.frozen 2
  have HR := hide (bx_put3 (u0 := .int .i64 wd) (u1 := .int .i64 ht) (u2 := .slice B ys.length d) r3).three
  have OWN := hide ((own_low3 (b := w.heap.size) (o0 := 0) (o1 := 1) (o2 := 2) (u0 := .int .i64 wd) (u1 := .int .i64 ht) (u2 := .slice B ys.length d) own (by omega)).mono (show w.heap.size ≤ _ by omega))
  have HB := hide (below_put3_ (b := w.heap.size) (o0 := 0) (o1 := 1) (o2 := 2) (u0 := .int .i64 wd) (u1 := .int .i64 ht) (u2 := .slice B ys.length d) b3 (Nat.le_refl _))
  clear own r3 r0 s0 b0 hs3 hg3 b3
  go_wp2_with fail
  obtain ⟨ra_9, rb_9, rc_9⟩ := HR.out
  refine bodyPost_ret (v := .agg #[.int .i64 wd, .int .i64 ht, .slice B ys.length d]) (by simp [results, Try.results18, go_sem, ra_9, rb_9, rc_9]) rfl ?_
  exact ⟨wd, ht, ys, B, d, rfl, hyl, OWN.out, HB.out⟩
end Go.Proofs.Ytnjojnnapdhijaa
