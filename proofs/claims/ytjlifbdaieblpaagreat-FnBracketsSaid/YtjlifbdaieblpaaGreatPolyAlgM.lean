/-
  Contract: a panel that is often wrong, as it is drawn. Conditions: the numbers of bytes and of choices are far below the machine's.
  Contracts: panels for the law of brackets, as they are drawn. Conditions: the numbers of bytes and of choices are far below the machine's.
  Contracts: WritheOf, CrossingsOf, CountCurves of the reference, where no list of lists is at hand. Conditions: at most 1048576 breaks.
  Plain law: the coefficients of sums and products of polynomials, up to the machine's wrapping; a polynomial without needless coefficients is known by its coefficients. No program is named here. Conditions: none.
-/
import Derived.Test.YtjlifbdaieblpaaGreatPickZM
import Derived.Test.YtjlifbdaieblpaaGreatBr4
import Derived.Test.YtjlifbdaieblpaaGreatTr13
import Derived.Test.YtjlifbdaieblpaaGreatBrWay
import Derived.Test.YtjlifbdaieblpaaGreatCrC
import Derived.Test.YtjlifbdaieblpaaGreatBrMath
import Derived.Test.YtjlifbdaieblpaaGreatPolySum
import Derived.Deep.RegionHeld3
namespace Go.Proofs.YtjlifbdaieblpaaGreat
open Go.RowKit
set_option linter.unusedVariables false

/-- a panel in a box, the result's box, the row of breaks -/
structure Bd (w0 : World) (b R P base : Nat) (wd ht : Int) (B : Option Addr) (d : Nat) (ys : List Int) (W : World) : Prop where
  p : Bx W P 26 #[.int .i64 wd, .int .i64 ht, .slice B ys.length d]
  r : Bx W R 26 #[.int .i64 0, .int .i64 0, .slice none 0 0]
  own : OwnI W base B d ys
  g : w0.grownBy W (some b)
section
variable {w0 W W' : World} {b R P base d d' K K0 : Nat} {wd ht : Int} {A B B' : Option Addr} {c : Nat} {xs ys ys' : List Int}
theorem Bd.alloc (h : Bd w0 b R P base wd ht B d ys W) (o : Obj) : Bd w0 b R P base wd ht B d ys (W.alloc o) := ⟨h.p.alloc o, h.r.alloc o, h.own.alloc o, gr_below h.g ((Below.refl _ _).alloc (Nat.le_refl _) o)⟩
theorem Bd.drew (h : Bd w0 b R P base wd ht B d ys W) : Bd w0 b R P base wd ht B d ys W.drew := ⟨h.p, h.r, h.own, gr_draw h.g⟩
theorem Bd.src (h : Bd w0 b R P base wd ht B d ys W) (hg : W.grownBy W' (some b)) (h1 : P ≠ b) (h2 : R ≠ b) (h3 : b < base) : Bd w0 b R P base wd ht B d ys W' := ⟨h.p.grownNe hg h1, h.r.grownNe hg h2, h.own.src hg h3, gr_trans h.g hg⟩
theorem Bd.ne (h : Bd w0 b R P base wd ht B d ys W) : blk B ≠ some P := Own.box_ne (intE_own.2 h.own) h.p (by decide)
theorem own_off {q o : Nat} (h : OwnI W base B d ys) (hne : blk B ≠ some q) (u : Value) : OwnI (W.setCell ⟨q, o, none⟩ u) base B d ys :=
  h.keep fun k _ hk => Below.heap_setCell W ⟨q, o, none⟩ u k (fun e => hne (by rw [hk]; exact congrArg some e))
theorem Bd.setW (h : Bd w0 b R P base wd ht B d ys W) (v : Int) (hP : w0.heap.size ≤ P) (hne : R ≠ P) : Bd w0 b R P base v ht B d ys (W.setCell ⟨P, 0, none⟩ (.int .i64 v)) :=
  ⟨h.p.set_ 0 _, h.r.far (p := ⟨P, 0, none⟩) hne _, own_off h.own h.ne _, gr_new h.g (p := ⟨P, 0, none⟩) hP _⟩
theorem Bd.setB (h : Bd w0 b R P base wd ht B d ys W) (hg : W.grownBy W' (blk B)) (ho : OwnI W' base B' d' ys') (hw : w0.heap.size ≤ base) (hP : w0.heap.size ≤ P) (hne : R ≠ P) : Bx W' P 26 #[.int .i64 wd, .int .i64 ht, .slice B ys.length d] ∧ Bd w0 b R P base wd ht B' d' ys' (W'.setCell ⟨P, 2, none⟩ (.slice B' ys'.length d')) := by
  have hp := h.p.grownOwn h.own (by decide) hg
  exact ⟨hp, hp.set_ 2 _, (h.r.grownOwn h.own (by decide) hg).far (p := ⟨P, 2, none⟩) hne _, own_off ho (Own.box_ne (intE_own.2 ho) hp (by decide)) _, gr_new (gr_own h.g (fun q hq => (h.own.ge hq).1) hw hg) (p := ⟨P, 2, none⟩) hP _⟩
theorem Bd.row (h : Bd w0 b R P base wd ht B d ys W) (hg : W.grownBy W' (blk B)) (ho : OwnI W' base B d ys') (hl : ys'.length = ys.length) (hw : w0.heap.size ≤ base) : Bd w0 b R P base wd ht B d ys' W' :=
  ⟨by rw [hl]; exact h.p.grownOwn h.own (by decide) hg, h.r.grownOwn h.own (by decide) hg, ho, gr_own h.g (fun q hq => (h.own.ge hq).1) hw hg⟩
theorem Bd.all (h : Bd w0 b R P base wd ht B d ys W) (ho : OwnI W base B' d' ys') (v u : Int) (hP : w0.heap.size ≤ P) (hne : R ≠ P) : Bd w0 b R P base v u B' d' ys' (((W.setCell ⟨P, 0, none⟩ (.int .i64 v)).setCell ⟨P, 1, none⟩ (.int .i64 u)).setCell ⟨P, 2, none⟩ (.slice B' ys'.length d')) :=
  have hb := Own.box_ne (intE_own.2 ho) h.p (by decide)
  ⟨bx_put3 h.p, ((h.r.far (p := ⟨P, 0, none⟩) hne _).far (p := ⟨P, 1, none⟩) hne _).far (p := ⟨P, 2, none⟩) hne _, own_off (own_off (own_off ho hb _) hb _) hb _, gr_new3 h.g hP⟩
theorem bd_fin (h : Bd w0 b w0.heap.size P base wd ht B d ys W) (hb : w0.heap.size < base) (s : Sr W b A c xs K) (s0 : Sr w0 b A c xs K0) :
    ((((W.setCell ⟨w0.heap.size, 0, none⟩ (.int .i64 wd)).setCell ⟨w0.heap.size, 1, none⟩ (.int .i64 ht)).setCell ⟨w0.heap.size, 2, none⟩ (.slice B ys.length d)).cell? ⟨w0.heap.size, 0, none⟩ = some (.int .i64 wd) ∧
      (((W.setCell ⟨w0.heap.size, 0, none⟩ (.int .i64 wd)).setCell ⟨w0.heap.size, 1, none⟩ (.int .i64 ht)).setCell ⟨w0.heap.size, 2, none⟩ (.slice B ys.length d)).cell? ⟨w0.heap.size, 1, none⟩ = some (.int .i64 ht) ∧
      (((W.setCell ⟨w0.heap.size, 0, none⟩ (.int .i64 wd)).setCell ⟨w0.heap.size, 1, none⟩ (.int .i64 ht)).setCell ⟨w0.heap.size, 2, none⟩ (.slice B ys.length d)).cell? ⟨w0.heap.size, 2, none⟩ = some (.slice B ys.length d)) ∧
    OwnI (((W.setCell ⟨w0.heap.size, 0, none⟩ (.int .i64 wd)).setCell ⟨w0.heap.size, 1, none⟩ (.int .i64 ht)).setCell ⟨w0.heap.size, 2, none⟩ (.slice B ys.length d)) w0.heap.size B d ys ∧
    Sr (((W.setCell ⟨w0.heap.size, 0, none⟩ (.int .i64 wd)).setCell ⟨w0.heap.size, 1, none⟩ (.int .i64 ht)).setCell ⟨w0.heap.size, 2, none⟩ (.slice B ys.length d)) b A c xs K ∧
    w0.grownBy (((W.setCell ⟨w0.heap.size, 0, none⟩ (.int .i64 wd)).setCell ⟨w0.heap.size, 1, none⟩ (.int .i64 ht)).setCell ⟨w0.heap.size, 2, none⟩ (.slice B ys.length d)) (some b) :=
  ⟨(bx_put3 h.r).three, (own_low3 h.own hb).mono (by omega), sr_far3 s (by have := s0.lt; omega) (fun h1 e => by have := s0.row_lt h1 e; omega), gr_new3 h.g (Nat.le_refl _)⟩
end
/-- a panel of any kind, drawn -/
def RetBp (w : World) (b : Nat) (A : Option Addr) (c : Nat) (xs : List Int) (K : Nat) (e : Ending) (w' : World) : Prop :=
  ∃ (wd ht : Int) (ys : List Int) (B : Option Addr) (d : Nat), e = .returned (.agg #[.int .i64 wd, .int .i64 ht, .slice B ys.length d]) ∧ ys.length ≤ 200 ∧ OwnI w' w.heap.size B d ys ∧ Sr w' b A c xs K ∧ w.grownBy w' (some b)

set_option maxRecDepth 40000 in
set_option maxHeartbeats 16000000 in
theorem l02Bent_any (b : Nat) (A : Option Addr) (c : Nat) (xs : List Int) (K : Nat) (w : World) (h : Sr w b A c xs K) (hK : K ≤ 80000) (hx : ∀ x ∈ xs, 0 ≤ x ∧ x ≤ 255) (hn : xs.length ≤ 1048576) :
    Calls Tryz.prog 46 #[.pointer (some ⟨b, 0, none⟩)] w (RetBp w b A c xs (K + 310)) := by
  have hb0 := h.lt
  have H0 := hide h
  have HX := hide hx
  have s1 := h.alloc (.cells #[.int .i64 0, .int .i64 0, .slice none 0 0] 26)
  have r1 := Bx.new w 26 #[.int .i64 0, .int .i64 0, .slice none 0 0]
  have g1 : w.grownBy (w.alloc (.cells #[.int .i64 0, .int .i64 0, .slice none 0 0] 26)) (some b) := gr_below (gr_refl w _) ((Below.refl _ _).alloc (Nat.le_refl _) _)
  have HD := hide (l02Draw_any b A c xs K 5 _ s1 (by omega) hx hn (by omega) (by omega))
  clear h hx s1
  go_enter Tryz.func46, Tryz.ntmps46
  go_wp2_with fail
  refine HD.out.mono ?_
  rintro e w2 ⟨wd, ht, ys, B, d, rfl, hwd, hht, hv, own2, s2, g2⟩
  have hyl : ys.length ≤ 112 := by
    obtain ⟨v1, v2, hl, v4⟩ := vldPan_true hv
    have := inner_bound (inB_true.1 v1).1 (inB_true.1 v1).2 (inB_true.1 v2).1 (inB_true.1 v2).2
    omega
  have hz2 := g2.size
  rw [World.size_alloc] at hz2 own2
  have B3 : Bd w b w.heap.size w2.heap.size (w.heap.size + 1) wd ht B d ys (w2.alloc (.cells #[.int .i64 wd, .int .i64 ht, .slice B ys.length d] 26)) :=
    ⟨Bx.new _ _ _, (r1.grownNe g2 (by omega)).alloc _, own2.alloc _, gr_below (gr_trans g1 g2) ((Below.refl _ _).alloc (Nat.le_refl _) _)⟩
  have s3 := s2.alloc (.cells #[.int .i64 wd, .int .i64 ht, .slice B ys.length d] 26)
  have HB3 := hide B3
  obtain ⟨P, hP⟩ : ∃ P, P = w2.heap.size := ⟨_, rfl⟩
  clear own2 s2 g2 r1 g1 hv hwd hht HD B3
  go_wp2_with fail
  refine (pickG_any b A c xs _ 20 _ s3 (by omega) HX.out hn (by omega) (by omega)).mono ?_
  rintro e w4 ⟨v, rfl, hv20, s4, g4⟩
  rw [← hP] at HB3 ⊢
  have B4 := HB3.out.src g4 (by omega) (by omega) (by omega)
  have hwP : w.heap.size < P := by omega
  have hz4 := B4.g.size
  have hbP : b < P := by omega
  clear s3 g4 HB3 hz2
  obtain ⟨pa_4, pb_4, pc_4⟩ := B4.p.three
  have hPw4 := B4.p.lt
  clear hP
  by_cases h0 : v = 0
  · subst h0
    have s5 := s4.alloc (.cells #[.int .i64 0, .int .i64 8, .int .i64 9, .int .i64 (-9223372036854775808)] 2)
    have B5 := B4.alloc (.cells #[.int .i64 0, .int .i64 8, .int .i64 9, .int .i64 (-9223372036854775808)] 2)
    have HNEW := hide (OwnI.new (base := 0) w4 [0, 8, 9, -9223372036854775808] #[.int .i64 0, .int .i64 8, .int .i64 9, .int .i64 (-9223372036854775808)] rfl (Nat.zero_le _) (by simp [maxLen])).rd
    clear s4
    go_wp2_with fail
    refine (among_any b A c xs _ (some ⟨w4.heap.size, 0, none⟩) 4 [0, 8, 9, -9223372036854775808] _ s5 (by omega) HX.out hn HNEW.out (fun q hq => by simp [blk] at hq; omega) (by simp) (by simp)).mono ?_
    rintro e w5 ⟨x, rfl, hxm, s6, g6⟩
    have B6 := B5.src g6 (by omega) (by omega) (by omega)
    obtain ⟨pa_6, pb_6, pc_6⟩ := B6.p.three
    have pf_6 := B6.p.frozen 0
    have HB7 := hide (B6.setW x (by omega) (by omega))
    have HS7 := hide (s6.far (p := ⟨P, 0, none⟩) (by show b ≠ P; omega) (fun h1 e => by have := H0.out.row_lt h1 e; simp at this; omega) (.int .i64 x))
    clear B4 B5 B6 s5 s6 g6 pa_4 pb_4 pc_4
    go_upto_region 12 with fail
    obtain ⟨w7, hw7⟩ : ∃ w7, w7 = w5.setCell ⟨P, 0, none⟩ (.int .i64 x) := ⟨_, rfl⟩
    rw [← hw7] at HB7 HS7 ⊢
    clear hw7 pa_6 pb_6 pc_6 pf_6
    obtain ⟨pa, pb, pc⟩ := (HB7.out).p.three
    obtain ⟨ra, rb, rc⟩ := (HB7.out).r.three
    have rf0 := (HB7.out).r.frozen 0
    have rf1 := (HB7.out).r.frozen 1
    have rf2 := (HB7.out).r.frozen 2
    have HF := hide (bd_fin (HB7.out) (by omega) HS7.out H0.out)
    clear HB7 HS7
    go_wp2_with fail
    obtain ⟨ra_9, rb_9, rc_9⟩ := HF.out.1
    refine bodyPost_ret (v := .agg #[.int .i64 (x), .int .i64 (ht), .slice (B) ys.length d]) (by simp [results, Tryz.results46, go_sem, ra_9, rb_9, rc_9]) rfl ?_
    exact ⟨_, _, ys, _, _, by rfl, by omega, HF.out.2.1, HF.out.2.2.1.more (by omega), HF.out.2.2.2⟩
  · by_cases h1 : v = 1
    · subst h1
      have s5 := s4.alloc (.cells #[.int .i64 0] 2)
      have B5 := B4.alloc (.cells #[.int .i64 0] 2)
      have hnr : RI (w4.alloc (.cells #[.int .i64 0] 2)) (some ⟨w4.heap.size, 0, none⟩) [0] := (OwnI.new (base := 0) w4 [0] #[.int .i64 0] rfl (Nat.zero_le _) (by simp [maxLen])).rd
      obtain ⟨zs, hzs⟩ : ∃ zs, zs = ys ++ [0] := ⟨_, rfl⟩
      have hzl : zs.length ≤ 200 := by rw [hzs]; simp; omega
      have HZ := hide hzs
      clear hzs
      go_upto_region 12 with (at_builtin; refine wpList_append_ints rfl (.tmp 17) (.tmp 18) rfl (w.heap.size + 1) B d ys rfl B5.own (some ⟨w4.heap.size, 0, none⟩) 1 [0] rfl hnr (by simp; omega) (by simp; omega) zs HZ.out ?_; intro A6 c6 w6 own6 hg6 hb6; have Q6 := B5.setB hg6 own6 (by omega) (by omega) (by omega); have S6 := hide (s5.grownOld H0.out (fun q hq => (B5.own.ge hq).1) (by omega) hg6); obtain ⟨pa_6, pb_6, pc_6⟩ := Q6.1.three; have pf_6 := Q6.1.frozen 2; have HB7 := hide Q6.2; clear Q6)
      have HS7 := hide (S6.out.far (p := ⟨P, 2, none⟩) (by show b ≠ P; omega) (fun h1 e => by have := H0.out.row_lt h1 e; simp at this; omega) (.slice A6 zs.length c6))
      obtain ⟨w7, hw7⟩ : ∃ w7, w7 = w6.setCell ⟨P, 2, none⟩ (.slice A6 zs.length c6) := ⟨_, rfl⟩
      rw [← hw7] at HB7 HS7 ⊢
      clear hw7 pa_6 pb_6 pc_6 pf_6 pa_4 pb_4 pc_4 B4 B5 s4 s5 hg6
      obtain ⟨pa, pb, pc⟩ := (HB7.out).p.three
      obtain ⟨ra, rb, rc⟩ := (HB7.out).r.three
      have rf0 := (HB7.out).r.frozen 0
      have rf1 := (HB7.out).r.frozen 1
      have rf2 := (HB7.out).r.frozen 2
      have HF := hide (bd_fin (HB7.out) (by omega) HS7.out H0.out)
      clear HB7 HS7
      go_wp2_with fail
      obtain ⟨ra_9, rb_9, rc_9⟩ := HF.out.1
      refine bodyPost_ret (v := .agg #[.int .i64 (wd), .int .i64 (ht), .slice (A6) zs.length c6]) (by simp [results, Tryz.results46, go_sem, ra_9, rb_9, rc_9]) rfl ?_
      exact ⟨_, _, zs, _, _, by rfl, by omega, HF.out.2.1, HF.out.2.2.1.more (by omega), HF.out.2.2.2⟩
    · by_cases h2 : v = 2
      · subst h2
        by_cases hN0 : 0 < ys.length
        · have hNi : (0 : Int) < (ys.length : Int) := by omega
          obtain ⟨gB, x0, rfl, hgBb, hgBs, _⟩ := B4.own.at_ (k := 0) (by omega)
          have hgP : gB ≠ P := fun e => B4.ne (by rw [← e]; rfl)
          have HA1 := hide (And.intro s4.drew B4.drew)
          have HA2 := hide (And.intro (s4.alloc (.cells #[.int .i64 (-1), .int .i64 2, .int .i64 3] 2)).drew (B4.alloc (.cells #[.int .i64 (-1), .int .i64 2, .int .i64 3] 2)).drew)
          have HPK : Hid (∀ W : World, Sr W b A c xs (K + 301) ∧ Bd w b w.heap.size P (w.heap.size + 1) wd ht (some ⟨gB, 0, none⟩) d ys W → Calls Tryz.prog 47 #[.pointer (some ⟨b, 0, none⟩), .int .i64 (ys.length : Int)] W fun e w' => ∃ q : Nat, e = .returned (.int .i64 (q : Int)) ∧ q < ys.length ∧ W.grownBy w' (some b) ∧ Sr w' b A c xs (K + 302) ∧ Bd w b w.heap.size P (w.heap.size + 1) wd ht (some ⟨gB, 0, none⟩) d ys w') := hide fun W hW => (pickG_any b A c xs _ (ys.length : Int) W hW.1 (by omega) HX.out hn (by omega) (by omega)).mono fun e w' h => by
            obtain ⟨q, h1, h2, h3, h4⟩ := h
            exact ⟨q, h1, by omega, h4, h3.more (by omega), hW.2.src h4 (by omega) (by omega) (by omega)⟩
          have HAM : Hid (∀ (W : World) (g : Nat), Sr W b A c xs (K + 302) ∧ Bd w b w.heap.size P (w.heap.size + 1) wd ht (some ⟨gB, 0, none⟩) d ys W → RI W (some ⟨g, 0, none⟩) [-1, 2, 3] → g ≠ b → Calls Tryz.prog 71 #[.pointer (some ⟨b, 0, none⟩), .slice (some ⟨g, 0, none⟩) 3 3] W fun e w' => ∃ x : Int, e = .returned (.int .i64 x) ∧ Sr w' b A c xs (K + 303) ∧ Bd w b w.heap.size P (w.heap.size + 1) wd ht (some ⟨gB, 0, none⟩) d ys w') := hide fun W g hW hr hg => (among_any b A c xs _ (some ⟨g, 0, none⟩) 3 [-1, 2, 3] W hW.1 (by omega) HX.out hn hr (fun q hq => by simp [blk] at hq; omega) (by simp) (by simp)).mono fun e w' h => by
            obtain ⟨x, h1, h2, h3, h4⟩ := h
            exact ⟨x, h1, h3.more (by omega), hW.2.src h4 (by omega) (by omega) (by omega)⟩
          have HNW : Hid (∀ W : World, RI (W.alloc (.cells #[.int .i64 (-1), .int .i64 2, .int .i64 3] 2)) (some ⟨W.heap.size, 0, none⟩) [-1, 2, 3]) := hide fun W => (OwnI.new (base := 0) W [-1, 2, 3] #[.int .i64 (-1), .int .i64 2, .int .i64 3] rfl (Nat.zero_le _) (by simp [maxLen])).rd
          have hb4 : b < w4.heap.size := by omega
          clear B4 s4 pa_4 pb_4
          go_wp2_with fail
          clear pc_4
          go_region_held3 (fun W => W.cell? ⟨P, 2, none⟩ = some (.slice (some ⟨gB, 0, none⟩) ys.length d))
            (first | with_reducible exact (HB6.out.p.grownOwn HB6.out.own (by decide) (HST.out x).2).three.2.2 | with_reducible exact HB6.out.p.three.2.2 | with_reducible exact (HST5.out.2.alloc _).p.three.2.2 | with_reducible exact HST5.out.2.p.three.2.2 | with_reducible exact HA2.out.2.p.three.2.2 | with_reducible exact HA1.out.2.p.three.2.2 | fail)
            (first
              | (go_at_call 47; refine (HPK.out _ (by first | with_reducible exact HA1.out | with_reducible exact HA2.out)).mono ?_; rintro e w5 ⟨q, rfl, hq, g5, st5⟩; have HST5 := hide st5; have HG5 := hide g5; have hz5 : w4.heap.size ≤ w5.heap.size := (by have h9 := g5.size; simp at h9; omega); clear st5 g5)
              | (go_at_call_of 71 (Value.slice (some ⟨w5.heap.size, 0, none⟩) 3 3); refine (HAM.out _ w5.heap.size ⟨HST5.out.1.alloc _, HST5.out.2.alloc _⟩ (HNW.out _) (by omega)).mono ?_; rintro e w6 ⟨x, rfl, s6, b6⟩; have HB6 := hide b6; have HS6 := hide s6; clear s6 b6; obtain ⟨gC, x1, hgC, _, _, _, hcC, hfC, hstC⟩ := HB6.out.own.at_ (k := q) hq; injection hgC with hgC; injection hgC with hgC; subst hgC; have HST := hide hstC; clear hstC)
              | (go_at_call_of 71 (Value.slice (some ⟨w4.heap.size, 0, none⟩) 3 3); refine (HAM.out _ w4.heap.size HST5.out (RI.grown (w := (w4.alloc (.cells #[.int .i64 (-1), .int .i64 2, .int .i64 3] 2)).drew) (HNW.out w4) HG5.out (.inr (fun e => by simp [blk] at e; omega))) (by omega)).mono ?_; rintro e w6 ⟨x, rfl, s6, b6⟩; have HB6 := hide b6; have HS6 := hide s6; clear s6 b6; obtain ⟨gC, x1, hgC, _, _, _, hcC, hfC, hstC⟩ := HB6.out.own.at_ (k := q) hq; injection hgC with hgC; injection hgC with hgC; subst hgC; have HST := hide hstC; clear hstC)
              | fail)
          all_goals
            obtain ⟨zs, hzs⟩ : ∃ zs, zs = ys.set q x := ⟨_, rfl⟩
            have hzl : zs.length = ys.length := by rw [hzs, List.length_set]
            have HB7 := hide (HB6.out.row (HST.out x).2 (HST.out x).1 (by simp) (by omega))
            rw [← hzs] at HB7
            have HS7 := hide (HS6.out.far (p := ⟨gB, q, none⟩) (show b ≠ gB by omega) (fun h1 e => by have := H0.out.row_lt h1 e; simp at this; omega) (.int .i64 x))
            have HZL := hide hzl
            have hzb : zs.length ≤ 200 := by omega
            clear hzs hzl hcC hfC
            go_upto_region 12 with fail
            obtain ⟨w7, hw7⟩ : ∃ w7, w7 = w6.setCell ⟨gB, q, none⟩ (.int .i64 x) := ⟨_, rfl⟩
            rw [← hw7] at HB7 HS7 ⊢
            rw [← HZL.out]
            clear hw7
            obtain ⟨pa, pb, pc⟩ := (HB7.out).p.three
            obtain ⟨ra, rb, rc⟩ := (HB7.out).r.three
            have rf0 := (HB7.out).r.frozen 0
            have rf1 := (HB7.out).r.frozen 1
            have rf2 := (HB7.out).r.frozen 2
            have HF := hide (bd_fin (HB7.out) (by omega) HS7.out H0.out)
            clear HB7 HS7
            go_wp2_with fail
            obtain ⟨ra_9, rb_9, rc_9⟩ := HF.out.1
            refine bodyPost_ret (v := .agg #[.int .i64 (wd), .int .i64 (ht), .slice (some ⟨gB, 0, none⟩) zs.length d]) (by simp [results, Tryz.results46, go_sem, ra_9, rb_9, rc_9]) rfl ?_
            exact ⟨_, _, zs, _, _, by rfl, by omega, HF.out.2.1, HF.out.2.2.1.more (by omega), HF.out.2.2.2⟩
        · have hNi : ¬ (0 : Int) < (ys.length : Int) := by omega
          have HB7 := hide B4
          have HS7 := hide s4
          clear B4 s4 pa_4 pb_4 pc_4
          obtain ⟨pa, pb, pc⟩ := (HB7.out).p.three
          obtain ⟨ra, rb, rc⟩ := (HB7.out).r.three
          have rf0 := (HB7.out).r.frozen 0
          have rf1 := (HB7.out).r.frozen 1
          have rf2 := (HB7.out).r.frozen 2
          have HF := hide (bd_fin (HB7.out) (by omega) HS7.out H0.out)
          clear HB7 HS7
          go_wp2_with fail
          obtain ⟨ra_9, rb_9, rc_9⟩ := HF.out.1
          refine bodyPost_ret (v := .agg #[.int .i64 (wd), .int .i64 (ht), .slice (B) ys.length d]) (by simp [results, Tryz.results46, go_sem, ra_9, rb_9, rc_9]) rfl ?_
          exact ⟨_, _, ys, _, _, by rfl, by omega, HF.out.2.1, HF.out.2.2.1.more (by omega), HF.out.2.2.2⟩

      · by_cases h3 : v = 3
        · subst h3
          have HNP := hide (fun W : World => l02New_any 8 8 W (by omega) (by omega) (by omega) (by omega))
          clear pa_4 pb_4 pc_4
          go_wp2_with fail
          refine (HNP.out _).mono ?_
          rintro e w5 ⟨B9, d9, rfl, own5, b5⟩
          have B5 : Bd w b w.heap.size P (w.heap.size + 1) wd ht B d ys w5 := ⟨B4.p.below b5, B4.r.below b5, B4.own.below b5, gr_below B4.g b5⟩
          have s5 := s4.below b5
          obtain ⟨zs, hzs⟩ : ∃ zs, zs = List.replicate (innerN 8 8).toNat (0 : Int) := ⟨_, rfl⟩
          have hzl : zs.length ≤ 200 := by rw [hzs]; decide
          rw [← hzs] at own5 ⊢
          obtain ⟨pa_5, pb_5, pc_5⟩ := B5.p.three
          have pf_5 := B5.p.frozen 0
          have pf_6 := B5.p.frozen 1
          have pf_7 := B5.p.frozen 2
          have HB7 := hide (B5.all (own5.mono (show w.heap.size + 1 ≤ w4.heap.size by omega)) 8 8 (by omega) (by omega))
          have HS7 := hide (sr_far3 (b := P) (o0 := 0) (o1 := 1) (o2 := 2) (u0 := .int .i64 8) (u1 := .int .i64 8) (u2 := .slice B9 zs.length d9) s5 (by omega) (fun h1 e => by have := H0.out.row_lt h1 e; omega))
          clear B4 B5 s4 s5 own5 hzs
          go_upto_region 12 with fail
          obtain ⟨w7, hw7⟩ : ∃ w7, w7 = ((w5.setCell ⟨P, 0, none⟩ (.int .i64 8)).setCell ⟨P, 1, none⟩ (.int .i64 8)).setCell ⟨P, 2, none⟩ (.slice B9 zs.length d9) := ⟨_, rfl⟩
          rw [← hw7] at HB7 HS7 ⊢
          clear hw7 pa_5 pb_5 pc_5 pf_5 pf_6 pf_7
          obtain ⟨pa, pb, pc⟩ := (HB7.out).p.three
          obtain ⟨ra, rb, rc⟩ := (HB7.out).r.three
          have rf0 := (HB7.out).r.frozen 0
          have rf1 := (HB7.out).r.frozen 1
          have rf2 := (HB7.out).r.frozen 2
          have HF := hide (bd_fin (HB7.out) (by omega) HS7.out H0.out)
          clear HB7 HS7
          go_wp2_with fail
          obtain ⟨ra_9, rb_9, rc_9⟩ := HF.out.1
          refine bodyPost_ret (v := .agg #[.int .i64 (8), .int .i64 (8), .slice (B9) zs.length d9]) (by simp [results, Tryz.results46, go_sem, ra_9, rb_9, rc_9]) rfl ?_
          exact ⟨_, _, zs, _, _, by rfl, by omega, HF.out.2.1, HF.out.2.2.1.more (by omega), HF.out.2.2.2⟩
        · have e0 : (((v : Nat) : Int) == 0) = false := by simp; omega
          have e1 : (((v : Nat) : Int) == 1) = false := by simp; omega
          have e2 : (((v : Nat) : Int) == 2) = false := by simp; omega
          have e3 : (((v : Nat) : Int) == 3) = false := by simp; omega
          have HB7 := hide B4
          have HS7 := hide s4
          clear B4 s4 pa_4 pb_4 pc_4
          obtain ⟨pa, pb, pc⟩ := (HB7.out).p.three
          obtain ⟨ra, rb, rc⟩ := (HB7.out).r.three
          have rf0 := (HB7.out).r.frozen 0
          have rf1 := (HB7.out).r.frozen 1
          have rf2 := (HB7.out).r.frozen 2
          have HF := hide (bd_fin (HB7.out) (by omega) HS7.out H0.out)
          clear HB7 HS7
          go_wp2_with fail
          obtain ⟨ra_9, rb_9, rc_9⟩ := HF.out.1
          refine bodyPost_ret (v := .agg #[.int .i64 (wd), .int .i64 (ht), .slice (B) ys.length d]) (by simp [results, Tryz.results46, go_sem, ra_9, rb_9, rc_9]) rfl ?_
          exact ⟨_, _, ys, _, _, by rfl, by omega, HF.out.2.1, HF.out.2.2.1.more (by omega), HF.out.2.2.2⟩
end Go.Proofs.YtjlifbdaieblpaaGreat

namespace Go.Proofs.YtjlifbdaieblpaaGreat
open Go.RowKit
set_option linter.unusedVariables false

set_option maxRecDepth 40000 in
set_option maxHeartbeats 16000000 in
theorem l18Panel_any (b : Nat) (A : Option Addr) (c : Nat) (xs : List Int) (K : Nat) (w : World) (h : Sr w b A c xs K) (hK : K ≤ 70000) (hx : ∀ x ∈ xs, 0 ≤ x ∧ x ≤ 255) (hn : xs.length ≤ 1048576) :
    Calls Tryz.prog 21 #[.pointer (some ⟨b, 0, none⟩)] w (RetBp w b A c xs (K + 400)) := by
  have hb0 := h.lt
  have H0 := hide h
  have HX := hide hx
  have s1 := h.alloc (.cells #[.int .i64 0, .int .i64 0, .slice none 0 0] 26)
  have r1 := Bx.new w 26 #[.int .i64 0, .int .i64 0, .slice none 0 0]
  have g1 : w.grownBy (w.alloc (.cells #[.int .i64 0, .int .i64 0, .slice none 0 0] 26)) (some b) := gr_below (gr_refl w _) ((Below.refl _ _).alloc (Nat.le_refl _) _)
  have HD := hide (one_any b A c xs K 10 _ s1 (by omega) hx hn (by omega) (by omega))
  clear h hx s1
  go_enter Tryz.func21, Tryz.ntmps21
  go_wp2_with fail
  refine HD.out.mono ?_
  rintro e w2 ⟨v, rfl, s2, g2⟩
  have G2 := gr_trans g1 g2
  have r2 := r1.grownNe g2 (by omega)
  have hz2 := G2.size
  have hr2l := r2.lt
  clear g1 g2 r1 HD
  rcases v with _ | _
  · go_wp2_with fail
    refine (pickG_any b A c xs _ 4 _ s2 (by omega) HX.out hn (by omega) (by omega)).mono ?_
    rintro e w3 ⟨x, rfl, hx4, s3, g3⟩
    have G3 := gr_trans G2 g3
    have r3 := r2.grownNe g3 (by omega)
    clear s2 G2 g3 r2
    obtain ⟨wd, hwd⟩ : ∃ wd : Int, wd = 1 + (x : Int) := ⟨_, rfl⟩
    have hw1 : IntKind.i64.wrap (1 + (x : Int)) = wd := by rw [IntKind.wrap_i64]; omega
    have hwb : 1 ≤ wd ∧ wd ≤ 4 := by omega
    clear hwd
    go_wp2_with fail
    refine (pickG_any b A c xs _ 3 _ s3 (by omega) HX.out hn (by omega) (by omega)).mono ?_
    rintro e w4 ⟨y, rfl, hy3, s4, g4⟩
    have G4 := gr_trans G3 g4
    have r4 := r3.grownNe g4 (by omega)
    have hz4 := G4.size
    clear s3 G3 g4 r3
    obtain ⟨ht, hht⟩ : ∃ ht : Int, ht = 1 + (y : Int) := ⟨_, rfl⟩
    have hw2 : IntKind.i64.wrap (1 + (y : Int)) = ht := by rw [IntKind.wrap_i64]; omega
    have hhb : 1 ≤ ht ∧ ht ≤ 3 := by omega
    have hin := inner_bound (wd := wd) (ht := ht) (by omega) (by omega) (by omega) (by omega)
    have HNP := hide (l02New_any wd ht w4 (by omega) (by omega) (by omega) (by omega))
    clear hht
    go_wp2_with fail
    refine HNP.out.mono ?_
    rintro e w5 ⟨B, d, rfl, own5, b5⟩
    obtain ⟨zs, hzs⟩ : ∃ zs, zs = List.replicate (innerN wd ht).toNat (0 : Int) := ⟨_, rfl⟩
    have hzl : zs.length ≤ 112 := by rw [hzs, List.length_replicate]; omega
    rw [← hzs] at own5 ⊢
    have hz5 := b5.size
    have B6 : Bd w b w.heap.size w5.heap.size (w.heap.size + 1) wd ht B d zs (w5.alloc (.cells #[.int .i64 wd, .int .i64 ht, .slice B zs.length d] 26)) :=
      ⟨Bx.new _ _ _, (r4.below b5).alloc _, (own5.mono (by have := r4.lt; omega)).alloc _, gr_below (gr_below G4 b5) ((Below.refl _ _).alloc (Nat.le_refl _) _)⟩
    have s6 := (s4.below b5).alloc (.cells #[.int .i64 wd, .int .i64 ht, .slice B zs.length d] 26)
    obtain ⟨P, hP⟩ : ∃ P, P = w5.heap.size := ⟨_, rfl⟩
    have hwP : w.heap.size < P := by have := r4.lt; omega
    have hbP : b < P := by omega
    have HB6 := hide B6
    rw [← hP] at HB6
    obtain ⟨N, hN⟩ : ∃ N, N = zs.length := ⟨_, rfl⟩
    clear own5 b5 r4 G4 s4 hzs HNP B6
    go_wp2_with fail
    refine (pickG_any b A c xs _ 6 _ s6 (by omega) HX.out hn (by omega) (by omega)).mono ?_
    rintro e w7 ⟨left, rfl, hl6, s7, g7⟩
    rw [← hP]
    have B7 := HB6.out.src g7 (by omega) (by omega) (by omega)
    have HN : Hid (zs.length = N) := hide hN.symm
    have hNl : N ≤ 112 := by omega
    have s7' : Sr w7 b A c xs (K + 10 + 0) := s7.more (by omega)
    have hlb : left ≤ 5 := by omega
    clear s6 g7 HB6 hP hzl hz5 s7 hN
    go_wp2_with fail
    go_loopw [6] (fun s6 wr => ∃ (k : Nat) (ys : List Int), k ≤ N ∧ s6 = .int .i64 (k : Int) ∧ Hid (ys.length = N) ∧ Bd w b w.heap.size P (w.heap.size + 1) wd ht B d ys wr ∧ Sr wr b A c xs (K + 10 + k)) (fun s6 _ => N - (intOf s6).toNat)
    case atStart => exact ⟨0, zs, Nat.zero_le _, rfl, HN, B7, s7'⟩
    case round =>
      clear B7 s7' HN
      obtain ⟨k, ys, hk, rfl, hyl, B8, s8⟩ := hrel
      obtain ⟨pa_8, pb_8, pc_8⟩ := B8.p.three
      by_cases hlt : k < N
      · have hltI : (k : Int) < (ys.length : Int) := by rw [hyl.out]; omega
        have hky : k < ys.length := by omega
        obtain ⟨gB, x0, rfl, hgBb, hgBs, _⟩ := B8.own.at_ (k := k) hky
        have hgP : gB ≠ P := fun e => B8.ne (by rw [← e]; rfl)
        have HA1 := hide (And.intro s8.drew B8.drew)
        have HPK : Hid (∀ W : World, Sr W b A c xs (K + 10 + k) ∧ Bd w b w.heap.size P (w.heap.size + 1) wd ht (some ⟨gB, 0, none⟩) d ys W → Calls Tryz.prog 47 #[.pointer (some ⟨b, 0, none⟩), .int .i64 2] W fun e w' => ∃ q : Nat, e = .returned (.int .i64 (q : Int)) ∧ q < 2 ∧ Sr w' b A c xs (K + 10 + (k + 1)) ∧ Bd w b w.heap.size P (w.heap.size + 1) wd ht (some ⟨gB, 0, none⟩) d ys w') := hide fun W hW => (pickG_any b A c xs _ 2 W hW.1 (by omega) HX.out hn (by omega) (by omega)).mono fun e w' h => by
          obtain ⟨q, h1, h2, h3, h4⟩ := h
          exact ⟨q, h1, by omega, h3.more (by omega), hW.2.src h4 (by omega) (by omega) (by omega)⟩
        clear B8 s8 pa_8 pb_8
        go_wp2_with fail
        clear pc_8
        go_region_held3 (fun W => W.cell? ⟨P, 2, none⟩ = some (.slice (some ⟨gB, 0, none⟩) ys.length d))
          (first | with_reducible exact (HB6.out.p.grownOwn HB6.out.own (by decide) (HST.out (1 + (q : Int))).2).three.2.2 | with_reducible exact HB6.out.p.three.2.2 | with_reducible exact HA1.out.2.p.three.2.2 | fail)
          (first
            | (go_at_call 47; refine (HPK.out _ (by with_reducible exact HA1.out)).mono ?_; rintro e w6 ⟨q, rfl, hq, s6, b6⟩; have HB6 := hide b6; have HS6 := hide s6; clear s6 b6; have hwq : IntKind.i64.wrap (1 + (q : Int)) = 1 + (q : Int) := (by rw [IntKind.wrap_i64]; omega); obtain ⟨gC, x1, hgC, _, _, _, hcC, hfC, hstC⟩ := HB6.out.own.at_ (k := k) hky; injection hgC with hgC; injection hgC with hgC; subst hgC; have HST := hide hstC; clear hstC)
            | fail)
        all_goals
          have HB7 := hide (HB6.out.row (HST.out (1 + (q : Int))).2 (HST.out (1 + (q : Int))).1 (by simp) (by omega))
          have HS7 := hide (HS6.out.far (p := ⟨gB, k, none⟩) (show b ≠ gB by omega) (fun h1 e => by have := H0.out.row_lt h1 e; simp at this; omega) (.int .i64 (1 + (q : Int))))
          have HYN : Hid ((ys.set k (1 + (q : Int))).length = N) := hide (by rw [List.length_set]; exact hyl.out)
          clear hcC hfC
          go_wp2_with fail
          go_roundw
          case rel => exact ⟨k + 1, _, by omega, by go_num, HYN, HB7.out, HS7.out⟩
          case measure => simp [intOf]; omega
      · obtain rfl : k = N := by omega
        have hltI : ¬ (k : Int) < (ys.length : Int) := by rw [hyl.out]; omega
        have s9 : Sr wr b A c xs (K + 130 + 0) := s8.more (by omega)
        clear hlt s8
        go_wp2_with fail
        go_loopw [7] (fun s7 wr => ∃ (m : Nat) (us : List Int), m ≤ left ∧ s7 = .int .i64 (m : Int) ∧ Hid (us.length = k) ∧ Bd w b w.heap.size P (w.heap.size + 1) wd ht B d us wr ∧ Sr wr b A c xs (K + 130 + m)) (fun s7 _ => left - (intOf s7).toNat)
        case atStart => exact ⟨0, ys, Nat.zero_le _, rfl, hyl, B8, s9⟩
        case round =>
          clear B8 s9 hyl pa_8 pb_8 pc_8 hltI
          obtain ⟨m, us, hm, rfl, hul, B9, s9⟩ := hrel
          obtain ⟨pa_9, pb_9, pc_9⟩ := B9.p.three
          have hFIN := hide (And.intro B9 s9)
          have hub : us.length ≤ 200 := by rw [hul.out]; omega
          by_cases hml : m < left
          · have hmI : (m : Int) < (left : Int) := by omega
            by_cases hu0 : 0 < us.length
            · have hu0I : (us.length : Int) > 0 := by omega
              have hub2 : us.length ≤ 112 := by rw [hul.out]; omega
              obtain ⟨gB, x0, rfl, hgBb, hgBs, _⟩ := B9.own.at_ (k := 0) hu0
              have hgP : gB ≠ P := fun e => B9.ne (by rw [← e]; rfl)
              have HA1 := hide (And.intro s9.drew B9.drew)
              have HPK : Hid (∀ W : World, Sr W b A c xs (K + 130 + m) ∧ Bd w b w.heap.size P (w.heap.size + 1) wd ht (some ⟨gB, 0, none⟩) d us W → Calls Tryz.prog 47 #[.pointer (some ⟨b, 0, none⟩), .int .i64 (us.length : Int)] W fun e w' => ∃ q : Nat, e = .returned (.int .i64 (q : Int)) ∧ q < us.length ∧ Sr w' b A c xs (K + 130 + (m + 1)) ∧ Bd w b w.heap.size P (w.heap.size + 1) wd ht (some ⟨gB, 0, none⟩) d us w') := hide fun W hW => (pickG_any b A c xs _ (us.length : Int) W hW.1 (by omega) HX.out hn (by omega) (by omega)).mono fun e w' h => by
                obtain ⟨q, h1, h2, h3, h4⟩ := h
                exact ⟨q, h1, by omega, h3.more (by omega), hW.2.src h4 (by omega) (by omega) (by omega)⟩
              clear B9 s9 pa_9 pb_9 hFIN
              go_wp2_with fail
              clear pc_9
              go_region_held3 (fun W => W.cell? ⟨P, 2, none⟩ = some (.slice (some ⟨gB, 0, none⟩) us.length d))
                (first | with_reducible exact (HB6.out.p.grownOwn HB6.out.own (by decide) (HST.out 0).2).three.2.2 | with_reducible exact HB6.out.p.three.2.2 | with_reducible exact HA1.out.2.p.three.2.2 | fail)
                (first
                  | (go_at_call 47; refine (HPK.out _ (by with_reducible exact HA1.out)).mono ?_; rintro e w6 ⟨q, rfl, hq, s6, b6⟩; have HB6 := hide b6; have HS6 := hide s6; clear s6 b6; have hqI : (q : Int) < (us.length : Int) := (by omega); obtain ⟨gC, x1, hgC, _, _, _, hcC, hfC, hstC⟩ := HB6.out.own.at_ (k := q) hq; injection hgC with hgC; injection hgC with hgC; subst hgC; have HST := hide hstC; clear hstC)
                  | fail)
              all_goals
                have HB7 := hide (HB6.out.row (HST.out 0).2 (HST.out 0).1 (by simp) (by omega))
                have HS7 := hide (HS6.out.far (p := ⟨gB, q, none⟩) (show b ≠ gB by omega) (fun h1 e => by have := H0.out.row_lt h1 e; simp at this; omega) (.int .i64 0))
                have HYN : Hid ((us.set q 0).length = k) := hide (by rw [List.length_set]; exact hul.out)
                clear hcC hfC
                go_wp2_with fail
                go_roundw
                case rel => exact ⟨m + 1, _, by omega, by go_num, HYN, HB7.out, HS7.out⟩
                case measure => simp [intOf]; omega
            · have hu0I : ¬ (us.length : Int) > 0 := by omega
              clear pa_9 pb_9 pc_9
              obtain ⟨pa, pb, pc⟩ := B9.p.three
              obtain ⟨ra, rb, rc⟩ := B9.r.three
              have rf0 := B9.r.frozen 0
              have rf1 := B9.r.frozen 1
              have rf2 := B9.r.frozen 2
              have HF := hide (bd_fin B9 (by omega) s9 H0.out)
              clear B9 s9 hFIN
              go_wp2_with fail
              obtain ⟨ra_9, rb_9, rc_9⟩ := HF.out.1
              refine bodyPost_ret (v := .agg #[.int .i64 wd, .int .i64 ht, .slice B us.length d]) (by simp [results, Tryz.results21, go_sem, ra_9, rb_9, rc_9]) rfl ?_
              exact ⟨_, _, us, _, _, rfl, hub, HF.out.2.1, HF.out.2.2.1.more (by omega), HF.out.2.2.2⟩
          · have hmI : ¬ (m : Int) < (left : Int) := by omega
            clear pa_9 pb_9 pc_9
            obtain ⟨pa, pb, pc⟩ := B9.p.three
            obtain ⟨ra, rb, rc⟩ := B9.r.three
            have rf0 := B9.r.frozen 0
            have rf1 := B9.r.frozen 1
            have rf2 := B9.r.frozen 2
            have HF := hide (bd_fin B9 (by omega) s9 H0.out)
            clear B9 s9 hFIN
            go_wp2_with fail
            obtain ⟨ra_9, rb_9, rc_9⟩ := HF.out.1
            refine bodyPost_ret (v := .agg #[.int .i64 wd, .int .i64 ht, .slice B us.length d]) (by simp [results, Tryz.results21, go_sem, ra_9, rb_9, rc_9]) rfl ?_
            exact ⟨_, _, us, _, _, rfl, hub, HF.out.2.1, HF.out.2.2.1.more (by omega), HF.out.2.2.2⟩
  · go_wp2_with fail
    refine (l02Bent_any b A c xs _ _ s2 (by omega) HX.out hn).mono ?_
    rintro e w3 ⟨wd, ht, ys, B, d, rfl, hyl, own, s3, g3⟩
    have r3 := r2.grownNe g3 (by omega)
    have G3 := gr_trans G2 g3
    obtain ⟨ra, rb, rc⟩ := r3.three
    have rf0 := r3.frozen 0
    have rf1 := r3.frozen 1
    have rf2 := r3.frozen 2
    have HR := hide (bx_put3 (u0 := .int .i64 wd) (u1 := .int .i64 ht) (u2 := .slice B ys.length d) r3).three
    have OWN := hide ((own_low3 (b := w.heap.size) (o0 := 0) (o1 := 1) (o2 := 2) (u0 := .int .i64 wd) (u1 := .int .i64 ht) (u2 := .slice B ys.length d) own (by omega)).mono (show w.heap.size ≤ _ by omega))
    have HS := hide (sr_far3 (b := w.heap.size) (o0 := 0) (o1 := 1) (o2 := 2) (u0 := .int .i64 wd) (u1 := .int .i64 ht) (u2 := .slice B ys.length d) s3 (by omega) (fun h1 e => by have := H0.out.row_lt h1 e; omega))
    have HG := hide (gr_new3 (b := w.heap.size) (o0 := 0) (o1 := 1) (o2 := 2) (u0 := .int .i64 wd) (u1 := .int .i64 ht) (u2 := .slice B ys.length d) G3 (Nat.le_refl _))
    clear own r3 s3 g3 G3 s2 G2 r2
    go_wp2_with fail
    obtain ⟨ra_9, rb_9, rc_9⟩ := HR.out
    refine bodyPost_ret (v := .agg #[.int .i64 wd, .int .i64 ht, .slice B ys.length d]) (by simp [results, Tryz.results21, go_sem, ra_9, rb_9, rc_9]) rfl ?_
    exact ⟨wd, ht, ys, B, d, rfl, hyl, OWN.out, HS.out.more (by omega), HG.out⟩
theorem brC_two : brC 2 2 (List.replicate (innerN 2 2).toNat 0) = 0 := by decide +kernel
set_option maxRecDepth 40000 in
set_option maxHeartbeats 16000000 in
theorem a2Bracket_any (A : Option Addr) (c : Nat) (xs : List Int) (w : World) (h : RB w A xs) (hx : ∀ x ∈ xs, 0 ≤ x ∧ x ≤ 255) (hn : xs.length ≤ 1048576) :
    Calls Tryz.prog 5 #[.slice A xs.length c] w fun e w' => ∃ (wd ht : Int) (ys : List Int) (B : Option Addr) (d : Nat), e = .returned (.agg #[.int .i64 wd, .int .i64 ht, .slice B ys.length d]) ∧ brC wd ht ys = 0 ∧ ys.length ≤ 200 ∧ OwnI w' w.heap.size B d ys ∧ Below w.heap.size w w' := by
  have HX := hide hx
  have r0 := (Bx.new w 26 #[.int .i64 0, .int .i64 0, .slice none 0 0]).alloc (.cells #[.slice A xs.length c, .int .i64 0, .int .u64 0] 69)
  have s0 := Sr.new (w.alloc (.cells #[.int .i64 0, .int .i64 0, .slice none 0 0] 26)) (c := c) (h.alloc (.cells #[.int .i64 0, .int .i64 0, .slice none 0 0] 26))
  have b0 := ((Below.refl w.heap.size w).alloc (Nat.le_refl _) (.cells #[.int .i64 0, .int .i64 0, .slice none 0 0] 26)).alloc (by simp) (.cells #[.slice A xs.length c, .int .i64 0, .int .u64 0] 69)
  rw [World.size_alloc] at s0
  obtain ⟨w1, hw1⟩ : ∃ w1, w1 = (w.alloc (.cells #[.int .i64 0, .int .i64 0, .slice none 0 0] 26)).alloc (.cells #[.slice A xs.length c, .int .i64 0, .int .u64 0] 69) := ⟨_, rfl⟩
  have z1 : w1.heap.size = w.heap.size + 2 := by rw [hw1]; simp
  rw [← hw1] at r0 s0 b0
  clear h hx
  go_enter Tryz.func5, Tryz.ntmps5
  go_wp2_with fail
  refine (l00From_any A xs.length c _).mono ?_
  rintro e w2 ⟨rfl, rfl⟩
  rw [World.size_alloc, ← hw1]
  clear hw1
  go_wp2_with fail
  go_loopw [4] (fun s4 wr => ∃ k : Nat, k ≤ 4 ∧ s4 = .int .i64 (k : Int) ∧ Sr wr (w.heap.size + 1) A c xs (400 * k) ∧ Bx wr w.heap.size 26 #[.int .i64 0, .int .i64 0, .slice none 0 0] ∧ w.heap.size + 2 ≤ wr.heap.size ∧ Below w.heap.size w wr) (fun s4 _ => 4 - (intOf s4).toNat)
  case atStart => exact ⟨0, Nat.zero_le _, rfl, s0, r0, by omega, b0⟩
  case round =>
    clear s0 r0 b0 z1
    obtain ⟨k, hk, rfl, s3, r3, hz3, b3⟩ := hrel
    by_cases hlt : k < 4
    · have hkI : (k : Int) < 4 := by omega
      go_wp2_with fail
      refine (l18Panel_any (w.heap.size + 1) A c xs (400 * k) _ s3 (by omega) HX.out hn).mono ?_
      rintro e w5 ⟨wd, ht, ys, B, d, rfl, hyl, own, s5, g5⟩
      have hz5 := g5.size
      have r5 := (r3.grownNe g5 (by omega)).alloc (.cells #[.int .i64 wd, .int .i64 ht, .slice B ys.length d] 26)
      have b5 := (below_gr b3 g5 (by omega)).alloc (by omega) (.cells #[.int .i64 wd, .int .i64 ht, .slice B ys.length d] 26)
      have p5 : Bx (w5.alloc (.cells #[.int .i64 wd, .int .i64 ht, .slice B ys.length d] 26)) w5.heap.size 26 #[.int .i64 wd, .int .i64 ht, .slice B ys.length d] := Bx.new _ _ _
      have own5 := own.alloc (.cells #[.int .i64 wd, .int .i64 ht, .slice B ys.length d] 26)
      have s5' := s5.alloc (.cells #[.int .i64 wd, .int .i64 ht, .slice B ys.length d] 26)
      have HC := hide (l18Code_any w5.heap.size wd ht B d ys _ ⟨p5, own5.rd⟩ (by omega))
      obtain ⟨v, hv⟩ : ∃ v, v = brC wd ht ys := ⟨_, rfl⟩
      rw [← hv] at HC
      have HV := hide hv
      clear s3 r3 g5 own s5 hv
      go_wp2_with fail
      refine HC.out.mono ?_
      rintro e w6 ⟨rfl, b6⟩
      have r6 := r5.below b6
      have p6 := p5.below b6
      have own6 := own5.below b6
      have s6 := s5'.below b6
      have hz6 := b6.size
      rw [World.size_alloc] at hz6
      have b6' := b5.trans (b6.mono (by simp; omega))
      clear r5 p5 own5 s5' b5 b6 b3 HC
      by_cases hv0 : v = 0
      · subst hv0
        obtain ⟨pa, pb, pc⟩ := p6.three
        obtain ⟨ra, rb, rc⟩ := r6.three
        have rf0 := r6.frozen 0
        have rf1 := r6.frozen 1
        have rf2 := r6.frozen 2
        have HR := hide (bx_put3 (u0 := .int .i64 wd) (u1 := .int .i64 ht) (u2 := .slice B ys.length d) r6).three
        have OWN := hide ((own_low3 (b := w.heap.size) (o0 := 0) (o1 := 1) (o2 := 2) (u0 := .int .i64 wd) (u1 := .int .i64 ht) (u2 := .slice B ys.length d) own6 (by omega)).mono (show w.heap.size ≤ _ by omega))
        have HB := hide (below_put3_ (b := w.heap.size) (o0 := 0) (o1 := 1) (o2 := 2) (u0 := .int .i64 wd) (u1 := .int .i64 ht) (u2 := .slice B ys.length d) b6' (Nat.le_refl _))
        clear own6 r6 p6 s6 b6'
        go_wp2_with fail
        obtain ⟨ra_9, rb_9, rc_9⟩ := HR.out
        refine bodyPost_ret (v := .agg #[.int .i64 wd, .int .i64 ht, .slice B ys.length d]) (by simp [results, Tryz.results5, go_sem, ra_9, rb_9, rc_9]) rfl ?_
        exact ⟨wd, ht, ys, B, d, rfl, HV.out.symm, hyl, OWN.out, HB.out⟩
      · have hv1 : (v == 0) = false := by simpa using hv0
        have hv2 : ¬ v = 0 := hv0
        clear own6 p6
        go_wp2_with fail
        go_roundw
        case rel => exact ⟨k + 1, by omega, by go_num, s6.more (by omega), r6, by omega, b6'⟩
        case measure => simp [intOf]; omega
    · have hkI : ¬ (k : Int) < 4 := by omega
      have HNP := hide (fun W : World => l02New_any 2 2 W (by omega) (by omega) (by omega) (by omega))
      clear s3
      go_wp2_with fail
      refine (HNP.out _).mono ?_
      rintro e w5 ⟨B, d, rfl, own5, b5⟩
      obtain ⟨zs, hzs⟩ : ∃ zs, zs = List.replicate (innerN 2 2).toNat (0 : Int) := ⟨_, rfl⟩
      have hzl : zs.length ≤ 200 := by rw [hzs]; decide
      have HBC : Hid (brC 2 2 zs = 0) := hide (by rw [hzs]; exact brC_two)
      rw [← hzs] at own5 ⊢
      have r6 := r3.below b5
      have b6' := b3.trans (b5.mono (by omega))
      obtain ⟨ra, rb, rc⟩ := r6.three
      have rf0 := r6.frozen 0
      have rf1 := r6.frozen 1
      have rf2 := r6.frozen 2
      have HR := hide (bx_put3 (u0 := .int .i64 2) (u1 := .int .i64 2) (u2 := .slice B zs.length d) r6).three
      have OWN := hide ((own_low3 (b := w.heap.size) (o0 := 0) (o1 := 1) (o2 := 2) (u0 := .int .i64 2) (u1 := .int .i64 2) (u2 := .slice B zs.length d) own5 (by omega)).mono (show w.heap.size ≤ _ by omega))
      have HB := hide (below_put3_ (b := w.heap.size) (o0 := 0) (o1 := 1) (o2 := 2) (u0 := .int .i64 2) (u1 := .int .i64 2) (u2 := .slice B zs.length d) b6' (Nat.le_refl _))
      clear own5 r6 r3 b3 b5 b6' hzs HNP
      go_wp2_with fail
      obtain ⟨ra_9, rb_9, rc_9⟩ := HR.out
      refine bodyPost_ret (v := .agg #[.int .i64 2, .int .i64 2, .slice B zs.length d]) (by simp [results, Tryz.results5, go_sem, ra_9, rb_9, rc_9]) rfl ?_
      exact ⟨2, 2, zs, B, d, rfl, HBC.out, hzl, OWN.out, HB.out⟩
end Go.Proofs.YtjlifbdaieblpaaGreat

namespace Go.Proofs.YtjlifbdaieblpaaGreat
open Go.RowKit
set_option linter.unusedVariables false

/-- A function that hands back a row of integers of its own, and a number. -/
def RetIC (w : World) (xs : List Int) (v : Int) (e : Ending) (w' : World) : Prop := ∃ A c, e = .returned (.tuple #[.slice A xs.length c, .int .i64 v]) ∧ OwnI w' w.heap.size A c xs ∧ Below w.heap.size w w'
noncomputable def writheR (wd ht : Int) (xs : List Int) : Int × Int := if vldPan wd ht xs then (sumW (sgL wd ht xs), 0) else (0, 1)
theorem writheR_ok {wd ht : Int} {xs : List Int} (h : vldPan wd ht xs = true) : writheR wd ht xs = (sumW (sgL wd ht xs), 0) := by unfold writheR; rw [if_pos h]
theorem writheR_no {wd ht : Int} {xs : List Int} (h : vldPan wd ht xs = false) : writheR wd ht xs = (0, 1) := by unfold writheR; rw [if_neg (by rw [h]; simp)]
set_option maxHeartbeats 2000000 in
theorem specWritheOf_any (wd ht : Int) (A : Option Addr) (c : Nat) (xs : List Int) (w : World) (hxs : RI w A xs) (hcap : xs.length ≤ c ∧ c ≤ 9223372036854775807) (hn : xs.length ≤ 1048576) :
    Calls Tryz.prog 8 #[.agg #[.int .i64 wd, .int .i64 ht, .slice A xs.length c]] w (RetV w (.tuple #[.int .i64 (writheR wd ht xs).1, .int .i64 (writheR wd ht xs).2])) := by
  obtain ⟨pa_x1, pb_x1, pc_x1⟩ := (Bx.new_ w (w.heap.size) 26 #[.int .i64 wd, .int .i64 ht, .slice A xs.length c] (by simp)).three
  have HOK := hide (RetQ.v (l02Ok_any w.heap.size wd ht A c xs (w.alloc (.cells #[.int .i64 wd, .int .i64 ht, .slice A xs.length c] 26)) ((Bx.new_ w (w.heap.size) 26 #[.int .i64 wd, .int .i64 ht, .slice A xs.length c] (by simp))).three.1 ((Bx.new_ w (w.heap.size) 26 #[.int .i64 wd, .int .i64 ht, .slice A xs.length c] (by simp))).three.2.1 ((Bx.new_ w (w.heap.size) 26 #[.int .i64 wd, .int .i64 ht, .slice A xs.length c] (by simp))).three.2.2 (hxs.below ((Below.refl w.heap.size w).alloc (by first | omega | (simp; omega) | simp) (.cells #[.int .i64 wd, .int .i64 ht, .slice A xs.length c] 26))) hn))
  cases hv : vldPan wd ht xs
  ·
    have HR := hide (writheR_no hv)
    go_enter Tryz.func8, Tryz.ntmps8
    go_wp2_with fail
    refine (HOK.out).mono ?_
    rintro e w1 ⟨rfl, hb1⟩
    have p_1 := (Bx.new_ w (w.heap.size) 26 #[.int .i64 wd, .int .i64 ht, .slice A xs.length c] (by simp)).below hb1
    obtain ⟨pa_1, pb_1, pc_1⟩ := (p_1).three
    have z_1 : (w.alloc (.cells #[.int .i64 wd, .int .i64 ht, .slice A xs.length c] 26)).heap.size ≤ w1.heap.size := hb1.size
    simp only [World.size_alloc] at z_1
    have B_1 := ((Below.refl w.heap.size w).alloc (by first | omega | (simp; omega) | simp) (.cells #[.int .i64 wd, .int .i64 ht, .slice A xs.length c] 26)).trans (hb1.mono (by first | omega | (simp; omega) | simp))
    rw [hv]
    go_wp2_with fail
    go_ret2
    rw [HR.out]
    exact ⟨rfl, (B_1)⟩
  ·
    have HR := hide (writheR_ok hv)
    obtain ⟨hs, hl⟩ := vld_sz hv
    have hl3 : (sgL wd ht xs).length ≤ 1048576 := by rw [sgL_len (xs := xs) hs hl]; have := crN_le xs; unfold crN at this; omega
    go_enter Tryz.func8, Tryz.ntmps8
    go_wp2_with fail
    refine (HOK.out).mono ?_
    rintro e w2 ⟨rfl, hb2⟩
    have p_2 := (Bx.new_ w (w.heap.size) 26 #[.int .i64 wd, .int .i64 ht, .slice A xs.length c] (by simp)).below hb2
    obtain ⟨pa_2, pb_2, pc_2⟩ := (p_2).three
    have z_2 : (w.alloc (.cells #[.int .i64 wd, .int .i64 ht, .slice A xs.length c] 26)).heap.size ≤ w2.heap.size := hb2.size
    simp only [World.size_alloc] at z_2
    have B_2 := ((Below.refl w.heap.size w).alloc (by first | omega | (simp; omega) | simp) (.cells #[.int .i64 wd, .int .i64 ht, .slice A xs.length c] 26)).trans (hb2.mono (by first | omega | (simp; omega) | simp))
    rw [hv]
    go_wp2_with fail
    refine (l17Signs_any w.heap.size wd ht A c xs _ (PA.mk (p_2) (hxs.below (B_2))) hs hl hn).mono ?_
    rintro e w3 ⟨A2, c2, rfl, own, hb3⟩
    have p_3 := (p_2).below hb3
    obtain ⟨pa_3, pb_3, pc_3⟩ := (p_3).three
    have z_3 : w2.heap.size ≤ w3.heap.size := hb3.size
    have B_3 := (B_2).trans (hb3.mono (by first | omega | (simp; omega) | simp))
    have hr := own.rd
    clear own
    go_wp2_with fail
    refine (l17Sum_any A2 c2 _ _ hr hl3).mono ?_
    rintro e w4 ⟨rfl, rfl⟩
    go_wp2_with fail
    go_ret2
    rw [HR.out]
    exact ⟨rfl, (B_3)⟩
set_option maxHeartbeats 2000000 in
theorem specCrossingsOf_ok (wd ht : Int) (A : Option Addr) (c : Nat) (xs : List Int) (w : World) (hxs : RI w A xs) (hv : vldPan wd ht xs = true) (hn : xs.length ≤ 1048576) :
    Calls Tryz.prog 12 #[.agg #[.int .i64 wd, .int .i64 ht, .slice A xs.length c]] w (RetIC w (zTo xs xs.length) 0) := by
  have hpa : PA (w.alloc (.cells #[.int .i64 wd, .int .i64 ht, .slice A xs.length c] 26)) w.heap.size wd ht A c xs := ⟨(Bx.new_ w (w.heap.size) 26 #[.int .i64 wd, .int .i64 ht, .slice A xs.length c] (by simp)), hxs.below ((Below.refl w.heap.size w).alloc (by first | omega | (simp; omega) | simp) (.cells #[.int .i64 wd, .int .i64 ht, .slice A xs.length c] 26))⟩
  have HOK := hide (RetQ.v (l02Ok_any w.heap.size wd ht A c xs (w.alloc (.cells #[.int .i64 wd, .int .i64 ht, .slice A xs.length c] 26)) hpa.c0 hpa.c1 hpa.c2 hpa.rd hn))
  have HB0 := hide ((Below.refl w.heap.size w).alloc (by first | omega | (simp; omega) | simp) (.cells #[.int .i64 wd, .int .i64 ht, .slice A xs.length c] 26))
  have HA := hide (fun (W : World) (hb : Below ((w.alloc (.cells #[.int .i64 wd, .int .i64 ht, .slice A xs.length c] 26))).heap.size (w.alloc (.cells #[.int .i64 wd, .int .i64 ht, .slice A xs.length c] 26)) W) => l13All_any w.heap.size wd ht A c xs W (hpa.below hb) hn)
  rw [hv] at HOK
  clear hpa
  go_enter Tryz.func12, Tryz.ntmps12
  go_wp2_with fail
  refine HOK.out.mono ?_
  rintro e w1 ⟨rfl, hb1⟩
  go_wp2_with fail
  refine (HA.out _ hb1).mono ?_
  rintro e w2 ⟨A2, c2, rfl, own, hb2⟩
  have B1 := HB0.out.trans (hb1.mono (by simp))
  have B2 := B1.trans (hb2.mono B1.size)
  have z1 := B1.size
  go_wp2_with fail
  go_ret2
  exact ⟨A2, c2, rfl, own.mono z1, B2⟩
set_option maxHeartbeats 2000000 in
theorem specCountCurves_ok (wd ht : Int) (A : Option Addr) (c : Nat) (xs : List Int) (w : World) (hxs : RI w A xs) (hv : vldPan wd ht xs = true) (hn : xs.length ≤ 1048576) :
    Calls Tryz.prog 13 #[.agg #[.int .i64 wd, .int .i64 ht, .slice A xs.length c]] w (RetV w (.tuple #[.int .i64 ((curL wd ht xs).length : Int), .int .i64 0])) := by
  obtain ⟨hs, hl⟩ := vld_sz hv
  have hcn := cur_le (xs := xs) hs
  have hpa : PA (w.alloc (.cells #[.int .i64 wd, .int .i64 ht, .slice A xs.length c] 26)) w.heap.size wd ht A c xs := ⟨(Bx.new_ w (w.heap.size) 26 #[.int .i64 wd, .int .i64 ht, .slice A xs.length c] (by simp)), hxs.below ((Below.refl w.heap.size w).alloc (by first | omega | (simp; omega) | simp) (.cells #[.int .i64 wd, .int .i64 ht, .slice A xs.length c] 26))⟩
  have HOK := hide (RetQ.v (l02Ok_any w.heap.size wd ht A c xs (w.alloc (.cells #[.int .i64 wd, .int .i64 ht, .slice A xs.length c] 26)) hpa.c0 hpa.c1 hpa.c2 hpa.rd hn))
  have HA : Hid (∀ (W : World), Below ((w.alloc (.cells #[.int .i64 wd, .int .i64 ht, .slice A xs.length c] 26))).heap.size (w.alloc (.cells #[.int .i64 wd, .int .i64 ht, .slice A xs.length c] 26)) W → Calls Tryz.prog 38 #[.pointer (some ⟨w.heap.size, 0, none⟩)] W (RetV W (.int .i64 ((curL wd ht xs).length : Int)))) := hide (fun (W : World) (hb : Below ((w.alloc (.cells #[.int .i64 wd, .int .i64 ht, .slice A xs.length c] 26))).heap.size (w.alloc (.cells #[.int .i64 wd, .int .i64 ht, .slice A xs.length c] 26)) W) => l04Count_any w.heap.size wd ht A c xs W (hpa.below hb) hs hl)
  rw [hv] at HOK
  obtain ⟨N, hN⟩ : ∃ N, N = (curL wd ht xs).length := ⟨_, rfl⟩
  rw [← hN] at HA hcn ⊢
  clear hpa hN
  go_enter Tryz.func13, Tryz.ntmps13
  go_wp2_with fail
  refine HOK.out.mono ?_
  rintro e w1 ⟨rfl, hb1⟩
  have p_1 := (Bx.new_ w (w.heap.size) 26 #[.int .i64 wd, .int .i64 ht, .slice A xs.length c] (by simp)).below hb1
  obtain ⟨pa_1, pb_1, pc_1⟩ := (p_1).three
  have z_1 : (w.alloc (.cells #[.int .i64 wd, .int .i64 ht, .slice A xs.length c] 26)).heap.size ≤ w1.heap.size := hb1.size
  simp only [World.size_alloc] at z_1
  have B_1 := ((Below.refl w.heap.size w).alloc (by first | omega | (simp; omega) | simp) (.cells #[.int .i64 wd, .int .i64 ht, .slice A xs.length c] 26)).trans (hb1.mono (by first | omega | (simp; omega) | simp))
  go_wp2_with fail
  refine (HA.out _ hb1).mono ?_
  rintro e w2 ⟨rfl, hb2⟩
  have p_2 := (p_1).below hb2
  obtain ⟨pa_2, pb_2, pc_2⟩ := (p_2).three
  have z_2 : w1.heap.size ≤ w2.heap.size := hb2.size
  have B_2 := (B_1).trans (hb2.mono (by first | omega | (simp; omega) | simp))
  go_wp2_with fail
  go_ret2
  exact ⟨rfl, (B_2)⟩
end Go.Proofs.YtjlifbdaieblpaaGreat

namespace Go.Proofs.YtjlifbdaieblpaaGreat
open Go.RowKit
set_option linter.unusedVariables false

theorem wrap_zero : wrap64 0 = 0 := by unfold wrap64; omega
/-- the coefficient at a power -/
def cf (l : Int) (xs : List Int) (n : Int) : Int := if n < l then 0 else xs.getD (n - l).toNat 0
theorem getD_big {xs : List Int} {k : Nat} (h : xs.length ≤ k) : xs.getD k 0 = 0 := by
  rw [List.getD_eq_getElem?_getD, List.getElem?_eq_none h]; rfl
theorem cf_low {l n : Int} {xs : List Int} (h : n < l) : cf l xs n = 0 := if_pos h
theorem cf_high {l n : Int} {xs : List Int} (h : l + xs.length ≤ n) : cf l xs n = 0 := by
  unfold cf
  rw [if_neg (by omega)]
  exact getD_big (by omega)
theorem cf_at {l : Int} {xs : List Int} (i : Nat) : cf l xs (l + i) = xs.getD i 0 := by
  unfold cf
  rw [if_neg (by omega), show (l + (i : Int) - l).toNat = i by omega]
theorem cf_nil (l n : Int) : cf l [] n = 0 := by
  unfold cf
  split
  · rfl
  · rfl
theorem cf_zero (l n : Int) (t : List Int) : cf l (0 :: t) n = cf (l + 1) t n := by
  by_cases h : n < l
  · rw [cf_low h, cf_low (by omega)]
  · by_cases h2 : n = l
    · subst h2
      rw [cf_low (show n < n + 1 by omega)]
      have := cf_at (l := n) (xs := 0 :: t) 0
      simpa using this
    · obtain ⟨k, hk⟩ : ∃ k : Nat, n = l + 1 + k := ⟨(n - l - 1).toNat, by omega⟩
      subst hk
      rw [cf_at, show l + 1 + (k : Int) = l + ((k + 1 : Nat) : Int) by omega, cf_at]
      rfl
theorem rdrop_getD : ∀ (xs : List Int) (i : Nat), (rdropZ xs).getD i 0 = xs.getD i 0
  | [], i => rfl
  | x :: t, i => by
    have ih := rdrop_getD t
    unfold rdropZ
    split
    · rename_i h
      have h0 : ∀ i, t.getD i 0 = 0 := fun i => by rw [← ih i, h]; rfl
      split
      · rename_i hx
        subst hx
        cases i with
        | zero => rfl
        | succ i => show (0 : Int) = t.getD i 0; rw [h0]
      · cases i with
        | zero => rfl
        | succ i => show (0 : Int) = t.getD i 0; rw [h0]
    · cases i with
      | zero => rfl
      | succ i => exact ih i
theorem cf_rdrop (l n : Int) (xs : List Int) : cf l (rdropZ xs) n = cf l xs n := by
  unfold cf
  rw [rdrop_getD]
theorem cf_drop : ∀ (xs : List Int) (l n : Int), cf (l + (xs.length - (dropZ xs).length : Nat)) (dropZ xs) n = cf l xs n
  | [], l, n => by simp [dropZ]
  | x :: t, l, n => by
    by_cases hx : x = 0
    · subst hx
      have h2 : dropZ (0 :: t) = dropZ t := by simp [dropZ]
      rw [h2, cf_zero, ← cf_drop t (l + 1) n]
      have := dropZ_le t
      congr 1
      rw [List.length_cons]
      omega
    · have h2 : dropZ (x :: t) = x :: t := by simp [dropZ, hx]
      rw [h2]
      congr 1
      omega
theorem cf_trim (l n : Int) (xs : List Int) : cf (trimS l xs).1 (trimS l xs).2 n = cf l xs n := by
  have h := cf_drop (rdropZ xs) l n
  rw [cf_rdrop] at h
  unfold trimS
  split
  · rename_i h0
    rw [h0] at h
    rw [← h, cf_nil, cf_nil]
  · exact h

/-- without needless coefficients -/
def Cn (q : Int × List Int) : Prop := (q.2 = [] → q.1 = 0) ∧ (0 < q.2.length → q.2.getD 0 0 ≠ 0 ∧ q.2.getD (q.2.length - 1) 0 ≠ 0)
theorem drop_head : ∀ (xs : List Int), 0 < (dropZ xs).length → (dropZ xs).getD 0 0 ≠ 0
  | [], h => by simp [dropZ] at h
  | x :: t, h => by
    by_cases hx : x = 0
    · subst hx
      have h2 : dropZ (0 :: t) = dropZ t := by simp [dropZ]
      rw [h2] at h ⊢
      exact drop_head t h
    · have h2 : dropZ (x :: t) = x :: t := by simp [dropZ, hx]
      rw [h2]
      simpa using hx
theorem rdrop_last : ∀ (xs : List Int), 0 < (rdropZ xs).length → (rdropZ xs).getD ((rdropZ xs).length - 1) 0 ≠ 0
  | [], h => by simp [rdropZ] at h
  | x :: t, h => by
    by_cases h0 : rdropZ t = []
    · by_cases hx : x = 0
      · have : rdropZ (x :: t) = [] := by simp [rdropZ, h0, hx]
        rw [this] at h
        simp at h
      · have : rdropZ (x :: t) = [x] := by simp [rdropZ, h0, hx]
        rw [this]
        simpa using hx
    · have : rdropZ (x :: t) = x :: rdropZ t := by simp [rdropZ, h0]
      rw [this]
      have hp : 0 < (rdropZ t).length := List.length_pos_iff.2 h0
      have ih := rdrop_last t hp
      rw [List.length_cons, show (rdropZ t).length + 1 - 1 = (rdropZ t).length - 1 + 1 by omega]
      exact ih
theorem cn_trim (l : Int) (xs : List Int) : Cn (trimS l xs) := by
  unfold Cn
  rw [trimS_snd]
  refine ⟨fun h => ?_, fun h => ⟨drop_head _ h, ?_⟩⟩
  · unfold trimS
    rw [if_pos h]
  · rw [← drop_comm] at h ⊢
    exact rdrop_last _ h
theorem cn_eq {p q : Int × List Int} (hp : Cn p) (hq : Cn q) (h : ∀ n, cf p.1 p.2 n = cf q.1 q.2 n) : p = q := by
  obtain ⟨l, xs⟩ := p
  obtain ⟨m, ys⟩ := q
  dsimp only [Cn] at hp hq h
  have a0 : ∀ {l : Int} {xs : List Int}, cf l xs l = xs.getD 0 0 := fun {l xs} => by have := cf_at (l := l) (xs := xs) 0; simpa using this
  by_cases hx : xs.length = 0
  · have hx' := List.eq_nil_of_length_eq_zero hx
    subst hx'
    by_cases hy : ys.length = 0
    · have hy' := List.eq_nil_of_length_eq_zero hy
      subst hy'
      rw [hp.1 rfl, hq.1 rfl]
    · have := h m
      rw [cf_nil, a0] at this
      exact absurd this.symm (hq.2 (by omega)).1
  · by_cases hy : ys.length = 0
    · have hy' := List.eq_nil_of_length_eq_zero hy
      subst hy'
      have := h l
      rw [cf_nil, a0] at this
      exact absurd this (hp.2 (by omega)).1
    · obtain ⟨px, pl⟩ := hp.2 (by omega)
      obtain ⟨qx, ql⟩ := hq.2 (by omega)
      have e1 : l = m := by
        rcases Int.lt_trichotomy l m with h1 | h1 | h1
        · have := h l
          rw [a0, cf_low h1] at this
          exact absurd this px
        · exact h1
        · have := h m
          rw [a0, cf_low h1] at this
          exact absurd this.symm qx
      subst e1
      have e2 : xs.length = ys.length := by
        rcases Nat.lt_trichotomy xs.length ys.length with h1 | h1 | h1
        · have := h (l + ((ys.length - 1 : Nat) : Int))
          rw [cf_at, cf_at, getD_big (by omega)] at this
          exact absurd this.symm ql
        · exact h1
        · have := h (l + ((xs.length - 1 : Nat) : Int))
          rw [cf_at, cf_at, getD_big (xs := ys) (by omega)] at this
          exact absurd this pl
      have e3 : xs = ys := by
        apply List.ext_getElem e2
        intro i h1 h2
        have := h (l + (i : Int))
        rw [cf_at, cf_at, List.getD_eq_getElem?_getD, List.getD_eq_getElem?_getD, List.getElem?_eq_getElem h1, List.getElem?_eq_getElem h2] at this
        exact this
      rw [e3]
theorem getD_cf {l : Int} {xs : List Int} {B : Int} (h : ∀ n, -B ≤ cf l xs n ∧ cf l xs n ≤ B) : ∀ x ∈ xs, -B ≤ x ∧ x ≤ B := by
  intro x hx
  obtain ⟨i, hi, rfl⟩ := List.getElem_of_mem hx
  have := h (l + (i : Int))
  rw [cf_at, List.getD_eq_getElem?_getD, List.getElem?_eq_getElem hi] at this
  exact this
theorem cf_mem {l : Int} {xs : List Int} {P : Int → Prop} (h0 : P 0) (h : ∀ x ∈ xs, P x) (n : Int) : P (cf l xs n) := by
  unfold cf
  split
  · exact h0
  · by_cases hk : (n - l).toNat < xs.length
    · rw [List.getD_eq_getElem?_getD, List.getElem?_eq_getElem hk]
      exact h _ (List.getElem_mem hk)
    · rw [getD_big (by omega)]
      exact h0
theorem cn_vld {q : Int × List Int} (hc : Cn q) (h1 : -1000 ≤ q.1) (h2 : q.1 ≤ 1000) (h3 : q.2.length ≤ 400) (h : ∀ n, -1000000000000 ≤ cf q.1 q.2 n ∧ cf q.1 q.2 n ≤ 1000000000000) : vldP q.1 q.2 = true := by
  unfold vldP
  split
  · rename_i h0
    have := hc.1 (List.eq_nil_of_length_eq_zero h0)
    simpa using this
  · rename_i h0
    obtain ⟨c1, c2⟩ := hc.2 (by omega)
    have h4 := getD_cf h
    rw [Bool.and_eq_true, Bool.and_eq_true, Bool.and_eq_true, Bool.and_eq_true]
    refine ⟨List.all_eq_true.2 fun x hx => inB_true.2 (h4 x hx), decide_eq_true h3, inB_true.2 ⟨h1, h2⟩, ?_, ?_⟩
    · simpa using c1
    · simpa using c2

/-- sums -/
def sm : Nat → (Nat → Int) → Int
  | 0, _ => 0
  | k + 1, f => sm k f + f k
theorem sm_congr {f g : Nat → Int} : ∀ {k : Nat}, (∀ i, i < k → f i = g i) → sm k f = sm k g
  | 0, _ => rfl
  | k + 1, h => by
    unfold sm
    rw [sm_congr fun i hi => h i (by omega), h k (by omega)]
theorem sm_zero {f : Nat → Int} : ∀ {k : Nat}, (∀ i, i < k → f i = 0) → sm k f = 0
  | 0, _ => rfl
  | k + 1, h => by
    unfold sm
    rw [sm_zero fun i hi => h i (by omega), h k (by omega)]
    rfl
theorem sm_add (f g : Nat → Int) : ∀ k : Nat, sm k (fun i => f i + g i) = sm k f + sm k g
  | 0 => rfl
  | k + 1 => by
    show sm k (fun i => f i + g i) + (f k + g k) = sm k f + f k + (sm k g + g k)
    rw [sm_add f g k]
    omega
theorem sm_mul (c : Int) (f : Nat → Int) : ∀ k : Nat, sm k (fun i => c * f i) = c * sm k f
  | 0 => by simp [sm]
  | k + 1 => by
    unfold sm
    rw [sm_mul c f k, Int.mul_add]
theorem sm_append (f : Nat → Int) (a : Nat) : ∀ b : Nat, sm (a + b) f = sm a f + sm b (fun i => f (a + i))
  | 0 => by simp [sm]
  | b + 1 => by
    show sm (a + b) f + f (a + b) = _
    rw [sm_append f a b]
    show _ = sm a f + (sm b (fun i => f (a + i)) + f (a + b))
    omega
theorem sm_first (f : Nat → Int) (k : Nat) : sm (k + 1) f = f 0 + sm k (fun i => f (i + 1)) := by
  have h := sm_append f 1 k
  rw [show 1 + k = k + 1 by omega] at h
  rw [h]
  congr 1
  · simp [sm]
  · exact sm_congr fun i _ => by rw [show 1 + i = i + 1 by omega]
theorem sm_rev : ∀ (k : Nat) (f : Nat → Int), sm k f = sm k (fun i => f (k - 1 - i))
  | 0, _ => rfl
  | k + 1, f => by
    rw [sm_first (fun i => f (k + 1 - 1 - i)) k]
    show sm k f + f k = _
    rw [sm_rev k f]
    have : sm k (fun i => f (k - 1 - i)) = sm k (fun i => f (k + 1 - 1 - (i + 1))) := sm_congr fun i hi => by rw [show k + 1 - 1 - (i + 1) = k - 1 - i by omega]
    rw [this, show k + 1 - 1 - 0 = k by omega]
    omega
theorem sm_swap (f : Nat → Nat → Int) : ∀ a b : Nat, sm a (fun i => sm b (fun j => f i j)) = sm b (fun j => sm a (fun i => f i j))
  | 0, b => (sm_zero fun _ _ => rfl).symm
  | a + 1, b => by
    show sm a (fun i => sm b (fun j => f i j)) + sm b (fun j => f a j) = sm b (fun j => sm a (fun i => f i j) + f a j)
    rw [sm_swap f a b, sm_add]
theorem mod_add {a b c d : Int} (h1 : a % 18446744073709551616 = b % 18446744073709551616) (h2 : c % 18446744073709551616 = d % 18446744073709551616) : (a + c) % 18446744073709551616 = (b + d) % 18446744073709551616 := by omega
theorem mod_mul {a b c d : Int} (h1 : a % 18446744073709551616 = b % 18446744073709551616) (h2 : c % 18446744073709551616 = d % 18446744073709551616) : (a * c) % 18446744073709551616 = (b * d) % 18446744073709551616 := by
  rw [Int.mul_emod, h1, h2, ← Int.mul_emod]
theorem mod_wrap (x : Int) : wrap64 x % 18446744073709551616 = x % 18446744073709551616 := by unfold wrap64; omega
theorem mod_eq {a b : Int} (h : a % 18446744073709551616 = b % 18446744073709551616) (ha : wrap64 a = a) (hb : wrap64 b = b) : a = b := by unfold wrap64 at ha hb; omega
theorem sm_mod {f g : Nat → Int} : ∀ {k : Nat}, (∀ i, i < k → f i % 18446744073709551616 = g i % 18446744073709551616) → sm k f % 18446744073709551616 = sm k g % 18446744073709551616
  | 0, _ => rfl
  | k + 1, h => mod_add (sm_mod fun i hi => h i (by omega)) (h k (by omega))
theorem sm_bound {f : Nat → Int} {B : Int} : ∀ {k : Nat}, (∀ i, i < k → -B ≤ f i ∧ f i ≤ B) → -((k : Int) * B) ≤ sm k f ∧ sm k f ≤ (k : Int) * B
  | 0, _ => by simp [sm]
  | k + 1, h => by
    have h1 := sm_bound (k := k) fun i hi => h i (by omega)
    have h2 := h k (by omega)
    rw [Int.natCast_add, Int.add_mul, Int.natCast_one, Int.one_mul]
    unfold sm
    omega

/-- the sum of a function's values in a window -/
def ws (L : Int) (K : Nat) (h : Int → Int) : Int := sm K (fun i => h (L + i))
/-- zero outside of a window -/
def Off (A B : Int) (h : Int → Int) : Prop := ∀ n, n < A ∨ B ≤ n → h n = 0
theorem ws_in {L L' A B : Int} {K K' : Nat} {h : Int → Int} (ho : Off L (L + K) h) (h1 : L' ≤ L) (h2 : L + K ≤ L' + K') : ws L' K' h = ws L K h := by
  unfold ws
  obtain ⟨a, ha⟩ : ∃ a : Nat, L = L' + a := ⟨(L - L').toNat, by omega⟩
  obtain ⟨b, hb⟩ : ∃ b : Nat, K' = a + (K + b) := ⟨K' - a - K, by omega⟩
  subst ha hb
  rw [sm_append, sm_append, sm_zero (k := a) fun i hi => ho _ (.inl (by omega)), sm_zero (k := b) fun i hi => ho _ (.inr (by omega))]
  rw [Int.zero_add, Int.add_zero]
  exact sm_congr fun i _ => by rw [show L' + ((a + i : Nat) : Int) = L' + (a : Int) + (i : Int) by omega]
theorem ws_same {L L' A B : Int} {K K' : Nat} {h : Int → Int} (ho : Off A B h) (a1 : L ≤ A) (a2 : B ≤ L + K) (b1 : L' ≤ A) (b2 : B ≤ L' + K') : ws L K h = ws L' K' h := by
  have o1 : Off L (L + K) h := fun n hn => ho n (by omega)
  have o2 : Off L' (L' + K') h := fun n hn => ho n (by omega)
  obtain ⟨m, hm⟩ : ∃ m : Int, m = min L L' := ⟨_, rfl⟩
  have e1 := ws_in (A := 0) (B := 0) (L' := m) (K' := (max (L + K) (L' + K') - m).toNat) o1 (by omega) (by omega)
  have e2 := ws_in (A := 0) (B := 0) (L' := m) (K' := (max (L + K) (L' + K') - m).toNat) o2 (by omega) (by omega)
  rw [← e1, e2]
theorem off_cf (l : Int) (xs : List Int) : Off l (l + xs.length) (cf l xs) := fun n hn => hn.elim cf_low cf_high

/-- a sum of products, in a window -/
def pq (L : Int) (K : Nat) (f g : Int → Int) (n : Int) : Int := ws L K (fun m => f m * g (n - m))
theorem off_pq {A B n : Int} {f g : Int → Int} (h : Off A B f) : Off A B (fun m => f m * g (n - m)) := fun m hm => by show f m * _ = 0; rw [h m hm, Int.zero_mul]
theorem pq_same {L L' A B : Int} {K K' : Nat} {f g : Int → Int} {n : Int} (ho : Off A B f) (a1 : L ≤ A) (a2 : B ≤ L + K) (b1 : L' ≤ A) (b2 : B ≤ L' + K') : pq L K f g n = pq L' K' f g n :=
  ws_same (off_pq ho) a1 a2 b1 b2
theorem pq_turn (L : Int) (K : Nat) (f g : Int → Int) (n : Int) : pq L K f g n = pq (n - L - K + 1) K g f n := by
  unfold pq ws
  rw [sm_rev]
  refine sm_congr fun i hi => ?_
  show f (L + ((K - 1 - i : Nat) : Int)) * g (n - (L + ((K - 1 - i : Nat) : Int))) = g (n - L - K + 1 + i) * f (n - (n - L - K + 1 + i))
  rw [Int.mul_comm]
  congr 2 <;> omega
theorem pq_add (L : Int) (K : Nat) (f1 f2 g : Int → Int) (n : Int) : pq L K (fun m => f1 m + f2 m) g n = pq L K f1 g n + pq L K f2 g n := by
  unfold pq ws
  rw [← sm_add]
  exact sm_congr fun i _ => Int.add_mul _ _ _
theorem pq_mod {L : Int} {K : Nat} {f f' g g' : Int → Int} {n : Int} (h1 : ∀ m, f m % 18446744073709551616 = f' m % 18446744073709551616) (h2 : ∀ m, g m % 18446744073709551616 = g' m % 18446744073709551616) : pq L K f g n % 18446744073709551616 = pq L K f' g' n % 18446744073709551616 :=
  sm_mod fun i _ => mod_mul (h1 _) (h2 _)

theorem addAt_mod {out xs : List Int} {off j : Nat} (hj : j < out.length) : (addAt out off xs).getD j 0 % 18446744073709551616 = (out.getD j 0 + (if j < off then 0 else xs.getD (j - off) 0)) % 18446744073709551616 := by
  have e0 : out.getD j 0 = out[j] := by rw [List.getD_eq_getElem?_getD, List.getElem?_eq_getElem hj]; rfl
  have e1 : (addAt out off xs).getD j 0 = if off ≤ j ∧ j - off < xs.length then wrap64 (out[j] + xs.getD (j - off) 0) else out[j] := by rw [List.getD_eq_getElem?_getD, addAt_at, List.getElem?_eq_getElem hj, Option.map_some]; rfl
  rw [e0, e1]
  by_cases h : off ≤ j ∧ j - off < xs.length
  · rw [if_pos h, if_neg (by omega), mod_wrap]
  · rw [if_neg h]
    by_cases h2 : j < off
    · rw [if_pos h2, Int.add_zero]
    · rw [if_neg h2, getD_big (by omega), Int.add_zero]
theorem rep_getD (n j : Nat) : (List.replicate n (0 : Int)).getD j 0 = 0 := by
  by_cases h : j < n
  · rw [List.getD_eq_getElem?_getD, List.getElem?_replicate_of_lt h]; rfl
  · exact getD_big (by simp; omega)
theorem cf_off {l : Int} {xs : List Int} {lo : Int} {j : Nat} (h : lo ≤ l) : (if j < (l - lo).toNat then 0 else xs.getD (j - (l - lo).toNat) 0) = cf l xs (lo + j) := by
  unfold cf
  by_cases h1 : j < (l - lo).toNat
  · rw [if_pos h1, if_pos (by omega)]
  · rw [if_neg h1, if_neg (by omega)]
    congr 1
    omega
theorem cf_addP (l0 : Int) (xs0 : List Int) (l1 : Int) (xs1 : List Int) (n : Int) : cf (addP l0 xs0 l1 xs1).1 (addP l0 xs0 l1 xs1).2 n % 18446744073709551616 = (cf l0 xs0 n + cf l1 xs1 n) % 18446744073709551616 := by
  unfold addP
  split
  · rename_i h
    rw [List.eq_nil_of_length_eq_zero h, cf_trim, cf_nil, Int.zero_add]
  · split
    · rename_i h0 h
      rw [List.eq_nil_of_length_eq_zero h, cf_trim, cf_nil, Int.add_zero]
    · rw [cf_trim]
      have f1 : lowOf l0 l1 ≤ l0 ∧ lowOf l0 l1 ≤ l1 := by unfold lowOf; split <;> omega
      have f2 : l0 + xs0.length ≤ highOf (l0 + xs0.length) (l1 + xs1.length) ∧ l1 + xs1.length ≤ highOf (l0 + xs0.length) (l1 + xs1.length) := by unfold highOf; split <;> omega
      by_cases h : n < lowOf l0 l1
      · rw [cf_low h, cf_low (by omega), cf_low (by omega)]; rfl
      · obtain ⟨j, rfl⟩ : ∃ j : Nat, n = lowOf l0 l1 + j := ⟨(n - lowOf l0 l1).toNat, by omega⟩
        rw [cf_at]
        by_cases h2 : j < (highOf (l0 + xs0.length) (l1 + xs1.length) - lowOf l0 l1).toNat
        · unfold addRaw
          rw [addAt_mod (by rw [addAt_length, List.length_replicate]; exact h2), cf_off f1.2]
          refine mod_add ?_ rfl
          rw [addAt_mod (by rw [List.length_replicate]; exact h2), cf_off f1.1, rep_getD, Int.zero_add]
        · rw [getD_big (by unfold addRaw; rw [addAt_length, addAt_length, List.length_replicate]; omega), cf_high (by omega), cf_high (by omega)]
          rfl
theorem cn_addP (l0 : Int) (xs0 : List Int) (l1 : Int) (xs1 : List Int) : Cn (addP l0 xs0 l1 xs1) := by
  unfold addP
  split
  · exact cn_trim _ _
  · split <;> exact cn_trim _ _
theorem inW_addP {l0 : Int} {xs0 : List Int} {l1 : Int} {xs1 : List Int} (h0 : InW xs0) (h1 : InW xs1) : InW (addP l0 xs0 l1 xs1).2 := by
  unfold addP
  split
  · exact trimS_inW h1
  · split
    · exact trimS_inW h0
    · exact trimS_inW (addAt_inW (addAt_inW fun x hx => by rw [List.eq_of_mem_replicate hx]; exact wrap_zero))
theorem inW_cf {l n : Int} {xs : List Int} (h : InW xs) : wrap64 (cf l xs n) = cf l xs n := cf_mem (P := fun x => wrap64 x = x) wrap_zero h n

theorem row_mod (x : Int) (ys : List Int) (i : Nat) : (rowW x ys).getD i 0 % 18446744073709551616 = (x * ys.getD i 0) % 18446744073709551616 := by
  unfold rowW
  by_cases h : i < ys.length
  · rw [List.getD_eq_getElem?_getD, List.getElem?_map, List.getD_eq_getElem?_getD, List.getElem?_eq_getElem h]
    exact mod_wrap _
  · rw [getD_big (by simp; omega), getD_big (by omega), Int.mul_zero]
theorem mulTo_mod {n : Nat} {xs ys : List Int} {j : Nat} (hj : j < n) : ∀ k : Nat, (mulTo n xs ys k).getD j 0 % 18446744073709551616 = sm k (fun i => xs.getD i 0 * (if j < i then 0 else ys.getD (j - i) 0)) % 18446744073709551616
  | 0 => by
    show (List.replicate n (0 : Int)).getD j 0 % _ = _
    rw [rep_getD]; rfl
  | k + 1 => by
    show (addAt (mulTo n xs ys k) k (rowW (xs.getD k 0) ys)).getD j 0 % _ = (sm k _ + xs.getD k 0 * (if j < k then 0 else ys.getD (j - k) 0)) % _
    rw [addAt_mod (by rw [mulTo_length]; exact hj)]
    refine mod_add (mulTo_mod hj k) ?_
    by_cases h : j < k
    · rw [if_pos h, if_pos h, Int.mul_zero]
    · rw [if_neg h, if_neg h, row_mod]
theorem cf_mulP (l0 : Int) (xs0 : List Int) (l1 : Int) (xs1 : List Int) (n : Int) : cf (mulP l0 xs0 l1 xs1).1 (mulP l0 xs0 l1 xs1).2 n % 18446744073709551616 = pq l0 xs0.length (cf l0 xs0) (cf l1 xs1) n % 18446744073709551616 := by
  unfold mulP
  split
  · rename_i h
    rw [cf_nil]
    have : pq l0 xs0.length (cf l0 xs0) (cf l1 xs1) n = 0 := by
      rcases h with h | h
      · unfold pq ws; rw [h]; rfl
      · refine sm_zero fun i _ => ?_
        show _ * cf l1 xs1 _ = 0
        rw [List.eq_nil_of_length_eq_zero h, cf_nil, Int.mul_zero]
    rw [this]
  · rename_i h
    rw [cf_trim]
    by_cases h1 : n < l0 + l1
    · rw [cf_low h1]
      have : pq l0 xs0.length (cf l0 xs0) (cf l1 xs1) n = 0 := sm_zero fun i _ => by
        show _ * cf l1 xs1 _ = 0
        rw [cf_low (l := l1) (by omega), Int.mul_zero]
      rw [this]
    · obtain ⟨j, rfl⟩ : ∃ j : Nat, n = l0 + l1 + j := ⟨(n - l0 - l1).toNat, by omega⟩
      rw [cf_at]
      by_cases h2 : j < xs0.length + xs1.length - 1
      · rw [mulTo_mod h2]
        unfold pq ws
        congr 1
        refine sm_congr fun i hi => ?_
        dsimp only
        rw [cf_at]
        congr 1
        unfold cf
        by_cases h3 : j < i
        · rw [if_pos h3, if_pos (by omega)]
        · rw [if_neg h3, if_neg (by omega)]
          congr 1
          omega
      · rw [getD_big (by rw [mulTo_length]; omega)]
        have : pq l0 xs0.length (cf l0 xs0) (cf l1 xs1) (l0 + l1 + j) = 0 := sm_zero fun i hi => by
          show _ * cf l1 xs1 _ = 0
          rw [cf_high (l := l1) (by omega), Int.mul_zero]
        rw [this]
theorem cn_mulP (l0 : Int) (xs0 : List Int) (l1 : Int) (xs1 : List Int) : Cn (mulP l0 xs0 l1 xs1) := by
  unfold mulP
  split
  · exact ⟨fun _ => rfl, fun h => by simp at h⟩
  · exact cn_trim _ _
theorem inW_mulP {l0 : Int} {xs0 : List Int} {l1 : Int} {xs1 : List Int} : InW (mulP l0 xs0 l1 xs1).2 := by
  unfold mulP
  split
  · exact fun x hx => by simp at hx
  · exact trimS_inW (mulTo_inW _ _ _ _)
/-- sums and products do not depend on the order -/
theorem addP_comm (l0 : Int) (xs0 : List Int) (l1 : Int) (xs1 : List Int) (h0 : InW xs0) (h1 : InW xs1) : addP l0 xs0 l1 xs1 = addP l1 xs1 l0 xs0 :=
  cn_eq (cn_addP _ _ _ _) (cn_addP _ _ _ _) fun n => mod_eq (by rw [cf_addP, cf_addP, Int.add_comm]) (inW_cf (inW_addP h0 h1)) (inW_cf (inW_addP h1 h0))
theorem mulP_comm (l0 : Int) (xs0 : List Int) (l1 : Int) (xs1 : List Int) : mulP l0 xs0 l1 xs1 = mulP l1 xs1 l0 xs0 :=
  cn_eq (cn_mulP _ _ _ _) (cn_mulP _ _ _ _) fun n => mod_eq (by
    rw [cf_mulP, cf_mulP]
    congr 1
    obtain ⟨L, hL⟩ : ∃ L : Int, L = min l0 (n - l1 - xs1.length + 1) := ⟨_, rfl⟩
    obtain ⟨K, hK⟩ : ∃ K : Nat, K = (max (l0 + xs0.length) (n - l1 + 1) - L).toNat := ⟨_, rfl⟩
    rw [pq_same (L' := L) (K' := K) (off_cf l0 xs0) (Int.le_refl _) (Int.le_refl _) (by omega) (by omega), pq_turn]
    exact pq_same (off_cf l1 xs1) (by omega) (by omega) (Int.le_refl _) (Int.le_refl _)) (inW_cf inW_mulP) (inW_cf inW_mulP)
/-- products are distributed over sums -/
theorem mulP_addP (l0 : Int) (xs0 : List Int) (l1 : Int) (xs1 : List Int) (l2 : Int) (xs2 : List Int) :
    mulP (addP l0 xs0 l1 xs1).1 (addP l0 xs0 l1 xs1).2 l2 xs2 = addP (mulP l0 xs0 l2 xs2).1 (mulP l0 xs0 l2 xs2).2 (mulP l1 xs1 l2 xs2).1 (mulP l1 xs1 l2 xs2).2 :=
  cn_eq (cn_mulP _ _ _ _) (cn_addP _ _ _ _) fun n => mod_eq (by
    rw [cf_mulP, cf_addP, mod_add (cf_mulP l0 xs0 l2 xs2 n) (cf_mulP l1 xs1 l2 xs2 n)]
    obtain ⟨q, hq⟩ : ∃ q, q = addP l0 xs0 l1 xs1 := ⟨_, rfl⟩
    have hc : ∀ m, cf q.1 q.2 m % 18446744073709551616 = (cf l0 xs0 m + cf l1 xs1 m) % 18446744073709551616 := fun m => by rw [hq]; exact cf_addP _ _ _ _ _
    rw [← hq]
    obtain ⟨L, hL⟩ : ∃ L : Int, L = min q.1 (min l0 l1) := ⟨_, rfl⟩
    obtain ⟨K, hK⟩ : ∃ K : Nat, K = (max (q.1 + q.2.length) (max (l0 + xs0.length) (l1 + xs1.length)) - L).toNat := ⟨_, rfl⟩
    rw [pq_same (L' := L) (K' := K) (off_cf q.1 q.2) (Int.le_refl _) (Int.le_refl _) (by omega) (by omega),
      pq_same (L' := L) (K' := K) (off_cf l0 xs0) (Int.le_refl _) (Int.le_refl _) (by omega) (by omega),
      pq_same (L' := L) (K' := K) (off_cf l1 xs1) (Int.le_refl _) (Int.le_refl _) (by omega) (by omega), ← pq_add]
    exact pq_mod hc fun _ => rfl) (inW_cf inW_mulP) (inW_cf (inW_addP inW_mulP inW_mulP))

theorem sumW_fold : ∀ (xs : List Int) (s : Int), xs.foldl (fun s x => wrap64 (s + x)) s % 18446744073709551616 = (s + sm xs.length (fun i => xs.getD i 0)) % 18446744073709551616
  | [], s => by simp [sm]
  | x :: t, s => by
    rw [List.foldl_cons, sumW_fold t, List.length_cons, sm_first]
    have h1 := mod_wrap (s + x)
    have h2 : sm t.length (fun i => (x :: t).getD (i + 1) 0) = sm t.length (fun i => t.getD i 0) := sm_congr fun i _ => rfl
    have h3 : (x :: t).getD 0 0 = x := rfl
    rw [h2, h3, ← Int.add_assoc]
    exact mod_add h1 rfl
theorem sumW_mod (l : Int) (xs : List Int) : sumW xs % 18446744073709551616 = ws l xs.length (cf l xs) % 18446744073709551616 := by
  unfold sumW ws
  rw [sumW_fold, Int.zero_add]
  congr 1
  exact sm_congr fun i _ => (cf_at i).symm
theorem sumW_wrap (xs : List Int) : wrap64 (sumW xs) = sumW xs := by
  unfold sumW
  have : ∀ (xs : List Int) (s : Int), wrap64 s = s → wrap64 (xs.foldl (fun s x => wrap64 (s + x)) s) = xs.foldl (fun s x => wrap64 (s + x)) s := by
    intro xs
    induction xs with
    | nil => intro s h; exact h
    | cons x t ih => intro s _; exact ih _ (wrap_idem _)
  exact this xs 0 wrap_zero
/-- values are multiplied -/
theorem sumW_mulP (l0 : Int) (xs0 : List Int) (l1 : Int) (xs1 : List Int) : sumW (mulP l0 xs0 l1 xs1).2 = wrap64 (sumW xs0 * sumW xs1) :=
  mod_eq (by
    obtain ⟨q, hq⟩ : ∃ q, q = mulP l0 xs0 l1 xs1 := ⟨_, rfl⟩
    have hc : ∀ m, cf q.1 q.2 m % 18446744073709551616 = pq l0 xs0.length (cf l0 xs0) (cf l1 xs1) m % 18446744073709551616 := fun m => by rw [hq]; exact cf_mulP _ _ _ _ _
    rw [← hq, mod_wrap, sumW_mod q.1, mod_mul (sumW_mod l0 xs0) (sumW_mod l1 xs1)]
    obtain ⟨L, hL⟩ : ∃ L : Int, L = min q.1 (l0 + l1) := ⟨_, rfl⟩
    obtain ⟨K, hK⟩ : ∃ K : Nat, K = (max (q.1 + q.2.length) (l0 + xs0.length + l1 + xs1.length) - L).toNat := ⟨_, rfl⟩
    rw [ws_same (L' := L) (K' := K) (off_cf q.1 q.2) (Int.le_refl _) (Int.le_refl _) (by omega) (by omega)]
    have e1 : ws L K (cf q.1 q.2) % 18446744073709551616 = ws L K (pq l0 xs0.length (cf l0 xs0) (cf l1 xs1)) % 18446744073709551616 := sm_mod fun i _ => hc _
    rw [e1]
    congr 1
    unfold pq
    have e2 : ws L K (fun n => ws l0 xs0.length (fun m => cf l0 xs0 m * cf l1 xs1 (n - m))) = sm xs0.length (fun i => sm K (fun j => cf l0 xs0 (l0 + i) * cf l1 xs1 (L + j - (l0 + i)))) := by
      unfold ws
      exact sm_swap (fun j i => cf l0 xs0 (l0 + i) * cf l1 xs1 (L + j - (l0 + i))) K xs0.length
    rw [e2]
    show _ = sm xs0.length (fun i => cf l0 xs0 (l0 + i)) * _
    rw [Int.mul_comm, ← sm_mul]
    refine sm_congr fun i hi => ?_
    rw [sm_mul, Int.mul_comm]
    congr 1
    have : sm K (fun j => cf l1 xs1 (L + j - (l0 + i))) = ws (L - (l0 + i)) K (cf l1 xs1) := by
      unfold ws
      exact sm_congr fun j _ => by congr 1; omega
    rw [this]
    exact ws_same (off_cf l1 xs1) (by omega) (by omega) (Int.le_refl _) (Int.le_refl _)) (sumW_wrap _) (wrap_idem _)
end Go.Proofs.YtjlifbdaieblpaaGreat
