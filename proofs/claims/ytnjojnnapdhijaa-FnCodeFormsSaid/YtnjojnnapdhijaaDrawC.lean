/-
  Contract: a code that is drawn. Conditions: the numbers of bytes and of choices are far below the machine's.
-/
import Derived.Test.YtnjojnnapdhijaaDrC
import Derived.Test.YtnjojnnapdhijaaDrawPan
import Derived.Test.YtnjojnnapdhijaaCodePan
import Derived.Deep.RegionHeld3
import Derived.Deep.RegionLaw
namespace Go.Proofs.Ytnjojnnapdhijaa
open Go.RowKit
set_option linter.unusedVariables false

/-- a code that is small -/
def CodeB (n m : Nat) (code : List (List Int)) : Prop := code.length ≤ n ∧ ∀ r ∈ code, r.length ≤ m ∧ ∀ x ∈ r, I64 x
theorem CodeB.set {n m : Nat} {code : List (List Int)} {k : Nat} {r : List Int} (h : CodeB n m code) (h1 : r.length ≤ m) (h2 : ∀ x ∈ r, I64 x) : CodeB n m (code.set k r) :=
  ⟨by rw [List.length_set]; exact h.1, fun q hq => by
    rcases List.mem_or_eq_of_mem_set hq with h3 | h3
    · exact h.2 q h3
    · rw [h3]; exact ⟨h1, h2⟩⟩
theorem CodeB.mono {n m n' m' : Nat} {code : List (List Int)} (h : CodeB n m code) (h1 : n ≤ n') (h2 : m ≤ m') : CodeB n' m' code :=
  ⟨Nat.le_trans h.1 h1, fun r hr => ⟨Nat.le_trans (h.2 r hr).1 h2, (h.2 r hr).2⟩⟩
theorem codN_small {wd ht : Int} {xs : List Int} (hs : Sz wd ht) (hl : (xs.length : Int) = innerN wd ht) (h4 : wd ≤ 4) (h5 : ht ≤ 4) : CodeB 64 64 (codN wd ht xs) := by
  have hsg : nSeg wd ht ≤ 64 := by
    obtain ⟨s1, s2, s3, s4⟩ := hs
    unfold nSeg
    have : ht = 1 ∨ ht = 2 ∨ ht = 3 ∨ ht = 4 := by omega
    rcases this with rfl | rfl | rfl | rfl <;> omega
  have hT := trInv_all (xs := xs) hs
  have hin : xs.length ≤ 1048576 := by
    obtain ⟨s1, s2, s3, s4⟩ := hs
    unfold innerN at hl
    have : wd = 1 ∨ wd = 2 ∨ wd = 3 ∨ wd = 4 := by omega
    rcases this with rfl | rfl | rfl | rfl <;> omega
  refine ⟨by rw [codN_len]; have := hT.cnt; simp only at this; omega, fun r hr => ?_⟩
  unfold codN at hr
  obtain ⟨c, hc, rfl⟩ := List.mem_map.1 hr
  obtain ⟨i, hi⟩ := List.mem_iff_getElem?.1 hc
  obtain ⟨j, hj, hcj, _, _⟩ := hT.start i c hi
  have hper := (per_spec (xs := xs) hs (walkK_ok hs hj).1).2.2.1
  refine ⟨?_, fun x hx => ?_⟩
  · have h1 := psL_len (wd := wd) (ht := ht) (xs := xs) c
    rw [hcj, orbW_len, ← hcj] at h1
    unfold curN
    rw [List.length_map]
    omega
  · unfold curN at hx
    obtain ⟨p, hp, rfl⟩ := List.mem_map.1 hx
    have hb := psL_b hs hl hi hp hin
    unfold psN I64
    split <;> omega
section
variable {w w' : World} {base top : Nat} {A : Option Addr} {c : Nat} {code : List (List Int)}
theorem OwnC.ge2c (h : OwnC w base top A c code) {g : Nat} (hg : blk A = some g) : base ≤ g ∧ g < top := by
  obtain ⟨hs, h1, h2, h3, h4, h5⟩ := h
  exact ⟨(h1.ge hg).1, h2 g hg⟩
theorem OwnI.grownC {b2 : Nat} {B : Option Addr} {d : Nat} {ys : List Int} (h : OwnI w b2 B d ys) (ho : OwnC w base top A c code) (hg : w.grownBy w' (blk A)) : OwnI w' b2 B d ys := by
  obtain ⟨hs, h1, h2, h3, h4, h5⟩ := ho
  exact h.grown hg (h.ne_hd h1)
/-- something appended to row p of a code -/
theorem OwnC.pushAt (h : OwnC w base top A c code) (ht : top ≤ w.heap.size) {p : Nat} (hp : p < code.length) :
    ∃ g B d ys, A = some ⟨g, 0, none⟩ ∧ base ≤ g ∧ g < w.heap.size ∧ code[p]? = some ys ∧ w.cell? ⟨g, p, none⟩ = some (.slice B ys.length d) ∧ w.frozen? ⟨g, p, none⟩ = false ∧ OwnI w base B d ys ∧ (∀ q, blk B = some q → base ≤ q ∧ q < w.heap.size) ∧
      ∀ (o : Obj) (w1 : World) (B' : Option Addr) (d' : Nat) (zs : List Int), (w.alloc o).grownBy w1 (blk B) → OwnI w1 base B' d' zs → (blk B' = blk B ∨ blk B' = some (w.alloc o).heap.size) →
        w1.cell? ⟨g, p, none⟩ = some (.slice B ys.length d) ∧ w1.frozen? ⟨g, p, none⟩ = false ∧ OwnC (w1.setCell ⟨g, p, none⟩ (.slice B' zs.length d')) base w1.heap.size A c (code.set p zs) := by
  obtain ⟨g, B, d, ys, hA, hgb, hgt, hys, hc, ho, hB, SW⟩ := h.swapRow ht hp
  have hself := SW w B d ys ⟨rfl, rfl, rfl, Nat.le_refl _, fun _ _ _ => rfl⟩ ho (.inl rfl)
  refine ⟨g, B, d, ys, hA, hgb, by omega, hys, hc, hself.2.1, ho, fun q hq => ⟨(ho.ge hq).1, by have := hB q hq; omega⟩, fun o w1 B' d' zs hg hz hb => ?_⟩
  refine SW w1 B' d' zs ⟨hg.os, hg.tape, hg.output, Nat.le_trans (by simp) hg.size, fun i hi hr => (hg.block i (by simp; omega) hr).trans (Below.heap_alloc w o i hi)⟩ hz ?_
  rcases hb with h | h
  · exact .inl h
  · refine .inr fun q hq => ?_
    rw [h] at hq
    injection hq with hq
    rw [← hq]
    simp
end
theorem code_step {w w4 w5 : World} {T b g p K K0 : Nat} {A A1 B : Option Addr} {c c1 : Nat} {xs ys : List Int} (s4 : Sr w4 b A c xs K) (h0 : Sr w b A c xs K0) (G4 : w.grownBy w4 (some b)) (hT9 : w.heap.size ≤ T) (hT : T ≤ w4.heap.size)
    (oA4 : OwnI w4 w.heap.size A1 c1 ys) (hA1 : ∀ q, blk A1 = some q → q < T) (hB : ∀ q, blk B = some q → T ≤ q) (hgT : T ≤ g) {o : Obj} (hg5 : (w4.alloc o).grownBy w5 (blk B)) (u : Value) :
    OwnI (w5.setCell ⟨g, p, none⟩ u) w.heap.size A1 c1 ys ∧ Sr (w5.setCell ⟨g, p, none⟩ u) b A c xs K ∧ w.grownBy (w5.setCell ⟨g, p, none⟩ u) (some b) ∧ T ≤ (w5.setCell ⟨g, p, none⟩ u).heap.size := by
  have hb0 := h0.lt
  have hz := hg5.size
  rw [World.size_alloc] at hz
  refine ⟨oA4.keep fun q hq he => ?_, ?_, ?_, by rw [World.size_setCell]; omega⟩
  · have := hA1 q he
    refine (Below.heap_setCell w5 ⟨g, p, none⟩ u q (by simp; omega)).trans ((hg5.block q (by rw [World.size_alloc]; omega) (fun e => ?_)).trans (Below.heap_alloc w4 o q hq))
    have := hB q e.symm
    omega
  · exact ((s4.alloc o).grownOld h0 hB hT9 hg5).far (p := ⟨g, p, none⟩) (show b ≠ g by omega) (fun h1 e => by have := h0.row_lt h1 e; simp at this; omega) u
  · exact gr_new (gr_own (gr_below G4 ((Below.refl _ _).alloc (Nat.le_refl _) o)) hB hT9 hg5) (p := ⟨g, p, none⟩) (show w.heap.size ≤ g by omega) u
/-- what is drawn: a code of the call's own -/
def RetDr (w : World) (b : Nat) (A : Option Addr) (c : Nat) (xs : List Int) (K n m : Nat) (e : Ending) (w' : World) : Prop :=
  ∃ (code : List (List Int)) (B : Option Addr) (d : Nat), e = .returned (.slice B code.length d) ∧ CodeB n m code ∧ OwnC w' w.heap.size w'.heap.size B d code ∧ Sr w' b A c xs K ∧ w.grownBy w' (some b)

set_option maxRecDepth 40000 in
set_option maxHeartbeats 16000000 in
theorem l14Draw_any (b : Nat) (A : Option Addr) (c : Nat) (xs : List Int) (K : Nat) (w : World) (h : Sr w b A c xs K) (hK : K ≤ 90000) (hx : ∀ x ∈ xs, 0 ≤ x ∧ x ≤ 255) (hn : xs.length ≤ 1048576) :
    Calls Try.prog 102 #[.pointer (some ⟨b, 0, none⟩)] w (RetDr w b A c xs (K + 400) 64 64) := by
  have hb0 := h.lt
  have H0 := hide h
  have HX := hide hx
  go_enter Try.func102, Try.ntmps102
  go_wp2_with fail
  refine (one_any b A c xs K 2 w h (by omega) hx hn (by omega) (by omega)).mono ?_
  rintro e w1 ⟨v, rfl, s1, g1⟩
  have hz1 := g1.size
  clear h hx
  rcases v with _ | _
  · go_wp2_with fail
    refine (pick_any b A c xs (K + 1) 6 _ s1 (by omega) HX.out hn (by omega) (by omega)).mono ?_
    rintro e w2 ⟨n0, rfl, hn0, hn1, s2, g2⟩
    obtain ⟨n, rfl⟩ : ∃ n : Nat, n0 = (n : Int) := ⟨n0.toNat, by omega⟩
    have hn5 : n ≤ 5 := by omega
    have G2 := gr_trans g1 g2
    have hz2 := G2.size
    have own0 := OwnI.empty_ w2 (base := w.heap.size) w2.heap.size rfl hz2
    have s3 := s2.alloc (.cells #[] 2)
    have G3 := gr_below G2 ((Below.refl w2.heap.size w2).alloc (Nat.le_refl _) (.cells #[] 2))
    clear s1 g1 s2 g2 G2
    go_wp2_with fail
    go_loopw [5, 6] (fun s5 s6 wr => ∃ (k : Nat) (A1 : Option Addr) (c1 : Nat) (zs : List Int), 1 ≤ k ∧ k ≤ n + 1 ∧ s6 = .int .i64 (k : Int) ∧ s5 = .slice A1 zs.length c1 ∧ zs.length + 2 ≤ 2 * k ∧ Hid (∀ x ∈ zs, -10 ≤ x ∧ x ≤ 10) ∧ OwnI wr w.heap.size A1 c1 zs ∧ Sr wr b A c xs (K + 2) ∧ w.grownBy wr (some b)) (fun _ s6 _ => n + 1 - (intOf s6).toNat)
    case atStart => exact ⟨1, _, 0, [], Nat.le_refl _, by omega, rfl, rfl, by simp, hide (by simp), own0, s3, G3⟩
    case round =>
      clear own0 s3 G3
      obtain ⟨k, A1, c1, zs, hk1, hk2, rfl, rfl, hzl, hzb, own, hs, hg⟩ := hrel
      have hz := hg.size
      have hB9 : ∀ g, blk A1 = some g → w.heap.size ≤ g := fun g hg => (own.ge hg).1
      by_cases hlt : k ≤ n
      · have hkn : (k : Int) ≤ (n : Int) := by omega
        have hwn : IntKind.i64.wrap (-(k : Int)) = -(k : Int) := by rw [IntKind.wrap_i64]; omega
        have HZB : Hid (∀ x ∈ zs ++ [(k : Int), -(k : Int)], -10 ≤ x ∧ x ≤ 10) := hide fun x hx => by
          rcases List.mem_append.1 hx with hx | hx
          · exact hzb.out x hx
          · simp at hx; omega
        go_wp2_with (at_builtin; refine wpList_append_ints rfl (.tmp 27) (.tmp 31) rfl w.heap.size A1 c1 zs rfl (own.alloc _) (some ⟨wr.heap.size, 0, none⟩) 2 [(k : Int), -(k : Int)] rfl (OwnI.new (base := 0) wr [(k : Int), -(k : Int)] #[.int .i64 (k : Int), .int .i64 (-(k : Int))] rfl (Nat.zero_le _) (by simp [maxLen])).rd (by simp; omega) (by simp; omega) (zs ++ [(k : Int), -(k : Int)]) rfl ?_; intro A3 c3 w3 own3 hg3 hb3)
        go_roundw
        case rel => exact ⟨k + 1, A3, c3, _, by omega, by omega, by go_num, by simp, by simp; omega, HZB, own3, (hs.alloc _).grownOld H0.out hB9 (Nat.le_refl _) hg3, gr_own (gr_below hg ((Below.refl _ _).alloc (Nat.le_refl _) _)) hB9 (Nat.le_refl _) hg3⟩
        case measure => simp [intOf]; omega
      · have hkn : ¬ ((k : Int) ≤ (n : Int)) := by omega
        have hzl10 : zs.length ≤ 10 := by omega
        have hwl : IntKind.i64.wrap ((zs.length : Int) - 1) = (zs.length : Int) - 1 := by rw [IntKind.wrap_i64]; omega
        obtain ⟨L, hL⟩ : ∃ L, L = zs.length := ⟨_, rfl⟩
        have HL := hide hL
        rw [← hL] at hzl10 hwl ⊢
        obtain ⟨wa, rfl⟩ : ∃ wa, wa = wr := ⟨_, rfl⟩
        clear hL
        go_wp2_with fail
        go_loopw [7] (fun s7 wr => ∃ (t : Int) (ys : List Int), -1 ≤ t ∧ t < (L : Int) ∧ s7 = .int .i64 t ∧ Hid (ys.length = L) ∧ Hid (∀ x ∈ ys, -10 ≤ x ∧ x ≤ 10) ∧ OwnI wr w.heap.size A1 c1 ys ∧ Sr wr b A c xs (K + 3 + (L - (t + 1).toNat)) ∧ w.grownBy wr (some b)) (fun s7 _ => (intOf s7 + 1).toNat)
        case atStart => exact ⟨_, zs, by omega, by omega, rfl, hide HL.out.symm, hzb, own, hs.more (by omega), hg⟩
        case round =>
          clear own hs hg hzb HL hlt hkn hwl hz
          obtain ⟨t, ys, ht1, ht2, rfl, hyl, hyb, own, hs, hg⟩ := hrel
          have hz := hg.size
          by_cases htp : 0 < t
          · obtain ⟨j, rfl⟩ : ∃ j : Nat, t = (j : Int) := ⟨t.toNat, by omega⟩
            have hw1 : IntKind.i64.wrap ((j : Int) + 1) = (j : Int) + 1 := by rw [IntKind.wrap_i64]; omega
            go_wp2_with fail
            refine (pickG_any b A c xs _ ((j : Int) + 1) _ hs (by omega) HX.out hn (by omega) (by omega)).mono ?_
            rintro e w4 ⟨p, rfl, hp, s4, g4⟩
            have own4 := own.src g4 hb0
            have G4 := gr_trans hg g4
            have hz4 := G4.size
            have hpj : p ≤ j := by omega
            obtain ⟨gA, x, hA, hgb, hgs, hx1, hgc, hgf, hst⟩ := own4.at_ (k := p) (by have := hyl.out; omega)
            subst hA
            obtain ⟨gA2, y, hA2, _, _, hy1, hgc2, hgf2, _⟩ := own4.at_ (k := j) (by have := hyl.out; omega)
            injection hA2 with hA2
            injection hA2 with hA2
            subst hA2
            have o5 := (hst y).1
            obtain ⟨gA3, y3, hA3, _, _, hy3, hgc3, hgf3, hst3⟩ := o5.at_ (k := j) (by rw [List.length_set]; have := hyl.out; omega)
            injection hA3 with hA3
            injection hA3 with hA3
            subst hA3
            have o6 := (hst3 x).1
            have HO := hide o6
            have HYL : Hid (((ys.set p y).set j x).length = L) := hide (by rw [List.length_set, List.length_set]; exact hyl.out)
            have HYB : Hid (∀ q ∈ (ys.set p y).set j x, -10 ≤ q ∧ q ≤ 10) := hide fun q hq => by
              rcases List.mem_or_eq_of_mem_set hq with h3 | h3
              · rcases List.mem_or_eq_of_mem_set h3 with h4 | h4
                · exact hyb.out q h4
                · rw [h4]; exact hyb.out y (List.mem_of_getElem? hy1)
              · rw [h3]; exact hyb.out x (List.mem_of_getElem? hx1)
            have hgne : gA ≠ b := by omega
            have HSR := hide ((s4.far (p := ⟨gA, p, none⟩) (show b ≠ gA by omega) (fun h0 e => by have := H0.out.row_lt h0 e; simp at this; omega) (.int .i64 y)).far (p := ⟨gA, j, none⟩) (show b ≠ gA by omega) (fun h0 e => by have := H0.out.row_lt h0 e; simp at this; omega) (.int .i64 x))
            have HGR := hide (gr_new (gr_new G4 (p := ⟨gA, p, none⟩) (show w.heap.size ≤ gA by omega) (.int .i64 y)) (p := ⟨gA, j, none⟩) (show w.heap.size ≤ gA by omega) (.int .i64 x))
            have hpL : (p : Int) < (L : Int) := by omega
            have hjL : (j : Int) < (L : Int) := by omega
            have hwj : IntKind.i64.wrap ((j : Int) - 1) = (j : Int) - 1 := by rw [IntKind.wrap_i64]; omega
            clear own own4 hst hst3 o5 o6 hs hg s4 g4 G4 hx1 hy1 hy3 hyl hyb
            go_wp2_with fail
            go_roundw
            case rel => exact ⟨(j : Int) - 1, _, by omega, by omega, by go_num, HYL, HYB, HO.out, HSR.out.more (by omega), HGR.out⟩
            case measure => simp [intOf]
          · have hyl' := hyl
            have hallT : Hid (∀ g, blk A1 = some g → g < wr.heap.size) := hide (fun g hg => (own.ge hg).2)
            have hallB : Hid (∀ g, blk A1 = some g → w.heap.size ≤ g) := hide (fun g hg => (own.ge hg).1)
            obtain ⟨T, hTe⟩ : ∃ T, T = wr.heap.size := ⟨_, rfl⟩
            rw [← hTe] at hallT
            have hT9 : w.heap.size ≤ T := by omega
            have ownE := OwnC.empty_ (base := T) wr wr.heap.size rfl (by omega)
            have oA0 := own.alloc (.cells #[] 34)
            have s0 := hs.alloc (.cells #[] 34)
            have g0 := gr_below hg ((Below.refl wr.heap.size wr).alloc (Nat.le_refl _) (.cells #[] 34))
            have hs0 : K + 3 + (L - (t + 1).toNat) ≤ K + 20 := by omega
            have s0 := s0.more hs0
            have HK0 := hide (And.intro ownE (And.intro oA0 (And.intro s0 g0)))
            clear own hs hg ownE oA0 s0 g0 ht1 ht2 hs0
            go_wp2_with fail
            refine (pick_any b A c xs _ 4 _ HK0.out.2.2.1 (by omega) HX.out hn (by omega) (by omega)).mono ?_
            rintro e w4 ⟨m0, rfl, hm0, hm1, s4, g4⟩
            have hz4 := g4.size
            rw [World.size_alloc] at hz4
            have ownE := (HK0.out.1.src g4 (by omega) (by simp)).mono (Nat.le_refl T) (show wr.heap.size + 1 ≤ w4.heap.size from hz4)
            have oA4 := HK0.out.2.1.src g4 hb0
            have G4 := gr_trans HK0.out.2.2.2 g4
            obtain ⟨m1, rfl⟩ : ∃ m : Nat, m0 = (m : Int) := ⟨m0.toNat, by omega⟩
            clear g4 HK0
            go_wp2_with fail
            go_loopw [10, 11] (fun s10 s11 wr => ∃ (m : Nat) (A2 : Option Addr) (c2 : Nat) (zs : List (List Int)), s11 = .int .i64 (m : Int) ∧ s10 = .slice A2 zs.length c2 ∧ zs.length + m ≤ 3 ∧ Hid (∀ r ∈ zs, r = []) ∧ OwnC wr T wr.heap.size A2 c2 zs ∧ OwnI wr w.heap.size A1 c1 ys ∧ Sr wr b A c xs (K + 21) ∧ w.grownBy wr (some b) ∧ T ≤ wr.heap.size) (fun _ s11 _ => (intOf s11).toNat)
            case atStart => exact ⟨m1, _, 0, [], rfl, rfl, by simp; omega, hide (fun r hr => nomatch hr), ownE, oA4, s4.more (by omega), G4, by omega⟩
            case round =>
              clear ownE oA4 s4 G4
              obtain ⟨m, A2, c2, zs, rfl, rfl, hzm, hze, own, oA, hs, hg, hT⟩ := hrel
              have hz := hg.size
              have hB9 : ∀ g, blk A2 = some g → T ≤ g := fun g hg => (own.ge2c hg).1
              by_cases hmp : 0 < m
              · have hmi : (0 : Int) < (m : Int) := by omega
                have hwm : IntKind.i64.wrap ((m : Int) - 1) = (m : Int) - 1 := by rw [IntKind.wrap_i64]; omega
                have HE : Hid (∀ r ∈ zs ++ [([] : List Int)], r = []) := hide fun r hr => by
                  rcases List.mem_append.1 hr with h | h
                  · exact hze.out r h
                  · simpa using h
                go_wp2_with (at_builtin; refine wpList_append_code rfl (.tmp 66) (.tmp 68) rfl T wr.heap.size A2 c2 zs rfl ((own.alloc _).alloc _) (some ⟨wr.heap.size + 1, 0, none⟩) 1 rfl (some ⟨wr.heap.size, 0, none⟩) 0 [] (RG.fresh (E := hdE) _ _ (by simp) ⟨some ⟨wr.heap.size, 0, none⟩, 0, 0⟩ #[.slice (some ⟨wr.heap.size, 0, none⟩) 0 0] rfl _) ((OwnI.empty_ wr wr.heap.size rfl (Nat.le_refl _)).alloc _) hT (by simp; omega) (by omega) (zs ++ [[]]) rfl ?_; intro A3 c3 w3 own3 hg3 hb3)
                go_roundw
                case rel => exact ⟨m - 1, A3, c3, zs ++ [[]], by go_num, by simp, by simp; omega, HE, own3, ((oA.alloc _).alloc _).grownC ((own.alloc _).alloc _) hg3, ((hs.alloc _).alloc _).grownOld H0.out hB9 hT9 hg3, gr_own (gr_below hg (((Below.refl _ _).alloc (Nat.le_refl _) _).alloc (by simp) _)) hB9 hT9 hg3, Nat.le_trans (by simp; omega) hg3.size⟩
                case measure => simp [intOf]; omega
              · have hm0 : ¬ ((0 : Int) < (m : Int)) := by omega
                have hzl3 : zs.length ≤ 3 := by omega
                clear hzm hmp
                by_cases hcase : zs = [] ∧ 0 < L
                · obtain ⟨rfl, hL0⟩ := hcase
                  have hLi : (0 : Int) < (L : Int) := by omega
                  go_wp2_with (at_builtin; refine wpList_append_code rfl (.tmp 78) (.tmp 80) rfl T wr.heap.size A2 c2 [] rfl ((own.alloc _).alloc _) (some ⟨wr.heap.size + 1, 0, none⟩) 1 rfl (some ⟨wr.heap.size, 0, none⟩) 0 [] (RG.fresh (E := hdE) _ _ (by simp) ⟨some ⟨wr.heap.size, 0, none⟩, 0, 0⟩ #[.slice (some ⟨wr.heap.size, 0, none⟩) 0 0] rfl _) ((OwnI.empty_ wr wr.heap.size rfl (Nat.le_refl _)).alloc _) hT (by simp; omega) (by simp) ([[]]) rfl ?_; intro A3 c3 w3 own3 hg3 hb3)
                  have oA3 := ((oA.alloc (.cells #[] 2)).alloc (.cells #[.slice (some ⟨wr.heap.size, 0, none⟩) 0 0] 34)).grownC ((own.alloc _).alloc _) hg3
                  have s3 := ((hs.alloc _).alloc _).grownOld H0.out hB9 hT9 hg3
                  have G3 := gr_own (gr_below hg (((Below.refl _ _).alloc (Nat.le_refl _) _).alloc (by simp) _)) hB9 hT9 hg3
                  have hT3 : T ≤ w3.heap.size := Nat.le_trans (by simp; omega) hg3.size
                  have own3' := own3.mono (Nat.le_refl _) (Nat.le_refl _)
                  clear own oA hs hg hg3 hb3 hB9 hze own3
                  have hNL : 0 < L → 0 < 1 := fun _ => by omega
                  have HZ0 : Hid (∀ r ∈ ([[]] : List (List Int)), r.length ≤ 0 ∧ ∀ x ∈ r, I64 x) := hide (fun r hr => by have := List.mem_singleton.1 hr; rw [this]; exact ⟨Nat.le_refl _, fun x hx => nomatch hx⟩)
                  go_wp2_with fail
                  go_loopw [12] (fun s12 wr => ∃ (i : Nat) (zs : List (List Int)), i ≤ L ∧ s12 = .int .i64 (i : Int) ∧ Hid (zs.length = 1) ∧ Hid (∀ r ∈ zs, r.length ≤ i ∧ ∀ x ∈ r, I64 x) ∧ OwnC wr T wr.heap.size A3 c3 zs ∧ OwnI wr w.heap.size A1 c1 ys ∧ Sr wr b A c xs (K + 60 + i) ∧ w.grownBy wr (some b) ∧ T ≤ wr.heap.size) (fun s12 _ => L - (intOf s12).toNat)
                  case atStart => exact ⟨0, [[]], by omega, by go_num, hide rfl, HZ0, own3', oA3, s3.more (by omega), G3, hT3⟩
                  case round =>
                    clear own3' oA3 s3 G3 HZ0
                    obtain ⟨i, zs, hiL, rfl, hzl, hzb, own, oA, hs, hg, hT⟩ := hrel
                    have hz := hg.size
                    by_cases hi : i < L
                    · have hNp : 0 < 1 := by omega
                      have hii : (i : Int) < (L : Int) := by omega
                      go_wp2_with fail
                      refine (pickG_any b A c xs _ (1 : Int) _ hs (by omega) HX.out hn (by omega) (by omega)).mono ?_
                      rintro e w4 ⟨p, rfl, hp, s4, g4⟩
                      have own4 := (own.src g4 (by omega) (Nat.le_refl _)).mono (Nat.le_refl _) g4.size
                      have oA4 := oA.src g4 hb0
                      have G4 := gr_trans hg g4
                      have hz4 := g4.size
                      have hpN : p < 1 := by omega
                      obtain ⟨g, B, d, ps, hA, hgT, hgs, hps, hc4, hf4, oP, hBT, SW⟩ := own4.pushAt (Nat.le_refl _) (p := p) (by have := hzl.out; omega)
                      obtain ⟨gA, x, hA1, hgAb, hgAs, hx1, hcA, hfA, _⟩ := oA4.at_ (k := i) (by have := hyl.out; omega)
                      have hgAT : gA < T := hallT.out gA (by rw [hA1]; rfl)
                      obtain ⟨ps2, hps2⟩ : ∃ ps2, ps2 = ps ++ [x] := ⟨_, rfl⟩
                      have HP2 := hide hps2
                      have hpsl := hzb.out ps (List.mem_of_getElem? hps)
                      have hpl : ps.length ≤ 10 := by omega
                      have hxI : I64 x := by have := hyb.out x (List.mem_of_getElem? hx1); unfold I64; omega
                      have HZB : Hid (∀ r ∈ zs.set p ps2, r.length ≤ i + 1 ∧ ∀ x ∈ r, I64 x) := hide fun r hr => by
                        rcases List.mem_or_eq_of_mem_set hr with h3 | h3
                        · have := hzb.out r h3
                          exact ⟨by omega, this.2⟩
                        · rw [h3, hps2]
                          refine ⟨by rw [List.length_append]; simp; omega, fun q hq => ?_⟩
                          rcases List.mem_append.1 hq with h | h
                          · exact hpsl.2 q h
                          · rw [List.mem_singleton.1 h]; exact hxI
                      have HZL : Hid ((zs.set p ps2).length = 1) := hide (by rw [List.length_set]; exact hzl.out)
                      have hcB' := cell_later (((Below.refl w4.heap.size w4).drew).alloc (Nat.le_refl _) (.cells #[.int .i64 x] 2)) hc4
                      have HSW := hide (SW (.cells #[.int .i64 x] 2))
                      have HST := hide (fun (w5 : World) (u : Value) (hg5 : (w4.alloc (.cells #[.int .i64 x] 2)).grownBy w5 (blk B)) => code_step (p := p) (g := g) s4 H0.out G4 hT9 (by omega) oA4 hallT.out (fun q hq => (hBT q hq).1) hgT hg5 u)
                      have HOP := hide oP
                      subst hA hA1
                      clear own own4 oA oA4 hs s4 g4 hg G4 SW hpsl hps hx1 oP hps2 hxI hzl hzb
                      have hpI : (p : Int) < (1 : Int) := by omega
                      go_wp2_with fail
                      go_region_law ((refine step_append_row intE rfl (.tmp 97) (.tmp 102) rfl T B d ps rfl (by rw [intE_own]; exact HOP.out.alloc _) (some ⟨w4.heap.size, 0, none⟩) 1 [x] rfl (RG.fresh (E := intE) _ _ rfl _ #[.int .i64 x] rfl _) (by simp; omega) (by simp [intE]; omega) (by simp; omega) ps2 HP2.out ?_; intro A5 c5 w5 own5 hg5 hb5; rw [intE_own] at own5; have q0 := HSW.out w5 A5 c5 ps2 ⟨hg5.os, hg5.tape, hg5.output, hg5.size, hg5.block⟩ own5 hb5; have q1 := q0.1; have q2 := q0.2.1; have HQ := hide q0.2.2; have HT := hide (HST.out w5 (.slice A5 ps2.length c5) ⟨hg5.os, hg5.tape, hg5.output, hg5.size, hg5.block⟩); clear q0 own5 hg5 hb5))
                      all_goals go_wp2_with fail
                      all_goals go_roundw
                      all_goals first
                        | exact ⟨i + 1, _, by omega, by go_num, HZL, HZB, HQ.out.mono (Nat.le_refl _) (by simp), HT.out.1, HT.out.2.1.more (by omega), HT.out.2.2.1, HT.out.2.2.2⟩
                        | (simp [intOf]; omega)
                    · have hii : ¬ ((i : Int) < (L : Int)) := by omega
                      have HF := hide (And.intro hzl.out (And.intro hzb.out (And.intro own (And.intro hs hg))))
                      clear own oA hs hg hzl hzb
                      go_wp2_with fail
                      go_ret
                      obtain ⟨f1, f2, f3, f4, f5⟩ := HF.out
                      exact ⟨zs, _, _, by rw [f1]; rfl, ⟨by omega, fun r hr => ⟨by have := (f2 r hr).1; omega, (f2 r hr).2⟩⟩, f3.mono hT9 (Nat.le_refl _), f4.more (by omega), f5⟩
                · by_cases hnz : 0 < zs.length
                  · have hnzi : ¬ ((zs.length : Int) = 0) := by omega
                    clear hB9 hcase
                    obtain ⟨wa2, rfl⟩ : ∃ wa2, wa2 = wr := ⟨_, rfl⟩
                    obtain ⟨N, hN⟩ : ∃ N, N = zs.length := ⟨_, rfl⟩
                    have HN0 := hide hN
                    have hNL : 0 < L → 0 < N := fun _ => by omega
                    have hN3 : N ≤ 3 := by omega
                    have hN0 : 0 < N := by omega
                    have hN1 : ¬ ((N : Int) = 0) := by omega
                    rw [← hN]
                    clear hN hnz hnzi
                    have HZ0 : Hid (∀ r ∈ (zs : List (List Int)), r.length ≤ 0 ∧ ∀ x ∈ r, I64 x) := hide (fun r hr => by have := hze.out r hr; rw [this]; exact ⟨Nat.le_refl _, fun x hx => nomatch hx⟩)
                    go_wp2_with fail
                    go_loopw [12] (fun s12 wr => ∃ (i : Nat) (zs : List (List Int)), i ≤ L ∧ s12 = .int .i64 (i : Int) ∧ Hid (zs.length = N) ∧ Hid (∀ r ∈ zs, r.length ≤ i ∧ ∀ x ∈ r, I64 x) ∧ OwnC wr T wr.heap.size A2 c2 zs ∧ OwnI wr w.heap.size A1 c1 ys ∧ Sr wr b A c xs (K + 60 + i) ∧ w.grownBy wr (some b) ∧ T ≤ wr.heap.size) (fun s12 _ => L - (intOf s12).toNat)
                    case atStart => exact ⟨0, zs, by omega, by go_num, hide HN0.out.symm, HZ0, own, oA, hs.more (by omega), hg, hT⟩
                    case round =>
                      clear own oA hs hg HZ0
                      obtain ⟨i, zs, hiL, rfl, hzl, hzb, own, oA, hs, hg, hT⟩ := hrel
                      have hz := hg.size
                      by_cases hi : i < L
                      · have hNp : 0 < N := by omega
                        have hii : (i : Int) < (L : Int) := by omega
                        go_wp2_with fail
                        refine (pickG_any b A c xs _ (N : Int) _ hs (by omega) HX.out hn (by omega) (by omega)).mono ?_
                        rintro e w4 ⟨p, rfl, hp, s4, g4⟩
                        have own4 := (own.src g4 (by omega) (Nat.le_refl _)).mono (Nat.le_refl _) g4.size
                        have oA4 := oA.src g4 hb0
                        have G4 := gr_trans hg g4
                        have hz4 := g4.size
                        have hpN : p < N := by omega
                        obtain ⟨g, B, d, ps, hA, hgT, hgs, hps, hc4, hf4, oP, hBT, SW⟩ := own4.pushAt (Nat.le_refl _) (p := p) (by have := hzl.out; omega)
                        obtain ⟨gA, x, hA1, hgAb, hgAs, hx1, hcA, hfA, _⟩ := oA4.at_ (k := i) (by have := hyl.out; omega)
                        have hgAT : gA < T := hallT.out gA (by rw [hA1]; rfl)
                        obtain ⟨ps2, hps2⟩ : ∃ ps2, ps2 = ps ++ [x] := ⟨_, rfl⟩
                        have HP2 := hide hps2
                        have hpsl := hzb.out ps (List.mem_of_getElem? hps)
                        have hpl : ps.length ≤ 10 := by omega
                        have hxI : I64 x := by have := hyb.out x (List.mem_of_getElem? hx1); unfold I64; omega
                        have HZB : Hid (∀ r ∈ zs.set p ps2, r.length ≤ i + 1 ∧ ∀ x ∈ r, I64 x) := hide fun r hr => by
                          rcases List.mem_or_eq_of_mem_set hr with h3 | h3
                          · have := hzb.out r h3
                            exact ⟨by omega, this.2⟩
                          · rw [h3, hps2]
                            refine ⟨by rw [List.length_append]; simp; omega, fun q hq => ?_⟩
                            rcases List.mem_append.1 hq with h | h
                            · exact hpsl.2 q h
                            · rw [List.mem_singleton.1 h]; exact hxI
                        have HZL : Hid ((zs.set p ps2).length = N) := hide (by rw [List.length_set]; exact hzl.out)
                        have hcB' := cell_later (((Below.refl w4.heap.size w4).drew).alloc (Nat.le_refl _) (.cells #[.int .i64 x] 2)) hc4
                        have HSW := hide (SW (.cells #[.int .i64 x] 2))
                        have HST := hide (fun (w5 : World) (u : Value) (hg5 : (w4.alloc (.cells #[.int .i64 x] 2)).grownBy w5 (blk B)) => code_step (p := p) (g := g) s4 H0.out G4 hT9 (by omega) oA4 hallT.out (fun q hq => (hBT q hq).1) hgT hg5 u)
                        have HOP := hide oP
                        subst hA hA1
                        clear own own4 oA oA4 hs s4 g4 hg G4 SW hpsl hps hx1 oP hps2 hxI hzl hzb
                        have hpI : (p : Int) < (N : Int) := by omega
                        go_wp2_with fail
                        go_region_law ((refine step_append_row intE rfl (.tmp 97) (.tmp 102) rfl T B d ps rfl (by rw [intE_own]; exact HOP.out.alloc _) (some ⟨w4.heap.size, 0, none⟩) 1 [x] rfl (RG.fresh (E := intE) _ _ rfl _ #[.int .i64 x] rfl _) (by simp; omega) (by simp [intE]; omega) (by simp; omega) ps2 HP2.out ?_; intro A5 c5 w5 own5 hg5 hb5; rw [intE_own] at own5; have q0 := HSW.out w5 A5 c5 ps2 ⟨hg5.os, hg5.tape, hg5.output, hg5.size, hg5.block⟩ own5 hb5; have q1 := q0.1; have q2 := q0.2.1; have HQ := hide q0.2.2; have HT := hide (HST.out w5 (.slice A5 ps2.length c5) ⟨hg5.os, hg5.tape, hg5.output, hg5.size, hg5.block⟩); clear q0 own5 hg5 hb5))
                        all_goals go_wp2_with fail
                        all_goals go_roundw
                        all_goals first
                          | exact ⟨i + 1, _, by omega, by go_num, HZL, HZB, HQ.out.mono (Nat.le_refl _) (by simp), HT.out.1, HT.out.2.1.more (by omega), HT.out.2.2.1, HT.out.2.2.2⟩
                          | (simp [intOf]; omega)
                      · have hii : ¬ ((i : Int) < (L : Int)) := by omega
                        have HF := hide (And.intro hzl.out (And.intro hzb.out (And.intro own (And.intro hs hg))))
                        clear own oA hs hg hzl hzb
                        go_wp2_with fail
                        go_ret
                        obtain ⟨f1, f2, f3, f4, f5⟩ := HF.out
                        exact ⟨zs, _, _, by rw [f1]; rfl, ⟨by omega, fun r hr => ⟨by have := (f2 r hr).1; omega, (f2 r hr).2⟩⟩, f3.mono hT9 (Nat.le_refl _), f4.more (by omega), f5⟩
                  · obtain rfl : zs = [] := List.eq_nil_of_length_eq_zero (by omega)
                    have hL0 : L = 0 := by
                      rcases Nat.eq_zero_or_pos L with h | h
                      · exact h
                      · exact absurd ⟨rfl, h⟩ hcase
                    have hLi : ¬ ((0 : Int) < (L : Int)) := by omega
                    clear hB9 hcase hnz
                    obtain ⟨wa2, rfl⟩ : ∃ wa2, wa2 = wr := ⟨_, rfl⟩
                    have HZ0 : Hid (∀ r ∈ ([] : List (List Int)), r.length ≤ 0 ∧ ∀ x ∈ r, I64 x) := hide (fun r hr => by have := hze.out r hr; rw [this]; exact ⟨Nat.le_refl _, fun x hx => nomatch hx⟩)
                    go_wp2_with fail
                    go_loopw [12] (fun s12 wr => ∃ (i : Nat) (zs : List (List Int)), i ≤ L ∧ s12 = .int .i64 (i : Int) ∧ Hid (zs.length = 0) ∧ Hid (∀ r ∈ zs, r.length ≤ i ∧ ∀ x ∈ r, I64 x) ∧ OwnC wr T wr.heap.size A2 c2 zs ∧ OwnI wr w.heap.size A1 c1 ys ∧ Sr wr b A c xs (K + 60 + i) ∧ w.grownBy wr (some b) ∧ T ≤ wr.heap.size) (fun s12 _ => L - (intOf s12).toNat)
                    case atStart => exact ⟨0, [], by omega, by go_num, hide rfl, HZ0, own, oA, hs.more (by omega), hg, hT⟩
                    case round =>
                      clear own oA hs hg HZ0
                      obtain ⟨i, zs, hiL, rfl, hzl, hzb, own, oA, hs, hg, hT⟩ := hrel
                      have hz := hg.size
                      by_cases hi : i < L
                      · exact absurd hi (by omega)
                      · have hii : ¬ ((i : Int) < (L : Int)) := by omega
                        have HF := hide (And.intro hzl.out (And.intro hzb.out (And.intro own (And.intro hs hg))))
                        clear own oA hs hg hzl hzb
                        go_wp2_with fail
                        go_ret
                        obtain ⟨f1, f2, f3, f4, f5⟩ := HF.out
                        exact ⟨zs, _, _, by rw [f1]; rfl, ⟨by omega, fun r hr => ⟨by have := (f2 r hr).1; omega, (f2 r hr).2⟩⟩, f3.mono hT9 (Nat.le_refl _), f4.more (by omega), f5⟩
  · go_wp2_with fail
    refine (l02Draw_any b A c xs (K + 1) 4 w1 s1 (by omega) HX.out hn (by omega) (by omega)).mono ?_
    rintro e w2 ⟨wd, ht, ys, B, d, rfl, hwd, hht, hv, own, s2, g2⟩
    have hz2 := g2.size
    obtain ⟨v1, v2, hl, _⟩ := vldPan_true hv
    have hS : Sz wd ht := ⟨(inB_true.1 v1).1, (inB_true.1 v1).2, (inB_true.1 v2).1, (inB_true.1 v2).2⟩
    have pa : PA (w2.alloc (.cells #[.int .i64 wd, .int .i64 ht, .slice B ys.length d] 36)) w2.heap.size wd ht B d ys := ⟨Bx.new w2 36 #[.int .i64 wd, .int .i64 ht, .slice B ys.length d], (own.alloc _).rd⟩
    have HPA := hide pa
    have HS2 := hide (And.intro (s2.alloc (.cells #[.int .i64 wd, .int .i64 ht, .slice B ys.length d] 36)) (gr_below (gr_trans g1 g2) ((Below.refl w2.heap.size w2).alloc (Nat.le_refl _) (.cells #[.int .i64 wd, .int .i64 ht, .slice B ys.length d] 36))))
    have HV := hide hv
    clear pa own s1 s2 g1 g2 hv
    go_wp2_with fail
    refine (l14Of_any w2.heap.size wd ht B d ys _ HPA.out HV.out hS hl (by have := inner_bound hS.1 hS.2.1 hS.2.2.1 hS.2.2.2; omega)).mono ?_
    rintro e w3 ⟨A3, c3, rfl, own3, b3⟩
    have HF := hide (And.intro (own3.mono (base' := w.heap.size) (by simp; omega) (Nat.le_refl _)) (And.intro (HS2.out.1.below b3) (gr_below HS2.out.2 b3)))
    clear own3 b3
    go_wp2_with fail
    go_ret
    exact ⟨_, A3, c3, rfl, codN_small hS hl hwd.2 hht.2, HF.out.1, HF.out.2.1.more (by omega), HF.out.2.2⟩
end Go.Proofs.Ytnjojnnapdhijaa
