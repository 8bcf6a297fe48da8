/-
  Contracts: what is drawn for the law of simplified codes. Conditions: arguments of at most 4096 bytes.
-/
import Derived.Test.YtocellbhpjiioaaGreatOneC
import Derived.Test.YtocellbhpjiioaaGreatSpoil
import Derived.Test.YtocellbhpjiioaaGreatMade
import Derived.Test.YtocellbhpjiioaaGreatDrCM
namespace Go.Proofs.YtocellbhpjiioaaGreat
open Go.RowKit
set_option linter.unusedVariables false

/-- a code that is drawn from bytes -/
def RetDE (w : World) (e : Ending) (w' : World) : Prop :=
  ∃ (code : List (List Int)) (B : Option Addr) (d : Nat), e = .returned (.slice B code.length d) ∧ CodeB 64 80 code ∧ Dr w' w.heap.size B d code ∧ Below w.heap.size w w'
/-- a row of moves that is drawn from bytes -/
def RetMs (w : World) (e : Ending) (w' : World) : Prop :=
  ∃ (ms : List (Int × Int × Int)) (B : Option Addr) (d : Nat), e = .returned (.slice B ms.length d) ∧ ms.length ≤ 200 ∧ Own mvE w' w.heap.size B d ms ∧ Below w.heap.size w w'
theorem CodeB.len' {n m : Nat} {code : List (List Int)} (h : CodeB n m code) (hn : n ≤ 64) (hm : m ≤ 80) : code.length + sumLen code ≤ 1048576 := by
  have h1 := h.sum
  have h2 := h.1
  have h3 : code.length * m ≤ 64 * 80 := Nat.mul_le_mul (by omega) hm
  omega
theorem Own.srcE {α : Type} {E : El α} {w w' : World} {base b : Nat} {A : Option Addr} {c : Nat} {xs : List α} (h : Own E w base A c xs) (hg : w.grownBy w' (some b)) (hb : b < base) : Own E w' base A c xs :=
  h.keep fun q h1 h2 => hg.block q h1 (fun e => by injection e with e; have := (h.ge h2).1; omega)
set_option maxHeartbeats 4000000 in
theorem drawSimplifyCode_any (A : Option Addr) (c : Nat) (xs : List Int) (w : World) (h : RB w A xs) (hx : ∀ x ∈ xs, 0 ≤ x ∧ x ≤ 255) (hn : xs.length ≤ 1048576) :
    Calls Tryz.prog 5 #[.slice A xs.length c] w (RetDE w) := by
  have HX := hide hx
  have hs := Sr.new (c := c) w h
  have hb := (Below.refl w.heap.size w).alloc (Nat.le_refl _) (.cells #[.slice A xs.length c, .int .i64 0, .int .u64 0] 70)
  have HD := hide (l16Draw_any w.heap.size A c xs 0 _ hs (by omega) hx hn)
  clear h hx hs
  go_enter Tryz.func5, Tryz.ntmps5
  go_wp2_with fail
  refine (l00From_any A xs.length c w).mono ?_
  rintro e w1 ⟨rfl, rfl⟩
  go_wp2_with fail
  refine HD.out.mono ?_
  rintro e w2 ⟨code, B, d, rfl, hcb, hdr, s2, g2⟩
  have HF := hide (And.intro (hdr.mono (base' := w.heap.size) (by simp)) (below_gr hb g2 (Nat.le_refl _)))
  clear hdr s2 g2 hb
  go_wp2_with fail
  go_ret
  exact ⟨code, B, d, rfl, hcb, HF.out.1, HF.out.2⟩
set_option maxHeartbeats 4000000 in
theorem drawIsReduced_any (A : Option Addr) (c : Nat) (xs : List Int) (w : World) (h : RB w A xs) (hx : ∀ x ∈ xs, 0 ≤ x ∧ x ≤ 255) (hn : xs.length ≤ 1048576) :
    Calls Tryz.prog 11 #[.slice A xs.length c] w (RetDE w) := by
  have HX := hide hx
  have hs := Sr.new (c := c) w h
  have hb := (Below.refl w.heap.size w).alloc (Nat.le_refl _) (.cells #[.slice A xs.length c, .int .i64 0, .int .u64 0] 70)
  have HD := hide (l16Draw_any w.heap.size A c xs 0 _ hs (by omega) hx hn)
  clear h hx hs
  go_enter Tryz.func11, Tryz.ntmps11
  go_wp2_with fail
  refine (l00From_any A xs.length c w).mono ?_
  rintro e w1 ⟨rfl, rfl⟩
  go_wp2_with fail
  refine HD.out.mono ?_
  rintro e w2 ⟨code, B, d, rfl, hcb, hdr, s2, g2⟩
  have HF := hide (And.intro (hdr.mono (base' := w.heap.size) (by simp)) (below_gr hb g2 (Nat.le_refl _)))
  clear hdr s2 g2 hb
  go_wp2_with fail
  go_ret
  exact ⟨code, B, d, rfl, hcb, HF.out.1, HF.out.2⟩
/-- the blocks from b + 1 on and below T lie as they lay -/
def Kp (b T : Nat) (w2 w : World) : Prop := w2.heap.size ≤ w.heap.size ∧ T ≤ w2.heap.size ∧ b < T ∧ ∀ q, b < q → q < T → w.heap[q]? = w2.heap[q]?
section
variable {b T : Nat} {w2 w w' : World}
theorem Kp.src (h : Kp b T w2 w) (hg : w.grownBy w' (some b)) : Kp b T w2 w' :=
  ⟨Nat.le_trans h.1 hg.size, h.2.1, h.2.2.1, fun q q1 q2 => (hg.block q (by have := h.1; have := h.2.1; omega) (fun e => by injection e with e; omega)).trans (h.2.2.2 q q1 q2)⟩
theorem Kp.below (h : Kp b T w2 w) (hb : Below w.heap.size w w') : Kp b T w2 w' :=
  ⟨Nat.le_trans h.1 hb.size, h.2.1, h.2.2.1, fun q q1 q2 => (hb.block q (by have := h.1; have := h.2.1; omega)).trans (h.2.2.2 q q1 q2)⟩
theorem Kp.alloc (h : Kp b T w2 w) (o : Obj) : Kp b T w2 (w.alloc o) := h.below ((Below.refl _ _).alloc (Nat.le_refl _) o)
theorem Kp.own {A : Option Addr} (h : Kp b T w2 w) (hg : w.grownBy w' (blk A)) (hA : ∀ g, blk A = some g → T ≤ g) : Kp b T w2 w' :=
  ⟨Nat.le_trans h.1 hg.size, h.2.1, h.2.2.1, fun q q1 q2 => (hg.block q (by have := h.1; have := h.2.1; omega) (fun e => by have := hA q e.symm; omega)).trans (h.2.2.2 q q1 q2)⟩
end
/-- a code that lies from b + 1 on and below T, in whatever world keeps those blocks -/
def DrT (w2 : World) (b T : Nat) (B : Option Addr) (d : Nat) (code : List (List Int)) : Prop := ∀ w, Kp b T w2 w → Dr w (b + 1) B d code
theorem Dr.toT {w2 : World} {b : Nat} {B : Option Addr} {d : Nat} {code : List (List Int)} (h : Dr w2 (b + 1) B d code) : DrT w2 b w2.heap.size B d code :=
  fun w hk => h.keep hk.1 fun q q1 q2 => hk.2.2.2 q (by omega) q2
set_option maxRecDepth 40000 in
set_option maxHeartbeats 16000000 in
theorem drawMovesText_any (A : Option Addr) (c : Nat) (xs : List Int) (w : World) (h : RB w A xs) (hx : ∀ x ∈ xs, 0 ≤ x ∧ x ≤ 255) (hn : xs.length ≤ 1048576) :
    Calls Tryz.prog 12 #[.slice A xs.length c] w (RetMs w) := by
  have HX := hide hx
  have hs := Sr.new (c := c) w h
  obtain ⟨w1, hw1⟩ : ∃ w1, w1 = w.alloc (.cells #[.slice A xs.length c, .int .i64 0, .int .u64 0] 70) := ⟨_, rfl⟩
  have hb1 : Below w.heap.size w w1 := by rw [hw1]; exact (Below.refl w.heap.size w).alloc (Nat.le_refl _) _
  have hsz : w1.heap.size = w.heap.size + 1 := by rw [hw1]; simp
  rw [← hw1] at hs
  have HFR := hide (l00From_any A xs.length c w)
  rw [← hw1] at HFR
  obtain ⟨b, hbe⟩ : ∃ b, b = w.heap.size := ⟨_, rfl⟩
  have HBE := hide hbe
  rw [← hbe] at hs hsz HFR
  have hbw : w.heap.size ≤ b := by omega
  have HD := hide (l16Draw_any b A c xs 0 w1 hs (by omega) hx hn)
  have H0 := hide hs
  clear h hx hw1 hbe
  go_enter Tryz.func12, Tryz.ntmps12
  go_wp2_with fail
  refine HFR.out.mono ?_
  rintro e w1 ⟨rfl, rfl⟩
  go_wp2_with fail
  refine HD.out.mono ?_
  rintro e w2 ⟨X, B, d, rfl, hcb, hdr, s2, g2⟩
  have hz2 := g2.size
  rw [hsz] at hdr hz2
  have hXl := hcb.len' (by omega) (by omega)
  have HT := hide hdr.toT
  have own0 : Own mvE (w2.alloc (.cells #[] 46)) w2.heap.size (some ⟨w2.heap.size, 0, none⟩) 0 [] := Own.new (E := mvE) w2 [] #[] rfl (Nat.le_refl _) (by simp)
  obtain ⟨T, hT⟩ : ∃ T, T = w2.heap.size := ⟨_, rfl⟩
  have kp0 : Kp b T w2 (w2.alloc (.cells #[] 46)) := ⟨by simp, by omega, by omega, fun q _ q2 => Below.heap_alloc w2 _ q (by omega)⟩
  have g0 := gr_below g2 ((Below.refl w2.heap.size w2).alloc (Nat.le_refl _) (.cells #[] 46))
  have s0 := s2.alloc (.cells #[] 46)
  rw [← hT] at HT
  have hTb : b < T := by omega
  have hTw : w1.heap.size ≤ T := by omega
  have HO0 : Hid (Own mvE (w2.alloc (.cells #[] 46)) T (some ⟨w2.heap.size, 0, none⟩) 0 []) := hide (by rw [hT]; exact own0)
  clear hs s2 g2 hdr hcb own0 hT HD
  go_wp2_with fail
  refine (pick_any b A c xs _ 6 _ s0 (by omega) HX.out hn (by omega) (by omega)).mono ?_
  rintro e w3 ⟨k0, rfl, hk0, hk5, s3, g3⟩
  obtain ⟨k1, rfl⟩ : ∃ k : Nat, k0 = (k : Int) := ⟨k0.toNat, by omega⟩
  have own3 := HO0.out.srcE g3 hTb
  have kp3 := kp0.src g3
  have G3 := gr_trans g0 g3
  clear g3 g0 kp0 s0 HO0
  go_wp2_with fail
  go_loopw [5, 6] (fun s5 s6 wr => ∃ (k : Nat) (A1 : Option Addr) (c1 : Nat) (ms : List (Int × Int × Int)), k ≤ 5 ∧ s6 = .int .i64 (k : Int) ∧ s5 = .slice A1 ms.length c1 ∧ ms.length + k ≤ 5 ∧ Own mvE wr T A1 c1 ms ∧ Kp b T w2 wr ∧ Sr wr b A c xs (501 + 10 * (5 - k)) ∧ w1.grownBy wr (some b)) (fun _ s6 _ => (intOf s6).toNat)
  case atStart => exact ⟨k1, _, 0, [], by omega, rfl, rfl, by simp; omega, own3, kp3, s3.more (by omega), G3⟩
  case round =>
    clear own3 kp3 s3 G3
    obtain ⟨k, A1, c1, ms, hk, rfl, rfl, hms, own, kp, hs, hg⟩ := hrel
    by_cases hkp : 0 < k
    · have hki : (0 : Int) < (k : Int) := by omega
      have hkw : IntKind.i64.wrap ((k : Int) - 1) = (k : Int) - 1 := by rw [IntKind.wrap_i64]; omega
      go_wp2_with fail
      refine (l16One_any b A c xs _ B d X wr hs (by omega) HX.out hn (HT.out wr kp) hXl).mono ?_
      rintro e w4 ⟨x, y, z, rfl, s4, g4⟩
      have own4 := own.srcE g4 hTb
      have HK4 := hide (And.intro (kp.src g4) (And.intro s4 (gr_trans hg g4)))
      have hz4 : T ≤ w4.heap.size := by have := HK4.out.1.1; have := HK4.out.1.2.1; omega
      have hge := hide (fun q (hq : blk A1 = some q) => (own4.ge hq).1)
      clear own kp hs hg g4 s4
      go_wp2_with (at_builtin; refine wpList_append_row mvE rfl (.tmp 19) (.tmp 23) rfl T A1 c1 ms rfl (own4.alloc _) (some ⟨w4.heap.size, 0, none⟩) 1 [(x, y, z)] rfl (RG.fresh (E := mvE) _ _ rfl (x, y, z) #[.int .i64 x, .int .i64 y, .int .i64 z] rfl _) (by simp; omega) (by simp [mvE]; omega) (by simp; omega) (ms ++ [(x, y, z)]) rfl ?_; intro A5 c5 w5 own5 hg5 hb5; have HK5 := hide (And.intro own5 (And.intro ((HK4.out.1.alloc _).own hg5 hge.out) (And.intro ((HK4.out.2.1.alloc _).grownOld H0.out hge.out hTw hg5) (gr_own (gr_below HK4.out.2.2 ((Below.refl _ _).alloc (Nat.le_refl _) _)) hge.out hTw hg5)))); clear own5 hg5 hb5)
      go_roundw
      case rel => exact ⟨k - 1, A5, c5, ms ++ [(x, y, z)], by omega, by go_num, by simp, by simp; omega, HK5.out.1, HK5.out.2.1, HK5.out.2.2.1.more (by omega), HK5.out.2.2.2⟩
      case measure => first | (simp [intOf]; done) | (simp [intOf]; omega)
    · obtain rfl : k = 0 := by omega
      have hki : ¬ ((0 : Int) < ((0 : Nat) : Int)) := by omega
      obtain ⟨w6, rfl⟩ : ∃ w6 : World, w6 = wr := ⟨_, rfl⟩
      have HF := hide (And.intro own hg)
      clear own hg kp
      go_wp2_with fail
      refine (one_any b A c xs _ 20 _ hs (by omega) HX.out hn (by omega) (by omega)).mono ?_
      rintro e w7 ⟨v, rfl, s7, g7⟩
      have G7 := gr_trans HF.out.2 g7
      have own7 := HF.out.1.srcE g7 hTb
      clear hs g7 HF
      rcases v with _ | _
      · have HR := hide (And.intro (own7.mono (base' := w.heap.size) (by omega)) (below_gr hb1 G7 hbw))
        clear own7 G7 s7
        go_wp2_with fail
        go_ret
        exact ⟨ms, A1, c1, rfl, by omega, HR.out.1, HR.out.2⟩
      · have hz7 := G7.size
        have own8 : Own mvE (w7.alloc (.cells #[] 46)) w7.heap.size (some ⟨w7.heap.size, 0, none⟩) 0 [] := Own.new (E := mvE) w7 [] #[] rfl (Nat.le_refl _) (by simp)
        have own8 := own8.mono (base' := w1.heap.size) hz7
        have s8 := s7.alloc (.cells #[] 46)
        have G8 := gr_below G7 ((Below.refl w7.heap.size w7).alloc (Nat.le_refl _) (.cells #[] 46))
        clear own7 s7 G7
        go_wp2_with fail
        refine (pick_any b A c xs _ 2 _ s8 (by omega) HX.out hn (by omega) (by omega)).mono ?_
        rintro e w9 ⟨k2, rfl, hk20, hk21, s9, g9⟩
        have hkw2 : IntKind.i64.wrap (120 + k2) = 120 + k2 := by rw [IntKind.wrap_i64]; omega
        obtain ⟨k3, hk3⟩ : ∃ k : Nat, 120 + k2 = (k : Int) := ⟨(120 + k2).toNat, by omega⟩
        have own9 := own8.srcE g9 (by omega)
        have G9 := gr_trans G8 g9
        have hk3b : k3 ≤ 121 := by omega
        rw [hk3] at hkw2
        clear own8 s8 G8 g9
        go_wp2_with fail
        go_loopw [5, 7] (fun s5 s7 wr => ∃ (k : Nat) (A1 : Option Addr) (c1 : Nat) (ms : List (Int × Int × Int)), k ≤ 121 ∧ s7 = .int .i64 (k : Int) ∧ s5 = .slice A1 ms.length c1 ∧ ms.length + k ≤ 121 ∧ Own mvE wr w1.heap.size A1 c1 ms ∧ w1.grownBy wr (some b)) (fun _ s7 _ => (intOf s7).toNat)
        case atStart => exact ⟨k3, _, 0, [], by omega, by rw [← hk3], rfl, (by first | (simp; done) | (simp; omega)), own9, G9⟩
        case round =>
          clear own9 s9 G9 hk3 hkw2
          obtain ⟨k, A1, c1, ms, hk, rfl, rfl, hms, own, hg⟩ := hrel
          have hz := hg.size
          by_cases hkp : 0 < k
          · have hki : (0 : Int) < (k : Int) := by omega
            have hkw : IntKind.i64.wrap ((k : Int) - 1) = (k : Int) - 1 := by rw [IntKind.wrap_i64]; omega
            have hge := hide (fun q (hq : blk A1 = some q) => (own.ge hq).1)
            go_wp2_with (at_builtin; refine wpList_append_row mvE rfl (.tmp 35) (.tmp 37) rfl w1.heap.size A1 c1 ms rfl (own.alloc _) (some ⟨wr.heap.size, 0, none⟩) 1 [(1, 3, 0)] rfl (RG.fresh (E := mvE) _ _ rfl (1, 3, 0) #[.int .i64 1, .int .i64 3, .int .i64 0] rfl _) (by simp; omega) (by simp [mvE]; omega) (by simp; omega) (ms ++ [(1, 3, 0)]) rfl ?_; intro A5 c5 w5 own5 hg5 hb5; have HK5 := hide (And.intro own5 (gr_own (gr_below hg ((Below.refl _ _).alloc (Nat.le_refl _) _)) hge.out (Nat.le_refl _) hg5)); clear own5 hg5 hb5)
            go_roundw
            case rel => exact ⟨k - 1, A5, c5, ms ++ [(1, 3, 0)], by omega, by go_num, by simp, by simp; omega, HK5.out.1, HK5.out.2⟩
            case measure => first | (simp [intOf]; done) | (simp [intOf]; omega)
          · obtain rfl : k = 0 := by omega
            have hki : ¬ ((0 : Int) < ((0 : Nat) : Int)) := by omega
            have HR := hide (And.intro (own.mono (base' := w.heap.size) (by omega)) (below_gr hb1 hg hbw))
            clear own hg
            go_wp2_with fail
            go_ret
            exact ⟨ms, A1, c1, rfl, by omega, HR.out.1, HR.out.2⟩
/-- a text that is drawn from bytes -/
def RetTx (w : World) (e : Ending) (w' : World) : Prop := ∃ l : List UInt8, e = .returned (str l) ∧ l.length ≤ 10000 ∧ Below w.heap.size w w'
def litL : List (List UInt8) := [[108, 111, 111, 112, 58, 48], [112, 97, 105, 114, 58, 49, 44, 48], [112, 97, 105, 114, 58, 48, 44, 48], [108, 111, 111, 112], [108, 111, 111, 112, 58], [108, 111, 111, 112, 58, 48, 44, 49], [112, 97, 105, 114, 58, 48], [116, 117, 114, 110, 58, 49], [108, 111, 111, 112, 58, 48, 32, 32, 108, 111, 111, 112, 58, 48]]
theorem litL_len : litL.length = 9 ∧ ∀ l ∈ litL, l.length ≤ 20 := by decide
set_option maxRecDepth 40000 in
set_option maxHeartbeats 8000000 in
theorem drawReadMoves_any (A : Option Addr) (c : Nat) (xs : List Int) (w : World) (h : RB w A xs) (hx : ∀ x ∈ xs, 0 ≤ x ∧ x ≤ 255) (hn : xs.length ≤ 1048576) :
    Calls Tryz.prog 15 #[.slice A xs.length c] w (RetTx w) := by
  have HX := hide hx
  have hs := Sr.new (c := c) w h
  obtain ⟨w1, hw1⟩ : ∃ w1, w1 = w.alloc (.cells #[.slice A xs.length c, .int .i64 0, .int .u64 0] 70) := ⟨_, rfl⟩
  have hb1 : Below w.heap.size w w1 := by rw [hw1]; exact (Below.refl w.heap.size w).alloc (Nat.le_refl _) _
  have hsz : w1.heap.size = w.heap.size + 1 := by rw [hw1]; simp
  rw [← hw1] at hs
  have HFR := hide (l00From_any A xs.length c w)
  rw [← hw1] at HFR
  obtain ⟨b, hbe⟩ : ∃ b, b = w.heap.size := ⟨_, rfl⟩
  rw [← hbe] at hs hsz HFR
  have hbw : w.heap.size ≤ b := by omega
  have hbw2 : b ≤ w.heap.size := by omega
  have HD := hide (drawMovesText_any A c xs w1 (h.below hb1) hx hn)
  clear h hx hw1 hbe
  go_enter Tryz.func15, Tryz.ntmps15
  go_wp2_with fail
  refine HFR.out.mono ?_
  rintro e w1 ⟨rfl, rfl⟩
  go_wp2_with fail
  refine HD.out.mono ?_
  rintro e w2 ⟨ms, B, d, rfl, hml, own2, b2⟩
  have hz2 := b2.size
  have s2 := hs.below b2
  have B2 := hb1.trans (b2.mono (by omega))
  clear HD
  go_wp2_with fail
  refine (l16List_any B d ms w2 own2.rd (by omega)).mono ?_
  rintro e w3 ⟨rfl, b3⟩
  have hz3 := b3.size
  have s3 := s2.below b3
  have B3 := B2.trans (b3.mono (by omega))
  have own3 := own2.below b3
  clear own2 b2 s2 B2 hs hb1
  cases hv : listB ms
  · have s4 := s3.alloc (.cells #[str [108, 111, 111, 112, 58, 48], str [112, 97, 105, 114, 58, 49, 44, 48], str [112, 97, 105, 114, 58, 48, 44, 48], str [108, 111, 111, 112], str [108, 111, 111, 112, 58], str [108, 111, 111, 112, 58, 48, 44, 49], str [112, 97, 105, 114, 58, 48], str [116, 117, 114, 110, 58, 49], str [108, 111, 111, 112, 58, 48, 32, 32, 108, 111, 111, 112, 58, 48]] 9)
    have B4 := B3.alloc (by omega) (.cells #[str [108, 111, 111, 112, 58, 48], str [112, 97, 105, 114, 58, 49, 44, 48], str [112, 97, 105, 114, 58, 48, 44, 48], str [108, 111, 111, 112], str [108, 111, 111, 112, 58], str [108, 111, 111, 112, 58, 48, 44, 49], str [112, 97, 105, 114, 58, 48], str [116, 117, 114, 110, 58, 49], str [108, 111, 111, 112, 58, 48, 32, 32, 108, 111, 111, 112, 58, 48]] 9)
    have HR := hide (Own.new (E := strE) w3 (base := 0) litL #[str [108, 111, 111, 112, 58, 48], str [112, 97, 105, 114, 58, 49, 44, 48], str [112, 97, 105, 114, 58, 48, 44, 48], str [108, 111, 111, 112], str [108, 111, 111, 112, 58], str [108, 111, 111, 112, 58, 48, 44, 49], str [112, 97, 105, 114, 58, 48], str [116, 117, 114, 110, 58, 49], str [108, 111, 111, 112, 58, 48, 32, 32, 108, 111, 111, 112, 58, 48]] rfl (Nat.zero_le _) (by rw [litL_len.1]; decide)).rd
    have HB4 := hide B4
    have hlb := s3.lt
    clear hv s3 B3 b3 own3 B4
    go_wp2_with fail
    have hTX := text_any b A c xs 0 (some ⟨w3.heap.size, 0, none⟩) 9 litL _ s4 (by omega) HX.out hn HR.out (fun g hg => by simp [blk] at hg; omega) (by rw [litL_len.1]; omega) (by rw [litL_len.1]; omega)
    rw [litL_len.1] at hTX
    refine hTX.mono ?_
    rintro e w5 ⟨y, rfl, hy, s5, g5⟩
    have HF := hide (below_gr HB4.out g5 hbw)
    clear s5 g5 s4 hTX
    go_wp2_with fail
    go_ret
    exact ⟨y, rfl, by have := litL_len.2 y hy; omega, HF.out⟩
  · have HV := hide hv
    have hml2 : ms.length ≤ 120 := by unfold listB at hv; rw [Bool.and_eq_true] at hv; exact of_decide_eq_true hv.2
    have h1 := joinTo_le [32] (ms.map moveT) 1 46 (by simp) (moveT_all hv) ms.length
    have h2 : ms.length * (1 + 46) ≤ 120 * 47 := Nat.mul_le_mul hml2 (Nat.le_refl _)
    have HL := hide (l16Text_any B d ms w3 own3.rd hv)
    obtain ⟨l, hl⟩ : ∃ l, l = joinTo [32] (ms.map moveT) ms.length := ⟨_, rfl⟩
    rw [← hl] at HL h1
    have hll : l.length ≤ 6000 := by omega
    clear hv h1 h2 hl b3
    go_wp2_with fail
    refine HL.out.mono ?_
    rintro e w4 ⟨rfl, b4⟩
    have hz4 := b4.size
    have s4 := s3.below b4
    have B4 := hide (B3.trans (b4.mono (by omega)))
    clear s3 B3 b4 own3 HL
    go_wp2_with fail
    refine (l01Spoil_any b A c xs 0 l w4 s4 (by omega) HX.out hn (by omega)).mono ?_
    rintro e w5 ⟨y, rfl, hy, s5, g5⟩
    have HF := hide (below_gr B4.out g5 hbw)
    clear s5 g5 s4
    go_wp2_with fail
    go_ret
    exact ⟨y, rfl, by omega, HF.out⟩
/-- the code of the day: the one that was drawn, or one that was made since -/
def NowI (w2 : World) (b T : Nat) (B : Option Addr) (d : Nat) (X : List (List Int)) (w : World) (A1 : Option Addr) (A7 : Option Addr) (c7 : Nat) (Z : List (List Int)) : Prop :=
  (Z = X ∧ A7 = B ∧ c7 = d) ∨ ∃ t t', T ≤ t ∧ t' ≤ w.heap.size ∧ OwnC w t t' A7 c7 Z ∧ ∀ g, blk A1 = some g → g < t ∨ t' ≤ g
section
variable {w2 w w' : World} {b T : Nat} {B A1 A7 A5 : Option Addr} {d c7 : Nat} {X Z : List (List Int)}
theorem NowI.dr (h : NowI w2 b T B d X w A1 A7 c7 Z) (hT : DrT w2 b T B d X) (hk : Kp b T w2 w) : Dr w (b + 1) A7 c7 Z := by
  rcases h with ⟨rfl, rfl, rfl⟩ | ⟨t, t', h1, h2, h3, _⟩
  · exact hT w hk
  · exact (h3.dr h2).mono (by have := hk.2.2.1; omega)
theorem NowI.below (h : NowI w2 b T B d X w A1 A7 c7 Z) (hb : Below w.heap.size w w') : NowI w2 b T B d X w' A1 A7 c7 Z := by
  rcases h with h | ⟨t, t', h1, h2, h3, h4⟩
  · exact .inl h
  · exact .inr ⟨t, t', h1, Nat.le_trans h2 hb.size, h3.keep fun q q1 q2 => hb.block q (by omega), h4⟩
theorem NowI.src (h : NowI w2 b T B d X w A1 A7 c7 Z) (hbT : b < T) (hg : w.grownBy w' (some b)) : NowI w2 b T B d X w' A1 A7 c7 Z := by
  rcases h with h | ⟨t, t', h1, h2, h3, h4⟩
  · exact .inl h
  · exact .inr ⟨t, t', h1, Nat.le_trans h2 hg.size, h3.keep fun q q1 q2 => hg.block q (by omega) (fun e => by injection e with e; omega), h4⟩
theorem NowI.own (h : NowI w2 b T B d X w A1 A7 c7 Z) (hg : w.grownBy w' (blk A1)) (h5 : blk A5 = blk A1 ∨ blk A5 = some w.heap.size) : NowI w2 b T B d X w' A5 A7 c7 Z := by
  rcases h with h | ⟨t, t', h1, h2, h3, h4⟩
  · exact .inl h
  · refine .inr ⟨t, t', h1, Nat.le_trans h2 hg.size, h3.keep fun q q1 q2 => hg.block q (by omega) (fun e => by have := h4 q e.symm; omega), fun g hg5 => ?_⟩
    rcases h5 with h5 | h5
    · exact h4 g (h5 ▸ hg5)
    · rw [h5] at hg5
      injection hg5 with hg5
      omega
end
/-- a code and a row of moves, drawn from bytes -/
def RetDR (w : World) (e : Ending) (w' : World) : Prop :=
  ∃ (code : List (List Int)) (B : Option Addr) (d : Nat) (ms : List (Int × Int × Int)) (B2 : Option Addr) (d2 : Nat), e = .returned (.tuple #[.slice B code.length d, .slice B2 ms.length d2]) ∧ CodeB 64 80 code ∧ ms.length ≤ 200 ∧ Dr w' w.heap.size B d code ∧ Own mvE w' w.heap.size B2 d2 ms ∧ Below w.heap.size w w'
set_option maxRecDepth 40000 in
set_option maxHeartbeats 16000000 in
theorem drawReplayMoves_any (A : Option Addr) (c : Nat) (xs : List Int) (w : World) (h : RB w A xs) (hx : ∀ x ∈ xs, 0 ≤ x ∧ x ≤ 255) (hn : xs.length ≤ 1048576) :
    Calls Tryz.prog 8 #[.slice A xs.length c] w (RetDR w) := by
  have HX := hide hx
  have hs := Sr.new (c := c) w h
  obtain ⟨w1, hw1⟩ : ∃ w1, w1 = w.alloc (.cells #[.slice A xs.length c, .int .i64 0, .int .u64 0] 70) := ⟨_, rfl⟩
  have hb1 : Below w.heap.size w w1 := by rw [hw1]; exact (Below.refl w.heap.size w).alloc (Nat.le_refl _) _
  have hsz : w1.heap.size = w.heap.size + 1 := by rw [hw1]; simp
  rw [← hw1] at hs
  have HFR := hide (l00From_any A xs.length c w)
  rw [← hw1] at HFR
  obtain ⟨b, hbe⟩ : ∃ b, b = w.heap.size := ⟨_, rfl⟩
  rw [← hbe] at hs hsz HFR
  have hbw : w.heap.size ≤ b := by omega
  have HD := hide (l16Draw_any b A c xs 0 w1 hs (by omega) hx hn)
  have H0 := hide hs
  clear h hx hw1 hbe
  go_enter Tryz.func8, Tryz.ntmps8
  go_wp2_with fail
  refine HFR.out.mono ?_
  rintro e w1 ⟨rfl, rfl⟩
  go_wp2_with fail
  refine HD.out.mono ?_
  rintro e w2 ⟨X, B, d, rfl, hcb, hdr, s2, g2⟩
  have hz2 := g2.size
  rw [hsz] at hdr hz2
  have hXl := hcb.len' (by omega) (by omega)
  have HCB := hide hcb
  have HT := hide hdr.toT
  have own0 : Own mvE (w2.alloc (.cells #[] 46)) w2.heap.size (some ⟨w2.heap.size, 0, none⟩) 0 [] := Own.new (E := mvE) w2 [] #[] rfl (Nat.le_refl _) (by simp)
  obtain ⟨T, hT⟩ : ∃ T, T = w2.heap.size := ⟨_, rfl⟩
  have kp0 : Kp b T w2 (w2.alloc (.cells #[] 46)) := ⟨by simp, by omega, by omega, fun q _ q2 => Below.heap_alloc w2 _ q (by omega)⟩
  have g0 := gr_below g2 ((Below.refl w2.heap.size w2).alloc (Nat.le_refl _) (.cells #[] 46))
  have s0 := s2.alloc (.cells #[] 46)
  rw [← hT] at HT
  have hTb : b < T := by omega
  have hTw : w1.heap.size ≤ T := by omega
  have HO0 : Hid (Own mvE (w2.alloc (.cells #[] 46)) T (some ⟨w2.heap.size, 0, none⟩) 0 []) := hide (by rw [hT]; exact own0)
  clear hs s2 g2 hdr hcb own0 hT HD
  go_wp2_with fail
  refine (l14Ok_any B d _ X _ (HT.out _ kp0).rc hXl).mono ?_
  rintro e w3 ⟨rfl, hb3⟩
  have own3 := HO0.out.below hb3
  have kp3 := kp0.below hb3
  have s3 := s0.below hb3
  have G3 := gr_below g0 hb3
  clear kp0 g0 s0 HO0 hb3
  cases hv : validC X
  · have HR := hide (And.intro ((HT.out _ kp3).mono (base' := w.heap.size) (by omega)) (And.intro (own3.mono (base' := w.heap.size) (by omega)) (below_gr hb1 G3 hbw)))
    clear own3 kp3 s3 G3 hv
    go_wp2_with fail
    go_ret2
    exact ⟨X, B, d, [], _, 0, rfl, HCB.out, by simp, HR.out.1, HR.out.2.1, HR.out.2.2⟩
  · have HV := hide hv
    clear hv
    go_wp2_with fail
    refine (pick_any b A c xs _ 5 _ s3 (by omega) HX.out hn (by omega) (by omega)).mono ?_
    rintro e w4 ⟨k0, rfl, hk0, hk5, s4, g4⟩
    obtain ⟨k1, rfl⟩ : ∃ k : Nat, k0 = (k : Int) := ⟨k0.toNat, by omega⟩
    have own4 := own3.srcE g4 hTb
    have kp4 := kp3.src g4
    have G4 := gr_trans G3 g4
    clear g4 own3 kp3 s3 G3
    go_wp2_with fail
    go_loopw [6, 7, 8] (fun s6 s7 s8 wr => ∃ (k : Nat) (A1 : Option Addr) (c1 : Nat) (ms : List (Int × Int × Int)) (A7 : Option Addr) (c7 : Nat) (Z : List (List Int)), k ≤ 5 ∧ s8 = .int .i64 (k : Int) ∧ s6 = .slice A1 ms.length c1 ∧ s7 = .slice A7 Z.length c7 ∧ ms.length + k ≤ 5 ∧ Hid (validC Z = true) ∧ NowI w2 b T B d X wr A1 A7 c7 Z ∧ Own mvE wr T A1 c1 ms ∧ Kp b T w2 wr ∧ Sr wr b A c xs (501 + 10 * (5 - k)) ∧ w1.grownBy wr (some b)) (fun _ _ s8 _ => (intOf s8).toNat)
    case atStart => exact ⟨k1, _, 0, [], B, d, X, by omega, rfl, rfl, rfl, by simp; omega, HV, .inl ⟨rfl, rfl, rfl⟩, own4, kp4, s4.more (by omega), G4⟩
    case round =>
      clear own4 kp4 s4 G4
      obtain ⟨k, A1, c1, ms, A7, c7, Z, hk, rfl, rfl, rfl, hms, hZv, now, own, kp, hs, hg⟩ := hrel
      by_cases hkp : 0 < k
      · have hki : (0 : Int) < (k : Int) := by omega
        have hkw : IntKind.i64.wrap ((k : Int) - 1) = (k : Int) - 1 := by rw [IntKind.wrap_i64]; omega
        have hZl : Z.length + sumLen Z ≤ 1048576 := by have := valid_sum hZv.out; omega
        go_wp2_with fail
        refine (l16One_any b A c xs _ A7 c7 Z wr hs (by omega) HX.out hn (now.dr HT.out kp) hZl).mono ?_
        rintro e w5 ⟨x, y, z, rfl, s5, g5⟩
        have own5 := own.srcE g5 hTb
        have now5 := now.src hTb g5
        have hge := hide (fun q (hq : blk A1 = some q) => (own5.ge hq).1)
        have hlt5 := hide (fun q (hq : blk A1 = some q) => (own5.ge hq).2)
        have m5 : Bx (w5.alloc (.cells #[.int .i64 x, .int .i64 y, .int .i64 z] 46)) w5.heap.size 46 #[.int .i64 x, .int .i64 y, .int .i64 z] := Bx.new _ _ _
        have own6 := own5.alloc (.cells #[.int .i64 x, .int .i64 y, .int .i64 z] 46)
        have BA := (Below.refl w5.heap.size w5).alloc (Nat.le_refl _) (.cells #[.int .i64 x, .int .i64 y, .int .i64 z] 46)
        have HK := hide (And.intro (now5.below BA) (And.intro ((kp.src g5).alloc (.cells #[.int .i64 x, .int .i64 y, .int .i64 z] 46)) (And.intro (s5.alloc (.cells #[.int .i64 x, .int .i64 y, .int .i64 z] 46)) (And.intro (gr_below (gr_trans hg g5) BA) m5))))
        obtain ⟨ma, mb, mc⟩ := m5.three
        have hz5 : T ≤ w5.heap.size := by have := (kp.src g5).1; have := kp.2.1; omega
        clear own now kp hs hg g5 s5 own5 now5 BA m5
        go_upto_region 12 with (at_builtin; refine wpList_append_row mvE rfl (.tmp 30) (.tmp 32) rfl T A1 c1 ms rfl (own6.alloc _) (some ⟨w5.heap.size + 1, 0, none⟩) 1 [(x, y, z)] rfl (RG.fresh (E := mvE) _ _ (by simp) (x, y, z) #[.int .i64 x, .int .i64 y, .int .i64 z] rfl _) (by simp; omega) (by simp [mvE]; omega) (by simp; omega) (ms ++ [(x, y, z)]) rfl ?_; intro A5 c5 w6 own7 hg6 hb6; have HK6 := hide (And.intro own7 (And.intro ((HK.out.1.below ((Below.refl _ _).alloc (Nat.le_refl _) _)).own hg6 hb6) (And.intro ((HK.out.2.1.alloc _).own hg6 hge.out) (And.intro ((HK.out.2.2.1.alloc _).grownOld H0.out hge.out hTw hg6) (And.intro (gr_own (gr_below HK.out.2.2.2.1 ((Below.refl _ _).alloc (Nat.le_refl _) _)) hge.out hTw hg6) ((HK.out.2.2.2.2.alloc _).grown hg6 (.inr (fun e => by have := hlt5.out _ e; omega)))))))); clear own7 hg6 hb6)
        obtain ⟨na, nb, nc⟩ := HK6.out.2.2.2.2.2.three
        clear ma mb mc
        go_wp2_with fail
        refine (l16Can_any A7 c7 _ Z x y z w6 (HK6.out.2.1.dr HT.out HK6.out.2.2.1).rc hZv.out).mono ?_
        rintro e w7 ⟨rfl, hb7⟩
        have own7 := HK6.out.1.below hb7
        have now7 := HK6.out.2.1.below hb7
        have kp7 := HK6.out.2.2.1.below hb7
        have s7 := HK6.out.2.2.2.1.below hb7
        have G7 := gr_below HK6.out.2.2.2.2.1 hb7
        have m7 := HK6.out.2.2.2.2.2.below hb7
        obtain ⟨oa, ob, oc⟩ := m7.three
        have HMM : Hid ((ms ++ [(x, y, z)]).length + (k - 1) ≤ 5) := hide (by simp; omega)
        clear na nb nc hb7
        cases hcan : canB Z (x, y, z)
        · have HF := hide (And.intro now7 (And.intro own7 (And.intro kp7 (And.intro s7 G7))))
          clear now7 own7 kp7 s7 G7 m7 HK6 HK hcan own6
          go_wp2_with fail
          go_roundw
          case rel => exact ⟨k - 1, A5, c5, ms ++ [(x, y, z)], A7, c7, Z, by omega, by go_num, by simp, rfl, HMM.out, hZv, HF.out.1, HF.out.2.1, HF.out.2.2.1, HF.out.2.2.2.1.more (by omega), HF.out.2.2.2.2⟩
          case measure => first | (simp [intOf]; done) | (simp [intOf]; omega)
        · have HDO := hide (l16Do_any A7 c7 _ Z x y z w7 (now7.dr HT.out kp7).rc hZv.out hcan)
          have hZ2 : Hid (validC (doM Z (x, y, z)) = true) := hide (doM_valid _ hZv.out)
          obtain ⟨Y, hY⟩ : ∃ Y, Y = doM Z (x, y, z) := ⟨_, rfl⟩
          rw [← hY] at HDO hZ2
          clear hcan hY
          go_wp2_with fail
          refine HDO.out.mono ?_
          rintro e w8 ⟨A8, c8, rfl, own8, hb8⟩
          have hz8 := hb8.size
          have now8 : NowI w2 b T B d X w8 A5 A8 c8 Y := .inr ⟨w7.heap.size, w8.heap.size, by have := kp7.1; have := kp7.2.1; omega, Nat.le_refl _, own8, fun g hg => .inl (own7.ge hg).2⟩
          have HF := hide (And.intro now8 (And.intro (own7.below hb8) (And.intro (kp7.below hb8) (And.intro (s7.below hb8) (gr_below G7 hb8)))))
          clear now7 own7 kp7 s7 G7 m7 HK6 HK own6 own8 hb8 now8 HDO
          go_wp2_with fail
          go_roundw
          case rel => exact ⟨k - 1, A5, c5, ms ++ [(x, y, z)], A8, c8, Y, by omega, by go_num, by simp, rfl, HMM.out, hZ2, HF.out.1, HF.out.2.1, HF.out.2.2.1, HF.out.2.2.2.1.more (by omega), HF.out.2.2.2.2⟩
          case measure => first | (simp [intOf]; done) | (simp [intOf]; omega)
      · obtain rfl : k = 0 := by omega
        have hki : ¬ ((0 : Int) < ((0 : Nat) : Int)) := by omega
        have HR := hide (And.intro ((HT.out _ kp).mono (base' := w.heap.size) (by omega)) (And.intro (own.mono (base' := w.heap.size) (by omega)) (below_gr hb1 hg hbw)))
        clear own hg kp hs now
        go_wp2_with fail
        go_ret2
        exact ⟨X, B, d, ms, A1, c1, rfl, HCB.out, by omega, HR.out.1, HR.out.2.1, HR.out.2.2⟩
end Go.Proofs.YtocellbhpjiioaaGreat
