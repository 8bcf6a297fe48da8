/-
  Contracts: what is drawn for the laws of moves. Conditions: arguments of at most 4096 bytes.
  Contracts of the laws' helpers over polynomials, and of the two tests for equality. Conditions: the lengths are far below the machine's.
-/
import Derived.Test.YtocellbhpjiioaaOneC
import Derived.Test.YtocellbhpjiioaaCode1M
import Derived.Test.YtocellbhpjiioaaPolyOkM
namespace Go.Proofs.Ytocellbhpjiioaa
open Go.RowKit
set_option linter.unusedVariables false

/-- a code that is drawn from bytes; one with a move -/
def RetDC (w : World) (e : Ending) (w' : World) : Prop :=
  ∃ (code : List (List Int)) (B : Option Addr) (d : Nat), e = .returned (.slice B code.length d) ∧ CodeB 64 80 code ∧ Dr w' w.heap.size B d code ∧ Below w.heap.size w w'
def RetDM (w : World) (e : Ending) (w' : World) : Prop :=
  ∃ (code : List (List Int)) (B : Option Addr) (d : Nat) (x y z : Int), e = .returned (.tuple #[.slice B code.length d, .agg #[.int .i64 x, .int .i64 y, .int .i64 z]]) ∧ CodeB 64 80 code ∧ Dr w' w.heap.size B d code ∧ Below w.heap.size w w'
theorem CodeB.len {n m : Nat} {code : List (List Int)} (h : CodeB n m code) (hn : n ≤ 64) (hm : m ≤ 80) : code.length ≤ 64 ∧ code.length + sumLen code ≤ 1048576 := by
  have h1 := h.sum
  have h2 := h.1
  have h3 : code.length * m ≤ 64 * 80 := Nat.mul_le_mul (by omega) hm
  omega
set_option maxHeartbeats 4000000 in
theorem drawLoopMoves_any (A : Option Addr) (c : Nat) (xs : List Int) (w : World) (h : RB w A xs) (hx : ∀ x ∈ xs, 0 ≤ x ∧ x ≤ 255) (hn : xs.length ≤ 1048576) :
    Calls Try.prog 9 #[.slice A xs.length c] w (RetDC w) := by
  have HX := hide hx
  have hs := Sr.new (c := c) w h
  have hb := (Below.refl w.heap.size w).alloc (Nat.le_refl _) (.cells #[.slice A xs.length c, .int .i64 0, .int .u64 0] 79)
  have HD := hide (l16Draw_any w.heap.size A c xs 0 _ hs (by omega) hx hn)
  clear h hx hs
  go_enter Try.func9, Try.ntmps9
  go_wp2_with fail
  refine (l00From_any A xs.length c w).mono ?_
  rintro e w1 ⟨rfl, rfl⟩
  go_wp2_with fail
  refine HD.out.mono ?_
  rintro e w2 ⟨code, B, d, rfl, hcb, hdr, s2, g2⟩
  have HF := hide (And.intro (hdr.mono (base' := w.heap.size) (by simp)) (below_gr hb g2 (Nat.le_refl _)))
  clear hdr s2 g2 hb
  go_wp2_with fail
  go_ret
  exact ⟨code, B, d, rfl, hcb, HF.out.1, HF.out.2⟩
set_option maxHeartbeats 4000000 in
theorem drawPairMoves_any (A : Option Addr) (c : Nat) (xs : List Int) (w : World) (h : RB w A xs) (hx : ∀ x ∈ xs, 0 ≤ x ∧ x ≤ 255) (hn : xs.length ≤ 1048576) :
    Calls Try.prog 12 #[.slice A xs.length c] w (RetDC w) := by
  have HX := hide hx
  have hs := Sr.new (c := c) w h
  have hb := (Below.refl w.heap.size w).alloc (Nat.le_refl _) (.cells #[.slice A xs.length c, .int .i64 0, .int .u64 0] 79)
  have HD := hide (l16Draw_any w.heap.size A c xs 0 _ hs (by omega) hx hn)
  clear h hx hs
  go_enter Try.func12, Try.ntmps12
  go_wp2_with fail
  refine (l00From_any A xs.length c w).mono ?_
  rintro e w1 ⟨rfl, rfl⟩
  go_wp2_with fail
  refine HD.out.mono ?_
  rintro e w2 ⟨code, B, d, rfl, hcb, hdr, s2, g2⟩
  have HF := hide (And.intro (hdr.mono (base' := w.heap.size) (by simp)) (below_gr hb g2 (Nat.le_refl _)))
  clear hdr s2 g2 hb
  go_wp2_with fail
  go_ret
  exact ⟨code, B, d, rfl, hcb, HF.out.1, HF.out.2⟩
set_option maxRecDepth 20000 in
set_option maxHeartbeats 4000000 in
theorem drawCanMove_any (A : Option Addr) (c : Nat) (xs : List Int) (w : World) (h : RB w A xs) (hx : ∀ x ∈ xs, 0 ≤ x ∧ x ≤ 255) (hn : xs.length ≤ 1048576) :
    Calls Try.prog 15 #[.slice A xs.length c] w (RetDM w) := by
  have HX := hide hx
  obtain ⟨w0, hw0⟩ : ∃ w0, w0 = w.alloc (.cells #[.int .i64 0, .int .i64 0, .int .i64 0] 26) := ⟨_, rfl⟩
  have r0 : Bx w0 w.heap.size 26 #[.int .i64 0, .int .i64 0, .int .i64 0] := by rw [hw0]; exact Bx.new _ _ _
  have B0 : Below w.heap.size w w0 := by rw [hw0]; exact (Below.refl _ _).alloc (Nat.le_refl _) _
  have h0 : RB w0 A xs := h.below B0
  have hz0 := r0.lt
  have hs := Sr.new (c := c) w0 h0
  have r1 := r0.alloc (.cells #[.slice A xs.length c, .int .i64 0, .int .u64 0] 79)
  have B1 := B0.alloc (by omega) (.cells #[.slice A xs.length c, .int .i64 0, .int .u64 0] 79)
  have HD := hide (l16Draw_any w0.heap.size A c xs 0 _ hs (by omega) hx hn)
  have HFR := hide (l00From_any A xs.length c w0)
  have hsz : (w0.alloc (.cells #[.slice A xs.length c, .int .i64 0, .int .u64 0] 79)).heap.size = w0.heap.size + 1 := by simp
  clear h hx h0 B0 r0
  go_enter Try.func15, Try.ntmps15
  go_wp2_with fail
  rw [← hw0]
  have HW0 := hide hw0
  clear hw0
  refine HFR.out.mono ?_
  rintro e w1 ⟨rfl, hw1⟩
  rw [← hw1] at HD r1 B1 hs hsz
  clear hw1
  go_wp2_with fail
  refine HD.out.mono ?_
  rintro e w2 ⟨code, B, d, rfl, hcb, hdr, s2, g2⟩
  have hz2 := g2.size
  have r2 := r1.grownNe_ g2 (by omega)
  have B2 : Below w.heap.size w w2 := ⟨g2.os.trans B1.os, g2.tape.trans B1.tape, g2.output.trans B1.output, Nat.le_trans B1.size g2.size, fun k hk => (g2.block k (by omega) (fun e => by injection e with e; omega)).trans (B1.block k hk)⟩
  rw [hsz] at hdr
  have hcl := hcb.len (by omega) (by omega)
  have HON := hide (l16One_any w0.heap.size A c xs _ B d code w2 s2 (by omega) HX.out hn hdr hcl.2)
  clear r1 B1 hs g2
  go_wp2_with fail
  refine HON.out.mono ?_
  rintro e w3 ⟨x, y, z, rfl, s3, g3⟩
  have hz3 := g3.size
  have r3 := r2.grownNe_ g3 (by omega)
  have B3 : Below w.heap.size w w3 := ⟨g3.os.trans B2.os, g3.tape.trans B2.tape, g3.output.trans B2.output, Nat.le_trans B2.size g3.size, fun k hk => (g3.block k (by have := B2.size; omega) (fun e => by injection e with e; omega)).trans (B2.block k hk)⟩
  have d3 := hdr.src g3 (by omega)
  have d4 := ((d3.setLow (p := ⟨w.heap.size, 0, none⟩) (show w.heap.size < w0.heap.size + 1 by omega) (.int .i64 x)).setLow (p := ⟨w.heap.size, 1, none⟩) (show w.heap.size < w0.heap.size + 1 by omega) (.int .i64 y)).setLow (p := ⟨w.heap.size, 2, none⟩) (show w.heap.size < w0.heap.size + 1 by omega) (.int .i64 z)
  have B4 := ((B3.setCell (p := ⟨w.heap.size, 0, none⟩) (Nat.le_refl _) (.int .i64 x)).setCell (p := ⟨w.heap.size, 1, none⟩) (Nat.le_refl _) (.int .i64 y)).setCell (p := ⟨w.heap.size, 2, none⟩) (Nat.le_refl _) (.int .i64 z)
  obtain ⟨ra, rb, rc⟩ := r3.three
  have f0 := r3.frozen 0
  have f1 := (r3.set_ 0 (.int .i64 x)).frozen 1
  have f2 := ((r3.set_ 0 (.int .i64 x)).set_ 1 (.int .i64 y)).frozen 2
  obtain ⟨q0, q1, q2⟩ := (((r3.set_ 0 (.int .i64 x)).set_ 1 (.int .i64 y)).set_ 2 (.int .i64 z)).three
  have HF := hide (And.intro (d4.mono (base' := w.heap.size) (by omega)) B4)
  clear d3 d4 B3 B4 s3 g3 r3 r2 B2 hdr s2
  go_wp2_with fail
  refine bodyPost_ret (v := .tuple #[.slice B code.length d, .agg #[.int .i64 x, .int .i64 y, .int .i64 z]]) (by simp [results, Try.results15, go_sem, q0, q1, q2]) rfl ?_
  exact ⟨code, B, d, x, y, z, rfl, hcb, HF.out.1, HF.out.2⟩
set_option maxRecDepth 20000 in
set_option maxHeartbeats 4000000 in
theorem drawApplyMove_any (A : Option Addr) (c : Nat) (xs : List Int) (w : World) (h : RB w A xs) (hx : ∀ x ∈ xs, 0 ≤ x ∧ x ≤ 255) (hn : xs.length ≤ 1048576) :
    Calls Try.prog 6 #[.slice A xs.length c] w (RetDM w) := by
  obtain ⟨w0, hw0⟩ : ∃ w0, w0 = w.alloc (.cells #[.int .i64 0, .int .i64 0, .int .i64 0] 26) := ⟨_, rfl⟩
  have r0 : Bx w0 w.heap.size 26 #[.int .i64 0, .int .i64 0, .int .i64 0] := by rw [hw0]; exact Bx.new _ _ _
  have B0 : Below w.heap.size w w0 := by rw [hw0]; exact (Below.refl _ _).alloc (Nat.le_refl _) _
  have h0 : RB w0 A xs := h.below B0
  have hz0 := r0.lt
  have HD := hide (drawCanMove_any A c xs w0 h0 hx hn)
  clear h hx h0
  go_enter Try.func6, Try.ntmps6
  go_wp2_with fail
  rw [← hw0]
  clear hw0
  refine HD.out.mono ?_
  rintro e w3 ⟨code, B, d, x, y, z, rfl, hcb, hdr, b3⟩
  have r3 := r0.below b3
  have B3 := B0.trans (b3.mono (by omega))
  have d4 := ((hdr.setLow (p := ⟨w.heap.size, 0, none⟩) (show w.heap.size < w0.heap.size by omega) (.int .i64 x)).setLow (p := ⟨w.heap.size, 1, none⟩) (show w.heap.size < w0.heap.size by omega) (.int .i64 y)).setLow (p := ⟨w.heap.size, 2, none⟩) (show w.heap.size < w0.heap.size by omega) (.int .i64 z)
  have B4 := ((B3.setCell (p := ⟨w.heap.size, 0, none⟩) (Nat.le_refl _) (.int .i64 x)).setCell (p := ⟨w.heap.size, 1, none⟩) (Nat.le_refl _) (.int .i64 y)).setCell (p := ⟨w.heap.size, 2, none⟩) (Nat.le_refl _) (.int .i64 z)
  obtain ⟨ra, rb, rc⟩ := r3.three
  have f0 := r3.frozen 0
  have f1 := (r3.set_ 0 (.int .i64 x)).frozen 1
  have f2 := ((r3.set_ 0 (.int .i64 x)).set_ 1 (.int .i64 y)).frozen 2
  obtain ⟨q0, q1, q2⟩ := (((r3.set_ 0 (.int .i64 x)).set_ 1 (.int .i64 y)).set_ 2 (.int .i64 z)).three
  have HF := hide (And.intro (d4.mono (base' := w.heap.size) (by omega)) B4)
  clear d4 B3 B4 b3 r3 r0 hdr B0
  go_wp2_with fail
  refine bodyPost_ret (v := .tuple #[.slice B code.length d, .agg #[.int .i64 x, .int .i64 y, .int .i64 z]]) (by simp [results, Try.results6, go_sem, q0, q1, q2]) rfl ?_
  exact ⟨code, B, d, x, y, z, rfl, hcb, HF.out.1, HF.out.2⟩
end Go.Proofs.Ytocellbhpjiioaa

namespace Go.Proofs.Ytocellbhpjiioaa
open Go.RowKit
set_option linter.unusedVariables false

set_option maxHeartbeats 400000 in
theorem l00Same_any (A B : Option Addr) (c d : Nat) (xs ys : List Int) (w : World) (hA : RI w A xs) (hB : RI w B ys) (hn : xs.length ≤ 1048576) (hm : ys.length ≤ 1048576) :
    Calls Try.prog 43 #[.slice A xs.length c, .slice B ys.length d] w (RetQ w (.bool (decide (xs = ys)))) := by
  by_cases hl : xs.length = ys.length
  · have HL := hide hl
    have hnm : ((xs.length : Int) != (ys.length : Int)) = false := by simp [hl]
    clear hl
    go_enter Try.func43, Try.ntmps43
    go_wp2
    go_loopw [5] (fun i wr => ∃ (k : Nat), k ≤ xs.length ∧ i = .int .i64 k ∧ Hid (xs.take k = ys.take k) ∧ ∃ n, wr = w.drewN n)
      (fun i _ => xs.length - (intOf i).toNat)
    case atStart => exact ⟨0, Nat.zero_le _, rfl, hide (by simp), 0, rfl⟩
    case round =>
      obtain ⟨k, hk, rfl, ht, n, rfl⟩ := hrel
      by_cases hlt : k < xs.length
      · obtain ⟨b, off, x, rfl, hb, hx, hc⟩ := hA.at_ hlt
        obtain ⟨b', off', y, rfl, hb', hy, hc'⟩ := hB.at_ (k := k) (by have := HL.out; omega)
        have hlt' : (k : Int) < (ys.length : Int) := by have := HL.out; omega
        by_cases hxy : x = y
        · subst hxy
          have HT := hide (take_eq_next hx hy ht.out)
          have hne : (x != x) = false := by simp
          go_wp2_with fail
          go_quiet (fail)
          go_wp2
          go_roundw
          case rel => exact ⟨k + 1, by omega, by go_num, HT, _, rfl⟩
          case measure => simp [intOf]; omega
        · have HN := hide (ne_at hx hy hxy)
          have hne : (x != y) = true := by simpa using hxy
          go_wp2_with fail
          go_quiet (fail)
          go_wp2
          go_ret
          rw [HN.out]
          exact ⟨rfl, _, by rw [World.drewN_drewN]⟩
      · go_wp2
        go_ret
        have he : xs = ys := take_eq_all HL.out (by omega) ht.out
        rw [decide_eq_true he]
        exact ⟨rfl, _, rfl⟩
  · have HN := hide (ne_len hl)
    have hnm : ((xs.length : Int) != (ys.length : Int)) = true := by rw [bne_iff_ne]; omega
    go_enter Try.func43, Try.ntmps43
    go_wp2
    go_ret
    rw [HN.out]
    exact ⟨rfl, 0, rfl⟩
/-- A function that hands back a polynomial whose coefficients lie in memory of its own. -/
def RetP (w : World) (low : Int) (xs : List Int) (e : Ending) (w' : World) : Prop :=
  ∃ A c, e = .returned (.agg #[.int .i64 low, .slice A xs.length c]) ∧ OwnI w' w.heap.size A c xs ∧ Below w.heap.size w w'

end Go.Proofs.Ytocellbhpjiioaa
