/-
  Contract: powers of the value of a loop. Conditions: few.
-/
import Derived.Test.YtjlifbdaieblpaaGreatBrMath
import Derived.Test.YtjlifbdaieblpaaGreatPolyMul
import Derived.Test.YtjlifbdaieblpaaGreatTr13
import Derived.Test.YtjlifbdaieblpaaGreatSm1
namespace Go.Proofs.YtjlifbdaieblpaaGreat
open Go.RowKit
set_option linter.unusedVariables false

theorem Bx.far2 {w : World} {b b' : Nat} {o0 o1 : Nat} {u0 u1 : Value} {t : TypeId} {cs : Array Value} (h : Bx w b' t cs) (hne : b' ≠ b) : Bx ((w.setCell ⟨b, o0, none⟩ u0).setCell ⟨b, o1, none⟩ u1) b' t cs :=
  (h.far (p := ⟨b, o0, none⟩) hne u0).far (p := ⟨b, o1, none⟩) hne u1
theorem Bx.put2 {w : World} {b : Nat} {u0 u1 v0 v1 : Value} {t : TypeId} (h : Bx w b t #[v0, v1]) : Bx ((w.setCell ⟨b, 0, none⟩ u0).setCell ⟨b, 1, none⟩ u1) b t #[u0, u1] :=
  (h.set_ 0 u0).set_ 1 u1
theorem OwnI.far2 {w : World} {b : Nat} {o0 o1 : Nat} {u0 u1 : Value} {base : Nat} {A : Option Addr} {c : Nat} {xs : List Int} (h : OwnI w base A c xs) (hb : ∀ g, blk A = some g → g ≠ b) : OwnI ((w.setCell ⟨b, o0, none⟩ u0).setCell ⟨b, o1, none⟩ u1) base A c xs := by
  have e : ∀ {W : World} {o : Nat} {u : Value}, OwnI W base A c xs → OwnI (W.setCell ⟨b, o, none⟩ u) base A c xs := fun {W o u} hw => hw.keep fun b' _ h2 => Below.heap_setCell W ⟨b, o, none⟩ u b' (hb b' h2)
  exact e (e h)
theorem below_put2 {B : Nat} {w0 w : World} {b : Nat} {o0 o1 : Nat} {u0 u1 : Value} (h : Below B w0 w) (hb : B ≤ b) : Below B w0 ((w.setCell ⟨b, o0, none⟩ u0).setCell ⟨b, o1, none⟩ u1) :=
  (h.setCell (p := ⟨b, o0, none⟩) hb u0).setCell (p := ⟨b, o1, none⟩) hb u1

set_option maxHeartbeats 4000000 in
theorem l18Loops_any (n : Int) (w : World) (hn : n ≤ 300) (hn0 : -300 ≤ n) :
    Calls Tryz.prog 67 #[.int .i64 n] w (RetP w (loopP n.toNat).1 (loopP n.toNat).2) := by
  obtain ⟨N, hN⟩ : ∃ N : Nat, N = n.toNat := ⟨_, rfl⟩
  rw [← hN]
  have h1 := OwnI.newI_ (w.alloc (.cells #[.int .i64 0, .slice none 0 0] 29)) (base := w.heap.size + 1) (w.heap.size + 1) [1] #[.int .i64 1] (by simp) rfl (by simp) (by simp [maxLen])
  have h2 := OwnI.newI_ (((w.alloc (.cells #[.int .i64 0, .slice none 0 0] 29)).alloc (.cells #[.int .i64 1] 2)).alloc (.cells #[.int .i64 0, .slice (some ⟨w.heap.size + 1, 0, none⟩) 1 1] 29)) (base := w.heap.size) (w.heap.size + 1 + 1 + 1) [-1, 0, 0, 0, -1] #[.int .i64 (-1), .int .i64 0, .int .i64 0, .int .i64 0, .int .i64 (-1)] (by simp) rfl (by simp; omega) (by simp [maxLen])
  have x0 := ((((h1).alloc (.cells #[.int .i64 0, .slice (some ⟨w.heap.size + 1, 0, none⟩) 1 1] 29)).alloc (.cells #[.int .i64 (-1), .int .i64 0, .int .i64 0, .int .i64 0, .int .i64 (-1)] 2)).alloc (.cells #[.int .i64 (-2), .slice (some ⟨w.heap.size + 1 + 1 + 1, 0, none⟩) 5 5] 29))
  have y0 := (((h2).alloc (.cells #[.int .i64 (-2), .slice (some ⟨w.heap.size + 1 + 1 + 1, 0, none⟩) 5 5] 29))).rd
  have r0 := (((((Bx.new_ w (w.heap.size) 29 #[.int .i64 0, .slice none 0 0] (by simp)).alloc (.cells #[.int .i64 1] 2)).alloc (.cells #[.int .i64 0, .slice (some ⟨w.heap.size + 1, 0, none⟩) 1 1] 29)).alloc (.cells #[.int .i64 (-1), .int .i64 0, .int .i64 0, .int .i64 0, .int .i64 (-1)] 2)).alloc (.cells #[.int .i64 (-2), .slice (some ⟨w.heap.size + 1 + 1 + 1, 0, none⟩) 5 5] 29))
  have o0 := (((Bx.new_ ((w.alloc (.cells #[.int .i64 0, .slice none 0 0] 29)).alloc (.cells #[.int .i64 1] 2)) (w.heap.size + 1 + 1) 29 #[.int .i64 0, .slice (some ⟨w.heap.size + 1, 0, none⟩) 1 1] (by simp)).alloc (.cells #[.int .i64 (-1), .int .i64 0, .int .i64 0, .int .i64 0, .int .i64 (-1)] 2)).alloc (.cells #[.int .i64 (-2), .slice (some ⟨w.heap.size + 1 + 1 + 1, 0, none⟩) 5 5] 29))
  have l0 := (Bx.new_ ((((w.alloc (.cells #[.int .i64 0, .slice none 0 0] 29)).alloc (.cells #[.int .i64 1] 2)).alloc (.cells #[.int .i64 0, .slice (some ⟨w.heap.size + 1, 0, none⟩) 1 1] 29)).alloc (.cells #[.int .i64 (-1), .int .i64 0, .int .i64 0, .int .i64 0, .int .i64 (-1)] 2)) (w.heap.size + 1 + 1 + 1 + 1) 29 #[.int .i64 (-2), .slice (some ⟨w.heap.size + 1 + 1 + 1, 0, none⟩) 5 5] (by simp))
  have B0 := ((((((Below.refl w.heap.size w).alloc (by first | omega | (simp; omega) | simp) (.cells #[.int .i64 0, .slice none 0 0] 29)).alloc (by first | omega | (simp; omega) | simp) (.cells #[.int .i64 1] 2)).alloc (by first | omega | (simp; omega) | simp) (.cells #[.int .i64 0, .slice (some ⟨w.heap.size + 1, 0, none⟩) 1 1] 29)).alloc (by first | omega | (simp; omega) | simp) (.cells #[.int .i64 (-1), .int .i64 0, .int .i64 0, .int .i64 0, .int .i64 (-1)] 2)).alloc (by first | omega | (simp; omega) | simp) (.cells #[.int .i64 (-2), .slice (some ⟨w.heap.size + 1 + 1 + 1, 0, none⟩) 5 5] 29))
  clear h1 h2
  go_enter Tryz.func67, Tryz.ntmps67
  go_wp2_with fail
  go_loopw [5] (fun kv wr => ∃ (k : Nat) (A : Option Addr) (c : Nat), k ≤ N ∧ kv = .int .i64 (k : Int) ∧ OwnI wr (w.heap.size + 1) A c (loopP k).2 ∧ RI wr (some ⟨w.heap.size + 1 + 1 + 1, 0, none⟩) [-1, 0, 0, 0, -1] ∧ Bx wr w.heap.size 29 #[.int .i64 0, .slice none 0 0] ∧ Bx wr (w.heap.size + 1 + 1) 29 #[.int .i64 (loopP k).1, .slice A (loopP k).2.length c] ∧ Bx wr (w.heap.size + 1 + 1 + 1 + 1) 29 #[.int .i64 (-2), .slice (some ⟨w.heap.size + 1 + 1 + 1, 0, none⟩) 5 5] ∧ Below w.heap.size w wr) (fun kv _ => N + 1 - (intOf kv).toNat)
  case atStart => exact ⟨0, _, _, Nat.zero_le _, rfl, x0, y0, r0, o0, l0, B0⟩
  case round =>
    clear x0 y0 r0 o0 l0 B0
    obtain ⟨k, A, c, hk, rfl, own, hy, hr, ho, hl, hB⟩ := hrel
    have hz := hl.lt
    have bk := loop_bk k
    obtain ⟨b1, b2, b3⟩ := bk
    by_cases hlt : k < N
    · have HC := hide (l18Mul_any (loopP k).1 A c (loopP k).2 (-2) (some ⟨w.heap.size + 1 + 1 + 1, 0, none⟩) 5 [-1, 0, 0, 0, -1] wr own.rd hy (by omega) (by omega) (by omega) (by omega) (by omega) (by simp))
      have HQ : Hid (mulP (loopP k).1 (loopP k).2 (-2) [-1, 0, 0, 0, -1] = loopP (k + 1)) := hide rfl
      obtain ⟨oa, ob⟩ := ho.two
      obtain ⟨la, lb⟩ := hl.two
      have hkn : (k : Int) < n := by omega
      rw [HQ.out] at HC
      obtain ⟨q, hq⟩ : ∃ q, q = loopP k := ⟨_, rfl⟩
      obtain ⟨q2, hq2⟩ : ∃ q, q = loopP (k + 1) := ⟨_, rfl⟩
      rw [← hq] at HC oa ob
      rw [← hq2] at HC
      have HQ2 := hide hq2
      clear hq hq2 HQ own b1 b2 b3
      go_wp2_with fail
      refine HC.out.mono ?_
      rintro e w2 ⟨A2, c2, rfl, own2, hb2⟩
      have hr2 := hr.below hb2
      have ho2 := ho.below hb2
      have hl2 := hl.below hb2
      have hy2 := hy.below hb2
      have hB2 := hB.trans (hb2.mono hB.size)
      obtain ⟨oa2, ob2⟩ := ho2.two
      have of0 := ho2.frozen 0
      have of1 := ho2.frozen 1
      have HR := hide (hr2.far2 (b := w.heap.size + 1 + 1) (o0 := 0) (o1 := 1) (u0 := .int .i64 q2.1) (u1 := .slice A2 q2.2.length c2) (by omega))
      have HL := hide (hl2.far2 (b := w.heap.size + 1 + 1) (o0 := 0) (o1 := 1) (u0 := .int .i64 q2.1) (u1 := .slice A2 q2.2.length c2) (by omega))
      have HO := hide (ho2.put2 (u0 := .int .i64 q2.1) (u1 := .slice A2 q2.2.length c2))
      have HOWN := hide ((own2.far2 (b := w.heap.size + 1 + 1) (o0 := 0) (o1 := 1) (u0 := .int .i64 q2.1) (u1 := .slice A2 q2.2.length c2) (fun g hg => by have := (own2.ge hg).1; omega)).mono (show w.heap.size + 1 ≤ wr.heap.size by omega))
      have HY := hide ((Rd.setCell (Rd.setCell hy2 (p := ⟨w.heap.size + 1 + 1, 0, none⟩) (fun h => by have := blk_inj h; simp at this) (.int .i64 q2.1)) (p := ⟨w.heap.size + 1 + 1, 1, none⟩) (fun h => by have := blk_inj h; simp at this) (.slice A2 q2.2.length c2)))
      have HB := hide (below_put2 (b := w.heap.size + 1 + 1) (o0 := 0) (o1 := 1) (u0 := .int .i64 q2.1) (u1 := .slice A2 q2.2.length c2) hB2 (by omega))
      clear hr ho hl hy hB hr2 ho2 hl2 hy2 hB2 own2 oa ob la lb
      go_wp2_with fail
      go_roundw
      case rel => exact ⟨k + 1, A2, c2, hlt, by go_num, by rw [← HQ2.out]; exact HOWN.out, HY.out, HR.out, by rw [← HQ2.out]; exact HO.out, HL.out, HB.out⟩
      case measure => simp [intOf]; omega
    · obtain rfl : N = k := by omega
      have hkn : ¬ (N : Int) < n := by omega
      obtain ⟨q, hq⟩ : ∃ q, q = loopP N := ⟨_, rfl⟩
      rw [← hq] at ho own
      obtain ⟨oa, ob⟩ := ho.two
      obtain ⟨ra, rb⟩ := hr.two
      have rf0 := hr.frozen 0
      have rf1 := hr.frozen 1
      have HR := hide (hr.put2 (u0 := .int .i64 q.1) (u1 := .slice A q.2.length c)).two
      have HOWN := hide ((own.far2 (b := w.heap.size) (o0 := 0) (o1 := 1) (u0 := .int .i64 q.1) (u1 := .slice A q.2.length c) (fun g hg => by have := (own.ge hg).1; omega)).mono (show w.heap.size ≤ w.heap.size + 1 by omega))
      have HQ : Hid (loopP n.toNat = q) := hide (by rw [hq, ← hN])
      have HB := hide (below_put2 (b := w.heap.size) (o0 := 0) (o1 := 1) (u0 := .int .i64 q.1) (u1 := .slice A q.2.length c) hB (Nat.le_refl _))
      clear hr ho hl hy b1 b2 b3 own hB hq
      go_wp2_with fail
      obtain ⟨ra_9, rb_9⟩ := HR.out
      refine bodyPost_ret (v := .agg #[.int .i64 q.1, .slice A q.2.length c]) (by simp [results, Tryz.results67, go_sem, ra_9, rb_9]) rfl ?_
      rw [HQ.out]
      exact ⟨A, c, rfl, HOWN.out, HB.out⟩
end Go.Proofs.YtjlifbdaieblpaaGreat
