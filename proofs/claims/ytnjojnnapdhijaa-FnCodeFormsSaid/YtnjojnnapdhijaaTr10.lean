/-
  Contracts: numbers of curves, the walker with which a curve begins. Conditions: a valid panel's sides and breaks.
-/
import Derived.Test.YtnjojnnapdhijaaTr9
namespace Go.Proofs.Ytnjojnnapdhijaa
open Go.RowKit
set_option linter.unusedVariables false

theorem l04Count_any (b0 : Nat) (wd ht : Int) (A : Option Addr) (c : Nat) (xs : List Int) (w : World) (hp : PA w b0 wd ht A c xs) (hs : Sz wd ht) (hl : (xs.length : Int) = innerN wd ht) :
    Calls Try.prog 139 #[.pointer (some ⟨b0, 0, none⟩)] w (RetV w (.int .i64 ((curL wd ht xs).length : Int))) := by
  have hcl : (curL wd ht xs).length ≤ 256 := by have h1 := (trInv_all (xs := xs) hs).cnt; have h2 := nSeg_int hs; simp only at h1; omega
  have HA := hide (l04All_any b0 wd ht A c xs w hp hs hl)
  go_enter Try.func139, Try.ntmps139
  go_wp2_with fail
  refine HA.out.mono ?_
  rintro e w1 ⟨A1, c1, B1, d1, rfl, own, hb1⟩
  go_wp2_with fail
  go_ret
  exact ⟨rfl, hb1⟩
set_option maxHeartbeats 4000000 in
theorem l13Start_any (b0 : Nat) (wd ht : Int) (A : Option Addr) (c : Nat) (xs : List Int) (i j : Nat) (w : World) (hp : PA w b0 wd ht A c xs) (hs : Sz wd ht) (hl : (xs.length : Int) = innerN wd ht) (hj : j < nSeg wd ht) (h1 : (ownL wd ht xs)[j]? = some (i : Int)) (h2 : ∀ j', j' < j → (ownL wd ht xs)[j']? ≠ some (i : Int)) (hi : i ≤ 256) :
    Calls Try.prog 155 #[.pointer (some ⟨b0, 0, none⟩), .int .i64 (i : Int)] w (RetV w (.tuple #[.agg #[.int .i64 ((walkK ht j).x), .int .i64 ((walkK ht j).y), .int .i64 ((walkK ht j).dx), .int .i64 ((walkK ht j).dy)], .bool true])) := by
  have hn1 := (nSeg_int hs).2.1
  have HOL : Hid ((ownL wd ht xs).length = nSeg wd ht) := hide (trInv_all (xs := xs) hs).len
  obtain ⟨N, hN⟩ : ∃ N, N = nSeg wd ht := ⟨_, rfl⟩
  rw [← hN] at HOL hj hn1
  have H1 := hide h1
  have H2 := hide h2
  have HWA := hide (fun (W : World) (hb : Below w.heap.size w W) => l03Walker_any b0 wd ht A c xs j W (hp.below hb) hs (by rw [← hN]; exact hj))
  clear h1 h2 hN
  have HA := hide (l04All_any b0 wd ht A c xs (w.alloc (.cells #[.int .i64 0, .int .i64 0, .int .i64 0, .int .i64 0] 112)) (hp.below ((Below.refl w.heap.size w).alloc (by first | omega | (simp; omega) | simp) (.cells #[.int .i64 0, .int .i64 0, .int .i64 0, .int .i64 0] 112))) hs hl)
  go_enter Try.func155, Try.ntmps155
  go_wp2_with fail
  refine HA.out.mono ?_
  rintro e w1 ⟨A1, c1, B1, d1, rfl, own, hb1⟩
  have r_1 := (Bx.new_ w (w.heap.size) 112 #[.int .i64 0, .int .i64 0, .int .i64 0, .int .i64 0] (by simp)).below hb1
  obtain ⟨ra_1, rb_1, rc_1, rd_1⟩ := (r_1).four
  have rf0_1 := (r_1).frozen 0
  have rf1_1 := (r_1).frozen 1
  have rf2_1 := (r_1).frozen 2
  have rf3_1 := (r_1).frozen 3
  have z_1 : (w.alloc (.cells #[.int .i64 0, .int .i64 0, .int .i64 0, .int .i64 0] 112)).heap.size ≤ w1.heap.size := hb1.size
  simp only [World.size_alloc] at z_1
  have B_1 := ((Below.refl w.heap.size w).alloc (by first | omega | (simp; omega) | simp) (.cells #[.int .i64 0, .int .i64 0, .int .i64 0, .int .i64 0] 112)).trans (hb1.mono (by first | omega | (simp; omega) | simp))
  have hr1 := (r_1)
  have hB1 := (B_1)
  have hLL : (ownL wd ht xs).length ≤ 256 := by rw [HOL.out]; exact hn1
  have hLJ : j < (ownL wd ht xs).length := by rw [HOL.out]; exact hj
  go_wp2_with fail
  go_loopw [8] (fun kv wr => ∃ (k : Nat), k ≤ j ∧ kv = .int .i64 (k : Int) ∧ wr = w1) (fun kv _ => j + 1 - (intOf kv).toNat)
  case atStart => exact ⟨0, Nat.zero_le _, rfl, by first | trivial | rfl⟩
  case round =>
    obtain ⟨k, hk, rfl, rfl⟩ := hrel
    obtain ⟨g, v, rfl, hgb, hgs, hv, hgc, hgf, _⟩ := own.at_ (k := k) (by omega)
    by_cases hlt : k < j
    · have d0 : (v == (i : Int)) = false := eqf (fun e => H2.out k hlt (by rw [hv, e]))
      clear hv
      go_wp2_with fail
      go_roundw
      case rel => exact ⟨k + 1, by omega, by go_num, by first | trivial | rfl⟩
      case measure => simp [intOf]; omega
    · obtain rfl : j = k := by omega
      obtain rfl : v = (i : Int) := by have h := H1.out; rw [hv] at h; injection h
      clear hv
      go_wp2_with fail
      refine (HWA.out _ hB1).mono ?_
      rintro e w2 ⟨rfl, hb2⟩
      have hr2 := hr1.below hb2
      have hB2 := hB1.trans (hb2.mono hB1.size)
      have f0 := hr2.frozen 0
      have f1 := hr2.frozen 1
      have f2 := hr2.frozen 2
      have f3 := hr2.frozen 3
      obtain ⟨q0, q1, q2, q3⟩ := hr2.four
      have hr3 := (((hr2.set_ 0 (.int .i64 (walkK ht j).x)).set_ 1 (.int .i64 (walkK ht j).y)).set_ 2 (.int .i64 (walkK ht j).dx)).set_ 3 (.int .i64 (walkK ht j).dy)
      obtain ⟨ra_z, rb_z, rc_z, rd_z⟩ := hr3.four
      go_wp2_with fail
      refine bodyPost_ret (v := .tuple #[.agg #[.int .i64 ((walkK ht j).x), .int .i64 ((walkK ht j).y), .int .i64 ((walkK ht j).dx), .int .i64 ((walkK ht j).dy)], .bool true]) (by simp [results, Try.results155, go_sem, ra_z, rb_z, rc_z, rd_z]) rfl ?_
      exact ⟨rfl, (((hB2.setCell (Nat.le_refl _) _).setCell (Nat.le_refl _) _).setCell (Nat.le_refl _) _).setCell (Nat.le_refl _) _⟩
end Go.Proofs.Ytnjojnnapdhijaa
