/-
  Contract: a polynomial that is drawn; three of them. Conditions: the numbers of bytes and of choices are far below the machine's.
-/
import Derived.Test.YtffiejlfnecanaaDraw
import Derived.Test.YtffiejlfnecanaaPolyLaw
import Derived.Deep.RegionHeld3
namespace Go.Proofs.Ytffiejlfnecanaa
open Go.RowKit
set_option linter.unusedVariables false

set_option maxHeartbeats 4000000 in
theorem l18Draw_any (b : Nat) (A : Option Addr) (c : Nat) (xs : List Int) (K : Nat) (w : World) (h : Sr w b A c xs K) (hK : K ≤ 100000) (hx : ∀ x ∈ xs, 0 ≤ x ∧ x ≤ 255) (hn : xs.length ≤ 1048576) :
    Calls Try.prog 20 #[.pointer (some ⟨b, 0, none⟩)] w fun e w' => ∃ (q : Int × List Int) (B : Option Addr) (d : Nat), e = .returned (.agg #[.int .i64 q.1, .slice B q.2.length d]) ∧ Dw q ∧ OwnI w' w.heap.size B d q.2 ∧ Sr w' b A c xs (K + 8) ∧ w.grownBy w' (some b) := by
  have hb0 := h.lt
  have h1 := (h.alloc (.cells #[.int .i64 0, .slice none 0 0] 26)).alloc (.cells #[] 2)
  have r1 := (Bx.new w 26 #[.int .i64 0, .slice none 0 0]).alloc (.cells #[] 2)
  have o1 : OwnI ((w.alloc (.cells #[.int .i64 0, .slice none 0 0] 26)).alloc (.cells #[] 2)) (w.heap.size + 1) (some ⟨w.heap.size + 1, 0, none⟩) 0 [] := OwnI.new_ (w.alloc (.cells #[.int .i64 0, .slice none 0 0] 26)) (w.heap.size + 1) (by simp) [] #[] rfl (by simp) (by simp [maxLen])
  have g1 : w.grownBy ((w.alloc (.cells #[.int .i64 0, .slice none 0 0] 26)).alloc (.cells #[] 2)) (some b) := gr_below (gr_refl w _) (((Below.refl _ _).alloc (Nat.le_refl _) _).alloc (by simp) _)
  have HX := hide hx
  have H0 := hide h
  go_enter Try.func20, Try.ntmps20
  go_wp2_with fail
  refine (pick_any b A c xs K 6 _ h1 (by omega) hx hn (by omega) (by omega)).mono ?_
  rintro e w1 ⟨m0, rfl, hm0, hm1, hs1, hg1⟩
  have r2 := r1.grownNe hg1 (by omega)
  have o2 := o1.grown hg1 (.inr (by simp [blk]; omega))
  have g2 := gr_trans g1 hg1
  clear h1 r1 o1 g1 hg1 h hx
  obtain ⟨M, rfl⟩ : ∃ M : Nat, m0 = (M : Int) := ⟨m0.toNat, by omega⟩
  go_wp2_with fail
  go_loopw [3, 4] (fun o k wr => ∃ (m : Nat) (B : Option Addr) (d : Nat) (ys : List Int), m + ys.length ≤ 5 ∧ k = .int .i64 m ∧ o = .slice B ys.length d ∧ OwnI wr (w.heap.size + 1) B d ys ∧ (∀ y ∈ ys, -4 ≤ y ∧ y ≤ 4) ∧ Sr wr b A c xs (K + 1 + ys.length) ∧ Bx wr w.heap.size 26 #[.int .i64 0, .slice none 0 0] ∧ w.grownBy wr (some b)) (fun _ k _ => (intOf k).toNat)
  case atStart => exact ⟨M, _, _, [], by simp; omega, rfl, rfl, o2, by simp, hs1.more (by simp), r2, g2⟩
  case round =>
    clear r2 o2 g2 hs1
    obtain ⟨m, B, d, ys, hmy, rfl, rfl, own, hys, hs, hr, hg⟩ := hrel
    have hgz := hg.size
    have hrl := hr.lt
    by_cases hm : 0 < m
    · have hm2 : (0 : Int) < (m : Int) := by omega
      have hwm : IntKind.i64.wrap ((m : Int) - 1) = (m : Int) - 1 := by rw [IntKind.wrap_i64]; omega
      have HYS := hide hys
      clear hys
      go_wp2_with fail
      refine (pick_any b A c xs (K + 1 + ys.length) 9 _ hs (by omega) HX.out hn (by omega) (by omega)).mono ?_
      rintro e w2 ⟨x, rfl, hx0, hx1, hs2, hg2⟩
      have own2 := own.grown hg2 (by
        by_cases hbn : blk B = none
        · exact .inl hbn
        · exact .inr (fun e => by have := (own.ge e).1; omega))
      have hr2 := hr.grownNe hg2 (by omega)
      have g2 := gr_trans hg hg2
      have hz2 := hg2.size
      have hwx : IntKind.i64.wrap (x - 4) = x - 4 := by rw [IntKind.wrap_i64]; omega
      have hB9 : ∀ g, blk B = some g → w.heap.size + 1 ≤ g := fun g hg => (own2.ge hg).1
      clear own hr hg hg2
      go_wp2_with (at_builtin; refine wpList_append_ints rfl (.tmp 12) (.tmp 16) rfl (w.heap.size + 1) B d ys rfl (own2.alloc _) (some ⟨w2.heap.size, 0, none⟩) 1 [x - 4] rfl (OwnI.new (base := 0) w2 [x - 4] #[.int .i64 (x - 4)] rfl (Nat.zero_le _) (by simp [maxLen])).rd (by simp; omega) (by simp; omega) (ys ++ [x - 4]) rfl ?_; intro A3 c3 w3 own3 hg3 hb3)
      go_roundw
      case rel =>
        refine ⟨m - 1, A3, c3, ys ++ [x - 4], by simp; omega, by go_num, by simp, own3, ?_, ?_, ?_, ?_⟩
        · intro y hy
          rcases List.mem_append.1 hy with hy | hy
          · exact HYS.out y hy
          · rw [List.mem_singleton] at hy; omega
        · exact ((hs2.alloc _).grownOld H0.out hB9 (by omega) hg3).more (by simp; omega)
        · exact (hr2.alloc _).grown hg3 (by
            by_cases hbn : blk B = none
            · exact .inl hbn
            · exact .inr (fun e => by have := hB9 _ e; omega))
        · exact gr_own (gr_below g2 ((Below.refl _ _).alloc (Nat.le_refl _) _)) hB9 (by omega) hg3
      case measure => simp [intOf]; omega
    · have hm2 : ¬ ((0 : Int) < (m : Int)) := by omega
      have HYS := hide hys
      clear hys
      go_wp2_with fail
      refine (pick_any b A c xs (K + 1 + ys.length) 9 _ hs (by omega) HX.out hn (by omega) (by omega)).mono ?_
      rintro e w2 ⟨x, rfl, hx0, hx1, hs2, hg2⟩
      have own2 := own.grown hg2 (by
        by_cases hbn : blk B = none
        · exact .inl hbn
        · exact .inr (fun e => by have := (own.ge e).1; omega))
      have hr2 := hr.grownNe hg2 (by omega)
      have g2 := gr_trans hg hg2
      have hz2 := hg2.size
      have hwx : IntKind.i64.wrap (x - 4) = x - 4 := by rw [IntKind.wrap_i64]; omega
      have HDW := hide (dw_trim (l := x - 4) (xs := ys) (by omega) (by omega) (by omega) HYS.out)
      have HTR := hide (l18Trim_any (x - 4) B d ys w2 own2.rd (by omega) (by omega) (by omega) own2.cap_.1 own2.cap_.2)
      obtain ⟨q, hq⟩ : ∃ q, q = trimS (x - 4) ys := ⟨_, rfl⟩
      rw [← hq] at HTR HDW
      clear own hr hg hg2 own2 hq
      go_wp2_with fail
      refine HTR.out.mono ?_
      rintro e w3 ⟨A3, c3, rfl, own3, hb3⟩
      have hr3 := hr2.below hb3
      obtain ⟨ra, rb⟩ := hr3.two
      have rf0 := hr3.frozen 0
      have rf1 := hr3.frozen 1
      have HR := hide ((hr3.set_ 0 (.int .i64 q.1)).set_ 1 (.slice A3 q.2.length c3)).two
      have hs3 := hs2.below hb3
      have HO : ∀ g, blk A3 = some g → g ≠ w.heap.size := fun g hg => by have := (own3.ge hg).1; omega
      go_wp2_with fail
      obtain ⟨ra_9, rb_9⟩ := HR.out
      refine bodyPost_ret (v := .agg #[.int .i64 q.1, .slice A3 q.2.length c3]) (by simp [results, Try.results20, go_sem, ra_9, rb_9]) rfl ?_
      refine ⟨q, A3, c3, rfl, HDW.out, ?_, ?_, ?_⟩
      · exact ((own3.setLow (by show w.heap.size < _; omega) _).setLow (by show w.heap.size < _; omega) _).mono (by omega)
      · exact ((hs3.far (p := ⟨w.heap.size, 0, none⟩) (show b ≠ w.heap.size by omega) (fun h0 e => by have := H0.out.row_lt h0 e; simp at this) _).far (p := ⟨w.heap.size, 1, none⟩) (show b ≠ w.heap.size by omega) (fun h0 e => by have := H0.out.row_lt h0 e; simp at this) _).more (by omega)
      · exact gr_new (gr_new (gr_below g2 hb3) (Nat.le_refl _) _) (Nat.le_refl _) _

theorem l00From_any (A : Option Addr) (n c : Nat) (w : World) : Calls Try.prog 19 #[.slice A n c] w fun e w' => e = .returned (.pointer (some ⟨w.heap.size, 0, none⟩)) ∧ w' = w.alloc (.cells #[.slice A n c, .int .i64 0, .int .u64 0] 57) := by
  go_enter Try.func19, Try.ntmps19
  go_wp2_with fail
  go_ret
  exact ⟨rfl, rfl⟩
theorem a2Long_any (A B : Option Addr) (n m c d : Nat) (w : World) : Calls Try.prog 5 #[.slice A n c, .slice B m d] w fun e w' => e = .returned (.bool (decide (3000 < n) || decide (3000 < m))) ∧ w = w' := by
  by_cases h1 : 3000 < n
  · have hd : (3000 : Int) < (n : Int) := by omega
    have HV := hide (show (decide (3000 < n) || decide (3000 < m)) = true by rw [decide_eq_true h1]; rfl)
    clear h1
    go_enter Try.func5, Try.ntmps5
    go_wp2_with fail
    go_ret
    rw [HV.out]
    exact ⟨rfl, rfl⟩
  · have hd : ¬ ((3000 : Int) < (n : Int)) := by omega
    by_cases h2 : 3000 < m
    · have hd2 : (3000 : Int) < (m : Int) := by omega
      have HV := hide (show (decide (3000 < n) || decide (3000 < m)) = true by rw [decide_eq_true h2]; simp)
      clear h1 h2
      go_enter Try.func5, Try.ntmps5
      go_wp2_with fail
      go_ret
      rw [HV.out]
      exact ⟨rfl, rfl⟩
    · have hd2 : ¬ ((3000 : Int) < (m : Int)) := by omega
      have HV := hide (show (decide (3000 < n) || decide (3000 < m)) = false by rw [decide_eq_false h1, decide_eq_false h2]; rfl)
      clear h1 h2
      go_enter Try.func5, Try.ntmps5
      go_wp2_with fail
      go_ret
      rw [HV.out]
      exact ⟨rfl, rfl⟩
section
variable {w : World} {b : Nat} {o0 o1 : Nat} {u0 u1 : Value}
theorem bx_far2 {b' : Nat} {t : TypeId} {cs : Array Value} (h : Bx w b' t cs) (hne : b' ≠ b) : Bx ((w.setCell ⟨b, o0, none⟩ u0).setCell ⟨b, o1, none⟩ u1) b' t cs := (h.far (p := ⟨b, o0, none⟩) hne u0).far (p := ⟨b, o1, none⟩) hne u1
theorem bx_put2 {v0 v1 : Value} {t : TypeId} (h : Bx w b t #[v0, v1]) : Bx ((w.setCell ⟨b, 0, none⟩ u0).setCell ⟨b, 1, none⟩ u1) b t #[u0, u1] := (h.set_ 0 u0).set_ 1 u1
theorem own_low2 {base : Nat} {A : Option Addr} {c : Nat} {xs : List Int} (h : OwnI w base A c xs) (hb : b < base) : OwnI ((w.setCell ⟨b, o0, none⟩ u0).setCell ⟨b, o1, none⟩ u1) base A c xs := (h.setLow hb u0).setLow hb u1
theorem below_put2_ {w0 : World} {B : Nat} (h : Below B w0 w) (hb : B ≤ b) : Below B w0 ((w.setCell ⟨b, o0, none⟩ u0).setCell ⟨b, o1, none⟩ u1) := (h.setCell (p := ⟨b, o0, none⟩) hb u0).setCell (p := ⟨b, o1, none⟩) hb u1
end
end Go.Proofs.Ytffiejlfnecanaa
