/-
  Contracts: the nearest point of a panel: the two searches. Conditions: none beyond the lengths.
-/
import Derived.Test.YtbleipaekdhdmaaNear
import Derived.Outline
namespace Go.Proofs.Ytbleipaekdhdmaa
open Go.RowKit
set_option linter.unusedVariables false

theorem sq_small {s : Int} (s0 : 2 ≤ s) (s1 : s ≤ 100) : 0 ≤ s * s ∧ s * s ≤ 10000 := by
  refine ⟨mul_self_nn s, ?_⟩
  have : s * s ≤ 100 * s := Int.mul_le_mul_of_nonneg_right s1 (by omega)
  omega
def nearV (r : (Int × Int) × Bool) : Value := .tuple #[.agg #[.int .i64 r.1.1, .int .i64 r.1.2], .bool r.2]

set_option maxHeartbeats 8000000 in
theorem l19Near_any (b0 W H : Nat) (px py s : Int) (w : World) (hb0 : b0 < w.heap.size) (c0 : w.cell? ⟨b0, 0, none⟩ = some (.int .i64 W)) (c1 : w.cell? ⟨b0, 1, none⟩ = some (.int .i64 H))
    (hW : W ≤ 8) (hH : H ≤ 8) (p0 : 0 ≤ px) (p1 : px ≤ 2000) (p2 : 0 ≤ py) (p3 : py ≤ 2000) (s0 : 2 ≤ s) (s1 : s ≤ 100) :
    Calls Try.prog 55 #[.pointer (some ⟨b0, 0, none⟩), .agg #[.int .i64 px, .int .i64 py], .int .i64 s] w (RetV w (nearV (nearP s (px, py) (gridTo (2 * W + 1) (2 * H + 1))))) := by
  obtain ⟨ss0, ss1⟩ := sq_small s0 s1
  go_enter Try.func55, Try.ntmps55
  go_wp2
  go_loopw [9, 10] (fun s9 s10 wr => ∃ (y : Nat) (bst ox oy : Int), y ≤ 2 * H + 1 ∧ s10 = .int .i64 y ∧ s9 = .int .i64 bst ∧ Hid ((bst, (ox, oy)) = foldN s (px, py) (gridTo (2 * W + 1) y)) ∧ Bx wr (w.heap.size + 1 + 1) 30 #[.int .i64 ox, .int .i64 oy] ∧ Bx wr (w.heap.size) 30 #[.int .i64 px, .int .i64 py] ∧ Bx wr (w.heap.size + 1) 30 #[.int .i64 0, .int .i64 0] ∧ Below w.heap.size w wr) (fun _ s10 _ => 2 * H + 1 - (intOf s10).toNat)
  case atStart => exact ⟨0, _, 0, 0, Nat.zero_le _, rfl, rfl, hide rfl, (Bx.new_ ((w.alloc (.cells #[.int .i64 px, .int .i64 py] 30)).alloc (.cells #[.int .i64 0, .int .i64 0] 30)) (w.heap.size + 1 + 1) 30 #[.int .i64 0, .int .i64 0] (by simp)), ((Bx.new_ w (w.heap.size) 30 #[.int .i64 px, .int .i64 py] (by simp)).alloc (.cells #[.int .i64 0, .int .i64 0] 30)).alloc (.cells #[.int .i64 0, .int .i64 0] 30), (Bx.new_ (w.alloc (.cells #[.int .i64 px, .int .i64 py] 30)) (w.heap.size + 1) 30 #[.int .i64 0, .int .i64 0] (by simp)).alloc (.cells #[.int .i64 0, .int .i64 0] 30), (((Below.refl w.heap.size w).alloc (by first | omega | (simp; omega) | simp) (.cells #[.int .i64 px, .int .i64 py] 30)).alloc (by first | omega | (simp; omega) | simp) (.cells #[.int .i64 0, .int .i64 0] 30)).alloc (by first | omega | (simp; omega) | simp) (.cells #[.int .i64 0, .int .i64 0] 30)⟩
  case round =>
    obtain ⟨y, bst, ox, oy, hy, rfl, rfl, hf, p8, p4, p6, hB⟩ := hrel
    obtain ⟨wo, rfl⟩ : ∃ wo : World, wo = wr := ⟨_, rfl⟩
    have hz := hB.size
    have d0 := (hB.cell (p := ⟨b0, 0, none⟩) hb0).trans c0
    have d1 := (hB.cell (p := ⟨b0, 1, none⟩) hb0).trans c1
    by_cases hlt : y ≤ 2 * H
    · have hlt' : (y : Int) ≤ 2 * (H : Int) := by omega
      go_wp2_with fail
      go_loopw [9, 11] (fun s9 s11 wr => ∃ (x : Nat) (bst ox oy : Int), x ≤ 2 * W + 2 ∧ Hid ((x + y) % 2 = 1) ∧ s11 = .int .i64 x ∧ s9 = .int .i64 bst ∧ Hid ((bst, (ox, oy)) = foldN s (px, py) (gridTo (2 * W + 1) y ++ rowTo y x)) ∧ Bx wr (w.heap.size + 1 + 1) 30 #[.int .i64 ox, .int .i64 oy] ∧ Bx wr (w.heap.size) 30 #[.int .i64 px, .int .i64 py] ∧ Bx wr (w.heap.size + 1) 30 #[.int .i64 0, .int .i64 0] ∧ Below w.heap.size w wr) (fun _ s11 _ => 2 * W + 2 - (intOf s11).toNat)
      case atStart => exact ⟨1 - y % 2, bst, ox, oy, by omega, hide (by omega), by congr 1; omega, rfl, hide (by rw [rowTo_start, List.append_nil]; exact hf.out), p8, p4, p6, hB⟩
      case round =>
        clear p8 p4 p6 hB hf d0 d1 hz
        obtain ⟨x, bst, ox, oy, hx, hpar, rfl, rfl, hf, p8, p4, p6, hB⟩ := hrel
        have hz := hB.size
        have hp8 := p8.lt
        have d0 := (hB.cell (p := ⟨b0, 0, none⟩) hb0).trans c0
        have d1 := (hB.cell (p := ⟨b0, 1, none⟩) hb0).trans c1
        obtain ⟨p4a, p4b⟩ := p4.two
        by_cases hx2 : x ≤ 2 * W
        · have hx3 : (x : Int) ≤ 2 * (W : Int) := by omega
          have hN := foldN_snoc s (px, py) (gridTo (2 * W + 1) y ++ rowTo y x) ((x : Int), (y : Int))
          rw [List.append_assoc, ← rowTo_two hpar.out, ← hf.out] at hN
          unfold stepN at hN
          have HP : Hid ((x + 2 + y) % 2 = 1) := hide (by have := hpar.out; omega)
          clear hpar hf
          go_wp2_with fail
          refine (l19Square_any px py x y s _ p0 p1 p2 p3 (by omega) (by omega) (by omega) (by omega) s0 s1).mono ?_
          rintro e w2 ⟨rfl, hb2⟩
          have q4 := p4.below hb2
          have q6 := p6.below hb2
          have q8 := p8.below hb2
          have hB2 := hB.trans (hb2.mono hz)
          have hz2 := hb2.size
          obtain ⟨q8a, q8b⟩ := q8.two
          have q8f := q8.frozen 0
          have q8g := q8.frozen 1
          by_cases hd : sqP s (px, py) ((x : Int), (y : Int)) < bst
          · rw [if_pos hd] at hN
            have HN := hide hN.symm
            clear hN
            go_wp2_with fail
            go_roundw
            case rel => exact ⟨x + 2, _, _, _, by omega, HP, by go_num, rfl, HN, (q8.set_ 0 _).set_ 1 _, (q4.far (by simp; omega) _).far (by simp; omega) _, (q6.far (by simp) _).far (by simp) _, (hB2.setCell (by simp; omega) _).setCell (by simp; omega) _⟩
            case measure => simp [intOf]; omega
          · rw [if_neg hd] at hN
            have HN := hide hN.symm
            clear hN
            go_wp2_with fail
            go_roundw
            case rel => exact ⟨x + 2, _, _, _, by omega, HP, by go_num, rfl, HN, q8, q4, q6, hB2⟩
            case measure => simp [intOf]; omega
        · have hx3 : ¬ (x : Int) ≤ 2 * (W : Int) := by omega
          have HN : Hid ((bst, (ox, oy)) = foldN s (px, py) (gridTo (2 * W + 1) (y + 1))) := hide (by rw [hf.out, gridTo_next, rowTo_end (n := 2 * W + 1) hpar.out (by omega) (by omega)])
          clear hf hpar
          go_wp2_with fail
          go_roundw
          case rel => exact ⟨y + 1, bst, ox, oy, by omega, by go_num, rfl, HN, p8, p4, p6, hB⟩
          case measure => simp [intOf]; omega
    · have hlt' : ¬ (y : Int) ≤ 2 * (H : Int) := by omega
      have hf2 := hf.out
      rw [show y = 2 * H + 1 by omega] at hf2
      have HR : Hid (nearP s (px, py) (gridTo (2 * W + 1) (2 * H + 1)) = ((ox, oy), decide (bst ≤ s * s))) := hide (by unfold nearP; rw [← hf2])
      clear hf hf2
      have hp8 := p8.lt
      obtain ⟨p8a, p8b⟩ := p8.two
      obtain ⟨p6a, p6b⟩ := p6.two
      have p6f := p6.frozen 0
      have p6g := p6.frozen 1
      have r6 := (p6.set_ 0 (.int .i64 ox)).set_ 1 (.int .i64 oy)
      obtain ⟨r6a, r6b⟩ := r6.two
      go_wp2_with fail
      refine bodyPost_ret (v := .tuple #[.agg #[.int .i64 ox, .int .i64 oy], .bool (decide (bst ≤ s * s))]) (by simp [results, Try.results55, go_sem, r6a, r6b]) rfl ?_
      rw [HR.out]
      exact ⟨rfl, (hB.setCell (by simp) _).setCell (by simp) _⟩

/-- hands back a point, the one that is wanted where it is near -/
def RetNear (w : World) (q : (Int × Int) × Bool) (e : Ending) (w' : World) : Prop := ∃ r : (Int × Int) × Bool, e = .returned (nearV r) ∧ r.2 = q.2 ∧ (r.2 = true → r.1 = q.1) ∧ Below w.heap.size w w'
theorem sqP_flip (s px py x y : Int) : sqP s (px, py) (x, y) = (x * s - px) * (x * s - px) + (y * s - py) * (y * s - py) := by
  unfold sqP
  rw [sq_flip px, sq_flip py]
set_option maxHeartbeats 8000000 in
theorem nearest_any (W H : Nat) (A : Option Addr) (c n : Nat) (px py s : Int) (w : World)
    (hW : W ≤ 8) (hH : H ≤ 8) (hW1 : 1 ≤ W) (p0 : 0 ≤ px) (p1 : px ≤ 2000) (p2 : 0 ≤ py) (p3 : py ≤ 2000) (s0 : 2 ≤ s) (s1 : s ≤ 100) :
    Calls Try.prog 58 #[.agg #[.int .i64 W, .int .i64 H, .slice A n c], .agg #[.int .i64 px, .int .i64 py], .int .i64 s] w (RetNear w (nearP s (px, py) (gridTo (2 * W + 1) (2 * H + 1)))) := by
  obtain ⟨ss0, ss1⟩ := sq_small s0 s1
  have hgl := gridTo_len (2 * W + 1) (2 * H + 1)
  have hgl2 : (2 * H + 1) * (2 * W + 1) ≤ 17 * 17 := Nat.mul_le_mul (by omega) (by omega)
  have hgm : ∀ p ∈ gridTo (2 * W + 1) (2 * H + 1), (0 ≤ p.1 ∧ p.1 ≤ 17) ∧ (0 ≤ p.2 ∧ p.2 ≤ 17) := fun p hp => by
    have := gridTo_mem hp
    omega
  have hpos : ∃ l q, gridTo (2 * W + 1) (2 * H + 1) = l ++ [q] := by
    have h0 : 0 < (gridTo (2 * W + 1) (2 * H + 1)).length := by
      have h1 : ((1 : Int), (0 : Int)) ∈ gridTo (2 * W + 1) (2 * H + 1) := by
        unfold gridTo rowTo
        rw [List.mem_flatMap]
        refine ⟨0, by simp, ?_⟩
        rw [List.mem_map]
        exact ⟨1, by rw [List.mem_filter]; simp; omega, rfl⟩
      exact List.length_pos_of_mem h1
    exact ⟨_, _, (List.dropLast_concat_getLast (List.ne_nil_of_length_pos h0)).symm⟩
  have hall := fun W0 => allPoints_any W H A c n W0 hW hH
  obtain ⟨l, hl⟩ : ∃ l, l = gridTo (2 * W + 1) (2 * H + 1) := ⟨_, rfl⟩
  rw [← hl] at hgl hgm hpos hall
  have hM : 0 ≤ (foldM s (px, py) l).1 := by
    obtain ⟨l', q, e⟩ := hpos
    rw [e]
    exact foldM_pos s (px, py) l' q
  have hNM := nearP_M hM
  rw [← hl]
  have HA := hide hall
  have HNM := hide hNM
  have HG := hide hgm
  have hll : l.length ≤ 400 := by omega
  clear hall hNM hgm hpos hM hl hgl hgl2
  go_enter Try.func58, Try.ntmps58
  go_wp2_with fail
  refine (HA.out _).mono ?_
  rintro e w1 ⟨A1, c1, rfl, own, hb1⟩
  have p3_1 := ((((Bx.new_ w (w.heap.size) 49 #[.int .i64 W, .int .i64 H, .slice A n c] (by simp)).alloc (.cells #[.int .i64 px, .int .i64 py] 30)).alloc (.cells #[.int .i64 0, .int .i64 0] 30)).alloc (.cells #[.int .i64 0, .int .i64 0] 30)).below hb1
  obtain ⟨p3a_1, p3b_1, p3c_1⟩ := (p3_1).three
  have p4_1 := (((Bx.new_ (w.alloc (.cells #[.int .i64 W, .int .i64 H, .slice A n c] 49)) (w.heap.size + 1) 30 #[.int .i64 px, .int .i64 py] (by simp)).alloc (.cells #[.int .i64 0, .int .i64 0] 30)).alloc (.cells #[.int .i64 0, .int .i64 0] 30)).below hb1
  obtain ⟨p4a_1, p4b_1⟩ := (p4_1).two
  have p6_1 := ((Bx.new_ ((w.alloc (.cells #[.int .i64 W, .int .i64 H, .slice A n c] 49)).alloc (.cells #[.int .i64 px, .int .i64 py] 30)) (w.heap.size + 1 + 1) 30 #[.int .i64 0, .int .i64 0] (by simp)).alloc (.cells #[.int .i64 0, .int .i64 0] 30)).below hb1
  obtain ⟨p6a_1, p6b_1⟩ := (p6_1).two
  have p8_1 := (Bx.new_ (((w.alloc (.cells #[.int .i64 W, .int .i64 H, .slice A n c] 49)).alloc (.cells #[.int .i64 px, .int .i64 py] 30)).alloc (.cells #[.int .i64 0, .int .i64 0] 30)) (w.heap.size + 1 + 1 + 1) 30 #[.int .i64 0, .int .i64 0] (by simp)).below hb1
  obtain ⟨p8a_1, p8b_1⟩ := (p8_1).two
  have z_1 : ((((w.alloc (.cells #[.int .i64 W, .int .i64 H, .slice A n c] 49)).alloc (.cells #[.int .i64 px, .int .i64 py] 30)).alloc (.cells #[.int .i64 0, .int .i64 0] 30)).alloc (.cells #[.int .i64 0, .int .i64 0] 30)).heap.size ≤ w1.heap.size := hb1.size
  simp only [World.size_alloc] at z_1
  have B_1 := (((((Below.refl w.heap.size w).alloc (by first | omega | (simp; omega) | simp) (.cells #[.int .i64 W, .int .i64 H, .slice A n c] 49)).alloc (by first | omega | (simp; omega) | simp) (.cells #[.int .i64 px, .int .i64 py] 30)).alloc (by first | omega | (simp; omega) | simp) (.cells #[.int .i64 0, .int .i64 0] 30)).alloc (by first | omega | (simp; omega) | simp) (.cells #[.int .i64 0, .int .i64 0] 30)).trans (hb1.mono (by first | omega | (simp; omega) | simp))
  go_wp2_with fail
  go_loopw [9, 19] (fun s9 s19 wr => ∃ (k : Nat) (lst ox oy : Int), k ≤ l.length ∧ s19 = .int .i64 k ∧ s9 = .int .i64 lst ∧ Hid ((lst, (ox, oy)) = foldM s (px, py) (l.take k)) ∧ Bx wr (w.heap.size + 1 + 1 + 1) 30 #[.int .i64 ox, .int .i64 oy] ∧ RP wr A1 l ∧ Hid (blk A1 ≠ some (w.heap.size + 1 + 1 + 1)) ∧ Bx wr (w.heap.size + 1) 30 #[.int .i64 px, .int .i64 py] ∧ Bx wr (w.heap.size + 1 + 1) 30 #[.int .i64 0, .int .i64 0] ∧ Below w.heap.size w wr) (fun _ s19 _ => l.length - (intOf s19).toNat)
  case atStart => exact ⟨0, _, 0, 0, Nat.zero_le _, rfl, rfl, hide rfl, (p8_1), own.rd, hide (fun e => by have := (own.ge e).1; simp at this; omega), p4_1, p6_1, B_1⟩
  case round =>
    clear own
    obtain ⟨k, lst, ox, oy, hk, rfl, rfl, hf, q8, hr, hne, q4, q6, hB⟩ := hrel
    have hz := hB.size
    have hq8 := q8.lt
    by_cases hlt : k < l.length
    · obtain ⟨b, off, x, y, rfl, hb, hx, hc, hd⟩ := hr.at_ hlt
      obtain ⟨⟨x0, x1⟩, ⟨y0, y1⟩⟩ := HG.out _ (List.mem_of_getElem? hx)
      simp only at x0 x1 y0 y1
      have hN := foldM_snoc s (px, py) (l.take k) (x, y)
      rw [← take_nextN hx, ← hf.out] at hN
      unfold stepM at hN
      rw [sqP_flip] at hN
      simp only at hN
      obtain ⟨m1, m2⟩ := mul_scale (s := s) x0 x1 (by omega) s1
      obtain ⟨m3, m4⟩ := mul_scale (s := s) y0 y1 (by omega) s1
      obtain ⟨u1, u2⟩ := sq_bd (a := x * s - px) (by omega) (by omega)
      obtain ⟨u3, u4⟩ := sq_bd (a := y * s - py) (by omega) (by omega)
      have q4' := q4.alloc (.cells #[.int .i64 x, .int .i64 y] 30)
      obtain ⟨q4a, q4b⟩ := q4'.two
      have q8' := q8.alloc (.cells #[.int .i64 x, .int .i64 y] 30)
      obtain ⟨q8a, q8b⟩ := q8'.two
      have q8f := q8'.frozen 0
      have q8g := q8'.frozen 1
      have g8 : wr.heap.size ≠ w.heap.size + 1 + 1 + 1 := by omega
      have hne' := hne.out
      have hbne : b ≠ w.heap.size + 1 + 1 + 1 := fun e => hne' (by rw [e]; rfl)
      have w1' : IntKind.i64.wrap (x * s) = x * s := by rw [IntKind.wrap_i64]; omega
      have w2' : IntKind.i64.wrap (y * s) = y * s := by rw [IntKind.wrap_i64]; omega
      have w3' : IntKind.i64.wrap (x * s - px) = x * s - px := by rw [IntKind.wrap_i64]; omega
      have w4' : IntKind.i64.wrap (y * s - py) = y * s - py := by rw [IntKind.wrap_i64]; omega
      have W1 := hide w1'
      have W2 := hide w2'
      have W3 := hide w3'
      have W4 := hide w4'
      clear w1' w2' w3' w4' hx hne' hf
      have fin : ∀ n, RP ((wr.alloc (.cells #[.int .i64 x, .int .i64 y] 30)).drewN n) (some ⟨b, off, none⟩) l ∧ Bx ((wr.alloc (.cells #[.int .i64 x, .int .i64 y] 30)).drewN n) (w.heap.size + 1) 30 #[.int .i64 px, .int .i64 py] ∧ Bx ((wr.alloc (.cells #[.int .i64 x, .int .i64 y] 30)).drewN n) (w.heap.size + 1 + 1) 30 #[.int .i64 0, .int .i64 0] ∧ Bx ((wr.alloc (.cells #[.int .i64 x, .int .i64 y] 30)).drewN n) (w.heap.size + 1 + 1 + 1) 30 #[.int .i64 ox, .int .i64 oy] ∧ Below w.heap.size w ((wr.alloc (.cells #[.int .i64 x, .int .i64 y] 30)).drewN n) := fun n => ⟨(hr.alloc _).drewN _, (q4.alloc _).drewN _, (q6.alloc _).drewN _, (q8.alloc _).drewN _, below_drewN' (hB.alloc hz _) _⟩
      have FIN := hide fin
      clear fin
      go_wp2_with fail
      have w1' := W1.out
      have w2' := W2.out
      have w3' := W3.out
      have w4' := W4.out
      go_quiet (fail)
      clear w1' w2' w3' w4'
      by_cases t1 : lst < 0
      · have hc1 : lst < 0 ∨ (x * s - px) * (x * s - px) + (y * s - py) * (y * s - py) < lst := .inl t1
        rw [if_pos hc1] at hN
        clear hc1
        have HN := hide hN.symm
        clear hN
        go_wp2_with fail
        obtain ⟨f1, f2, f3, f4, f5⟩ := FIN.out _
        go_roundw
        case rel => exact ⟨k + 1, _, _, _, by omega, by go_num, rfl, HN, (f4.set_ 0 _).set_ 1 _, (f1.setCell (by intro e; exact hbne (blk_inj e)) _).setCell (by intro e; exact hbne (blk_inj e)) _, hne, (f2.far (by simp) _).far (by simp) _, (f3.far (by simp) _).far (by simp) _, (f5.setCell (by simp; omega) _).setCell (by simp; omega) _⟩
        case measure => simp [intOf]; omega
      · by_cases t2 : (x * s - px) * (x * s - px) + (y * s - py) * (y * s - py) < lst
        · rw [if_pos (.inr t2)] at hN
          have HN := hide hN.symm
          clear hN
          go_wp2_with fail
          obtain ⟨f1, f2, f3, f4, f5⟩ := FIN.out _
          go_roundw
          case rel => exact ⟨k + 1, _, _, _, by omega, by go_num, rfl, HN, (f4.set_ 0 _).set_ 1 _, (f1.setCell (by intro e; exact hbne (blk_inj e)) _).setCell (by intro e; exact hbne (blk_inj e)) _, hne, (f2.far (by simp) _).far (by simp) _, (f3.far (by simp) _).far (by simp) _, (f5.setCell (by simp; omega) _).setCell (by simp; omega) _⟩
          case measure => simp [intOf]; omega
        · rw [if_neg (by omega)] at hN
          have HN := hide hN.symm
          clear hN
          go_wp2_with fail
          obtain ⟨f1, f2, f3, f4, f5⟩ := FIN.out _
          go_roundw
          case rel => exact ⟨k + 1, _, _, _, by omega, by go_num, rfl, HN, f4, f1, hne, f2, f3, f5⟩
          case measure => simp [intOf]; omega
    · have hf2 := hf.out
      rw [List.take_of_length_le (by omega)] at hf2
      have h1 := HNM.out.1
      have h2 := HNM.out.2
      rw [← hf2] at h1 h2
      have HR := hide (And.intro h1 h2)
      clear hf hf2 h1 h2 hr
      obtain ⟨q8a, q8b⟩ := q8.two
      obtain ⟨q6a, q6b⟩ := q6.two
      have q6f := q6.frozen 0
      have q6g := q6.frozen 1
      have r6 := (q6.set_ 0 (.int .i64 ox)).set_ 1 (.int .i64 oy)
      obtain ⟨r6a, r6b⟩ := r6.two
      go_wp2_with fail
      refine bodyPost_ret (v := .tuple #[.agg #[.int .i64 ox, .int .i64 oy], .bool (decide (lst ≤ s * s))]) (by simp [results, Try.results58, go_sem, r6a, r6b]) rfl ?_
      exact ⟨((ox, oy), decide (lst ≤ s * s)), rfl, HR.out.1, fun h => HR.out.2 (HR.out.1 ▸ h), (hB.setCell (by simp; omega) _).setCell (by simp; omega) _⟩
end Go.Proofs.Ytbleipaekdhdmaa
