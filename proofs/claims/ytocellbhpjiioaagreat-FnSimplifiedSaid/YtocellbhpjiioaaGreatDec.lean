/-
  Contracts: a number in decimal, of the reference and of the program. Conditions: the number is an int64.
-/
import Derived.Test.YtocellbhpjiioaaGreatPolyOkM
import Derived.Laws.IdiomStrings
import Derived.Laws.BytesArg
import Derived.Deep.WholeRow
import Derived.Outline
namespace Go.Proofs.YtocellbhpjiioaaGreat
open Go.RowKit
set_option linter.unusedVariables false

def dig (d : Nat) : UInt8 := UInt8.ofNat (48 + d)
theorem dig_toNat {d : Nat} (h : d < 10) : ((dig d).toNat : Int) = 48 + (d : Int) := by
  unfold dig
  rw [UInt8.toNat_ofNat_of_lt' (by simp [UInt8.size]; omega)]
  omega
/-- the digits of a number, none of zero -/
def decN (m : Nat) : List UInt8 := if h : m = 0 then [] else decN (m / 10) ++ [dig (m % 10)]
termination_by m
decreasing_by omega
theorem decN_zero : decN 0 = [] := by rw [decN]; simp
theorem decN_pos {m : Nat} (h : m ≠ 0) : decN m = decN (m / 10) ++ [dig (m % 10)] := by
  rw [decN, dif_neg h]
theorem decN_len : ∀ (k m : Nat), m < 10 ^ k → (decN m).length ≤ k
  | 0, m, h => by
    have : m = 0 := by simpa using h
    rw [this, decN_zero]
    simp
  | k + 1, m, h => by
    by_cases h0 : m = 0
    · rw [h0, decN_zero]; simp
    · rw [decN_pos h0, List.length_append, List.length_singleton]
      have := decN_len k (m / 10) (by rw [Nat.pow_succ] at h; omega)
      omega
theorem decN_ne {m : Nat} (h : m ≠ 0) : 0 < (decN m).length := by rw [decN_pos h]; simp
/-- a number in decimal -/
def decL (n : Int) : List UInt8 := if n = 0 then [48] else if n < 0 then 45 :: decN n.natAbs else decN n.natAbs

theorem conv_bytes {w : World} {A : Option Addr} {l : List UInt8} (h : RG byteE w A l) (c : Nat) : (convert 22 9 (.slice A l.length c)).run Tryz.prog w = .ok (str l) w := by
  rcases A with _ | ad
  · have hl : l = [] := by
      rcases Nat.eq_zero_or_pos l.length with h0 | h0
      · exact List.eq_nil_of_length_eq_zero h0
      · obtain ⟨b, off, x, e, _⟩ := h.row h0
        cases e
    subst hl
    exact run_convert_bytes_nil w 22 5 Tryz.underlying22 Tryz.underlying5 0 c 9 Tryz.underlying9
  · refine run_convert_bytes_back w 22 9 5 ad c l Tryz.underlying22 Tryz.underlying5 Tryz.underlying9 fun j hj => ?_
    obtain ⟨b, off, x, e, _, hx, hc⟩ := h.row hj
    injection e with e
    subst e
    rw [List.getElem?_eq_getElem hj] at hx
    injection hx with hx
    subst hx
    rw [Addr.add_lit]
    have := hc 0 _ rfl
    simpa [byteE] using this

set_option maxHeartbeats 4000000 in
set_option maxRecDepth 100000 in
theorem l01Dec_pos (n : Int) (w : World) (h0 : 0 ≤ n) (h1 : n ≤ 9223372036854775807) : Calls Tryz.prog 73 #[.int .i64 n] w (RetV w (str (decL n))) := by
  have he : Own byteE (w.alloc (.cells #[] 5)) w.heap.size (some ⟨w.heap.size, 0, none⟩) 0 [] := Own.new (E := byteE) w [] #[] rfl (Nat.le_refl _) (by simp)
  obtain ⟨M, rfl⟩ : ∃ M : Nat, n = (M : Int) := ⟨n.toNat, by omega⟩
  have HM := hide (show decL (M : Int) = if M = 0 then [48] else decN M by unfold decL; rw [if_neg (show ¬ (M : Int) < 0 by omega)]; simp)
  go_enter Tryz.func73, Tryz.ntmps73
  go_wp2
  go_loopw [3, 4] (fun o k wr => ∃ (m : Nat) (A1 : Option Addr) (c1 : Nat) (zs : List UInt8), m ≤ M ∧ k = .int .i64 m ∧ o = .slice A1 zs.length c1 ∧ Hid (decN M = decN m ++ zs) ∧ zs.length ≤ 30 ∧ Own byteE wr w.heap.size A1 c1 zs ∧ Below w.heap.size w wr) (fun _ k _ => (intOf k).toNat)
  case atStart => exact ⟨M, _, 0, [], Nat.le_refl _, rfl, rfl, hide (by simp), by simp, he, (Below.refl _ _).alloc (Nat.le_refl _) _⟩
  case round =>
    obtain ⟨m, A1, c1, zs, hm, rfl, rfl, hzs, hzl, own, hB⟩ := hrel
    clear he
    have hz := hB.size
    by_cases h0 : m = 0
    · have t0 : ((m : Int) != 0) = false := by simp [h0]
      have hz2 := hzs.out
      rw [h0, decN_zero, List.nil_append] at hz2
      have HZ := hide hz2
      have hcv := conv_bytes own.rd c1
      clear hz2 hzs h0
      by_cases hM : M = 0
      · have hl0 : zs.length = 0 := by rw [HZ.out.symm, hM, decN_zero]; rfl
        have hM2 := HM.out
        rw [if_pos hM] at hM2
        have HM2 := hide hM2
        clear hM hM2 hcv
        go_wp2_with fail
        go_ret
        rw [HM2.out]
        exact ⟨rfl, hB⟩
      · have hl0 : ((zs.length : Int) == 0) = false := by
          have := decN_ne hM
          rw [HZ.out] at this
          rw [beq_eq_false_iff_ne]
          omega
        have hM2 := HM.out
        rw [if_neg hM, HZ.out] at hM2
        have HM2 := hide hM2
        clear hM hM2
        go_wp2_with fail
        go_ret
        rw [HM2.out]
        exact ⟨rfl, hB⟩
    · have t0 : ((m : Int) != 0) = true := by rw [bne_iff_ne]; omega
      have HN : Hid (decN M = decN (m / 10) ++ (dig (m % 10) :: zs)) := hide (by rw [hzs.out, decN_pos h0, List.append_assoc]; rfl)
      have hl := decN_len 19 M (by omega)
      rw [HN.out, List.length_append, List.length_cons] at hl
      have hlz : (dig (m % 10) :: zs).length ≤ 30 := by rw [List.length_cons]; omega
      clear hl hzs
      go_wp2_with (at_builtin; refine wpList_append_row byteE rfl (.tmp 21) (.tmp 22) rfl w.heap.size (some ⟨wr.heap.size, 0, none⟩) 1 [dig (m % 10)] rfl (Own.new_ (E := byteE) wr _ [dig (m % 10)] #[.int .u8 (48 + (m : Int) % 10)] rfl (by simp [byteE, dig_toNat (Nat.mod_lt m (by omega))]) hz (by simp)) A1 c1 zs rfl (own.alloc _).rd (by simp; omega) (by simp [byteE]; omega) (by simp; omega) (dig (m % 10) :: zs) rfl ?_; intro A2 c2 w2 own2 hg2 hb2)
      go_roundw
      case rel => exact ⟨m / 10, A2, c2, _, by omega, by go_num, by simp, HN, hlz, own2, (hB.alloc (by omega) _).grown hg2 (by simp; omega) (fun k hk => by have := blk_inj hk; omega)⟩
      case measure => simp [intOf]; omega
set_option maxHeartbeats 4000000 in
set_option maxRecDepth 100000 in
theorem l01Dec_neg (n : Int) (w : World) (h0 : n < 0) (h1 : -9223372036854775808 ≤ n) : Calls Tryz.prog 73 #[.int .i64 n] w (RetV w (str (decL n))) := by
  have he : Own byteE (w.alloc (.cells #[] 5)) w.heap.size (some ⟨w.heap.size, 0, none⟩) 0 [] := Own.new (E := byteE) w [] #[] rfl (Nat.le_refl _) (by simp)
  obtain ⟨M, rfl⟩ : ∃ M : Nat, n = -(M : Int) := ⟨n.natAbs, by omega⟩
  have hMp : 0 < M := by omega
  have HM := hide (show decL (-(M : Int)) = 45 :: decN M by unfold decL; rw [if_neg (show ¬ -(M : Int) = 0 by omega), if_pos (show -(M : Int) < 0 by omega), Int.natAbs_neg, Int.natAbs_natCast])
  clear h0
  go_enter Tryz.func73, Tryz.ntmps73
  go_wp2
  go_loopw [3, 4] (fun o k wr => ∃ (m : Nat) (A1 : Option Addr) (c1 : Nat) (zs : List UInt8), m ≤ M ∧ k = .int .i64 (-(m : Int)) ∧ o = .slice A1 zs.length c1 ∧ Hid (decN M = decN m ++ zs) ∧ zs.length ≤ 30 ∧ Own byteE wr w.heap.size A1 c1 zs ∧ Below w.heap.size w wr) (fun _ k _ => (intOf k).natAbs)
  case atStart => exact ⟨M, _, 0, [], Nat.le_refl _, rfl, rfl, hide (by simp), by simp, he, (Below.refl _ _).alloc (Nat.le_refl _) _⟩
  case round =>
    obtain ⟨m, A1, c1, zs, hm, rfl, rfl, hzs, hzl, own, hB⟩ := hrel
    clear he
    have hz := hB.size
    by_cases h0 : m = 0
    · have t0 : (-(m : Int) != 0) = false := by simp [h0]
      have hz2 := hzs.out
      rw [h0, decN_zero, List.nil_append] at hz2
      have HZ := hide hz2
      have hcv := conv_bytes own.rd c1
      clear hz2 hzs h0
      have hl0 : ((zs.length : Int) == 0) = false := by
        have := decN_ne (show M ≠ 0 by omega)
        rw [HZ.out] at this
        rw [beq_eq_false_iff_ne]
        omega
      have hM2 := HM.out
      rw [HZ.out] at hM2
      have HM2 := hide hM2
      have hneg : 0 < (M : Int) := by omega
      have hadd : ∀ W : World, (binOp .add 9 (.string ⟨#[45]⟩) (str zs)).run Tryz.prog W = .ok (str (45 :: zs)) W := fun W => str_add W 9 [45] zs (by simp; omega)
      clear hM2
      go_wp2_with fail
      go_ret
      rw [HM2.out]
      exact ⟨rfl, hB⟩
    · have t0 : (-(m : Int) != 0) = true := by rw [bne_iff_ne]; omega
      have e1 : Int.tmod (-(m : Int)) 10 = -((m : Int) % 10) := by rw [Int.neg_tmod, Int.tmod_eq_emod_of_nonneg (by omega)]
      have e2 : Int.tdiv (-(m : Int)) 10 = -((m : Int) / 10) := by rw [Int.neg_tdiv, Int.tdiv_eq_ediv_of_nonneg (by omega)]
      have hb3 : (m : Int) % 10 < 10 := by omega
      have HN : Hid (decN M = decN (m / 10) ++ (dig (m % 10) :: zs)) := hide (by rw [hzs.out, decN_pos h0, List.append_assoc]; rfl)
      have hl := decN_len 19 M (by omega)
      rw [HN.out, List.length_append, List.length_cons] at hl
      have hlz : (dig (m % 10) :: zs).length ≤ 30 := by rw [List.length_cons]; omega
      clear hl hzs
      by_cases hd : m % 10 = 0
      · have hd2 : (m : Int) % 10 = 0 := by omega
        have HD : Hid (byteE.cells (dig (m % 10)) = [.int .u8 48]) := hide (by rw [hd]; rfl)
        clear hd
        go_wp2_with (at_builtin; refine wpList_append_row byteE rfl (.tmp 21) (.tmp 22) rfl w.heap.size (some ⟨wr.heap.size, 0, none⟩) 1 [dig (m % 10)] rfl (Own.new_ (E := byteE) wr _ [dig (m % 10)] #[.int .u8 48] rfl (by rw [List.flatMap_cons, HD.out]; rfl) hz (by simp)) A1 c1 zs rfl (own.alloc _).rd (by simp; omega) (by simp [byteE]; omega) (by simp; omega) (dig (m % 10) :: zs) rfl ?_; intro A2 c2 w2 own2 hg2 hb2)
        go_roundw
        case rel => exact ⟨m / 10, A2, c2, _, by omega, by go_num, by simp, HN, hlz, own2, (hB.alloc (by omega) _).grown hg2 (by simp; omega) (fun k hk => by have := blk_inj hk; omega)⟩
        case measure => simp [intOf]; omega
      · have hd2 : 0 < (m : Int) % 10 := by omega
        clear hd
        go_wp2_with (at_builtin; refine wpList_append_row byteE rfl (.tmp 21) (.tmp 22) rfl w.heap.size (some ⟨wr.heap.size, 0, none⟩) 1 [dig (m % 10)] rfl (Own.new_ (E := byteE) wr _ [dig (m % 10)] #[.int .u8 (48 + (m : Int) % 10)] rfl (by simp [byteE, dig_toNat (Nat.mod_lt m (by omega))]) hz (by simp)) A1 c1 zs rfl (own.alloc _).rd (by simp; omega) (by simp [byteE]; omega) (by simp; omega) (dig (m % 10) :: zs) rfl ?_; intro A2 c2 w2 own2 hg2 hb2)
        go_roundw
        case rel => exact ⟨m / 10, A2, c2, _, by omega, by go_num, by simp, HN, hlz, own2, (hB.alloc (by omega) _).grown hg2 (by simp; omega) (fun k hk => by have := blk_inj hk; omega)⟩
        case measure => simp [intOf]; omega

theorem l01Dec_any (n : Int) (w : World) (h : I64 n) : Calls Tryz.prog 73 #[.int .i64 n] w (RetV w (str (decL n))) := by
  by_cases h0 : n < 0
  · exact l01Dec_neg n w h0 h.1
  · exact l01Dec_pos n w (by omega) h.2

/-- twenty zero bytes -/
def z20 : Array Value := #[.int .u8 0, .int .u8 0, .int .u8 0, .int .u8 0, .int .u8 0, .int .u8 0, .int .u8 0, .int .u8 0, .int .u8 0, .int .u8 0, .int .u8 0, .int .u8 0, .int .u8 0, .int .u8 0, .int .u8 0, .int .u8 0, .int .u8 0, .int .u8 0, .int .u8 0, .int .u8 0]
theorem z20_one : z20.all (·.oneCell') = true := by unfold z20; kernel_rfl
theorem z20_size : (Tryz.prog.info? 88).map (·.size) = some z20.size := by kernel_rfl
theorem len20 : Tryz.prog.arrayLen 88 = 20 := by kernel_rfl
theorem und20 : Tryz.prog.underlying 88 = some (.array (Tryz.prog.arrayLen 88) (Tryz.prog.elem 88)) := by kernel_rfl
theorem elem20 : (Tryz.prog.info? (Tryz.prog.elem 88)).map (·.size) = some 1 := by kernel_rfl
theorem slice20 (W : World) (b p : Nat) (h : p < 20) : (Instr.sliceAt 88 (.pointer (some ⟨b, 0, none⟩)) (some (.int .i64 (p : Int))) none none).run Tryz.prog W = .ok (.slice (some ⟨b, p, none⟩) (20 - p) (20 - p)) W := by
  rw [run_sliceAt_array_l (P := Tryz.prog) W 88 ⟨b, 0, none⟩ und20 .i64 p (by omega) (by rw [len20]; omega)]
  have hs : (sizeOf (Tryz.prog.elem 88)).run Tryz.prog W = .ok 1 W := by
    have := elem20
    cases hq : Tryz.prog.info? (Tryz.prog.elem 88) with
    | none => rw [hq] at this; simp at this
    | some i => rw [hq] at this; simp at this; simp [sizeOf, typeInfo, hq, this]
  rw [hs]
  simp only [Result.andThen, slicedAt, len20, Int.toNat_natCast]
  rw [if_neg (by omega)]
  simp [Addr.add_lit]
/-- the last bytes of the twenty -/
def Bytes20 (cs : Array Value) (p : Nat) (zs : List UInt8) : Prop := cs.size = 20 ∧ p + zs.length = 20 ∧ ∀ j x, zs[j]? = some x → cs[p + j]? = some (.int .u8 (x.toNat : Int))
theorem Bytes20.next {cs : Array Value} {q d : Nat} {zs : List UInt8} (h : Bytes20 cs (q + 1) zs) (hd : d < 10) : Bytes20 (cs.setIfInBounds q (.int .u8 (48 + (d : Int)))) q (dig d :: zs) := by
  obtain ⟨h1, h2, h3⟩ := h
  refine ⟨by simpa using h1, by simp; omega, fun j x hx => ?_⟩
  cases j with
  | zero =>
    simp at hx
    subst hx
    rw [Nat.add_zero, Array.getElem?_setIfInBounds_self_of_lt (by omega), dig_toNat hd]
  | succ j =>
    simp at hx
    rw [Array.getElem?_setIfInBounds_ne (by omega), show q + (j + 1) = q + 1 + j by omega]
    exact h3 j x hx
theorem Bytes20.put {cs : Array Value} {q : Nat} {b : UInt8} {zs : List UInt8} (h : Bytes20 cs (q + 1) zs) : Bytes20 (cs.setIfInBounds q (.int .u8 (b.toNat : Int))) q (b :: zs) := by
  obtain ⟨h1, h2, h3⟩ := h
  refine ⟨by simpa using h1, by simp; omega, fun j x hx => ?_⟩
  cases j with
  | zero =>
    simp at hx
    subst hx
    rw [Nat.add_zero, Array.getElem?_setIfInBounds_self_of_lt (by omega)]
  | succ j =>
    simp at hx
    rw [Array.getElem?_setIfInBounds_ne (by omega), show q + (j + 1) = q + 1 + j by omega]
    exact h3 j x hx
theorem Bytes20.rd {cs : Array Value} {p b : Nat} {t : TypeId} {w : World} {zs : List UInt8} (h : Bytes20 cs p zs) (bx : Bx w b t cs) : RG byteE w (some ⟨b, p, none⟩) zs := fun hn => by
  refine ⟨b, p, rfl, fun j u hu => ?_⟩
  rw [flat_bytes, List.getElem?_map] at hu
  cases hx : zs[j]? with
  | none => rw [hx] at hu; simp at hu
  | some x =>
    rw [hx] at hu
    simp at hu
    subst hu
    rw [bx.cell]
    exact h.2.2 j x hx
theorem decimal_zero (w : World) : Calls Tryz.prog 38 #[.int .i64 0] w (RetV w (str (decL 0))) := by
  go_enter Tryz.func38, Tryz.ntmps38
  go_wp2
  go_ret
  exact ⟨rfl, Below.refl _ _⟩
set_option maxHeartbeats 4000000 in
set_option maxRecDepth 100000 in
theorem decimal_pos (n : Int) (w : World) (h0 : 0 < n) (h1 : n ≤ 9223372036854775807) : Calls Tryz.prog 38 #[.int .i64 n] w (RetV w (str (decL n))) := by
  obtain ⟨M, rfl⟩ : ∃ M : Nat, n = (M : Int) := ⟨n.toNat, by omega⟩
  have HM := hide (show decL (M : Int) = decN M by unfold decL; rw [if_neg (show ¬ (M : Int) = 0 by omega), if_neg (show ¬ (M : Int) < 0 by omega)]; rfl)
  have t0 : ((M : Int) == 0) = false := by rw [beq_eq_false_iff_ne]; omega
  have e1 : IntKind.u64.wrap (M : Int) = (M : Int) := by rw [IntKind.wrap_u64]; omega
  go_enter Tryz.func38, Tryz.ntmps38
  go_wp2_with (refine wpList_store_row rfl 88 (.tmp 3) (.tmp 8) rfl w.heap.size z20 rfl rfl 88 z20 (heap_alloc_last w _) z20_size rfl z20_one ?_; rw [World.setRow_alloc_new])
  go_loopw [4, 5] (fun s4 s5 wr => ∃ (m p : Nat) (cs : Array Value) (zs : List UInt8), m ≤ M ∧ s5 = .int .u64 m ∧ s4 = .int .i64 p ∧ p ≤ 20 ∧ Hid (decN M = decN m ++ zs) ∧ Hid (Bytes20 cs p zs) ∧ Bx wr w.heap.size 88 cs ∧ Below w.heap.size w wr) (fun _ k _ => (intOf k).toNat)
  case atStart => exact ⟨M, 20, z20, [], Nat.le_refl _, rfl, rfl, Nat.le_refl _, hide (by simp), hide ⟨rfl, rfl, fun j x h => by simp at h⟩, Bx.new _ _ _, (Below.refl _ _).alloc (Nat.le_refl _) _⟩
  case round =>
    obtain ⟨m, p, cs, zs, hm, rfl, rfl, hp20, hzs, hby, bx, hB⟩ := hrel
    have hz := hB.size
    obtain ⟨hcs, hpl, hcc⟩ := hby.out
    by_cases hm0 : m = 0
    · have hz2 := hzs.out
      rw [hm0, decN_zero, List.nil_append] at hz2
      have hm3 : ¬ (0 < (m : Int)) := by omega
      have hpz := decN_ne (show M ≠ 0 by omega)
      rw [hz2] at hpz
      have hlt : p < 20 := by omega
      have hcv := conv_bytes (hby.out.rd bx) zs.length
      rw [show zs.length = 20 - p by omega] at hcv
      have hsl := slice20 wr w.heap.size p hlt
      have HZ := hide (HM.out.trans hz2)
      clear hz2 hzs hby hpz hcc hcs hpl hm0 HM
      go_wp2_with fail
      go_ret
      rw [HZ.out]
      exact ⟨rfl, hB⟩
    · have hz2 := hzs.out
      rw [decN_pos hm0, List.append_assoc] at hz2
      have hl := decN_len 19 M (by omega)
      rw [hz2, List.length_append, List.length_append, List.length_singleton] at hl
      obtain ⟨q, rfl⟩ : ∃ q, p = q + 1 := ⟨p - 1, by omega⟩
      have hq20 : q < 20 := by omega
      obtain ⟨u, hc⟩ : ∃ u, wr.cell? ⟨w.heap.size, q, none⟩ = some u := ⟨_, by rw [bx.cell, Array.getElem?_eq_getElem (by omega)]⟩
      have hf := bx.frozen q
      have hm3 : 0 < (m : Int) := by omega
      have HN : Hid (decN M = decN (m / 10) ++ (dig (m % 10) :: zs)) := hide hz2
      have HY := hide (hby.out.next (d := m % 10) (by omega))
      have hb3 : (m : Int) % 10 < 10 := by omega
      clear hz2 hzs hby hcc hcs hpl hl
      go_wp2_with fail
      go_roundw
      case rel => exact ⟨m / 10, q, _, _, by omega, by go_num, by go_num, by omega, HN, HY, bx.set_ _ _, hB.setCell (Nat.le_refl _) _⟩
      case measure => simp [intOf]; omega
set_option maxHeartbeats 4000000 in
set_option maxRecDepth 100000 in
theorem decimal_neg (n : Int) (w : World) (h0 : n < 0) (h1 : -9223372036854775808 ≤ n) : Calls Tryz.prog 38 #[.int .i64 n] w (RetV w (str (decL n))) := by
  obtain ⟨M, rfl⟩ : ∃ M : Nat, n = -(M : Int) := ⟨n.natAbs, by omega⟩
  have hMp : 0 < (M : Int) := by omega
  have HM := hide (show decL (-(M : Int)) = 45 :: decN M by unfold decL; rw [if_neg (show ¬ -(M : Int) = 0 by omega), if_pos (show -(M : Int) < 0 by omega), Int.natAbs_neg, Int.natAbs_natCast])
  clear h0
  have t0 : (-(M : Int) == 0) = false := by rw [beq_eq_false_iff_ne]; omega
  have e1 : IntKind.u64.wrap (-(M : Int)) = 18446744073709551616 - (M : Int) := by rw [IntKind.wrap_u64]; omega
  have e2 : IntKind.u64.wrap (-(18446744073709551616 - (M : Int))) = (M : Int) := by rw [IntKind.wrap_u64]; omega
  have e3 : IntKind.u64.wrap ((M : Int) - 18446744073709551616) = (M : Int) := by rw [IntKind.wrap_u64]; omega
  go_enter Tryz.func38, Tryz.ntmps38
  go_wp2_with (refine wpList_store_row rfl 88 (.tmp 3) (.tmp 8) rfl w.heap.size z20 rfl rfl 88 z20 (heap_alloc_last w _) z20_size rfl z20_one ?_; rw [World.setRow_alloc_new])
  go_loopw [4, 5] (fun s4 s5 wr => ∃ (m p : Nat) (cs : Array Value) (zs : List UInt8), m ≤ M ∧ s5 = .int .u64 m ∧ s4 = .int .i64 p ∧ p ≤ 20 ∧ Hid (decN M = decN m ++ zs) ∧ Hid (Bytes20 cs p zs) ∧ Bx wr w.heap.size 88 cs ∧ Below w.heap.size w wr) (fun _ k _ => (intOf k).toNat)
  case atStart => exact ⟨M, 20, z20, [], Nat.le_refl _, rfl, rfl, Nat.le_refl _, hide (by simp), hide ⟨rfl, rfl, fun j x h => by simp at h⟩, Bx.new _ _ _, (Below.refl _ _).alloc (Nat.le_refl _) _⟩
  case round =>
    obtain ⟨m, p, cs, zs, hm, rfl, rfl, hp20, hzs, hby, bx, hB⟩ := hrel
    have hz := hB.size
    obtain ⟨hcs, hpl, hcc⟩ := hby.out
    by_cases hm0 : m = 0
    · have hz2 := hzs.out
      rw [hm0, decN_zero, List.nil_append] at hz2
      have hm3 : ¬ (0 < (m : Int)) := by omega
      have hpz := decN_ne (show M ≠ 0 by omega)
      rw [hz2] at hpz
      have hl := decN_len 19 M (by omega)
      rw [hz2] at hl
      obtain ⟨q, rfl⟩ : ∃ q, p = q + 1 := ⟨p - 1, by omega⟩
      have hlt : q < 20 := by omega
      have hb2 := hby.out.put (b := 45)
      have bx2 := bx.set_ q (.int .u8 45)
      have hcv := conv_bytes (hb2.rd bx2) (20 - q)
      rw [show (45 :: zs : List UInt8).length = 20 - q by rw [List.length_cons]; omega] at hcv
      have hsl := slice20 (wr.setCell ⟨w.heap.size, q, none⟩ (.int .u8 45)) w.heap.size q hlt
      have HZ : Hid (decL (-(M : Int)) = 45 :: zs) := hide (by rw [HM.out, hz2])
      obtain ⟨u, hc⟩ : ∃ u, wr.cell? ⟨w.heap.size, q, none⟩ = some u := ⟨_, by rw [bx.cell, Array.getElem?_eq_getElem (by omega)]⟩
      have hf := bx.frozen q
      clear hz2 hzs hby hpz hcc hcs hpl hm0 HM hb2 bx2 hl
      go_wp2_with fail
      go_ret
      rw [HZ.out]
      exact ⟨rfl, hB.setCell (Nat.le_refl _) _⟩
    · have hz2 := hzs.out
      rw [decN_pos hm0, List.append_assoc] at hz2
      have hl := decN_len 19 M (by omega)
      rw [hz2, List.length_append, List.length_append, List.length_singleton] at hl
      obtain ⟨q, rfl⟩ : ∃ q, p = q + 1 := ⟨p - 1, by omega⟩
      have hq20 : q < 20 := by omega
      obtain ⟨u, hc⟩ : ∃ u, wr.cell? ⟨w.heap.size, q, none⟩ = some u := ⟨_, by rw [bx.cell, Array.getElem?_eq_getElem (by omega)]⟩
      have hf := bx.frozen q
      have hm3 : 0 < (m : Int) := by omega
      have HN : Hid (decN M = decN (m / 10) ++ (dig (m % 10) :: zs)) := hide hz2
      have HY := hide (hby.out.next (d := m % 10) (by omega))
      have hb3 : (m : Int) % 10 < 10 := by omega
      clear hz2 hzs hby hcc hcs hpl hl
      go_wp2_with fail
      go_roundw
      case rel => exact ⟨m / 10, q, _, _, by omega, by go_num, by go_num, by omega, HN, HY, bx.set_ _ _, hB.setCell (Nat.le_refl _) _⟩
      case measure => simp [intOf]; omega

theorem decimal_any (n : Int) (w : World) (h : I64 n) : Calls Tryz.prog 38 #[.int .i64 n] w (RetV w (str (decL n))) := by
  rcases Int.lt_trichotomy n 0 with h0 | h0 | h0
  · exact decimal_neg n w h0 h.1
  · rw [h0]
    exact decimal_zero w
  · exact decimal_pos n w h0 h.2
theorem decL_len {n : Int} (h : I64 n) : (decL n).length ≤ 20 := by
  obtain ⟨h1, h2⟩ := h
  have := decN_len 19 n.natAbs (by omega)
  unfold decL
  split
  · simp
  · split
    · rw [List.length_cons]; omega
    · omega
end Go.Proofs.YtocellbhpjiioaaGreat
