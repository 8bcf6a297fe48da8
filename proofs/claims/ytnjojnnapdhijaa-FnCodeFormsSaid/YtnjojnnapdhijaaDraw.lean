/-
  Contracts: the source of choices: the next byte, a number below n. Conditions: the numbers of bytes and of choices are far below the machine's.
-/
import Derived.Test.YtnjojnnapdhijaaOpenB
import Derived.Test.YtnjojnnapdhijaaGen
import Derived.Test.YtnjojnnapdhijaaPolyOk
import Derived.BigQuiet
import Derived.Laws.Bits64b
namespace Go.Proofs.Ytnjojnnapdhijaa
open Go.RowKit
set_option linter.unusedVariables false

theorem gr_trans {a w w' : World} {row : Option Nat} (h : a.grownBy w row) (k : w.grownBy w' row) : a.grownBy w' row :=
  ⟨k.os.trans h.os, k.tape.trans h.tape, k.output.trans h.output, Nat.le_trans h.size k.size, fun i hi hr => (k.block i (Nat.lt_of_lt_of_le hi h.size) hr).trans (h.block i hi hr)⟩
theorem gr_set (w : World) (b i : Nat) (v : Value) : w.grownBy (w.setCell ⟨b, i, none⟩ v) (some b) :=
  ⟨rfl, rfl, rfl, by rw [World.size_setCell]; exact Nat.le_refl _, fun j hj hr => Below.heap_setCell w ⟨b, i, none⟩ v j (fun e => hr (by rw [e]))⟩
theorem gr_draw {a w : World} {row : Option Nat} (h : a.grownBy w row) : a.grownBy w.drew row := ⟨h.os, h.tape, h.output, h.size, h.block⟩
theorem gr_below {a w w' : World} {row : Option Nat} (h : a.grownBy w row) (hb : Below w.heap.size w w') : a.grownBy w' row :=
  ⟨hb.os.trans h.os, hb.tape.trans h.tape, hb.output.trans h.output, Nat.le_trans h.size hb.size, fun i hi hr => (hb.block i (Nat.lt_of_lt_of_le hi h.size)).trans (h.block i hi hr)⟩
theorem gr_refl (w : World) (row : Option Nat) : w.grownBy w row := ⟨rfl, rfl, rfl, Nat.le_refl _, fun _ _ _ => rfl⟩
theorem gr_drewN {a w : World} {row : Option Nat} (h : a.grownBy w row) (n : Nat) : a.grownBy (w.drewN n) row := ⟨h.os, h.tape, h.output, h.size, h.block⟩
theorem gr_set_ {a w : World} {b : Nat} (h : a.grownBy w (some b)) {i : Nat} {v : Value} : a.grownBy (w.setCell ⟨b, i, none⟩ v) (some b) := gr_trans h (gr_set w b i v)
theorem rb_far {w : World} {A : Option Addr} {xs : List Int} (h : RB w A xs) {p : Addr} (hp : 0 < xs.length → blk A ≠ some p.block) (u : Value) : RB (w.setCell p u) A xs := by
  by_cases hz : xs.length = 0
  · have := List.eq_nil_of_length_eq_zero hz
    subst this
    exact Rd.nil _ _
  · exact Rd.setCell h (hp (by omega)) u
theorem rb_lt {w : World} {A : Option Addr} {xs : List Int} (h : RB w A xs) (hn : 0 < xs.length) {g : Nat} (hg : blk A = some g) : g < w.heap.size := Rd.lt h (by simpa using hn) hg
theorem gr_new {a w : World} {b : Nat} (h : a.grownBy w (some b)) {p : Addr} (hp : a.heap.size ≤ p.block) (u : Value) : a.grownBy (w.setCell p u) (some b) :=
  ⟨h.os, h.tape, h.output, by rw [World.size_setCell]; exact h.size, fun i hi hr => (Below.heap_setCell w p u i (by omega)).trans (h.block i hi hr)⟩
/-- The source of choices: a block with the bytes, the place and the seed. -/
def Sr (w : World) (b : Nat) (A : Option Addr) (c : Nat) (xs : List Int) (K : Nat) : Prop :=
  ∃ (k : Nat) (z : Int), k ≤ K ∧ 0 ≤ z ∧ z ≤ 18446744073709551615 ∧ Bx w b 101 #[.slice A xs.length c, .int .i64 k, .int .u64 z] ∧ RB w A xs ∧ (0 < xs.length → blk A ≠ some b)
section
variable {w w' : World} {b : Nat} {A : Option Addr} {c : Nat} {xs : List Int} {K : Nat}
theorem Sr.more {K' : Nat} (h : Sr w b A c xs K) (hk : K ≤ K') : Sr w b A c xs K' := by
  obtain ⟨k, z, h1, h2⟩ := h
  exact ⟨k, z, Nat.le_trans h1 hk, h2⟩
theorem Sr.lt (h : Sr w b A c xs K) : b < w.heap.size := by
  obtain ⟨k, z, _, _, _, h2, _⟩ := h
  exact h2.lt
theorem Sr.below (h : Sr w b A c xs K) (hb : Below w.heap.size w w') : Sr w' b A c xs K := by
  obtain ⟨k, z, h1, h2, h3, h4, h5, h6⟩ := h
  exact ⟨k, z, h1, h2, h3, h4.below hb, h5.below hb, h6⟩
theorem Sr.alloc (h : Sr w b A c xs K) (o : Obj) : Sr (w.alloc o) b A c xs K := by
  obtain ⟨k, z, h1, h2, h3, h4, h5, h6⟩ := h
  exact ⟨k, z, h1, h2, h3, h4.alloc o, Rd.alloc h5 o, h6⟩
theorem Sr.drew (h : Sr w b A c xs K) : Sr w.drew b A c xs K := h
theorem Sr.far (h : Sr w b A c xs K) {p : Addr} (hp : b ≠ p.block) (hA : 0 < xs.length → blk A ≠ some p.block) (u : Value) : Sr (w.setCell p u) b A c xs K := by
  obtain ⟨k, z, h1, h2, h3, h4, h5, h6⟩ := h
  exact ⟨k, z, h1, h2, h3, h4.far hp u, rb_far h5 hA u, h6⟩
end
theorem Sr.row_lt {w : World} {b : Nat} {A : Option Addr} {c : Nat} {xs : List Int} {K : Nat} (h : Sr w b A c xs K) (hn : 0 < xs.length) {g : Nat} (hg : blk A = some g) : g < w.heap.size := by
  obtain ⟨_, _, _, _, _, _, r, _⟩ := h
  exact rb_lt r hn hg
theorem Sr.grownOld {w0 w w' : World} {b : Nat} {A B : Option Addr} {c : Nat} {xs : List Int} {K0 K base : Nat} (h : Sr w b A c xs K) (h0 : Sr w0 b A c xs K0) (hB : ∀ g, blk B = some g → base ≤ g) (hs : w0.heap.size ≤ base) (hg : w.grownBy w' (blk B)) : Sr w' b A c xs K := by
  have hl := h0.lt
  obtain ⟨k, z, h1, h2, h3, h4, h5, h6⟩ := h
  obtain ⟨_, _, _, _, _, _, r0, _⟩ := h0
  exact ⟨k, z, h1, h2, h3, (hg.block b h4.lt (fun e => by have := hB b e.symm; omega)).trans h4, Rd.grownOld h5 r0 hB hs hg, h6⟩
theorem gr_own {a w w' : World} {b base : Nat} {B : Option Addr} (h : a.grownBy w (some b)) (hB : ∀ g, blk B = some g → base ≤ g) (hs : a.heap.size ≤ base) (hg : w.grownBy w' (blk B)) : a.grownBy w' (some b) :=
  ⟨hg.os.trans h.os, hg.tape.trans h.tape, hg.output.trans h.output, Nat.le_trans h.size hg.size, fun i hi hr => (hg.block i (Nat.lt_of_lt_of_le hi h.size) (fun e => by have := hB i e.symm; omega)).trans (h.block i hi hr)⟩
theorem seed_byte {z : Int} (h0 : 0 ≤ z) (h1 : z ≤ 18446744073709551615) : 0 ≤ wrap64 (bits BinOp.and IntKind.u64 (z / 1099511627776) 255) ∧ wrap64 (bits BinOp.and IntKind.u64 (z / 1099511627776) 255) ≤ 255 := by
  obtain ⟨n, rfl⟩ : ∃ n : Nat, z = (n : Int) := ⟨z.toNat, by omega⟩
  have e : (n : Int) / 1099511627776 = ((n / 1099511627776 : Nat) : Int) := by simp
  have h2 : n / 1099511627776 ≤ n := Nat.div_le_self _ _
  rw [e, show (255 : Int) = ((255 : Nat) : Int) from rfl, bits_and_u64_nat _ _ (by omega) (by omega)]
  have h3 : n / 1099511627776 &&& 255 ≤ 255 := Nat.and_le_right
  unfold wrap64
  omega

set_option maxRecDepth 20000 in
set_option maxHeartbeats 4000000 in
theorem srcNext_any (b : Nat) (A : Option Addr) (c : Nat) (xs : List Int) (K : Nat) (w : World) (h : Sr w b A c xs K) (hK : K ≤ 1000000) (hx : ∀ x ∈ xs, 0 ≤ x ∧ x ≤ 255) (hn : xs.length ≤ 1048576) :
    Calls Try.prog 100 #[.pointer (some ⟨b, 0, none⟩)] w fun e w' => ∃ x : Int, e = .returned (.int .i64 x) ∧ 0 ≤ x ∧ x ≤ 255 ∧ Sr w' b A c xs (K + 1) ∧ w.grownBy w' (some b) := by
  obtain ⟨k, z, hk, hz0, hz1, bx, rd, hne⟩ := h
  obtain ⟨ca, cb, cc⟩ := bx.three
  have f1 := bx.frozen 1
  have f2 := bx.frozen 2
  have hwk : IntKind.i64.wrap ((k : Int) + 1) = (k : Int) + 1 := by rw [IntKind.wrap_i64]; omega
  by_cases hlt : k < xs.length
  · obtain ⟨g, off, x, rfl, hg, hxk, hgc⟩ := rd.at_ hlt
    have hxb := hx x (List.mem_of_getElem? hxk)
    have hlt2 : (k : Int) < (xs.length : Int) := by omega
    have hle : (k : Int) + 1 ≤ (xs.length : Int) := by omega
    go_enter Try.func100, Try.ntmps100
    go_wp2_with fail
    go_quiet (fail)
    go_wp2_with fail
    go_quiet (fail)
    go_wp2_with fail
    go_quiet (fail)
    go_wp2_with fail
    go_ret
    refine ⟨x, rfl, hxb.1, hxb.2, ⟨k + 1, _, by omega, ?_, ?_, ((bx.drewN _).set_ 1 _).set_ 2 _, rb_far (rb_far rd hne _) hne _, hne⟩, gr_drewN (gr_set_ (gr_set_ (gr_drewN (gr_refl w _) _))) _⟩
    · rw [IntKind.wrap_u64]; omega
    · rw [IntKind.wrap_u64]; omega
  · have hlt2 : ¬ ((k : Int) < (xs.length : Int)) := by omega
    have hle : ¬ ((k : Int) + 1 ≤ (xs.length : Int)) := by omega
    go_enter Try.func100, Try.ntmps100
    go_wp2_with fail
    go_quiet (fail)
    go_wp2_with fail
    go_quiet (fail)
    go_wp2_with fail
    go_ret
    have hZ := seed_byte (z := IntKind.u64.wrap (IntKind.u64.wrap (IntKind.u64.wrap (z * 6364136223846793005)) + 1442695040888963407)) (by rw [IntKind.wrap_u64]; omega) (by rw [IntKind.wrap_u64]; omega)
    refine ⟨_, rfl, hZ.1, hZ.2, ⟨k + 1, _, by omega, ?_, ?_, ((bx.drewN _).set_ 1 _).set_ 2 _, rb_far (rb_far rd hne _) hne _, hne⟩, gr_drewN (gr_set_ (gr_set_ (gr_drewN (gr_refl w _) _))) _⟩
    · rw [IntKind.wrap_u64]; omega
    · rw [IntKind.wrap_u64]; omega
set_option maxHeartbeats 4000000 in
theorem pick_any (b : Nat) (A : Option Addr) (c : Nat) (xs : List Int) (K : Nat) (n : Int) (w : World) (h : Sr w b A c xs K) (hK : K ≤ 1000000) (hx : ∀ x ∈ xs, 0 ≤ x ∧ x ≤ 255) (hn : xs.length ≤ 1048576) (h1 : 1 < n) (h2 : n ≤ 200) :
    Calls Try.prog 54 #[.pointer (some ⟨b, 0, none⟩), .int .i64 n] w fun e w' => ∃ x : Int, e = .returned (.int .i64 x) ∧ 0 ≤ x ∧ x < n ∧ Sr w' b A c xs (K + 1) ∧ w.grownBy w' (some b) := by
  have HN := hide (srcNext_any b A c xs K w h hK hx hn)
  have d1 : ¬ (n ≤ 1) := by omega
  have d2 : ¬ ((200 : Int) < n) := by omega
  have d3 : (n == 0) = false := by simp; omega
  have d4 : n ≠ 0 := by omega
  go_enter Try.func54, Try.ntmps54
  go_wp2_with fail
  refine HN.out.mono ?_
  rintro e w1 ⟨x, rfl, hx0, hx1, hs, hg⟩
  go_wp2_with fail
  go_ret
  exact ⟨_, rfl, Int.emod_nonneg _ d4, Int.emod_lt_of_pos _ (by omega), hs, hg⟩
end Go.Proofs.Ytnjojnnapdhijaa
