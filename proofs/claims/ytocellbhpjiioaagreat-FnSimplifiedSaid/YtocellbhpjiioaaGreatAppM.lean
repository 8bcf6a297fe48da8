/-
  A law's argument of bytes, opened to the cells that a walk reads. Conditions: none.
  Contracts of the laws' helpers over a slice of int64: copy, size, equality, marks. Conditions: the lengths are far below the machine's.
  append onto a row of ints that the call made; copies of a slice of ints. Conditions: the lengths are far below the machine's.
-/
import Derived.Test.YtocellbhpjiioaaGreatOpenM
import Derived.Test.YtocellbhpjiioaaGreatRows
import Derived.BigQuiet
import Derived.Deep.RegionHeld3
import Derived.Deep.DeepCutAuto
import Derived.Maps.AppendAt
namespace Go.Proofs.YtocellbhpjiioaaGreat
open Go.ChangeShapes Go.WideShapes Go.ChangeAt Go.RowKit Go.Deep Go.Joins
set_option linter.unusedVariables false

/-- The slice that begins at A reads as these bytes. -/
def RB (w : World) (A : Option Addr) (xs : List Int) : Prop := Rd w A (xs.map (Value.int .u8))
/-- What is known of a slice of bytes that came in. -/
def ArgB (w : World) (A : Option Addr) (c : Nat) (xs : List Int) : Prop := xs.length ≤ c ∧ c ≤ 9223372036854775807 ∧ RB w A xs ∧ ∀ x ∈ xs, 0 ≤ x ∧ x ≤ 255
theorem u8_of {n : Int} (h : (Lit.int .u8 n).wf = true) : 0 ≤ n ∧ n ≤ 255 := by
  simpa [Lit.wf, IntKind.min, IntKind.max, IntKind.signed, IntKind.bits] using h
theorem RB.at_ {w : World} {A : Option Addr} {xs : List Int} (h : RB w A xs) {k : Nat} (hk : k < xs.length) :
    ∃ b off x, A = some ⟨b, off, none⟩ ∧ b < w.heap.size ∧ xs[k]? = some x ∧ w.cell? ⟨b, off + k, none⟩ = some (.int .u8 x) := by
  obtain ⟨b, off, u, e, hb, hu, hc⟩ := Rd.at_ h (k := k) (by simpa using hk)
  rw [List.getElem?_map] at hu
  cases hx : xs[k]? with
  | none => rw [hx] at hu; simp at hu
  | some x =>
    rw [hx] at hu
    simp at hu
    exact ⟨b, off, x, e, hb, rfl, by rw [hc, hu]⟩
theorem RB.below {w w' : World} {A : Option Addr} {xs : List Int} (h : RB w A xs) (hb : Below w.heap.size w w') : RB w' A xs := Rd.below h hb
section
variable {H : Type} {enc : TypeId × Value → H} {P : Program} {w : World} {base : Nat} {spare : Nat → Bool} {held : Bool} {fuel : Nat}
theorem trod_bytes {t e : TypeId} {v : Value} {x : DataW H × List MemPlace} (ht : P.underlying t = some (.slice e)) (he : P.underlying e = some (.int .u8)) (hC : P.cellsOf e = 1)
    (h : DataW.trod enc P w base spare held fuel t [v] = some x) : ∃ A c xs, v = .slice A (List.length xs) c ∧ ArgB w A c xs := by
  rcases open_ints ht he hC h with ⟨hcs, _⟩ | ⟨a, l, c, zs, hcs, _, hl, hm, hz, _, hcell, hwz⟩
  · injection hcs with hv
    exact ⟨none, 0, [], hv, by simp, by omega, Rd.nil _ _, by simp⟩
  · injection hcs with hv
    have hlz : l ≤ zs.length := by rw [hz]; split <;> omega
    have hlen : (zs.take l).length = l := by rw [List.length_take]; omega
    refine ⟨some a, c, zs.take l, by rw [hlen]; exact hv, by omega, by simpa [maxLen] using hm, ?_, fun x hx => u8_of (hwz x (List.mem_of_mem_take hx))⟩
    refine rd_of_cells fun j u hu => ?_
    rw [List.getElem?_map] at hu
    cases hx : (zs.take l)[j]? with
    | none => rw [hx] at hu; simp at hu
    | some y =>
      rw [hx] at hu
      simp at hu
      subst hu
      have hj : j < l := by
        have := (List.getElem?_eq_some_iff.1 hx).1
        omega
      rw [List.getElem?_take, if_pos hj] at hx
      rw [hcell j (by omega), List.getD_eq_getElem?_getD, hx]
      rfl
theorem open_bytes {r : Reach} {b0 : Nat} {t e : TypeId} {v : Value} {d : DataW H} {p : List MemPlace} (ht : P.underlying t = some (.slice e)) (he : P.underlying e = some (.int .u8)) (hC : P.cellsOf e = 1)
    (hv : Value.okWide P w r b0 t v) (h : DataW.Trod enc P w base (fun _ => true) held t v d p) : ∃ A c xs, v = .slice A (List.length xs) c ∧ ArgB w A c xs := by
  obtain ⟨A, len, cap, rfl⟩ := okWide_slice ht hv
  obtain ⟨m, hm⟩ := h
  exact trod_bytes ht he hC (by simpa [Value.cells] using hm)
end
end Go.Proofs.YtocellbhpjiioaaGreat

namespace Go.Proofs.YtocellbhpjiioaaGreat
open Go.RowKit
set_option linter.unusedVariables false

theorem info_i64 : (Tryz.prog.info? 2).map (fun i => (i.zero, i.size, i.bytes)) = some (some (.int .i64 0), 1, 8) := by kernel_rfl

/-- A function that hands back a slice of ints of its own. -/
def RetI (w : World) (xs : List Int) (e : Ending) (w' : World) : Prop :=
  ∃ A c, e = .returned (.slice A xs.length c) ∧ OwnI w' w.heap.size A c xs ∧ Below w.heap.size w w'

theorem run_make_i64 (n : Nat) (hn : n ≤ 35184372088832) (W : World) :
    (Instr.makeSlice 65 (.int .i64 (n : Int)) (.int .i64 (n : Int))).run Tryz.prog W = .ok (.slice (some ⟨W.heap.size, 0, none⟩) n n) (W.alloc (.cells (madeCells #[.int .i64 0] n) 2)) := by
  obtain ⟨i0, hi, hz0, hz1, hz2⟩ := info_parts info_i64
  have hr := run_make (P := Tryz.prog) W 65 2 i0 (.int .i64 0) Tryz.underlying65 hi hz0 .i64 .i64 n n (by omega) (by omega) (by rw [hz2]; omega) (by omega)
  rw [hz1] at hr
  simp only [Int.toNat_natCast, Nat.mul_one] at hr
  exact hr

theorem OwnI.made (w : World) {base : Nat} (n : Nat) {m : Nat} (hn : n = w.heap.size) (hb : base ≤ w.heap.size) (hm : m ≤ 9223372036854775807) :
    OwnI (w.alloc (.cells (madeCells #[.int .i64 0] m) 2)) base (some ⟨n, 0, none⟩) m (List.replicate m 0) := by
  subst hn
  have := OwnI.new w (base := base) (List.replicate m 0) (madeCells #[.int .i64 0] m) (by rw [toList_madeCells_one]; simp) hb (by simp [maxLen]; omega)
  simpa using this

theorem OwnI.cap_ {w : World} {base : Nat} {A : Option Addr} {c : Nat} {xs : List Int} (h : OwnI w base A c xs) : xs.length ≤ c ∧ c ≤ 9223372036854775807 := by simpa [maxLen] using h.cap

theorem take_set_next (xs ys : List Int) (k : Nat) (x : Int) (hx : xs[k]? = some x) (hy : ys.length = xs.length) (ht : ys.take k = xs.take k) :
    (ys.set k x).take (k + 1) = xs.take (k + 1) := by
  apply List.ext_getElem?
  intro j
  have hk : k < xs.length := (List.getElem?_eq_some_iff.1 hx).1
  have h := congrArg (fun l : List Int => l[j]?) ht
  simp only [List.getElem?_take] at h ⊢
  by_cases h1 : j < k + 1
  · rw [if_pos h1, if_pos h1]
    by_cases h2 : j = k
    · subst h2; rw [hx]; simp [hy, hk]
    · rw [if_pos (by omega), if_pos (by omega)] at h
      rw [List.getElem?_set_ne (by omega)]; exact h
  · rw [if_neg h1, if_neg h1]

/-- A function that only reads: its value, and some draws. -/
def RetQ (w : World) (v : Value) (e : Ending) (w' : World) : Prop := e = .returned v ∧ ∃ n, w' = w.drewN n

theorem take_eq_all {xs ys : List Int} {k : Nat} (hl : xs.length = ys.length) (hk : k = xs.length) (h : xs.take k = ys.take k) : xs = ys := by
  rw [hk, List.take_of_length_le (Nat.le_refl _), List.take_of_length_le (by omega)] at h
  exact h
theorem take_eq_next {xs ys : List Int} {k : Nat} {x : Int} (hx : xs[k]? = some x) (hy : ys[k]? = some x) (h : xs.take k = ys.take k) : xs.take (k + 1) = ys.take (k + 1) := by
  rw [List.take_add_one, List.take_add_one, h, hx, hy]
theorem ne_at {xs ys : List Int} {k : Nat} {x y : Int} (hx : xs[k]? = some x) (hy : ys[k]? = some y) (h : x ≠ y) : decide (xs = ys) = false := by
  apply decide_eq_false
  intro e
  rw [e, hy] at hx
  injection hx with hx
  exact h hx.symm
theorem ne_len {xs ys : List Int} (h : xs.length ≠ ys.length) : decide (xs = ys) = false := by
  apply decide_eq_false
  intro e
  exact h (by rw [e])

/-- k, k + 1, .. -/
def marks (k : Int) (n : Nat) : List Int := (List.range n).map fun i : Nat => k + (i : Int)
theorem marks_length (k : Int) (n : Nat) : (marks k n).length = n := by simp [marks]
theorem marks_at (k : Int) {n j : Nat} (h : j < n) : (marks k n)[j]? = some (k + j) := by simp [marks, h]
theorem marks_set (k : Int) {xs : List Int} {j : Nat} (hj : j < xs.length) (h : xs.take j = marks k j) : (xs.set j (k + j)).take (j + 1) = marks k (j + 1) := by
  have hm : marks k (j + 1) = marks k j ++ [k + j] := by simp [marks, List.range_succ]
  rw [List.take_add_one, List.getElem?_set_self hj, List.take_set_of_le (Nat.le_refl _), h, hm]
  rfl

end Go.Proofs.YtocellbhpjiioaaGreat

namespace Go.Proofs.YtocellbhpjiioaaGreat
open Go.RowKit
set_option linter.unusedVariables false

section
variable {P : Program} (w : World)
theorem run_append_of_nil (base : Nat) (t ty e : TypeId) (i : TypeInfo) (size : Nat) (ht : P.underlying t = some (.slice e)) (hi : P.info? e = some i)
    (v : Value) (n : Nat) (xs : List Value) (hown : w.ownsRow base e size v n xs) (c : Nat) : (Builtin.append_ #[t, t] ty #[v, .slice none 0 c]).run P w = .ok v w := by
  rcases hown.2 with ⟨rfl, rfl⟩ | ⟨g, cap, cur, rfl, _, _, hnc, _⟩
  · simp [Builtin.append_, run_underlying ht, sizeOf, typeInfo, hi, Builtin.lenOf, Builtin.firstCells]
  · simp [Builtin.append_, run_underlying ht, sizeOf, typeInfo, hi, Builtin.lenOf, Builtin.firstCells, hnc, storeCells]

/-- append onto a row of the call's own, the source nil, empty or not. -/
theorem run_append_rd (base : Nat) (t ty e : TypeId) (i : TypeInfo) (z : Value) (size bytes : Nat) (ht : P.underlying t = some (.slice e)) (hi : P.info? e = some i) (hz : i.zero = some z)
    (hsize : i.size = size) (hby : i.bytes = bytes) (hzs : z.cells.size = size) (hsz : 0 < size)
    (v : Value) (n : Nat) (xs : List Value) (hown : w.ownsRow base e size v n xs)
    (A : Option Addr) (m c : Nat) (news : List Value) (hl : news.length = m * size) (hr : Rd w A news) (h1 : ∀ u ∈ news, u.oneCell' = true)
    (h63 : n + m ≤ maxLen) (hbytes : (n + m) * bytes ≤ 140737488355328) (hbase : base ≤ w.heap.size) :
    ∃ v' w', (Builtin.append_ #[t, t] ty #[v, .slice A m c]).run P w = .ok v' w' ∧ w'.ownsRow base e size v' (n + m) (xs ++ news) ∧ w.grownBy w' v.ownBlock ∧
      (v'.ownBlock = v.ownBlock ∨ v'.ownBlock = some w.heap.size) := by
  rcases A with _ | ad
  · have hm : m = 0 := by
      rcases Nat.eq_zero_or_pos m with h0 | h0
      · exact h0
      · obtain ⟨b, off, h, _⟩ := hr (by rw [hl]; exact Nat.mul_pos h0 hsz)
        cases h
    subst hm
    have hn : news = [] := List.eq_nil_of_length_eq_zero (by simpa using hl)
    subst hn
    exact ⟨v, w, run_append_of_nil w base t ty e i size ht hi v n xs hown c, by simpa using hown, World.grownBy.refl w _, .inl rfl⟩
  · have hcells : ∀ j u, news[j]? = some u → w.cell? (ad.add j) = some u := by
      intro j u hu
      obtain ⟨b, off, h, hc⟩ := hr (by have := (List.getElem?_eq_some_iff.1 hu).1; omega)
      injection h with h
      subst h
      rw [Addr.add_lit]
      exact hc j u hu
    obtain ⟨v', w', hrun, h2, h3, _, h5⟩ := run_append_own_at (P := P) w base t ty e i z size bytes ht hi hz hsize hby hzs hsz v n xs hown ad m c news hl hcells h1 h63 hbytes hbase
    exact ⟨v', w', hrun, h2, h3, h5⟩
end

theorem own_shape {w : World} {base : Nat} {e : TypeId} {size : Nat} {v : Value} {n : Nat} {xs : List Value} (h : w.ownsRow base e size v n xs) : ∃ A c, v = .slice A n c ∧ v.ownBlock = blk A := by
  rcases h.2 with ⟨rfl, rfl⟩ | ⟨g, cap, cur, rfl, _⟩
  · exact ⟨none, 0, rfl, rfl⟩
  · exact ⟨_, _, rfl, rfl⟩
theorem ownBlock_blk (A : Option Addr) (n c : Nat) : (Value.slice A n c).ownBlock = blk A := by cases A <;> rfl

/-- The walk's law: out = append(out, src...), both slices of ints. -/
theorem wpList_append_ints {ops : Array Oper} {rest : List Oper} {o : Oper} {a : Act} {w : World} {Q : Exit → Act → World → Prop} (hgd : o.guard = none) (s x : Operand)
    (ho : o.op = .call { callee := .builtin .append, args := #[s, x], argTypes := #[65, 65] })
    (base : Nat) (A : Option Addr) (c : Nat) (xs : List Int) (hs : a.eval s = .slice A xs.length c) (hown : OwnI w base A c xs)
    (B : Option Addr) (d : Nat) (ys : List Int) (hx : a.eval x = .slice B ys.length d) (hr : RI w B ys)
    (hlen : xs.length + ys.length ≤ 17592186044416) (hbase : base ≤ w.heap.size) (zs : List Int) (hzs : zs = xs ++ ys)
    (h : ∀ A' c' w', OwnI w' base A' c' zs → w.grownBy w' (blk A) → (blk A' = blk A ∨ blk A' = some w.heap.size) → wpList Tryz.prog ops Q rest (a.put o.dst (.slice A' zs.length c')) w') : wpList Tryz.prog ops Q (o :: rest) a w := by
  subst hzs
  obtain ⟨i0, hi, hz0, hz1, hz2⟩ := info_parts info_i64
  obtain ⟨v', w', hrun, h2, h3, h4⟩ := run_append_rd (P := Tryz.prog) w base 65 o.type 2 i0 (.int .i64 0) 1 8 Tryz.underlying65 hi hz0 hz1 hz2 rfl (by omega) (.slice A xs.length c) xs.length (xs.map (Value.int .i64)) hown B ys.length d (ys.map (Value.int .i64))
    (by simp) hr (by intro u hu; simp at hu; obtain ⟨y, _, rfl⟩ := hu; rfl) (by simp only [maxLen]; omega) (by omega) hbase
  obtain ⟨A', c', rfl, hb⟩ := own_shape h2
  rw [ownBlock_blk] at h3 h4
  refine wpList_plain hgd fun K hK => ?_
  unfold Oper.wp execOp
  simp only [ho, resolve, invoke, builtin, Sem.run_bind, Sem.run_pure, Result.andThen_ok, List.map_toArray, List.map_cons, List.map_nil, hs, hx, hrun]
  refine hK _ _ ?_
  have := h A' c' w' (by unfold OwnI; rw [List.length_append, List.map_append]; exact h2) h3 (by rw [ownBlock_blk] at h4; exact h4)
  rwa [List.length_append] at this

theorem run_buildSlice0 (W : World) : (Instr.buildSlice 65 0 #[]).run Tryz.prog W = .ok (.slice (some ⟨W.heap.size, 0, none⟩) 0 0) (W.alloc (.cells #[] 2)) := by
  simp [go_sem]
theorem OwnI.empty (w : World) {base : Nat} (hb : base ≤ w.heap.size) : OwnI (w.alloc (.cells #[] 2)) base (some ⟨w.heap.size, 0, none⟩) 0 [] := OwnI.new w [] #[] rfl hb (by simp [maxLen])

theorem OwnI.empty_ (w : World) {base : Nat} (n : Nat) (hn : n = w.heap.size) (hb : base ≤ w.heap.size) : OwnI (w.alloc (.cells #[] 2)) base (some ⟨n, 0, none⟩) 0 [] := by rw [hn]; exact OwnI.empty w hb

set_option maxHeartbeats 400000 in
theorem l00Own_any (A : Option Addr) (c : Nat) (xs : List Int) (w : World) (h : RI w A xs) (hn : xs.length ≤ 4294967296) :
    Calls Tryz.prog 52 #[.slice A xs.length c] w (RetI w xs) := by
  have he := OwnI.empty w (Nat.le_refl w.heap.size)
  have hr := h.alloc (.cells #[] 2)
  go_enter Tryz.func52, Tryz.ntmps52
  go_wp2_with (at_builtin; refine wpList_append_ints rfl (.tmp 3) (.tmp 4) rfl w.heap.size _ 0 [] rfl he A c xs rfl hr (by simp; omega) (by simp) xs rfl ?_; intro A' c' w' ho' hg' hb')
  go_ret
  exact ⟨A', c', rfl, ho', ((Below.refl _ _).alloc (Nat.le_refl _) _).grown hg' (by simp) (fun k hk => by have := blk_inj hk; omega)⟩
set_option maxHeartbeats 400000 in
theorem slicesClone_any (A : Option Addr) (c : Nat) (xs : List Int) (w : World) (h : RI w A xs) (hn : xs.length ≤ 4294967296) :
    Calls Tryz.prog 54 #[.slice A xs.length c] w (RetI w xs) := by
  have he := OwnI.empty w (Nat.le_refl w.heap.size)
  have hr := h.alloc (.cells #[] 2)
  cases A with
  | none =>
    have hx : xs = [] := by
      rcases Nat.eq_zero_or_pos xs.length with h0 | h0
      · exact List.eq_nil_of_length_eq_zero h0
      · obtain ⟨b, off, x, e, _⟩ := h.at_ h0
        cases e
    subst hx
    have hq : ∀ W : World, (binOp .eql 65 (.slice none 0 c) (.slice none 0 0)).run Tryz.prog W = .ok (.bool true) W := fun W => Lib.run_eql_slice_nil W _ _ _ _ _ _ _ Tryz.underlying65
    go_enter Tryz.func54, Tryz.ntmps54
    go_wp2
    go_ret
    exact ⟨none, 0, rfl, OwnI.nil _ _, Below.refl _ _⟩
  | some a =>
    have hq : ∀ W : World, (binOp .eql 65 (.slice (some a) xs.length c) (.slice none 0 0)).run Tryz.prog W = .ok (.bool false) W := fun W => Lib.run_eql_slice_nil W _ _ _ _ _ _ _ Tryz.underlying65
    go_enter Tryz.func54, Tryz.ntmps54
    go_wp2_with (at_builtin; refine wpList_append_ints rfl (.tmp 5) (.tmp 6) rfl w.heap.size _ 0 [] rfl he (some a) c xs rfl hr (by simp; omega) (by simp) xs rfl ?_; intro A' c' w' ho' hg' hb')
    go_ret
    exact ⟨A', c', rfl, ho', ((Below.refl _ _).alloc (Nat.le_refl _) _).grown hg' (by simp) (fun k hk => by have := blk_inj hk; omega)⟩
end Go.Proofs.YtocellbhpjiioaaGreat
