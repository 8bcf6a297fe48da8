/-
  Contracts of the laws' helpers over moves and lists of moves; whether a move has its form. Conditions: the lengths are far below the machine's.
-/
import Derived.Test.YtocellbhpjiioaaPolyOkM
import Derived.Outline
namespace Go.Proofs.Ytocellbhpjiioaa
open Go.RowKit
set_option linter.unusedVariables false

section
variable {w : World} {base : Nat} {A : Option Addr} {c : Nat} {xs : List (Int × Int × Int)}
theorem mv_at (h : RG mvE w A xs) {k : Nat} (hk : k < xs.length) :
    ∃ b off x y z, A = some ⟨b, off, none⟩ ∧ b < w.heap.size ∧ xs[k]? = some (x, y, z) ∧ w.cell? ⟨b, off + k * 3, none⟩ = some (.int .i64 x) ∧ w.cell? ⟨b, off + k * 3 + 1, none⟩ = some (.int .i64 y) ∧ w.cell? ⟨b, off + k * 3 + 2, none⟩ = some (.int .i64 z) := by
  obtain ⟨b, off, m, e, hb, hx, hc⟩ := h.row hk
  have c0 := hc 0 _ rfl
  have c1 := hc 1 _ rfl
  have c2 := hc 2 _ rfl
  simp only [mvE, Nat.add_zero] at c0 c1 c2
  rw [← Nat.add_assoc] at c1 c2
  exact ⟨b, off, m.1, m.2.1, m.2.2, e, hb, hx, c0, c1, c2⟩
theorem mvOwn_at (h : Own mvE w base A c xs) {k : Nat} (hk : k < xs.length) :
    ∃ g x y z, A = some ⟨g, 0, none⟩ ∧ base ≤ g ∧ g < w.heap.size ∧ xs[k]? = some (x, y, z) ∧ w.cell? ⟨g, k * 3, none⟩ = some (.int .i64 x) ∧ w.cell? ⟨g, k * 3 + 1, none⟩ = some (.int .i64 y) ∧ w.cell? ⟨g, k * 3 + 2, none⟩ = some (.int .i64 z) ∧ (∀ o, w.frozen? ⟨g, o, none⟩ = false) ∧
      ∀ x' y' z', Own mvE (((w.setCell ⟨g, k * 3, none⟩ (.int .i64 x')).setCell ⟨g, k * 3 + 1, none⟩ (.int .i64 y')).setCell ⟨g, k * 3 + 2, none⟩ (.int .i64 z')) base A c (xs.set k (x', y', z')) ∧
        w.grownBy (((w.setCell ⟨g, k * 3, none⟩ (.int .i64 x')).setCell ⟨g, k * 3 + 1, none⟩ (.int .i64 y')).setCell ⟨g, k * 3 + 2, none⟩ (.int .i64 z')) (some g) := by
  obtain ⟨g, m, rfl, hb, hs, hx, hc, hf⟩ := h.row hk
  have c0 := hc 0 _ rfl
  have c1 := hc 1 _ rfl
  have c2 := hc 2 _ rfl
  simp only [mvE, Nat.add_zero] at c0 c1 c2
  refine ⟨g, m.1, m.2.1, m.2.2, rfl, hb, hs, hx, c0, c1, c2, hf, fun x' y' z' => ?_⟩
  have p1 := h.put (k := k) (j := 0) (x := m) (y := (x', m.2.1, m.2.2)) (u := .int .i64 x') hx (by simp [mvE]) rfl
  have p2 := p1.1.put (k := k) (j := 1) (x := (x', m.2.1, m.2.2)) (y := (x', y', m.2.2)) (u := .int .i64 y') (by rw [List.getElem?_set_self hk]) (by simp [mvE]) rfl
  have p3 := p2.1.put (k := k) (j := 2) (x := (x', y', m.2.2)) (y := (x', y', z')) (u := .int .i64 z') (by rw [List.set_set, List.getElem?_set_self hk]) (by simp [mvE]) rfl
  rw [List.set_set, List.set_set] at p3
  have g2 := grown_trans (grown_trans p1.2 p2.2) p3.2
  simp only [mvE, Nat.add_zero] at p3 g2
  exact ⟨p3.1, g2⟩
end

theorem eqMove_any (x y z x' y' z' : Int) (w : World) : Calls Try.prog 51 #[.agg #[.int .i64 x, .int .i64 y, .int .i64 z], .agg #[.int .i64 x', .int .i64 y', .int .i64 z']] w (RetV w (.bool (decide ((x, y, z) = (x', y', z'))))) := by
  have hB : Below w.heap.size w ((w.alloc (.cells #[.int .i64 x, .int .i64 y, .int .i64 z] 26)).alloc (.cells #[.int .i64 x', .int .i64 y', .int .i64 z'] 26)) := ((Below.refl _ _).alloc (Nat.le_refl _) _).alloc (by simp) _
  by_cases hx : x = x'
  · have h1 : (x != x') = false := by simp [hx]
    by_cases hy : y = y'
    · have h2 : (y != y') = false := by simp [hy]
      by_cases hz : z = z'
      · have hd := hide (show decide ((x, y, z) = (x', y', z')) = true by simp [hx, hy, hz])
        have h3 : (z != z') = false := by simp [hz]
        clear hx hy hz
        go_enter Try.func51, Try.ntmps51
        go_wp2
        go_ret
        rw [hd.out]
        exact ⟨rfl, hB⟩
      · have hd := hide (show decide ((x, y, z) = (x', y', z')) = false by simp [hz])
        have h3 : (z != z') = true := by simpa using hz
        clear hx hy hz
        go_enter Try.func51, Try.ntmps51
        go_wp2
        go_ret
        rw [hd.out]
        exact ⟨rfl, hB⟩
    · have hd := hide (show decide ((x, y, z) = (x', y', z')) = false by simp [hy])
      have h2 : (y != y') = true := by simpa using hy
      clear hx hy
      go_enter Try.func51, Try.ntmps51
      go_wp2
      go_ret
      rw [hd.out]
      exact ⟨rfl, hB⟩
  · have hd := hide (show decide ((x, y, z) = (x', y', z')) = false by simp [hx])
    have h1 : (x != x') = true := by simpa using hx
    clear hx
    go_enter Try.func51, Try.ntmps51
    go_wp2
    go_ret
    rw [hd.out]
    exact ⟨rfl, hB⟩

/-- A function that hands back a row of moves of its own. -/
def RetMS (w : World) (xs : List (Int × Int × Int)) (e : Ending) (w' : World) : Prop := ∃ A c, e = .returned (.slice A xs.length c) ∧ Own mvE w' w.heap.size A c xs ∧ Below w.heap.size w w'
theorem run_make_mv (n : Nat) (hn : n ≤ 1048576) (W : World) :
    (Instr.makeSlice 42 (.int .i64 (n : Int)) (.int .i64 (n : Int))).run Try.prog W = .ok (.slice (some ⟨W.heap.size, 0, none⟩) n n) (W.alloc (.cells (madeCells #[.int .i64 0, .int .i64 0, .int .i64 0] (n * 3)) 26)) :=
  mvE.run_make n (by simp [mvE]; omega) (by omega) W
theorem take_set_nextM {α : Type} {xs ys : List α} {k : Nat} {x : α} (hx : xs[k]? = some x) (hy : ys.length = xs.length) (ht : ys.take k = xs.take k) :
    (ys.set k x).take (k + 1) = xs.take (k + 1) := by
  have hk : k < xs.length := (List.getElem?_eq_some_iff.1 hx).1
  rw [List.take_add_one, List.take_add_one, List.getElem?_set_self (by omega), List.take_set_of_le (Nat.le_refl _), ht, hx]

theorem ne_lenM {α : Type} [DecidableEq α] {xs ys : List α} (h : xs.length ≠ ys.length) : decide (xs = ys) = false := by
  apply decide_eq_false
  intro e
  exact h (by rw [e])
theorem ne_atM {α : Type} [DecidableEq α] {xs ys : List α} {k : Nat} {x y : α} (hx : xs[k]? = some x) (hy : ys[k]? = some y) (h : x ≠ y) : decide (xs = ys) = false := by
  apply decide_eq_false
  intro e
  rw [e, hy] at hx
  injection hx with hx
  exact h hx.symm
theorem take_eq_nextM {α : Type} {xs ys : List α} {k : Nat} {x : α} (hx : xs[k]? = some x) (hy : ys[k]? = some x) (h : xs.take k = ys.take k) : xs.take (k + 1) = ys.take (k + 1) := by
  rw [List.take_add_one, List.take_add_one, h, hx, hy]

set_option maxHeartbeats 1000000 in
theorem eqMoveS_any (A B : Option Addr) (c d : Nat) (xs ys : List (Int × Int × Int)) (w : World) (hA : RG mvE w A xs) (hB : RG mvE w B ys) (hn : xs.length ≤ 1048576) (hm : ys.length ≤ 1048576) :
    Calls Try.prog 25 #[.slice A xs.length c, .slice B ys.length d] w (RetV w (.bool (decide (xs = ys)))) := by
  by_cases hl : xs.length = ys.length
  · have HL := hide hl
    have hnm : ((xs.length : Int) != (ys.length : Int)) = false := by simp [hl]
    clear hl
    go_enter Try.func25, Try.ntmps25
    go_wp2
    go_loopw [5] (fun i wr => ∃ (k : Nat), k ≤ xs.length ∧ i = .int .i64 k ∧ Hid (xs.take k = ys.take k) ∧ Below w.heap.size w wr)
      (fun i _ => xs.length - (intOf i).toNat)
    case atStart => exact ⟨0, Nat.zero_le _, rfl, hide (by simp), Below.refl _ _⟩
    case round =>
      obtain ⟨k, hk, rfl, ht, hbw⟩ := hrel
      by_cases hlt : k < xs.length
      · have hA1 := hA.below hbw
        have hB1 := hB.below hbw
        obtain ⟨b, off, x, y, z, rfl, hb, hx, hc, hd, he⟩ := mv_at hA1 hlt
        obtain ⟨b', off', x', y', z', rfl, hb', hx', hc', hd', he'⟩ := mv_at hB1 (k := k) (by have := HL.out; omega)
        have hlt' : (k : Int) < (ys.length : Int) := by have := HL.out; omega
        have hz := hbw.size
        have HX := hide hx
        have HX' := hide hx'
        have C0 : Below wr.heap.size wr wr.drew := (Below.refl _ _).drew
        have keepw : ∀ W, Below wr.heap.size wr W → W.cell? ⟨b, off + k * 3, none⟩ = some (.int .i64 x) ∧ W.cell? ⟨b, off + k * 3 + 1, none⟩ = some (.int .i64 y) ∧ W.cell? ⟨b, off + k * 3 + 2, none⟩ = some (.int .i64 z) ∧ W.cell? ⟨b', off' + k * 3, none⟩ = some (.int .i64 x') ∧ W.cell? ⟨b', off' + k * 3 + 1, none⟩ = some (.int .i64 y') ∧ W.cell? ⟨b', off' + k * 3 + 2, none⟩ = some (.int .i64 z') :=
          fun W hW => ⟨(hW.cell (p := ⟨b, off + k * 3, none⟩) hb).trans hc, (hW.cell (p := ⟨b, off + k * 3 + 1, none⟩) hb).trans hd, (hW.cell (p := ⟨b, off + k * 3 + 2, none⟩) hb).trans he, (hW.cell (p := ⟨b', off' + k * 3, none⟩) hb').trans hc', (hW.cell (p := ⟨b', off' + k * 3 + 1, none⟩) hb').trans hd', (hW.cell (p := ⟨b', off' + k * 3 + 2, none⟩) hb').trans he'⟩
        have KW := hide keepw
        clear hx hx' keepw
        by_cases hxy : (x, y, z) = (x', y', z')
        · have hdd : decide ((x, y, z) = (x', y', z')) = true := by simpa using hxy
          have HT := hide (take_eq_nextM HX.out (hxy ▸ HX'.out) ht.out)
          clear hxy
          go_wp2_with fail
          go_region_held3 (fun w' => w'.cell? ⟨b, off + k * 3, none⟩ = some (.int .i64 x) ∧ w'.cell? ⟨b, off + k * 3 + 1, none⟩ = some (.int .i64 y) ∧ w'.cell? ⟨b, off + k * 3 + 2, none⟩ = some (.int .i64 z) ∧ w'.cell? ⟨b', off' + k * 3, none⟩ = some (.int .i64 x') ∧ w'.cell? ⟨b', off' + k * 3 + 1, none⟩ = some (.int .i64 y') ∧ w'.cell? ⟨b', off' + k * 3 + 2, none⟩ = some (.int .i64 z'))
            (first | exact KW.out _ C0 | exact KW.out _ CE | exact KW.out _ (Below.refl _ _) | fail)
            (first | (go_at_call 51; refine (eqMove_any x y z x' y' z' _).mono ?_; rw [hdd]; rintro e w2 ⟨rfl, hb2⟩; have CE := C0.trans (hb2.mono (Nat.le_refl _))) | fail)
          all_goals go_wp2_with fail
          all_goals go_roundw
          case rel => exact ⟨k + 1, by omega, by go_num, HT, hbw.trans (CE.mono hz)⟩
          case measure => simp [intOf]; omega
        · have hdd : decide ((x, y, z) = (x', y', z')) = false := by simpa using hxy
          have HN := hide (ne_atM HX.out HX'.out hxy)
          clear hxy
          go_wp2_with fail
          go_region_held3 (fun w' => w'.cell? ⟨b, off + k * 3, none⟩ = some (.int .i64 x) ∧ w'.cell? ⟨b, off + k * 3 + 1, none⟩ = some (.int .i64 y) ∧ w'.cell? ⟨b, off + k * 3 + 2, none⟩ = some (.int .i64 z) ∧ w'.cell? ⟨b', off' + k * 3, none⟩ = some (.int .i64 x') ∧ w'.cell? ⟨b', off' + k * 3 + 1, none⟩ = some (.int .i64 y') ∧ w'.cell? ⟨b', off' + k * 3 + 2, none⟩ = some (.int .i64 z'))
            (first | exact KW.out _ C0 | exact KW.out _ CE | exact KW.out _ (Below.refl _ _) | fail)
            (first | (go_at_call 51; refine (eqMove_any x y z x' y' z' _).mono ?_; rw [hdd]; rintro e w2 ⟨rfl, hb2⟩; have CE := C0.trans (hb2.mono (Nat.le_refl _))) | fail)
          all_goals go_wp2_with fail
          go_ret
          rw [HN.out]
          exact ⟨rfl, hbw.trans (CE.mono hz)⟩
      · have he : xs = ys := by
          have h1 := ht.out
          have h2 := HL.out
          rw [List.take_of_length_le (by omega), List.take_of_length_le (by omega)] at h1
          exact h1
        have HE := hide he
        clear he
        go_wp2_with fail
        go_ret
        rw [decide_eq_true HE.out]
        exact ⟨rfl, hbw⟩
  · have HN := hide (ne_lenM hl)
    have hnm : ((xs.length : Int) != (ys.length : Int)) = true := by rw [bne_iff_ne]; omega
    go_enter Try.func25, Try.ntmps25
    go_wp2
    go_ret
    rw [HN.out]
    exact ⟨rfl, Below.refl _ _⟩
end Go.Proofs.Ytocellbhpjiioaa
