/-
  Contracts: points and segments of panels, of the reference and of the program. Conditions: a valid panel's sides, points of the panel.
-/
import Derived.Test.YtnjojnnapdhijaaTrMath2
import Derived.Test.YtnjojnnapdhijaaPanel
import Derived.Test.YtnjojnnapdhijaaBel
namespace Go.Proofs.Ytnjojnnapdhijaa
open Go.RowKit
set_option linter.unusedVariables false

/-- A panel in memory, with its breaks. -/
structure PA (w : World) (b : Nat) (wd ht : Int) (A : Option Addr) (c : Nat) (xs : List Int) : Prop where
  bx : Bx w b 36 #[.int .i64 wd, .int .i64 ht, .slice A xs.length c]
  rd : RI w A xs
section
variable {w w' : World} {b : Nat} {wd ht : Int} {A : Option Addr} {c : Nat} {xs : List Int}
theorem PA.c0 (h : PA w b wd ht A c xs) : w.cell? ⟨b, 0, none⟩ = some (.int .i64 wd) := h.bx.three.1
theorem PA.c1 (h : PA w b wd ht A c xs) : w.cell? ⟨b, 1, none⟩ = some (.int .i64 ht) := h.bx.three.2.1
theorem PA.c2 (h : PA w b wd ht A c xs) : w.cell? ⟨b, 2, none⟩ = some (.slice A xs.length c) := h.bx.three.2.2
theorem PA.alloc (h : PA w b wd ht A c xs) (o : Obj) : PA (w.alloc o) b wd ht A c xs := ⟨h.bx.alloc o, h.rd.alloc o⟩
theorem PA.drew (h : PA w b wd ht A c xs) : PA w.drew b wd ht A c xs := ⟨h.bx, h.rd⟩
theorem PA.drewN (h : PA w b wd ht A c xs) (n : Nat) : PA (w.drewN n) b wd ht A c xs := ⟨h.bx, h.rd⟩
theorem PA.below (h : PA w b wd ht A c xs) (hb : Below w.heap.size w w') : PA w' b wd ht A c xs := ⟨h.bx.below hb, h.rd.below hb⟩
/-- what lies below a bound stays -/
theorem PA.below0 {B : Nat} (h : PA w b wd ht A c xs) (hs : w.heap.size ≤ B) (hb : Below B w w') : PA w' b wd ht A c xs := h.below (hb.mono hs)
end

def rowI (wd y : Int) : Int := (y - 1) * wd - y / 2
theorem row_bounds {wd y : Int} (h1 : 1 ≤ wd) (h2 : wd ≤ 8) (y1 : 1 ≤ y) (y2 : y ≤ 16) : 0 ≤ rowI wd y ∧ rowI wd y ≤ 128 := by
  unfold rowI
  rcases eight h1 h2 with rfl | rfl | rfl | rfl | rfl | rfl | rfl | rfl <;> omega
theorem row_odd {wd y : Int} (h1 : 1 ≤ wd) (h2 : wd ≤ 8) (y1 : 1 ≤ y) (h : y % 2 = 1) : rowI wd (y + 1) = rowI wd y + wd - 1 := by
  unfold rowI
  rcases eight h1 h2 with rfl | rfl | rfl | rfl | rfl | rfl | rfl | rfl <;> omega
theorem row_even {wd y : Int} (h1 : 1 ≤ wd) (h2 : wd ≤ 8) (y1 : 1 ≤ y) (h : y % 2 ≠ 1) : rowI wd (y + 1) = rowI wd y + wd := by
  unfold rowI
  rcases eight h1 h2 with rfl | rfl | rfl | rfl | rfl | rfl | rfl | rfl <;> omega
theorem row_one (wd : Int) : rowI wd 1 = 0 := by unfold rowI; omega

theorem l02Row_any (b0 : Nat) (wd y : Int) (w : World) (c0 : w.cell? ⟨b0, 0, none⟩ = some (.int .i64 wd)) (h1 : 1 ≤ wd) (h2 : wd ≤ 8) (y1 : 1 ≤ y) (y2 : y ≤ 16) :
    Calls Try.prog 177 #[.pointer (some ⟨b0, 0, none⟩), .int .i64 y] w fun e w' => e = .returned (.int .i64 (rowI wd y)) ∧ w = w' := by
  obtain ⟨Y, hY⟩ : ∃ Y : Nat, y = Y := ⟨y.toNat, by omega⟩
  subst hY
  go_enter Try.func177, Try.ntmps177
  go_wp2_with fail
  go_loopw [5, 6] (fun n i wr => ∃ (k : Nat) (m : Int), 1 ≤ k ∧ k ≤ Y ∧ n = .int .i64 m ∧ i = .int .i64 k ∧ Hid (m = rowI wd k) ∧ wr = w) (fun n i _ => Y - (intOf i).toNat)
  case atStart => exact ⟨1, 0, Nat.le_refl _, by omega, rfl, rfl, hide (row_one wd).symm, rfl⟩
  case round =>
    obtain ⟨k, m, hk1, hk2, rfl, rfl, hm, rfl⟩ := hrel
    obtain ⟨m1, m2⟩ := row_bounds (wd := wd) (y := k) h1 h2 (by omega) (by omega)
    rw [← hm.out] at m1 m2
    by_cases hlt : k < Y
    · by_cases ho : (k : Int) % 2 = 1
      · have HN := hide ((row_odd (wd := wd) (y := k) h1 h2 (by omega) ho).trans (by rw [← hm.out]))
        have t : Int.tmod (k : Int) 2 = 1 := by rw [Int.tmod_eq_emod_of_nonneg (by omega)]; exact ho
        clear ho
        go_wp2_with fail
        go_roundw
        case rel => exact ⟨k + 1, m + wd - 1, by omega, by omega, by go_num, by go_num, hide (by rw [show ((k + 1 : Nat) : Int) = (k : Int) + 1 by omega, HN.out]), by first | trivial | rfl⟩
        case measure => simp [intOf]; omega
      · have HN := hide ((row_even (wd := wd) (y := k) h1 h2 (by omega) ho).trans (by rw [← hm.out]))
        have t : Int.tmod (k : Int) 2 = 0 := by rw [Int.tmod_eq_emod_of_nonneg (by omega)]; omega
        clear ho
        go_wp2_with fail
        go_roundw
        case rel => exact ⟨k + 1, m + wd, by omega, by omega, by go_num, by go_num, hide (by rw [show ((k + 1 : Nat) : Int) = (k : Int) + 1 by omega, HN.out]), by first | trivial | rfl⟩
        case measure => simp [intOf]; omega
    · have e : k = Y := by omega
      have HE : Hid (m = rowI wd Y) := hide (by rw [hm.out, e])
      clear e
      go_wp2_with fail
      go_ret
      exact ⟨by rw [HE.out]; rfl, by first | trivial | rfl⟩

theorem l02Number_any (b0 : Nat) (wd ht x y : Int) (A : Option Addr) (c : Nat) (xs : List Int) (w : World) (hp : PA w b0 wd ht A c xs) (h1 : 1 ≤ wd) (h2 : wd ≤ 8) (y1 : 1 ≤ y) (y2 : y ≤ 16) (x1 : 1 ≤ x) (x2 : x ≤ 16) :
    Calls Try.prog 174 #[.pointer (some ⟨b0, 0, none⟩), .agg #[.int .i64 x, .int .i64 y]] w (RetV w (.int .i64 (numI wd x y))) := by
  have hn : numI wd x y = rowI wd y + (x - 1) / 2 := rfl
  have HN := hide hn
  clear hn
  obtain ⟨m1, m2⟩ := row_bounds (wd := wd) (y := y) h1 h2 y1 y2
  obtain ⟨m, hm⟩ : ∃ m, m = rowI wd y := ⟨_, rfl⟩
  rw [← hm] at m1 m2 HN
  have HM := hide hm
  clear hm
  have t : Int.tdiv (x - 1) 2 = (x - 1) / 2 := Int.tdiv_eq_ediv_of_nonneg (by omega)
  have c0 := (((hp).alloc (.cells #[.int .i64 x, .int .i64 y] 110))).c0
  have hrow : ∀ n, Calls Try.prog 177 #[.pointer (some ⟨b0, 0, none⟩), .int .i64 y] (World.drewN (w.alloc (.cells #[.int .i64 x, .int .i64 y] 110)) n) fun e w' => e = .returned (.int .i64 m) ∧ World.drewN (w.alloc (.cells #[.int .i64 x, .int .i64 y] 110)) n = w' := fun n => by
    rw [HM.out]
    exact l02Row_any b0 wd y _ c0 h1 h2 y1 y2
  have HR := hide hrow
  clear hrow
  go_enter Try.func174, Try.ntmps174
  go_wp2_with fail
  go_quiet ((first | (go_at_call 177; exact quiet1 (HR.out _)) | fail))
  go_wp2_with fail
  go_ret
  rw [HN.out]
  exact ⟨rfl, below_drewN' ((Below.refl w.heap.size w).alloc (by first | omega | (simp; omega) | simp) (.cells #[.int .i64 x, .int .i64 y] 110)) _⟩

theorem or4 (b1 b2 b3 b4 : Bool) (P : Bool → Prop) (h1 : b1 = true → P true) (h2 : b1 = false → b2 = true → P true) (h3 : b1 = false → b2 = false → b3 = true → P true)
    (h4 : b1 = false → b2 = false → b3 = false → b4 = true → P true) (h5 : b1 = false → b2 = false → b3 = false → b4 = false → P false) : P (b1 || b2 || b3 || b4) := by
  cases b1
  · cases b2
    · cases b3
      · cases b4
        · exact h5 rfl rfl rfl rfl
        · exact h4 rfl rfl rfl rfl
      · exact h3 rfl rfl rfl
    · exact h2 rfl rfl
  · exact h1 rfl
def edgeB (wd ht x y : Int) : Bool := decide (Edge wd ht x y)
theorem edge_a (wd ht x y : Int) : edgeB wd ht x y = (x == 0 || x == 2 * wd || y == 0 || y == 2 * ht) := by
  unfold edgeB Edge
  by_cases h1 : x = 0 <;> by_cases h2 : x = 2 * wd <;> by_cases h3 : y = 0 <;> by_cases h4 : y = 2 * ht <;> simp [h1, h2, h3, h4]
theorem edge_b (wd ht x y : Int) : edgeB wd ht x y = (x == 0 || y == 0 || x == 2 * wd || y == 2 * ht) := by
  rw [edge_a]
  cases x == 0 <;> cases x == 2 * wd <;> cases y == 0 <;> cases y == 2 * ht <;> rfl
theorem dec_of {x y : Int} {b : Bool} (h : (x == y) = b) : decide (x = y) = b := by rw [← h]; rfl

set_option maxHeartbeats 2000000 in
theorem l02Edge_any (b0 : Nat) (wd ht x y : Int) (A : Option Addr) (c : Nat) (xs : List Int) (w : World) (hp : PA w b0 wd ht A c xs) (hs : Sz wd ht) :
    Calls Try.prog 173 #[.pointer (some ⟨b0, 0, none⟩), .agg #[.int .i64 x, .int .i64 y]] w (RetV w (.bool (edgeB wd ht x y))) := by
  rw [edge_b]
  obtain ⟨s1, s2, s3, s4⟩ := hs
  have c0 := (((hp).alloc (.cells #[.int .i64 x, .int .i64 y] 110))).c0
  have c1 := (((hp).alloc (.cells #[.int .i64 x, .int .i64 y] 110))).c1
  have hB : ∀ n, Below w.heap.size w (World.drewN (w.alloc (.cells #[.int .i64 x, .int .i64 y] 110)) n) := fun n => below_drewN' ((Below.refl w.heap.size w).alloc (by first | omega | (simp; omega) | simp) (.cells #[.int .i64 x, .int .i64 y] 110)) n
  refine or4 _ _ _ _ (fun v => Calls Try.prog 173 #[.pointer (some ⟨b0, 0, none⟩), .agg #[.int .i64 x, .int .i64 y]] w (RetV w (.bool v))) ?_ ?_ ?_ ?_ ?_
  · intro e1
    have d1 := dec_of e1
    go_enter Try.func173, Try.ntmps173
    go_wp2_with fail
    go_quiet (fail)
    go_wp2_with fail
    go_ret
    exact ⟨rfl, hB _⟩
  · intro e1 e2
    have d1 := dec_of e1
    have d2 := dec_of e2
    go_enter Try.func173, Try.ntmps173
    go_wp2_with fail
    go_quiet (fail)
    go_wp2_with fail
    go_ret
    exact ⟨rfl, hB _⟩
  · intro e1 e2 e3
    have d1 := dec_of e1
    have d2 := dec_of e2
    have d3 := dec_of e3
    go_enter Try.func173, Try.ntmps173
    go_wp2_with fail
    go_quiet (fail)
    go_wp2_with fail
    go_ret
    exact ⟨rfl, hB _⟩
  · intro e1 e2 e3 e4
    have d1 := dec_of e1
    have d2 := dec_of e2
    have d3 := dec_of e3
    have d4 := dec_of e4
    go_enter Try.func173, Try.ntmps173
    go_wp2_with fail
    go_quiet (fail)
    go_wp2_with fail
    go_ret
    exact ⟨rfl, hB _⟩
  · intro e1 e2 e3 e4
    have d1 := dec_of e1
    have d2 := dec_of e2
    have d3 := dec_of e3
    have d4 := dec_of e4
    go_enter Try.func173, Try.ntmps173
    go_wp2_with fail
    go_quiet (fail)
    go_wp2_with fail
    go_ret
    exact ⟨rfl, hB _⟩
set_option maxHeartbeats 2000000 in
theorem isBorder_any (wd ht x y : Int) (A : Option Addr) (c : Nat) (xs : List Int) (w : World) (hs : Sz wd ht) :
    Calls Try.prog 130 #[.agg #[.int .i64 wd, .int .i64 ht, .slice A xs.length c], .agg #[.int .i64 x, .int .i64 y]] w (RetV w (.bool (edgeB wd ht x y))) := by
  rw [edge_a]
  obtain ⟨s1, s2, s3, s4⟩ := hs
  obtain ⟨pa_x1, pb_x1, pc_x1⟩ := ((Bx.new_ w (w.heap.size) 36 #[.int .i64 wd, .int .i64 ht, .slice A xs.length c] (by simp)).alloc (.cells #[.int .i64 x, .int .i64 y] 110)).three
  obtain ⟨ata_x1, atb_x1⟩ := (Bx.new_ (w.alloc (.cells #[.int .i64 wd, .int .i64 ht, .slice A xs.length c] 36)) (w.heap.size + 1) 110 #[.int .i64 x, .int .i64 y] (by simp)).two
  refine or4 _ _ _ _ (fun v => Calls Try.prog 130 #[.agg #[.int .i64 wd, .int .i64 ht, .slice A xs.length c], .agg #[.int .i64 x, .int .i64 y]] w (RetV w (.bool v))) ?_ ?_ ?_ ?_ ?_
  all_goals
    intros
    go_enter Try.func130, Try.ntmps130
    go_wp2_with fail
    go_ret
    exact ⟨rfl, (((Below.refl w.heap.size w).alloc (by first | omega | (simp; omega) | simp) (.cells #[.int .i64 wd, .int .i64 ht, .slice A xs.length c] 36)).alloc (by first | omega | (simp; omega) | simp) (.cells #[.int .i64 x, .int .i64 y] 110))⟩
theorem num_odd {wd x y : Int} (h1 : 1 ≤ wd) (h2 : wd ≤ 8) (y1 : 1 ≤ y) (x1 : 1 ≤ x) (hy : y % 2 = 1) (hp : (x + y) % 2 = 1) : numI wd x y = y / 2 * (wd - 1) + (y - 1) / 2 * wd + x / 2 - 1 := by
  unfold numI
  rcases eight h1 h2 with rfl | rfl | rfl | rfl | rfl | rfl | rfl | rfl <;> omega
theorem num_even {wd x y : Int} (h1 : 1 ≤ wd) (h2 : wd ≤ 8) (y1 : 1 ≤ y) (x1 : 1 ≤ x) (hy : y % 2 ≠ 1) (hp : (x + y) % 2 = 1) : numI wd x y = y / 2 * (wd - 1) + (y - 1) / 2 * wd + x / 2 := by
  unfold numI
  rcases eight h1 h2 with rfl | rfl | rfl | rfl | rfl | rfl | rfl | rfl <;> omega
set_option maxHeartbeats 2000000 in
theorem number_any (wd ht x y : Int) (A : Option Addr) (c : Nat) (xs : List Int) (w : World) (h1 : 1 ≤ wd) (h2 : wd ≤ 8) (y1 : 1 ≤ y) (y2 : y ≤ 16) (x1 : 1 ≤ x) (x2 : x ≤ 16) (hpar : (x + y) % 2 = 1) :
    Calls Try.prog 131 #[.agg #[.int .i64 wd, .int .i64 ht, .slice A xs.length c], .agg #[.int .i64 x, .int .i64 y]] w (RetV w (.int .i64 (numI wd x y))) := by
  have t1 : Int.tdiv y 2 = y / 2 := Int.tdiv_eq_ediv_of_nonneg (by omega)
  have t2 : Int.tdiv (y - 1) 2 = (y - 1) / 2 := Int.tdiv_eq_ediv_of_nonneg (by omega)
  have t3 : Int.tdiv x 2 = x / 2 := Int.tdiv_eq_ediv_of_nonneg (by omega)
  have t4 : Int.tmod y 2 = y % 2 := Int.tmod_eq_emod_of_nonneg (by omega)
  have HO := hide (fun hy => num_odd (wd := wd) (x := x) (y := y) h1 h2 y1 x1 hy hpar)
  have HE := hide (fun hy => num_even (wd := wd) (x := x) (y := y) h1 h2 y1 x1 hy hpar)
  obtain ⟨q1, e1⟩ : ∃ q, q = y / 2 := ⟨_, rfl⟩
  obtain ⟨q2, e2⟩ : ∃ q, q = (y - 1) / 2 := ⟨_, rfl⟩
  obtain ⟨q3, e3⟩ : ∃ q, q = x / 2 := ⟨_, rfl⟩
  obtain ⟨q4, e4⟩ : ∃ q, q = y % 2 := ⟨_, rfl⟩
  rw [← e1] at t1 HO HE
  rw [← e2] at t2 HO HE
  rw [← e3] at t3 HO HE
  rw [← e4] at t4 HO HE
  have g1 : 0 ≤ q1 ∧ q1 ≤ 8 := by omega
  have g2 : 0 ≤ q2 ∧ q2 ≤ 8 := by omega
  have g3 : 0 ≤ q3 ∧ q3 ≤ 8 := by omega
  clear e1 e2 e3 e4 hpar
  obtain ⟨m1, m2⟩ := mul_small (a := q1) (b := wd - 1) g1.1 g1.2 (by omega) (by omega)
  obtain ⟨m3, m4⟩ := mul_small (a := q2) (b := wd) g2.1 g2.2 (by omega) (by omega)
  obtain ⟨pa_x1, pb_x1, pc_x1⟩ := ((Bx.new_ w (w.heap.size) 36 #[.int .i64 wd, .int .i64 ht, .slice A xs.length c] (by simp)).alloc (.cells #[.int .i64 x, .int .i64 y] 110)).three
  obtain ⟨ata_x1, atb_x1⟩ := (Bx.new_ (w.alloc (.cells #[.int .i64 wd, .int .i64 ht, .slice A xs.length c] 36)) (w.heap.size + 1) 110 #[.int .i64 x, .int .i64 y] (by simp)).two
  by_cases hy : q4 = 1
  · have HV := hide (HO.out hy)
    go_enter Try.func131, Try.ntmps131
    go_wp2_with fail
    go_ret
    rw [HV.out]
    exact ⟨rfl, (((Below.refl w.heap.size w).alloc (by first | omega | (simp; omega) | simp) (.cells #[.int .i64 wd, .int .i64 ht, .slice A xs.length c] 36)).alloc (by first | omega | (simp; omega) | simp) (.cells #[.int .i64 x, .int .i64 y] 110))⟩
  · have HV := hide (HE.out hy)
    go_enter Try.func131, Try.ntmps131
    go_wp2_with fail
    go_ret
    rw [HV.out]
    exact ⟨rfl, (((Below.refl w.heap.size w).alloc (by first | omega | (simp; omega) | simp) (.cells #[.int .i64 wd, .int .i64 ht, .slice A xs.length c] 36)).alloc (by first | omega | (simp; omega) | simp) (.cells #[.int .i64 x, .int .i64 y] 110))⟩
end Go.Proofs.Ytnjojnnapdhijaa
