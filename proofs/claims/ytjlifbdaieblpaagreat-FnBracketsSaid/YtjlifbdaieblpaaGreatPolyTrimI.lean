/-
  Contract: a polynomial without needless coefficients as the program makes it: it comes to the same as the reference's. Conditions: the numbers are far below the machine's.
-/
import Derived.Test.YtjlifbdaieblpaaGreatPolyTrim
import Derived.Deep.LoopGhost
namespace Go.Proofs.YtjlifbdaieblpaaGreat
open Go.RowKit
set_option linter.unusedVariables false

theorem trimI_none {low : Int} {xs zs : List Int} (hz : dropZ xs = zs) (h : rdropZ zs = []) : trimI low xs = (0, []) := by
  unfold trimI
  rw [hz, if_pos h]
theorem trimI_some {low : Int} {xs zs : List Int} {j m : Nat} (hz : dropZ xs = zs) (hj : j + zs.length = xs.length) (h : rdropZ zs = zs.take m) (hm : 0 < (zs.take m).length) : trimI low xs = (low + j, zs.take m) := by
  unfold trimI
  rw [hz, h, if_neg (by intro e; rw [e] at hm; simp at hm)]
  congr 2
  omega

set_option maxHeartbeats 4000000 in
theorem trimmed_any (low : Int) (A : Option Addr) (c : Nat) (xs : List Int) (w : World) (h : RI w A xs) (hl0 : -1099511627776 ≤ low) (hl1 : low ≤ 1099511627776) (hn : xs.length ≤ 4294967296) (hc : xs.length ≤ c) (hcm : c ≤ 9223372036854775807) :
    Calls Tryz.prog 77 #[.agg #[.int .i64 low, .slice A xs.length c]] w (RetP w (trimS low xs).1 (trimS low xs).2) := by
  rw [trim_eq]
  have hq := (Bx.new w 29 #[.int .i64 low, .slice A xs.length c]).alloc (.cells #[.int .i64 0, .slice none 0 0] 29)
  have hs := Bx.new_ (w.alloc (.cells #[.int .i64 low, .slice A xs.length c] 29)) (w.heap.size + 1) 29 #[.int .i64 0, .slice none 0 0] (by simp)
  have hB : Below w.heap.size w ((w.alloc (.cells #[.int .i64 low, .slice A xs.length c] 29)).alloc (.cells #[.int .i64 0, .slice none 0 0] 29)) := ((Below.refl _ _).alloc (Nat.le_refl _) _).alloc (by simp) _
  go_enter Tryz.func77, Tryz.ntmps77
  go_wp2
  go_loopg [] xs.length (fun g wr => ∃ (j : Nat) (zs : List Int) (A' : Option Addr) (c' : Nat), Bx wr w.heap.size 29 #[.int .i64 (low + j), .slice A' zs.length c'] ∧ Bx wr (w.heap.size + 1) 29 #[.int .i64 0, .slice none 0 0] ∧
      RI w A' zs ∧ zs.length ≤ c' ∧ c' ≤ 9223372036854775807 ∧ j + zs.length ≤ 4294967296 ∧ zs.length ≤ g ∧ Hid (j + zs.length = xs.length) ∧ Hid (dropZ zs = dropZ xs) ∧ Below w.heap.size w wr)
  case atStart => exact ⟨0, xs, A, c, by simpa using hq, hs, h, hc, hcm, by omega, Nat.le_refl _, hide (by omega), hide rfl, hB⟩
  case round =>
    obtain ⟨j, zs, A', c', hbx, hbs, hr, hlc, hcm', hjn, hg, hjl, hd, hbel⟩ := hrel
    obtain ⟨p0, p1⟩ := hbx.two
    have f0 := hbx.frozen 0
    have f1 := hbx.frozen 1
    have hlt := hbs.lt
    by_cases hz : ∃ t, zs = 0 :: t
    · obtain ⟨t, rfl⟩ := hz
      have hrw := hr.below hbel
      obtain ⟨b2, off2, y', rfl, hb2, hy', hcell2⟩ := hr.at_ (k := 0) (by simp)
      have hyy : y' = 0 := by simpa using hy'.symm
      have hcell3 : wr.cell? ⟨b2, off2, none⟩ = some (.int .i64 0) := by
        rw [hyy] at hcell2
        rw [hbel.cell (p := ⟨b2, off2, none⟩) hb2]
        exact hcell2
      have hrt := RI.rest hr (by simp)
      have HD : Hid (dropZ t = dropZ xs) := by have := hd.out; simpa [dropZ, Hid] using this
      have HJ : Hid (j + 1 + t.length = xs.length) := by have := hjl.out; simp only [List.length_cons] at this; show _ = _; omega
      have hlc' : t.length + 1 ≤ c' := by simpa using hlc
      have hg' : t.length + 1 ≤ gk := by simpa using hg
      have hjn' : j + (t.length + 1) ≤ 4294967296 := by simpa using hjn
      clear hy' hyy hcell2
      have hj1 : low + ((j + 1 : Nat) : Int) = low + j + 1 := by omega
      have HR1 : c' ≠ 1 → Bx ((wr.setCell ⟨w.heap.size, 1, none⟩ (.slice (some ⟨b2, off2 + 1, none⟩) t.length (c' - 1))).setCell ⟨w.heap.size, 0, none⟩ (.int .i64 (low + j + 1))) w.heap.size 29 #[.int .i64 (low + ((j + 1 : Nat) : Int)), .slice (some ⟨b2, off2 + 1, none⟩) t.length (c' - 1)] := fun _ => by
        rw [hj1]; exact (hbx.set_ 1 _).set_ 0 _
      have HR2 : Bx ((wr.setCell ⟨w.heap.size, 1, none⟩ (.slice (some ⟨b2, off2, none⟩) t.length 0)).setCell ⟨w.heap.size, 0, none⟩ (.int .i64 (low + j + 1))) w.heap.size 29 #[.int .i64 (low + ((j + 1 : Nat) : Int)), .slice (some ⟨b2, off2, none⟩) t.length 0] := by
        rw [hj1]; exact (hbx.set_ 1 _).set_ 0 _
      have H1 := hide HR1
      have H2 := hide HR2
      clear HR1 HR2 hj1
      by_cases hc1 : c' = 1
      · subst hc1
        obtain rfl := len_nil (xs := t) (by omega)
        go_wp2
        all_goals try (exfalso; omega)
        go_roundg 0
        case measure => simp at hg'; omega
        case rel => exact ⟨j + 1, [], some ⟨b2, off2, none⟩, 0, H2.out, (hbs.far (by simp) _).far (by simp) _, RI.nil _ _, by simp, by omega, by simp at hjn' ⊢; omega, by simp, HJ, HD, (hbel.setCell (Nat.le_refl _) _).setCell (Nat.le_refl _) _⟩
      · go_wp2
        all_goals try (exfalso; omega)
        go_roundg t.length
        case measure => omega
        case rel => exact ⟨j + 1, t, some ⟨b2, off2 + 1, none⟩, c' - 1, H1.out hc1, (hbs.far (by simp) _).far (by simp) _, by simpa using hrt, by omega, by omega, by omega, Nat.le_refl _, HJ, HD, (hbel.setCell (Nat.le_refl _) _).setCell (Nat.le_refl _) _⟩
    · have HZ : Hid (dropZ xs = zs) := by
        rw [← hd.out]
        cases zs with
        | nil => rfl
        | cons y t =>
          have hy : y ≠ 0 := fun e => hz ⟨t, by rw [e]⟩
          show dropZ (y :: t) = y :: t
          simp [dropZ, hy]
      have hcase : zs.length ≤ 0 ∨ ∃ b off x, 0 < zs.length ∧ A' = some ⟨b, off, none⟩ ∧ b < w.heap.size ∧ x ≠ 0 ∧ wr.cell? ⟨b, off, none⟩ = some (.int .i64 x) := by
        cases zs with
        | nil => exact .inl (by simp)
        | cons y t =>
          obtain ⟨b, off, x, hA, hb, hx, hcell⟩ := hr.at_ (k := 0) (by simp)
          have hxy : x = y := by simpa using hx.symm
          exact .inr ⟨b, off, x, by simp, hA, hb, fun e => hz ⟨t, by rw [← hxy, e]⟩, (hbel.cell (p := ⟨b, off, none⟩) hb).trans hcell⟩
      have hzn : zs.length ≤ 4294967296 := by omega
      clear hz hd
      rcases hcase with h0 | ⟨b, off, x, h0, rfl, hb, hxne, hcell⟩
      case' inl => go_wp2
      case' inr =>
        have hx' : (x == 0) = false := by rw [beq_eq_false_iff_ne]; exact hxne
        go_wp2
      all_goals
        go_loopg [] zs.length (fun g wr => ∃ (m : Nat) (B' : Option Addr), m ≤ zs.length ∧ Bx wr w.heap.size 29 #[.int .i64 (low + j), .slice B' m c'] ∧ Bx wr (w.heap.size + 1) 29 #[.int .i64 0, .slice none 0 0] ∧
          RI w B' zs ∧ m ≤ g ∧ Hid (rdropZ (zs.take m) = rdropZ zs) ∧ Below w.heap.size w wr)
        case atStart => exact ⟨zs.length, _, Nat.le_refl _, hbx, hbs, hr, Nat.le_refl _, hide (by rw [List.take_of_length_le (Nat.le_refl _)]), hbel⟩
        case round =>
          clear hbx hbs p0 p1 f0 f1 hlt hg hr hbel
          obtain ⟨m, B', hm, hbx, hbs, hr, hg, hd, hbel⟩ := hrel
          obtain ⟨p0, p1⟩ := hbx.two
          have f0 := hbx.frozen 0
          have f1 := hbx.frozen 1
          obtain ⟨r0, r1⟩ := hbs.two
          have g0 := hbs.frozen 0
          have g1 := hbs.frozen 1
          have hlt := hbs.lt
          by_cases hz : 0 < m ∧ zs[m - 1]? = some 0
          · obtain ⟨hm0, hx0⟩ := hz
            first
              | (exfalso; omega)
              | (obtain ⟨b3, off3, x3, rfl, hb3, hx3, hcell3⟩ := hr.at_ (k := m - 1) (by omega)
                 have hxx : x3 = 0 := by rw [hx0] at hx3; injection hx3 with hx3; exact hx3.symm
                 have hcell4 : wr.cell? ⟨b3, off3 + (m - 1), none⟩ = some (.int .i64 0) := by rw [← hxx]; exact (hbel.cell (p := ⟨b3, off3 + (m - 1), none⟩) hb3).trans hcell3
                 have HS := hide ((rdropZ_step hm0 hx0).symm.trans hd.out)
                 have e1 : ((m : Int) - 1).toNat = m - 1 := by omega
                 have HX := hide (hbx.set_ 1 (.slice (some ⟨b3, off3, none⟩) (m - 1) c'))
                 clear hx3 hx0 hxx hcell3
                 go_wp2
                 go_roundg (m - 1)
                 case measure => omega
                 case rel => exact ⟨m - 1, _, by omega, HX.out, hbs.far (by simp) _, hr, Nat.le_refl _, HS, hbel.setCell (Nat.le_refl _) _⟩)
          · have HR : Hid (rdropZ zs = zs.take m) := by
              rw [← hd.out]
              rcases Nat.eq_zero_or_pos m with h0 | h0
              · rw [h0]; rfl
              · cases hx : zs[m - 1]? with
                | none => have := List.getElem?_eq_none_iff.1 hx; omega
                | some x => exact rdropZ_stop h0 hx (fun e => hz ⟨h0, by rw [hx, e]⟩)
            by_cases h0 : m = 0
            · subst h0
              have HT := hide (trimI_none (low := low) HZ.out (by rw [HR.out]; rfl))
              go_wp2
              refine bodyPost_ret (v := .agg #[.int .i64 0, .slice none 0 0]) (by simp [results, Tryz.results77, go_sem, r0, r1]) rfl ?_
              rw [HT.out]
              exact ⟨none, 0, rfl, OwnI.nil _ _, (hbel.setCell (by simp) _).setCell (by simp) _⟩
            · first
                | (exfalso; omega)
                | (obtain ⟨b3, off3, x3, rfl, hb3, hx3, hcell3⟩ := hr.at_ (k := m - 1) (by omega)
                   have hm0 : 0 < m := by omega
                   have hx4 : (x3 == 0) = false := by rw [beq_eq_false_iff_ne]; exact fun e => hz ⟨hm0, by rw [hx3, e]⟩
                   have hcell4 : wr.cell? ⟨b3, off3 + (m - 1), none⟩ = some (.int .i64 x3) := (hbel.cell (p := ⟨b3, off3 + (m - 1), none⟩) hb3).trans hcell3
                   have hlen : (zs.take m).length = m := by rw [List.length_take]; omega
                   have HT := hide (trimI_some (low := low) (m := m) HZ.out hjl.out HR.out (by omega))
                   have e1 : ((m : Int) - 1).toNat = m - 1 := by omega
                   have hrt := (hr.take_ m).below hbel
                   obtain ⟨ys, hys⟩ : ∃ ys, zs.take m = ys := ⟨_, rfl⟩
                   rw [hys] at hlen hrt
                   have HY := hide hys
                   have hyn : ys.length ≤ 4294967296 := by omega
                   obtain rfl : m = ys.length := hlen.symm
                   clear hx3 hcell3 hz hys hlen
                   go_wp2_with fail
                   go_region_held3 (fun w' => w'.cell? ⟨w.heap.size, 0, none⟩ = some (.int .i64 (low + j)) ∧ w'.cell? ⟨w.heap.size, 1, none⟩ = some (.slice (some ⟨b3, off3, none⟩) ys.length c')) (first | exact ⟨p0, p1⟩ | exact ⟨pa3, pb3⟩ | exact (q3.far (by simp) _).two | exact ((q3.far (by simp) _).far (by simp) _).two)
                     (first | (go_at_call 98; refine (slicesClone_any _ _ ys _ hrt.drew hyn).mono ?_; rintro e w3 ⟨A3, c3, rfl, ho3, hb4⟩; have q3 := hbx.drew.below hb4; obtain ⟨pa3, pb3⟩ := q3.two; have s3 := hbs.drew.below hb4; obtain ⟨ra3, rb3⟩ := s3.two; have pf3 := s3.frozen 0; have pg3 := s3.frozen 1; have z3 := hb4.size))
                   go_wp2
                   refine bodyPost_ret (v := .agg #[.int .i64 (low + j), .slice A3 ys.length c3]) (by simp [results, Tryz.results77, go_sem, ra3, rb3]) rfl ?_
                   rw [HT.out, HY.out]
                   exact ⟨A3, c3, rfl, ((ho3.setLow (by simp; omega) _).setLow (by simp; omega) _).mono (by simp; exact hbel.size), ((hbel.drew.trans (hb4.mono (by simp; exact hbel.size))).setCell (by simp) _).setCell (by simp) _⟩)
end Go.Proofs.YtjlifbdaieblpaaGreat
