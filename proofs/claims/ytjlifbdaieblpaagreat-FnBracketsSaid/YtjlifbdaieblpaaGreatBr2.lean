/-
  Contract: the bracket of a panel with few crossings, reference. Conditions: a valid panel's sides; at most eight crossings.
-/
import Derived.Test.YtjlifbdaieblpaaGreatBrWay
import Derived.Test.YtjlifbdaieblpaaGreatBr1
import Derived.Test.YtjlifbdaieblpaaGreatPolyAdd
import Derived.Test.YtjlifbdaieblpaaGreatPolyShift
import Derived.Test.YtjlifbdaieblpaaGreatTr10
import Derived.Deep.RegionHeld3
namespace Go.Proofs.YtjlifbdaieblpaaGreat
open Go.RowKit
set_option linter.unusedVariables false

theorem nine {n : Nat} (h : n ≤ 8) : n = 0 ∨ n = 1 ∨ n = 2 ∨ n = 3 ∨ n = 4 ∨ n = 5 ∨ n = 6 ∨ n = 7 ∨ n = 8 := by omega
theorem shl_fact {n : Nat} (h : n ≤ 8) : wrap64 ((2 : Int) ^ n) = ((2 ^ n : Nat) : Int) := by
  rcases nine h with rfl | rfl | rfl | rfl | rfl | rfl | rfl | rfl | rfl <;> kernel_rfl
theorem OwnI.cell_ {w : World} {base g c : Nat} {xs : List Int} (h : OwnI w base (some ⟨g, 0, none⟩) c xs) {k : Nat} {x : Int} (hk : xs[k]? = some x) : w.cell? ⟨g, k, none⟩ = some (.int .i64 x) := by
  obtain ⟨g', x', e, _, _, hx, hc, _, _⟩ := h.at_ (k := k) (List.getElem?_eq_some_iff.1 hk).1
  cases e
  obtain rfl : x' = x := Option.some.inj (hx.symm.trans hk)
  exact hc
theorem and_one {x : Nat} (h : x < 256) : bits BinOp.and IntKind.i64 (x : Int) 1 = ((x % 2 : Nat) : Int) := by
  have e : ∀ y : Fin 256, bits BinOp.and IntKind.i64 ((y.val : Nat) : Int) 1 = ((y.val % 2 : Nat) : Int) := by decide +kernel
  exact e ⟨x, h⟩
theorem bit_fact {s i : Nat} (h : s ≤ 255) : (bits BinOp.and IntKind.i64 ((s : Int) / 2 ^ i) 1 == 1) = decide (s / 2 ^ i % 2 = 1) := by
  have e : (s : Int) / 2 ^ i = ((s / 2 ^ i : Nat) : Int) := by simp
  rw [e, and_one (Nat.lt_of_le_of_lt (Nat.div_le_self _ _) (by omega))]
  by_cases h1 : s / 2 ^ i % 2 = 1
  · rw [h1]; rfl
  · have h0 : s / 2 ^ i % 2 = 0 := by omega
    rw [h0]; rfl
theorem OwnI.far1 {w : World} {b o : Nat} {u : Value} {base : Nat} {A : Option Addr} {c : Nat} {xs : List Int} (h : OwnI w base A c xs) (hb : ∀ g, blk A = some g → g ≠ b) : OwnI (w.setCell ⟨b, o, none⟩ u) base A c xs :=
  h.keep fun b' _ h2 => Below.heap_setCell w ⟨b, o, none⟩ u b' (hb b' h2)

set_option maxRecDepth 20000 in
set_option maxHeartbeats 8000000 in
theorem l18Bracket_any (b0 : Nat) (wd ht : Int) (A : Option Addr) (c : Nat) (xs : List Int) (w : World) (hp : PA w b0 wd ht A c xs) (hn : xs.length ≤ 1048576) (hs : Sz wd ht) (hl : (xs.length : Int) = innerN wd ht) (h8 : crN xs ≤ 8) :
    Calls Tryz.prog 43 #[.pointer (some ⟨b0, 0, none⟩)] w (RetP w (brTo wd ht xs (2 ^ crN xs)).1 (brTo wd ht xs (2 ^ crN xs)).2) := by
  have HS := hide hs
  have HL := hide hl
  have HZ : Hid ((zTo xs xs.length).length = crN xs) := hide rfl
  have HPA := hide (fun (W : World) (h : Below w.heap.size w W) => hp.below h)
  have HALL := hide (fun (W : World) (h : PA W b0 wd ht A c xs) => l13All_any b0 wd ht A c xs W h hn)
  have HOWN := hide (fun (W : World) (h : PA W b0 wd ht A c xs) => l02Own_any b0 wd ht A c xs W h hn)
  have hbl := hp.bx.lt
  have hinn : (crN xs : Int) ≤ 8 := by omega
  obtain ⟨zs, hzs⟩ : ∃ zs, zs = zTo xs xs.length := ⟨_, rfl⟩
  rw [← hzs] at HZ HALL
  have HZS := hide hzs
  clear hs hl hp hzs
  go_enter Tryz.func43, Tryz.ntmps43
  go_wp2_with fail
  refine (HALL.out _ (HPA.out _ ((Below.refl w.heap.size w).alloc (by first | omega | (simp; omega) | simp) (.cells #[.int .i64 0, .slice none 0 0] 29)))).mono ?_
  rintro e w1 ⟨A3, c3, rfl, own3, hb1⟩
  have r_1 := (Bx.new_ w (w.heap.size) 29 #[.int .i64 0, .slice none 0 0] (by simp)).below hb1
  obtain ⟨ra_1, rb_1⟩ := (r_1).two
  have rf0_1 := (r_1).frozen 0
  have rf1_1 := (r_1).frozen 1
  have z_1 : (w.alloc (.cells #[.int .i64 0, .slice none 0 0] 29)).heap.size ≤ w1.heap.size := hb1.size
  simp only [World.size_alloc] at z_1
  have B_1 := ((Below.refl w.heap.size w).alloc (by first | omega | (simp; omega) | simp) (.cells #[.int .i64 0, .slice none 0 0] 29)).trans (hb1.mono (by first | omega | (simp; omega) | simp))
  have hlow3 : ∀ g, blk A3 = some g → g < w1.heap.size := fun g hg => (own3.ge hg).2
  have h1 := OwnI.newI_ w1 (base := w.heap.size + 1) (w1.heap.size) [] #[] (by simp) rfl (by omega) (by simp [maxLen])
  have x1 := h1.alloc (.cells #[.int .i64 0, .slice (some ⟨w1.heap.size, 0, none⟩) 0 0] 29)
  have o31 := (own3.alloc (.cells #[] 2)).alloc (.cells #[.int .i64 0, .slice (some ⟨w1.heap.size, 0, none⟩) 0 0] 29)
  obtain ⟨oa_x1, ob_x1⟩ := (Bx.new_ (w1.alloc (.cells #[] 2)) (w1.heap.size + 1) 29 #[.int .i64 0, .slice (some ⟨w1.heap.size, 0, none⟩) 0 0] (by simp)).two
  have of0_x1 := (Bx.new_ (w1.alloc (.cells #[] 2)) (w1.heap.size + 1) 29 #[.int .i64 0, .slice (some ⟨w1.heap.size, 0, none⟩) 0 0] (by simp)).frozen 0
  have of1_x1 := (Bx.new_ (w1.alloc (.cells #[] 2)) (w1.heap.size + 1) 29 #[.int .i64 0, .slice (some ⟨w1.heap.size, 0, none⟩) 0 0] (by simp)).frozen 1
  go_wp2_with fail
  refine (HOWN.out _ (HPA.out _ (((B_1).alloc (by first | omega | (simp; omega) | simp) (.cells #[] 2)).alloc (by first | omega | (simp; omega) | simp) (.cells #[.int .i64 0, .slice (some ⟨w1.heap.size, 0, none⟩) 0 0] 29)))).mono ?_
  rintro e w2 ⟨A2, c2, rfl, own2, hb2⟩
  have r_2 := (((r_1).alloc (.cells #[] 2)).alloc (.cells #[.int .i64 0, .slice (some ⟨w1.heap.size, 0, none⟩) 0 0] 29)).below hb2
  obtain ⟨ra_2, rb_2⟩ := (r_2).two
  have rf0_2 := (r_2).frozen 0
  have rf1_2 := (r_2).frozen 1
  have o_2 := (Bx.new_ (w1.alloc (.cells #[] 2)) (w1.heap.size + 1) 29 #[.int .i64 0, .slice (some ⟨w1.heap.size, 0, none⟩) 0 0] (by simp)).below hb2
  obtain ⟨oa_2, ob_2⟩ := (o_2).two
  have of0_2 := (o_2).frozen 0
  have of1_2 := (o_2).frozen 1
  have z_2 : ((w1.alloc (.cells #[] 2)).alloc (.cells #[.int .i64 0, .slice (some ⟨w1.heap.size, 0, none⟩) 0 0] 29)).heap.size ≤ w2.heap.size := hb2.size
  simp only [World.size_alloc] at z_2
  have B_2 := (((B_1).alloc (by first | omega | (simp; omega) | simp) (.cells #[] 2)).alloc (by first | omega | (simp; omega) | simp) (.cells #[.int .i64 0, .slice (some ⟨w1.heap.size, 0, none⟩) 0 0] 29)).trans (hb2.mono (by first | omega | (simp; omega) | simp))
  have x2 := x1.below hb2
  have o32 := o31.below hb2
  have hA2 : ∀ g, blk A2 = some g → w1.heap.size + 2 ≤ g ∧ g < w2.heap.size := fun g hg => by have := own2.ge hg; simp at this; omega
  have own2' := (own2.alloc (.cells #[.int .i64 wd, .int .i64 ht, .slice A2 xs.length c2] 26)).mono (show w1.heap.size + 2 ≤ _ by simp)
  have x3 := x2.alloc (.cells #[.int .i64 wd, .int .i64 ht, .slice A2 xs.length c2] 26)
  have o33 := o32.alloc (.cells #[.int .i64 wd, .int .i64 ht, .slice A2 xs.length c2] 26)
  have r0 := ((r_2).alloc (.cells #[.int .i64 wd, .int .i64 ht, .slice A2 xs.length c2] 26))
  have o0 := ((o_2).alloc (.cells #[.int .i64 wd, .int .i64 ht, .slice A2 xs.length c2] 26))
  have q0 := (Bx.new_ w2 (w2.heap.size) 26 #[.int .i64 wd, .int .i64 ht, .slice A2 xs.length c2] (by simp))
  have B0 := ((B_2).alloc (by first | omega | (simp; omega) | simp) (.cells #[.int .i64 wd, .int .i64 ht, .slice A2 xs.length c2] 26))
  have hz1 := r_1.lt
  have hz2 := o_2.lt
  have hpw : (2 : Nat) ^ crN xs ≤ 256 := by
    have : (2 : Nat) ^ crN xs ≤ 2 ^ 8 := Nat.pow_le_pow_right (by omega) h8
    exact this
  clear own3 h1 x1 o31 own2 x2 o32
  obtain ⟨oa_x2, ob_x2⟩ := ((o_2).alloc (.cells #[.int .i64 wd, .int .i64 ht, .slice A2 xs.length c2] 26)).two
  have of0_x2 := ((o_2).alloc (.cells #[.int .i64 wd, .int .i64 ht, .slice A2 xs.length c2] 26)).frozen 0
  have of1_x2 := ((o_2).alloc (.cells #[.int .i64 wd, .int .i64 ht, .slice A2 xs.length c2] 26)).frozen 1
  obtain ⟨qa_x2, qb_x2, qc_x2⟩ := (Bx.new_ w2 (w2.heap.size) 26 #[.int .i64 wd, .int .i64 ht, .slice A2 xs.length c2] (by simp)).three
  obtain ⟨ra_x2, rb_x2⟩ := ((r_2).alloc (.cells #[.int .i64 wd, .int .i64 ht, .slice A2 xs.length c2] 26)).two
  have rf0_x2 := ((r_2).alloc (.cells #[.int .i64 wd, .int .i64 ht, .slice A2 xs.length c2] 26)).frozen 0
  have rf1_x2 := ((r_2).alloc (.cells #[.int .i64 wd, .int .i64 ht, .slice A2 xs.length c2] 26)).frozen 1
  go_wp2_with fail
  go_loopw [7] (fun sv wr => ∃ (s : Nat) (A5 : Option Addr) (c5 : Nat) (ys : List Int), s ≤ 2 ^ crN xs ∧ sv = .int .i64 (s : Int) ∧ OwnI wr (w.heap.size + 1) A5 c5 (brTo wd ht xs s).2 ∧ (∀ g, blk A5 = some g → g < w1.heap.size + 2 ∨ w2.heap.size < g) ∧ Bx wr (w1.heap.size + 1) 29 #[.int .i64 (brTo wd ht xs s).1, .slice A5 (brTo wd ht xs s).2.length c5] ∧ OffC xs ys ∧ OwnI wr (w1.heap.size + 2) A2 c2 ys ∧ Bx wr w2.heap.size 26 #[.int .i64 wd, .int .i64 ht, .slice A2 xs.length c2] ∧ OwnI wr (w.heap.size + 1) A3 c3 zs ∧ Bx wr w.heap.size 29 #[.int .i64 0, .slice none 0 0] ∧ Below w.heap.size w wr) (fun sv _ => 2 ^ crN xs + 1 - (intOf sv).toNat)
  case atStart => exact ⟨0, _, _, xs, Nat.zero_le _, rfl, x3, fun g hg => .inl (by have := blk_inj hg; omega), o0, OffC.same xs, own2', q0, o33.mono (show w.heap.size + 1 ≤ _ by simp), r0, B0⟩
  case round =>
    clear x3 o0 own2' q0 o33 r0 B0
    obtain ⟨s, A5, c5, ys, hs2, rfl, own5, hA5, ho, hoff, own2, hq, own3, hr, hB⟩ := hrel
    by_cases hlt : s < 2 ^ crN xs
    · have HD : decide ((s : Int) < wrap64 (2 ^ zs.length)) = true := by
        rw [HZ.out, shl_fact h8]
        exact decide_eq_true (by omega)
      have hs256 : s ≤ 255 := by omega
      have hzl : zs.length ≤ 8 := by rw [HZ.out]; exact h8
      obtain ⟨q5, hq5⟩ : ∃ q5, q5 = brTo wd ht xs s := ⟨_, rfl⟩
      rw [← hq5] at own5 ho
      go_upto_region 10 with fail
      go_loopw [8, 9] (fun pv iv wr => ∃ (i : Nat), i ≤ crN xs ∧ pv = .int .i64 (powTo s i) ∧ iv = .int .i64 (i : Int) ∧ OwnI wr (w.heap.size + 1) A5 c5 q5.2 ∧ Bx wr (w1.heap.size + 1) 29 #[.int .i64 q5.1, .slice A5 q5.2.length c5] ∧ OwnI wr (w1.heap.size + 2) A2 c2 (wayT wd xs s i ys) ∧ Bx wr w2.heap.size 26 #[.int .i64 wd, .int .i64 ht, .slice A2 xs.length c2] ∧ OwnI wr (w.heap.size + 1) A3 c3 zs ∧ Bx wr w.heap.size 29 #[.int .i64 0, .slice none 0 0] ∧ Below w.heap.size w wr) (fun _ iv _ => crN xs + 1 - (intOf iv).toNat)
      case atStart => exact ⟨0, Nat.zero_le _, rfl, rfl, own5, ho, own2, hq, own3, hr, hB⟩
      case round =>
        clear own5 ho own2 hq own3 hr hB
        obtain ⟨i, hi, rfl, rfl, own5, ho, own2, hq, own3, hr, hB⟩ := hrel
        by_cases hil : i < crN xs
        · obtain ⟨hp1, hp2⟩ := psN_at hil
          have hi7 : i ≤ 7 := by omega
          have hiz : (i : Int) < (zs.length : Int) := by rw [HZ.out]; omega
          have hbit := bit_fact (i := i) hs256
          obtain ⟨p, hpp⟩ : ∃ p, p = psN xs i := ⟨_, rfl⟩
          rw [← hpp] at hp1 hp2
          obtain ⟨bb, hbb⟩ : ∃ bb, bb = decide (s / 2 ^ i % 2 = 1) := ⟨_, rfl⟩
          rw [← hbb] at hbit
          have HPT := hide (fun (W : World) (h : Below w.heap.size w W) => l02Point_any b0 wd ht A c xs p W (HPA.out W h) HS.out (by rw [← HL.out]; omega))
          have HKD := hide (fun (W : World) => l18Kind_any (pntX wd p) (pntY wd p) bb W (by obtain ⟨_, _, _, _, k1, k2⟩ := pnt_facts HS.out (k := p) (by rw [← HL.out]; omega); obtain ⟨s1, s2, s3, s4⟩ := HS.out; omega))
          obtain ⟨X, hX⟩ : ∃ X, X = pntX wd p := ⟨_, rfl⟩
          obtain ⟨Y, hY⟩ : ∃ Y, Y = pntY wd p := ⟨_, rfl⟩
          rw [← hX] at HPT HKD
          rw [← hY] at HPT HKD
          obtain ⟨kd, hkd⟩ : ∃ kd, kd = kdB X bb := ⟨_, rfl⟩
          rw [← hkd] at HKD
          have HW : Hid ((wayT wd xs s i ys).set p kd = wayT wd xs s (i + 1) ys) := hide (by rw [wayT_next, hkd, hX, hpp, hbb])
          have HPW : Hid (powTo s (i + 1) = powTo s i + (if bb = true then 1 else -1)) := hide (by
            rw [hbb]
            show powTo s i + _ = powTo s i + _
            congr 1
            simp)
          have hpb := powTo_b s i
          obtain ⟨pw, hpw2⟩ : ∃ pw, pw = powTo s i := ⟨_, rfl⟩
          obtain ⟨pw3, hpw3⟩ : ∃ pw, pw = powTo s (i + 1) := ⟨_, rfl⟩
          rw [← hpw2] at hpb HPW
          rw [← hpw3] at HPW
          have HPW3 := hide hpw3
          rw [← hpw2]
          obtain ⟨ws, hws⟩ : ∃ ws, ws = wayT wd xs s i ys := ⟨_, rfl⟩
          have hwl : ws.length = xs.length := by rw [hws, wayT_len]; exact hoff.1
          rw [← hws] at own2 HW
          obtain ⟨g3, v3, rfl, _, _, hv3, hgc3, _, _⟩ := own3.at_ (k := i) (by omega)
          have hpz : zs[i]? = some (p : Int) := by rw [HZS.out]; exact hp2
          obtain rfl : (p : Int) = v3 := Option.some.inj (hpz.symm.trans hv3)
          obtain ⟨g, x, rfl, hg1, _, _, hgc, hgf, hst⟩ := own2.at_ (k := p) (by omega)
          have hg2 := hA2 g rfl
          have hg3 := hlow3 g3 rfl
          have hQ := hide (And.intro own5 (And.intro ho (And.intro own2 (And.intro hq (And.intro own3 (And.intro hr hB))))))
          have q2 := hq.three.2.2
          have c3c := hgc3
          have B0 := hB
          have HB0 := hide hB.drew
          have hq_keep := hq
          have own3_keep := own3
          have own2_keep := own2
          have hpl : Hid (p < ws.length) := hide (by omega)
          have hpz := hide hpz
          clear own5 ho own2 hq own3 hr hB hX hY hkd hbb hpp hp2 hv3 hws hpw2 hpw3 hst hgc hgf
          go_upto_region 13 with fail
          have hq' := hq_keep
          have HO := hide (hq'.drew)
          have qo := hq'.drew.three.2.2
          have a0 : wr.drew.cell? ⟨g3, i, none⟩ = some (.int .i64 (p : Int)) := hgc3
          have HG3 := hide own3_keep.drew
          have HG2 := hide own2_keep.drew
          clear hq' hq_keep own3_keep own2_keep q2 c3c hgc3
          go_region_held3 (fun w' => w'.cell? ⟨w2.heap.size, 2, none⟩ = some (.slice (some ⟨g, 0, none⟩) xs.length c2) ∧ w'.cell? ⟨g3, i, none⟩ = some (.int .i64 (p : Int)))
            (first | exact ⟨qo, a0⟩ | exact ⟨qo4, a4⟩ | exact ⟨qo5, a5⟩ | exact ⟨qo6, a6⟩)
            (first
              | (go_at_call 66; refine (HPT.out _ HB0.out).mono ?_; rintro e w4 ⟨rfl, hb4⟩; have B4 := HB0.out.trans (hb4.mono HB0.out.size); have HO4 := hide (HO.out.below hb4); have qo4 := HO4.out.three.2.2; have HG34 := hide (HG3.out.below hb4); have HG24 := hide (HG2.out.below hb4); have a4 : w4.cell? ⟨g3, i, none⟩ = some (.int .i64 (p : Int)) := HG34.out.cell_ hpz.out)
              | (go_at_call 65; refine (HKD.out _).mono ?_; rintro e w5 ⟨rfl, hb5⟩; have B5 := B4.trans (hb5.mono B4.size); have HO5 := hide (HO4.out.below hb5); have qo5 := HO5.out.three.2.2; have hg35 := HG34.out.below hb5; have a5 : w5.cell? ⟨g3, i, none⟩ = some (.int .i64 (p : Int)) := hg35.cell_ hpz.out; have hg5 := HG24.out.below hb5; obtain ⟨g', x5, eg, _, _, _, hgc5, hgf5, hst5⟩ := hg5.at_ (k := p) hpl.out; obtain rfl : g = g' := (by cases eg; rfl); have HS5 := hide (hst5 kd).1; have qo6 := (HO5.out.far (p := ⟨g, p, none⟩) (show w2.heap.size ≠ g by omega) (.int .i64 kd)).three.2.2; have a6 : (w5.setCell ⟨g, p, none⟩ (.int .i64 kd)).cell? ⟨g3, i, none⟩ = some (.int .i64 (p : Int)) := (hg35.far1 (b := g) (o := p) (u := .int .i64 kd) (fun g' hg' => by have := blk_inj hg'; omega)).cell_ hpz.out; clear hg5 hst5 hg35))
          obtain ⟨own5, ho, own2, hq, own3, hr, hB⟩ := hQ.out
          have HN := hide (And.intro (((own5.drew.below hb4).below hb5).far1 (b := g) (o := p) (u := .int .i64 kd) (fun g' hg' => by have := hA5 g' hg'; omega)) (And.intro (((ho.drew.below hb4).below hb5).far (p := ⟨g, p, none⟩) (show w1.heap.size + 1 ≠ g by omega) (.int .i64 kd)) (And.intro HS5.out (And.intro (HO5.out.far (p := ⟨g, p, none⟩) (show w2.heap.size ≠ g by omega) (.int .i64 kd)) (And.intro (((own3.drew.below hb4).below hb5).far1 (b := g) (o := p) (u := .int .i64 kd) (fun g' hg' => by have := blk_inj hg'; omega)) (And.intro (((hr.drew.below hb4).below hb5).far (p := ⟨g, p, none⟩) (show w.heap.size ≠ g by omega) (.int .i64 kd)) (B5.setCell (p := ⟨g, p, none⟩) (show w.heap.size ≤ g by omega) (.int .i64 kd))))))))
          clear own5 ho own2 hq own3 hr hB qo qo4 qo5 qo6 a0 a4 a5 a6 hgc5 hgf5 hbit
          rename_i hHeld
          clear hHeld
          cases bb
          · have e1 : powTo s (i + 1) = pw - 1 := by rw [← HPW3.out, HPW.out]; simp; omega
            go_wp2_with fail
            go_roundw
            case rel => exact ⟨i + 1, hil, by rw [e1], by go_num, HN.out.1, HN.out.2.1, by rw [← HW.out]; exact HN.out.2.2.1, HN.out.2.2.2.1, HN.out.2.2.2.2.1, HN.out.2.2.2.2.2.1, HN.out.2.2.2.2.2.2⟩
            case measure => simp [intOf]; omega
          · have e1 : powTo s (i + 1) = pw + 1 := by rw [← HPW3.out, HPW.out]; simp
            go_wp2_with fail
            go_roundw
            case rel => exact ⟨i + 1, hil, by rw [e1], by go_num, HN.out.1, HN.out.2.1, by rw [← HW.out]; exact HN.out.2.2.1, HN.out.2.2.2.1, HN.out.2.2.2.2.1, HN.out.2.2.2.2.2.1, HN.out.2.2.2.2.2.2⟩
            case measure => simp [intOf]; omega
        · obtain rfl : i = crN xs := by omega
          have hiz : ¬ ((crN xs : Int) < (zs.length : Int)) := by rw [HZ.out]; omega
          have HOF := hide (OffC.way (wd := wd) (s := s) hoff)
          have HWX := hide (OffC.eq (wd := wd) (s := s) hoff)
          obtain ⟨ws, hws⟩ : ∃ ws, ws = wayT wd xs s (crN xs) ys := ⟨_, rfl⟩
          rw [← hws] at own2 HOF HWX
          have hwl : ws.length = xs.length := HOF.out.1
          obtain ⟨cnt, hcnt⟩ : ∃ cnt : Nat, cnt = (curL wd ht ws).length := ⟨_, rfl⟩
          have hc256 : cnt ≤ 256 := by rw [hcnt]; exact cur_le HS.out
          have HM : Hid (wayM wd ht xs s = cnt - 1) := hide (by unfold wayM; rw [← HWX.out, ← hcnt])
          have HPP : Hid (wayP wd ht xs s = summP (powTo s (crN xs)) (cnt - 1)) := hide (by unfold wayP; rw [HM.out])
          have hpb := powTo_b s (crN xs)
          obtain ⟨pw, hpw2⟩ : ∃ pw, pw = powTo s (crN xs) := ⟨_, rfl⟩
          rw [← hpw2] at HPP hpb
          rw [← hpw2]
          have HLB := hide (loop_bk (cnt - 1))
          have HWB := hide (wayP_bk HS.out h8 s)
          have HQB := hide (brTo_bk HS.out h8 s)
          have HBN := hide (brTo_next wd ht xs s)
          have HSL : Hid (shiftP (loopP (cnt - 1)).1 (loopP (cnt - 1)).2 pw 1 = wayP wd ht xs s) := hide (by rw [shift_loop, HPP.out])
          have HCNT := hide (fun (W : World) (h : PA W w2.heap.size wd ht A2 c2 ws) => l04Count_any w2.heap.size wd ht A2 c2 ws W h HS.out (by rw [hwl]; exact HL.out))
          rw [← hcnt] at HCNT
          have HLP := hide (fun (W : World) => l18Loops_any ((cnt : Int) - 1) W (by omega) (by omega))
          rw [show ((cnt : Int) - 1).toNat = cnt - 1 from by omega] at HLP
          obtain ⟨L1, hL1⟩ : ∃ L1, L1 = loopP (cnt - 1) := ⟨_, rfl⟩
          rw [← hL1] at HLP HLB HSL
          obtain ⟨P1, hP1⟩ : ∃ P1, P1 = wayP wd ht xs s := ⟨_, rfl⟩
          rw [← hP1] at HSL HWB HBN
          rw [← hq5] at HQB HBN
          obtain ⟨Q6, hQ6⟩ : ∃ Q6, Q6 = brTo wd ht xs (s + 1) := ⟨_, rfl⟩
          rw [← hQ6] at HBN
          have HQ6 := hide hQ6
          have HSH := hide (fun (W : World) (A : Option Addr) (c : Nat) (h : RI W A L1.2) => l18Shift_any L1.1 A c L1.2 pw 1 W h (by have := HLB.out; unfold BK at this; omega) (by have := HLB.out; unfold BK at this; omega) (by omega) (by omega) (by have := HLB.out; unfold BK at this; omega))
          rw [HSL.out] at HSH
          have HAD := hide (fun (W : World) (A B : Option Addr) (c d : Nat) (h : RI W A q5.2) (h' : RI W B P1.2) (k : q5.2.length ≤ c ∧ c ≤ 9223372036854775807) (k' : P1.2.length ≤ d ∧ d ≤ 9223372036854775807) => l18Add_any q5.1 A c q5.2 P1.1 B d P1.2 W h h' (by have := HQB.out; unfold BK at this; omega) (by have := HQB.out; unfold BK at this; omega) (by have := HWB.out; unfold BK at this; omega) (by have := HWB.out; unfold BK at this; omega) (by have := HQB.out; unfold BK at this; omega) (by have := HWB.out; unfold BK at this; omega) k.1 k'.1 k.2 k'.2)
          rw [HBN.out] at HAD
          have hwr : IntKind.i64.wrap ((cnt : Int) - 1) = (cnt : Int) - 1 := by rw [IntKind.wrap_i64]; omega
          have HPQ := hide (PA.mk (by rw [hwl]; exact hq.drew) own2.drew.rd : PA wr.drew w2.heap.size wd ht A2 c2 ws)
          have HQ := hide (And.intro own5.drew (And.intro ho.drew (And.intro own2.drew (And.intro hq.drew (And.intro own3.drew (And.intro hr.drew hB.drew))))))
          have qo := ho.drew.two
          have HO := hide ho.drew
          have HB0 := hide hB.drew
          have HO5 := hide own5.drew
          have hqlt := hq.lt
          clear own5 ho own2 hq own3 hr hB hws hcnt hpw2 hL1 hP1 hQ6 hq5
          go_upto_region 17 with fail
          obtain ⟨qa0, qb0⟩ := qo
          go_region_with
            (first
              | (go_at_call 38; refine (HCNT.out _ HPQ.out).mono ?_; rintro e w4 ⟨rfl, hb4⟩; have B4 := HB0.out.trans (hb4.mono HB0.out.size); have HO4 := hide (HO.out.below hb4); obtain ⟨qa4, qb4⟩ := HO4.out.two; have HO54 := hide (HO5.out.below hb4))
              | (go_at_call 67; refine (HLP.out _).mono ?_; rintro e w5 ⟨A6, c6, rfl, own6, hb5⟩; have B5 := B4.trans (hb5.mono B4.size); have HO55 := hide (HO4.out.below hb5); obtain ⟨qa5, qb5⟩ := HO55.out.two; have HO56 := hide (HO54.out.below hb5))
              | (go_at_call 35; refine (HSH.out _ _ _ own6.rd).mono ?_; rintro e w6 ⟨A7, c7, rfl, own7, hb6⟩; have B6 := B5.trans (hb6.mono B5.size); have HO6 := hide (HO55.out.below hb6); obtain ⟨qa6, qb6⟩ := HO6.out.two; have HO57 := hide (HO56.out.below hb6))
              | (go_at_call 44; refine (HAD.out _ _ _ _ _ HO57.out.rd own7.rd HO57.out.cap_ own7.cap_).mono ?_; rintro e w7 ⟨A8, c8, rfl, own8, hb7⟩; have B7 := B6.trans (hb7.mono B6.size); have HO7 := hide (HO6.out.below hb7); obtain ⟨z0, z1⟩ := HO7.out.two; have f0 := HO7.out.frozen 0; have f1 := HO7.out.frozen 1))
          all_goals
            obtain ⟨own5, ho, own2, hq, own3, hr, hB⟩ := HQ.out
            have k4 := hb4.size
            have k5 := hb5.size
            have k6 := hb6.size
            have k0 : w2.heap.size < wr.drew.heap.size := hqlt
            have HN := hide (And.intro ((own8.far2 (b := w1.heap.size + 1) (o0 := 0) (o1 := 1) (u0 := .int .i64 Q6.1) (u1 := .slice A8 Q6.2.length c8) (fun g hg => by have := (own8.ge hg).1; omega)).mono (show w.heap.size + 1 ≤ w6.heap.size by omega)) (And.intro (show ∀ g, blk A8 = some g → g < w1.heap.size + 2 ∨ w2.heap.size < g from fun g hg => .inr (by have := (own8.ge hg).1; omega)) (And.intro (HO7.out.put2 (u0 := .int .i64 Q6.1) (u1 := .slice A8 Q6.2.length c8)) (And.intro (((((own2.below hb4).below hb5).below hb6).below hb7).far2 (b := w1.heap.size + 1) (o0 := 0) (o1 := 1) (u0 := .int .i64 Q6.1) (u1 := .slice A8 Q6.2.length c8) (fun g hg => by have := hA2 g hg; omega)) (And.intro (((((hq.below hb4).below hb5).below hb6).below hb7).far2 (b := w1.heap.size + 1) (o0 := 0) (o1 := 1) (u0 := .int .i64 Q6.1) (u1 := .slice A8 Q6.2.length c8) (by omega)) (And.intro (((((own3.below hb4).below hb5).below hb6).below hb7).far2 (b := w1.heap.size + 1) (o0 := 0) (o1 := 1) (u0 := .int .i64 Q6.1) (u1 := .slice A8 Q6.2.length c8) (fun g hg => by have := hlow3 g hg; omega)) (And.intro (((((hr.below hb4).below hb5).below hb6).below hb7).far2 (b := w1.heap.size + 1) (o0 := 0) (o1 := 1) (u0 := .int .i64 Q6.1) (u1 := .slice A8 Q6.2.length c8) (by omega)) (below_put2 (b := w1.heap.size + 1) (o0 := 0) (o1 := 1) (u0 := .int .i64 Q6.1) (u1 := .slice A8 Q6.2.length c8) B7 (by omega)))))))))
            clear own5 ho own2 hq own3 hr hB own8 own7 own6 z0 z1 f0 f1 qa0 qb0 qa4 qb4 qa5 qb5 qa6 qb6
            go_wp2_with fail
            go_roundw
            case rel => exact ⟨s + 1, A8, c8, ws, hlt, by go_num, by rw [← HQ6.out]; exact HN.out.1, HN.out.2.1, by rw [← HQ6.out]; exact HN.out.2.2.1, HOF.out, HN.out.2.2.2.1, HN.out.2.2.2.2.1, HN.out.2.2.2.2.2.1, HN.out.2.2.2.2.2.2.1, HN.out.2.2.2.2.2.2.2⟩
            case measure => simp [intOf]; omega
    · have hse : s = 2 ^ crN xs := by omega
      have HD : decide ((s : Int) < wrap64 (2 ^ zs.length)) = false := by
        rw [HZ.out, shl_fact h8]
        exact decide_eq_false (by omega)
      have hzl : zs.length ≤ 8 := by rw [HZ.out]; exact h8
      obtain ⟨q, hq9⟩ : ∃ q, q = brTo wd ht xs s := ⟨_, rfl⟩
      have HQ : Hid (brTo wd ht xs (2 ^ crN xs) = q) := hide (by rw [hq9, hse])
      rw [← hq9] at ho own5
      obtain ⟨oa, ob⟩ := ho.two
      obtain ⟨ra, rb⟩ := hr.two
      have rf0 := hr.frozen 0
      have rf1 := hr.frozen 1
      have HR := hide (hr.put2 (u0 := .int .i64 q.1) (u1 := .slice A5 q.2.length c5)).two
      have HOWN9 := hide ((own5.far2 (b := w.heap.size) (o0 := 0) (o1 := 1) (u0 := .int .i64 q.1) (u1 := .slice A5 q.2.length c5) (fun g hg => by have := (own5.ge hg).1; omega)).mono (show w.heap.size ≤ w.heap.size + 1 by omega))
      have HB := hide (below_put2 (b := w.heap.size) (o0 := 0) (o1 := 1) (u0 := .int .i64 q.1) (u1 := .slice A5 q.2.length c5) hB (Nat.le_refl _))
      clear hr ho own5 own2 own3 hq hB hq9 hA5 hoff hse
      go_wp2_with fail
      obtain ⟨ra_9, rb_9⟩ := HR.out
      refine bodyPost_ret (v := .agg #[.int .i64 q.1, .slice A5 q.2.length c5]) (by simp [results, Tryz.results43, go_sem, ra_9, rb_9]) rfl ?_
      rw [HQ.out]
      exact ⟨A5, c5, rfl, HOWN9.out, HB.out⟩
end Go.Proofs.YtjlifbdaieblpaaGreat
