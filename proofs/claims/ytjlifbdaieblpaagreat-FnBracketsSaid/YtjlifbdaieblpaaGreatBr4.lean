/-
  Contracts: the codes of brackets, and BracketOf, of the reference and of the program. Conditions: the lengths are far below the machine's.
-/
import Derived.Test.YtjlifbdaieblpaaGreatBr2
import Derived.Test.YtjlifbdaieblpaaGreatBr3
import Derived.Test.YtjlifbdaieblpaaGreatCrC
import Derived.Deep.RegionHeld3
namespace Go.Proofs.YtjlifbdaieblpaaGreat
open Go.RowKit
set_option linter.unusedVariables false

theorem take_val {P : Program} {md : Region.Mode} {ops : Array Oper} {Q : Exit → Act → World → Prop} {S : World → Prop} {i : Nat} {oi : Oper} {v : Value} {fuel : Nat} {listed : Array Bool} {a a' : Act} {w : World} (hi : ops[i]? = some oi)
    (hs : Region.noSelect ops = true) (hf : Region.free md ops listed i = true) (hr : (Region.ready md ops listed).contains i = true)
    (hQ : ∀ c a w, Q (.panic c) (a.put oi.dst v) w → Q (.panic c) a w) (hy : YieldsIf P ops S oi v a) (hp : a.put oi.dst v = a') (hS : S w)
    (h : wpAnyH P md ops Q S fuel (listed.setIfInBounds i true) a' w) : wpAnyH P md ops Q S (fuel + 1) listed a w :=
  wpAnyH_take hi hs hf hr hQ hy hS (by rw [hp]; exact h)
theorem take_skip {P : Program} {md : Region.Mode} {ops : Array Oper} {Q : Exit → Act → World → Prop} {S : World → Prop} {i : Nat} {oi : Oper} {fuel : Nat} {listed : Array Bool} {a : Act} {w : World} (hi : ops[i]? = some oi)
    (hs : Region.noSelect ops = true) (hf : Region.free md ops listed i = true) (hr : (Region.ready md ops listed).contains i = true)
    (hQ : ∀ c a w, Q (.panic c) (a.put oi.dst undef) w → Q (.panic c) a w) (hw : Region.wanted oi (yielded ops a.tmps) = false) (hp : a.put oi.dst undef = a) (hS : S w)
    (h : wpAnyH P md ops Q S fuel (listed.setIfInBounds i true) a w) : wpAnyH P md ops Q S (fuel + 1) listed a w :=
  wpAnyH_take hi hs hf hr hQ (.inr ⟨hw, rfl⟩) hS (by rw [hp]; exact h)
/-- the code of a panel whose bracket is wanted -/
def brC (wd ht : Int) (xs : List Int) : Int := if vldPan wd ht xs then (if 8 < crN xs then 5 else if 20 < wd * ht then 5 else 0) else 1
theorem brC_no {wd ht : Int} {xs : List Int} (h : vldPan wd ht xs = false) : brC wd ht xs = 1 := by unfold brC; rw [h]; rfl
theorem brC_cr {wd ht : Int} {xs : List Int} (h : vldPan wd ht xs = true) (h2 : 8 < crN xs) : brC wd ht xs = 5 := by unfold brC; rw [h, if_pos h2]; rfl
theorem brC_big {wd ht : Int} {xs : List Int} (h : vldPan wd ht xs = true) (h2 : ¬ 8 < crN xs) (h3 : 20 < wd * ht) : brC wd ht xs = 5 := by unfold brC; rw [h, if_neg h2, if_pos h3]; rfl
theorem brC_ok {wd ht : Int} {xs : List Int} (h : vldPan wd ht xs = true) (h2 : ¬ 8 < crN xs) (h3 : ¬ 20 < wd * ht) : brC wd ht xs = 0 := by unfold brC; rw [h, if_neg h2, if_neg h3]; rfl
theorem brC_zero {wd ht : Int} {xs : List Int} (h : brC wd ht xs = 0) : vldPan wd ht xs = true ∧ crN xs ≤ 8 ∧ wd * ht ≤ 20 := by
  unfold brC at h
  split at h
  · rename_i h1
    split at h
    · omega
    · rename_i h2
      split at h
      · omega
      · rename_i h3
        exact ⟨h1, by omega, by omega⟩
  · omega
/-- the bracket of a panel, and its code -/
noncomputable def brR (wd ht : Int) (xs : List Int) : (Int × List Int) × Int := if brC wd ht xs = 0 then (brTo wd ht xs (2 ^ crN xs), 0) else ((0, []), brC wd ht xs)
theorem brR_ok {wd ht : Int} {xs : List Int} (h : brC wd ht xs = 0) : brR wd ht xs = (brTo wd ht xs (2 ^ crN xs), 0) := by unfold brR; rw [if_pos h]
theorem brR_no {wd ht : Int} {xs : List Int} (h : ¬ brC wd ht xs = 0) : brR wd ht xs = ((0, []), brC wd ht xs) := by unfold brR; rw [if_neg h]
theorem brR_len {wd ht : Int} {xs : List Int} : (brR wd ht xs).1.2.length ≤ 2000 := by
  unfold brR
  split
  · rename_i h
    obtain ⟨h1, h2, _⟩ := brC_zero h
    obtain ⟨hs, _⟩ := vld_sz h1
    have := brTo_bk hs h2 (2 ^ crN xs)
    unfold BK at this
    show (brTo wd ht xs (2 ^ crN xs)).2.length ≤ 2000
    omega
  · simp
theorem BelowOf.ret_ {P : Program} {f : FuncId} {args : Array Value} {W0 W : World} {v : Value} (hW : Below W0.heap.size W0 W) (h : Calls P f args W (RetV W v)) : Calls P f args W fun e w' => e = .returned v ∧ Below W0.heap.size W0 w' :=
  h.mono fun _ _ ⟨he, hb⟩ => ⟨he, hW.trans (hb.mono hW.size)⟩

set_option maxRecDepth 20000 in
set_option maxHeartbeats 4000000 in
theorem l18Code_any (b0 : Nat) (wd ht : Int) (A : Option Addr) (c : Nat) (xs : List Int) (w : World) (hp : PA w b0 wd ht A c xs) (hn : xs.length ≤ 1048576) :
    Calls Tryz.prog 22 #[.pointer (some ⟨b0, 0, none⟩)] w (RetV w (.int .i64 (brC wd ht xs))) := by
  have HOK := hide (fun (W : World) (h : PA W b0 wd ht A c xs) => RetQ.v (l02Ok_any b0 wd ht A c xs W h.c0 h.c1 h.c2 h.rd hn))
  have HALL := hide (fun (W : World) (h : PA W b0 wd ht A c xs) => l13All_any b0 wd ht A c xs W h hn)
  have hcn := crN_le xs
  have hcn2 : crN xs ≤ 1048576 := by omega
  have HCN : Hid ((zTo xs xs.length).length = crN xs) := hide rfl
  cases hv : vldPan wd ht xs
  · have HV := hide (brC_no hv)
    go_enter Tryz.func22, Tryz.ntmps22
    go_wp2_with fail
    refine ((HOK.out _ hp)).mono ?_
    rintro e w1 ⟨rfl, hb1⟩
    have z_1 : w.heap.size ≤ w1.heap.size := hb1.size
    have B_1 := (Below.refl w.heap.size w).trans (hb1.mono (by first | omega | (simp; omega) | simp))
    rw [hv]
    go_wp2_with fail
    go_ret
    rw [HV.out]
    exact ⟨rfl, (B_1)⟩
  · have hsz := hide (vld_sz hv)
    have hm := mul_small (a := wd) (b := ht) (by have := hsz.out.1.1; omega) (by have := hsz.out.1.2.1; omega) (by have := hsz.out.1.2.2.1; omega) (by have := hsz.out.1.2.2.2; omega)
    have hwm : IntKind.i64.wrap (wd * ht) = wd * ht := by rw [IntKind.wrap_i64]; omega
    have hwm2 : wrap64 (wd * ht) = wd * ht := by unfold wrap64; omega
    by_cases h8 : 8 < crN xs
    · have HV := hide (brC_cr hv h8)
      have hd8 : (8 : Int) < (crN xs : Int) := by omega
      have hD8 : decide ((8 : Int) < (crN xs : Int)) = true := decide_eq_true hd8
      go_enter Tryz.func22, Tryz.ntmps22
      go_wp2_with fail
      refine ((HOK.out _ hp)).mono ?_
      rintro e w1 ⟨rfl, hb1⟩
      have z_1 : w.heap.size ≤ w1.heap.size := hb1.size
      have B_1 := (Below.refl w.heap.size w).trans (hb1.mono (by first | omega | (simp; omega) | simp))
      rw [hv]
      go_upto_region 3 with fail
      have B1d := ((B_1)).drew
      have PD := hp.below B1d
      have qp := And.intro PD.c0 PD.c1
      have HPD := hide PD
      clear PD hm hwm2
      refine wp_region_held_drew (S := fun _ => True) (by kernel_rfl) trivial (fun hHeld => ?_)
      refine take_val (i := 0) (v := .pointer (some ⟨b0, 0, none⟩)) (a' := ⟨#[.pointer (some ⟨b0, 0, none⟩), undef, .int .i64 0, .pointer (some ⟨b0, 0, none⟩), .bool true, .bool false, .pointer (some ⟨b0, 0, none⟩), undef, undef, undef, undef, undef, undef, undef, undef, undef, undef, undef, undef, undef, undef, undef], []⟩) rfl (by kernel_rfl) (by kernel_rfl) (by kernel_rfl) (fun _ _ _ h => h) (Or.inl ⟨by rfl, fun w9 _ => by go_simp⟩) (by kernel_rfl) trivial ?_
      refine wpAnyH_ready (rs := [1]) (by kernel_rfl) (by simp) ?_
      refine AllReadyH.cons rfl (fun K hK => ?_) AllReadyH.nil
      go_simp
      go_at_call 37
      refine (HALL.out _ HPD.out).mono ?_
      rintro e w2 ⟨A2, c2, rfl, _, hb2⟩
      rw [HCN.out]
      have B2 := B1d.trans (hb2.mono B1d.size)
      go_wp2_with fail
      refine hK.out _ _ trivial (fun _ => ?_)
      clear hK K
      change wpAnyH _ _ _ _ _ _ _ ⟨#[.pointer (some ⟨b0, 0, none⟩), undef, .int .i64 0, .pointer (some ⟨b0, 0, none⟩), .bool true, .bool false, .pointer (some ⟨b0, 0, none⟩), .slice A2 (crN xs) c2, undef, undef, undef, undef, undef, undef, undef, undef, undef, undef, undef, undef, undef, undef], []⟩ _
      refine take_val (i := 2) (v := .int .i64 (crN xs : Int)) (a' := ⟨#[.pointer (some ⟨b0, 0, none⟩), undef, .int .i64 0, .pointer (some ⟨b0, 0, none⟩), .bool true, .bool false, .pointer (some ⟨b0, 0, none⟩), .slice A2 (crN xs) c2, .int .i64 (crN xs : Int), undef, undef, undef, undef, undef, undef, undef, undef, undef, undef, undef, undef, undef], []⟩) rfl (by kernel_rfl) (by kernel_rfl) (by kernel_rfl) (fun _ _ _ h => h) (Or.inl ⟨by rfl, fun w9 _ => by go_simp⟩) (by kernel_rfl) trivial ?_
      refine take_val (i := 3) (v := .bool true) (a' := ⟨#[.pointer (some ⟨b0, 0, none⟩), undef, .int .i64 0, .pointer (some ⟨b0, 0, none⟩), .bool true, .bool false, .pointer (some ⟨b0, 0, none⟩), .slice A2 (crN xs) c2, .int .i64 (crN xs : Int), .bool true, undef, undef, undef, undef, undef, undef, undef, undef, undef, undef, undef, undef], []⟩) rfl (by kernel_rfl) (by kernel_rfl) (by kernel_rfl) (fun _ _ _ h => h) (Or.inl ⟨by rfl, fun w9 _ => by go_simp⟩) (by kernel_rfl) trivial ?_
      refine take_val (i := 4) (v := .bool true) (a' := ⟨#[.pointer (some ⟨b0, 0, none⟩), undef, .int .i64 0, .pointer (some ⟨b0, 0, none⟩), .bool true, .bool false, .pointer (some ⟨b0, 0, none⟩), .slice A2 (crN xs) c2, .int .i64 (crN xs : Int), .bool true, .bool true, undef, undef, undef, undef, undef, undef, undef, undef, undef, undef, undef], []⟩) rfl (by kernel_rfl) (by kernel_rfl) (by kernel_rfl) (fun _ _ _ h => h) (Or.inl ⟨by rfl, fun w9 _ => by go_simp⟩) (by kernel_rfl) trivial ?_
      refine take_skip (i := 5) rfl (by kernel_rfl) (by kernel_rfl) (by kernel_rfl) (fun _ _ _ h => h) (by rfl) (by kernel_rfl) trivial ?_
      refine take_skip (i := 6) rfl (by kernel_rfl) (by kernel_rfl) (by kernel_rfl) (fun _ _ _ h => h) (by rfl) (by kernel_rfl) trivial ?_
      refine take_skip (i := 7) rfl (by kernel_rfl) (by kernel_rfl) (by kernel_rfl) (fun _ _ _ h => h) (by rfl) (by kernel_rfl) trivial ?_
      refine take_skip (i := 8) rfl (by kernel_rfl) (by kernel_rfl) (by kernel_rfl) (fun _ _ _ h => h) (by rfl) (by kernel_rfl) trivial ?_
      refine take_skip (i := 9) rfl (by kernel_rfl) (by kernel_rfl) (by kernel_rfl) (fun _ _ _ h => h) (by rfl) (by kernel_rfl) trivial ?_
      refine take_skip (i := 10) rfl (by kernel_rfl) (by kernel_rfl) (by kernel_rfl) (fun _ _ _ h => h) (by rfl) (by kernel_rfl) trivial ?_
      refine take_skip (i := 11) rfl (by kernel_rfl) (by kernel_rfl) (by kernel_rfl) (fun _ _ _ h => h) (by rfl) (by kernel_rfl) trivial ?_
      refine take_skip (i := 12) rfl (by kernel_rfl) (by kernel_rfl) (by kernel_rfl) (fun _ _ _ h => h) (by rfl) (by kernel_rfl) trivial ?_
      refine take_skip (i := 13) rfl (by kernel_rfl) (by kernel_rfl) (by kernel_rfl) (fun _ _ _ h => h) (by rfl) (by kernel_rfl) trivial ?_
      refine take_skip (i := 14) rfl (by kernel_rfl) (by kernel_rfl) (by kernel_rfl) (fun _ _ _ h => h) (by rfl) (by kernel_rfl) trivial ?_
      refine take_val (i := 15) (v := .bool true) (a' := ⟨#[.pointer (some ⟨b0, 0, none⟩), undef, .int .i64 0, .pointer (some ⟨b0, 0, none⟩), .bool true, .bool false, .pointer (some ⟨b0, 0, none⟩), .slice A2 (crN xs) c2, .int .i64 (crN xs : Int), .bool true, .bool true, undef, undef, undef, undef, undef, undef, undef, undef, undef, undef, .bool true], []⟩) rfl (by kernel_rfl) (by kernel_rfl) (by kernel_rfl) (fun _ _ _ h => h) (Or.inl ⟨by rfl, fun w9 _ => by go_simp⟩) (by kernel_rfl) trivial ?_
      refine wpAnyH_done (by kernel_rfl) ?_ _
      all_goals
        go_wp2_with fail
        go_ret
        rw [HV.out]
        exact ⟨rfl, B2⟩
    · have hd8 : ¬ (8 : Int) < (crN xs : Int) := by omega
      have hD8 : decide ((8 : Int) < (crN xs : Int)) = false := decide_eq_false hd8
      by_cases h20 : 20 < wd * ht
      · have HV := hide (brC_big hv h8 h20)
        have HD : decide (20 < wd * ht) = true := decide_eq_true h20
        go_enter Tryz.func22, Tryz.ntmps22
        go_wp2_with fail
        refine ((HOK.out _ hp)).mono ?_
        rintro e w1 ⟨rfl, hb1⟩
        have z_1 : w.heap.size ≤ w1.heap.size := hb1.size
        have B_1 := (Below.refl w.heap.size w).trans (hb1.mono (by first | omega | (simp; omega) | simp))
        rw [hv]
        go_upto_region 3 with fail
        have B1d := ((B_1)).drew
        have PD := hp.below B1d
        have qp := And.intro PD.c0 PD.c1
        have HPD := hide PD
        clear PD hm hwm2
        go_region_held3 (fun w' => w'.cell? ⟨b0, 0, none⟩ = some (.int .i64 wd) ∧ w'.cell? ⟨b0, 1, none⟩ = some (.int .i64 ht)) (first | exact qp | exact qp2)
          (first
            | (go_at_call 37; refine (HALL.out _ HPD.out).mono ?_; rintro e w2 ⟨A2, c2, rfl, _, hb2⟩; rw [HCN.out]; have B2 := B1d.trans (hb2.mono B1d.size); have qp2 := And.intro (hp.below B2).c0 (hp.below B2).c1))
        all_goals
          go_wp2_with fail
          go_ret
          rw [HV.out]
          exact ⟨rfl, B2⟩
      · have HV := hide (brC_ok hv h8 h20)
        have HD : decide (20 < wd * ht) = false := decide_eq_false h20
        go_enter Tryz.func22, Tryz.ntmps22
        go_wp2_with fail
        refine ((HOK.out _ hp)).mono ?_
        rintro e w1 ⟨rfl, hb1⟩
        have z_1 : w.heap.size ≤ w1.heap.size := hb1.size
        have B_1 := (Below.refl w.heap.size w).trans (hb1.mono (by first | omega | (simp; omega) | simp))
        rw [hv]
        go_upto_region 3 with fail
        have B1d := ((B_1)).drew
        have PD := hp.below B1d
        have qp := And.intro PD.c0 PD.c1
        have HPD := hide PD
        clear PD hm hwm2
        go_region_held3 (fun w' => w'.cell? ⟨b0, 0, none⟩ = some (.int .i64 wd) ∧ w'.cell? ⟨b0, 1, none⟩ = some (.int .i64 ht)) (first | exact qp | exact qp2)
          (first
            | (go_at_call 37; refine (HALL.out _ HPD.out).mono ?_; rintro e w2 ⟨A2, c2, rfl, _, hb2⟩; rw [HCN.out]; have B2 := B1d.trans (hb2.mono B1d.size); have qp2 := And.intro (hp.below B2).c0 (hp.below B2).c1))
        all_goals
          go_wp2_with fail
          go_ret
          rw [HV.out]
          exact ⟨rfl, B2⟩
set_option maxRecDepth 20000 in
set_option maxHeartbeats 4000000 in
theorem bracketCode_any (wd ht : Int) (A : Option Addr) (c : Nat) (xs : List Int) (w : World) (hxs : RI w A xs) (hn : xs.length ≤ 1048576) :
    Calls Tryz.prog 24 #[.agg #[.int .i64 wd, .int .i64 ht, .slice A xs.length c]] w (RetV w (.int .i64 (brC wd ht xs))) := by
  have HOK := hide (fun (W : World) (h : RI W A xs) => validPanel_any wd ht A c xs W h hn)
  have HALL := hide (fun (W : World) (h : RI W A xs) => crossingNumbers_any wd ht A c xs W h hn)
  have hcn := crN_le xs
  have hcn2 : crN xs ≤ 1048576 := by omega
  have HCN : Hid ((zTo xs xs.length).length = crN xs) := hide rfl
  cases hv : vldPan wd ht xs
  · have HV := hide (brC_no hv)
    obtain ⟨pa_x1, pb_x1, pc_x1⟩ := (Bx.new_ w (w.heap.size) 26 #[.int .i64 wd, .int .i64 ht, .slice A xs.length c] (by simp)).three
    go_enter Tryz.func24, Tryz.ntmps24
    go_wp2_with fail
    refine ((HOK.out _ (hxs.below ((Below.refl w.heap.size w).alloc (by first | omega | (simp; omega) | simp) (.cells #[.int .i64 wd, .int .i64 ht, .slice A xs.length c] 26))))).mono ?_
    rintro e w1 ⟨rfl, hb1⟩
    have p_1 := (Bx.new_ w (w.heap.size) 26 #[.int .i64 wd, .int .i64 ht, .slice A xs.length c] (by simp)).below hb1
    obtain ⟨pa_1, pb_1, pc_1⟩ := (p_1).three
    have z_1 : (w.alloc (.cells #[.int .i64 wd, .int .i64 ht, .slice A xs.length c] 26)).heap.size ≤ w1.heap.size := hb1.size
    simp only [World.size_alloc] at z_1
    have B_1 := ((Below.refl w.heap.size w).alloc (by first | omega | (simp; omega) | simp) (.cells #[.int .i64 wd, .int .i64 ht, .slice A xs.length c] 26)).trans (hb1.mono (by first | omega | (simp; omega) | simp))
    rw [hv]
    go_wp2_with fail
    go_ret
    rw [HV.out]
    exact ⟨rfl, (B_1)⟩
  · have hsz := hide (vld_sz hv)
    have hm := mul_small (a := wd) (b := ht) (by have := hsz.out.1.1; omega) (by have := hsz.out.1.2.1; omega) (by have := hsz.out.1.2.2.1; omega) (by have := hsz.out.1.2.2.2; omega)
    have hwm : IntKind.i64.wrap (wd * ht) = wd * ht := by rw [IntKind.wrap_i64]; omega
    have hwm2 : wrap64 (wd * ht) = wd * ht := by unfold wrap64; omega
    by_cases h8 : 8 < crN xs
    · have HV := hide (brC_cr hv h8)
      have hd8 : (8 : Int) < (crN xs : Int) := by omega
      have hD8 : decide ((8 : Int) < (crN xs : Int)) = true := decide_eq_true hd8
      obtain ⟨pa_x1, pb_x1, pc_x1⟩ := (Bx.new_ w (w.heap.size) 26 #[.int .i64 wd, .int .i64 ht, .slice A xs.length c] (by simp)).three
      go_enter Tryz.func24, Tryz.ntmps24
      go_wp2_with fail
      refine ((HOK.out _ (hxs.below ((Below.refl w.heap.size w).alloc (by first | omega | (simp; omega) | simp) (.cells #[.int .i64 wd, .int .i64 ht, .slice A xs.length c] 26))))).mono ?_
      rintro e w1 ⟨rfl, hb1⟩
      have p_1 := (Bx.new_ w (w.heap.size) 26 #[.int .i64 wd, .int .i64 ht, .slice A xs.length c] (by simp)).below hb1
      obtain ⟨pa_1, pb_1, pc_1⟩ := (p_1).three
      have z_1 : (w.alloc (.cells #[.int .i64 wd, .int .i64 ht, .slice A xs.length c] 26)).heap.size ≤ w1.heap.size := hb1.size
      simp only [World.size_alloc] at z_1
      have B_1 := ((Below.refl w.heap.size w).alloc (by first | omega | (simp; omega) | simp) (.cells #[.int .i64 wd, .int .i64 ht, .slice A xs.length c] 26)).trans (hb1.mono (by first | omega | (simp; omega) | simp))
      rw [hv]
      have B1d := ((B_1))
      have HP1 := hide ((p_1))
      clear hm hwm2
      go_wp2_with fail
      refine (HALL.out _ (hxs.below B1d)).mono ?_
      rintro e w2 ⟨A2, c2, rfl, _, hb2⟩
      rw [HCN.out]
      have B2 := B1d.trans (hb2.mono B1d.size)
      obtain ⟨pa2, pb2, pc2⟩ := (HP1.out.below hb2).three
      go_wp2_with fail
      go_ret
      rw [HV.out]
      exact ⟨rfl, B2⟩
    · have hd8 : ¬ (8 : Int) < (crN xs : Int) := by omega
      have hD8 : decide ((8 : Int) < (crN xs : Int)) = false := decide_eq_false hd8
      by_cases h20 : 20 < wd * ht
      · have HV := hide (brC_big hv h8 h20)
        have HD : decide (20 < wd * ht) = true := decide_eq_true h20
        obtain ⟨pa_x1, pb_x1, pc_x1⟩ := (Bx.new_ w (w.heap.size) 26 #[.int .i64 wd, .int .i64 ht, .slice A xs.length c] (by simp)).three
        go_enter Tryz.func24, Tryz.ntmps24
        go_wp2_with fail
        refine ((HOK.out _ (hxs.below ((Below.refl w.heap.size w).alloc (by first | omega | (simp; omega) | simp) (.cells #[.int .i64 wd, .int .i64 ht, .slice A xs.length c] 26))))).mono ?_
        rintro e w1 ⟨rfl, hb1⟩
        have p_1 := (Bx.new_ w (w.heap.size) 26 #[.int .i64 wd, .int .i64 ht, .slice A xs.length c] (by simp)).below hb1
        obtain ⟨pa_1, pb_1, pc_1⟩ := (p_1).three
        have z_1 : (w.alloc (.cells #[.int .i64 wd, .int .i64 ht, .slice A xs.length c] 26)).heap.size ≤ w1.heap.size := hb1.size
        simp only [World.size_alloc] at z_1
        have B_1 := ((Below.refl w.heap.size w).alloc (by first | omega | (simp; omega) | simp) (.cells #[.int .i64 wd, .int .i64 ht, .slice A xs.length c] 26)).trans (hb1.mono (by first | omega | (simp; omega) | simp))
        rw [hv]
        have B1d := ((B_1))
        have HP1 := hide ((p_1))
        clear hm hwm2
        go_wp2_with fail
        refine (HALL.out _ (hxs.below B1d)).mono ?_
        rintro e w2 ⟨A2, c2, rfl, _, hb2⟩
        rw [HCN.out]
        have B2 := B1d.trans (hb2.mono B1d.size)
        obtain ⟨pa2, pb2, pc2⟩ := (HP1.out.below hb2).three
        go_wp2_with fail
        go_ret
        rw [HV.out]
        exact ⟨rfl, B2⟩
      · have HV := hide (brC_ok hv h8 h20)
        have HD : decide (20 < wd * ht) = false := decide_eq_false h20
        obtain ⟨pa_x1, pb_x1, pc_x1⟩ := (Bx.new_ w (w.heap.size) 26 #[.int .i64 wd, .int .i64 ht, .slice A xs.length c] (by simp)).three
        go_enter Tryz.func24, Tryz.ntmps24
        go_wp2_with fail
        refine ((HOK.out _ (hxs.below ((Below.refl w.heap.size w).alloc (by first | omega | (simp; omega) | simp) (.cells #[.int .i64 wd, .int .i64 ht, .slice A xs.length c] 26))))).mono ?_
        rintro e w1 ⟨rfl, hb1⟩
        have p_1 := (Bx.new_ w (w.heap.size) 26 #[.int .i64 wd, .int .i64 ht, .slice A xs.length c] (by simp)).below hb1
        obtain ⟨pa_1, pb_1, pc_1⟩ := (p_1).three
        have z_1 : (w.alloc (.cells #[.int .i64 wd, .int .i64 ht, .slice A xs.length c] 26)).heap.size ≤ w1.heap.size := hb1.size
        simp only [World.size_alloc] at z_1
        have B_1 := ((Below.refl w.heap.size w).alloc (by first | omega | (simp; omega) | simp) (.cells #[.int .i64 wd, .int .i64 ht, .slice A xs.length c] 26)).trans (hb1.mono (by first | omega | (simp; omega) | simp))
        rw [hv]
        have B1d := ((B_1))
        have HP1 := hide ((p_1))
        clear hm hwm2
        go_wp2_with fail
        refine (HALL.out _ (hxs.below B1d)).mono ?_
        rintro e w2 ⟨A2, c2, rfl, _, hb2⟩
        rw [HCN.out]
        have B2 := B1d.trans (hb2.mono B1d.size)
        obtain ⟨pa2, pb2, pc2⟩ := (HP1.out.below hb2).three
        go_wp2_with fail
        go_ret
        rw [HV.out]
        exact ⟨rfl, B2⟩
set_option maxRecDepth 20000 in
set_option maxHeartbeats 4000000 in
theorem specBracketOf_any (wd ht : Int) (A : Option Addr) (c : Nat) (xs : List Int) (w : World) (hxs : RI w A xs) (hn : xs.length ≤ 1048576) :
    Calls Tryz.prog 18 #[.agg #[.int .i64 wd, .int .i64 ht, .slice A xs.length c]] w (RetPC w (brR wd ht xs).1.1 (brR wd ht xs).1.2 (brR wd ht xs).2) := by
  obtain ⟨pa_x1, pb_x1, pc_x1⟩ := ((Bx.new_ w (w.heap.size) 26 #[.int .i64 wd, .int .i64 ht, .slice A xs.length c] (by simp)).alloc (.cells #[.int .i64 0, .slice none 0 0] 29)).three
  obtain ⟨ra_x1, rb_x1⟩ := (Bx.new_ (w.alloc (.cells #[.int .i64 wd, .int .i64 ht, .slice A xs.length c] 26)) (w.heap.size + 1) 29 #[.int .i64 0, .slice none 0 0] (by simp)).two
  have rf0_x1 := (Bx.new_ (w.alloc (.cells #[.int .i64 wd, .int .i64 ht, .slice A xs.length c] 26)) (w.heap.size + 1) 29 #[.int .i64 0, .slice none 0 0] (by simp)).frozen 0
  have rf1_x1 := (Bx.new_ (w.alloc (.cells #[.int .i64 wd, .int .i64 ht, .slice A xs.length c] 26)) (w.heap.size + 1) 29 #[.int .i64 0, .slice none 0 0] (by simp)).frozen 1
  have HCODE := hide (l18Code_any w.heap.size wd ht A c xs ((w.alloc (.cells #[.int .i64 wd, .int .i64 ht, .slice A xs.length c] 26)).alloc (.cells #[.int .i64 0, .slice none 0 0] 29)) (PA.mk ((Bx.new_ w (w.heap.size) 26 #[.int .i64 wd, .int .i64 ht, .slice A xs.length c] (by simp)).alloc (.cells #[.int .i64 0, .slice none 0 0] 29)) (hxs.below (((Below.refl w.heap.size w).alloc (by first | omega | (simp; omega) | simp) (.cells #[.int .i64 wd, .int .i64 ht, .slice A xs.length c] 26)).alloc (by first | omega | (simp; omega) | simp) (.cells #[.int .i64 0, .slice none 0 0] 29)))) hn)
  by_cases h0 : brC wd ht xs = 0
  · obtain ⟨hv, h8, _⟩ := brC_zero h0
    obtain ⟨hs, hl⟩ := vld_sz hv
    have HR := hide (brR_ok h0)
    have HC0 := hide h0
    have HBR := hide (fun (W : World) (h : PA W w.heap.size wd ht A c xs) => l18Bracket_any w.heap.size wd ht A c xs W h hn hs hl h8)
    obtain ⟨q, hq⟩ : ∃ q, q = brTo wd ht xs (2 ^ crN xs) := ⟨_, rfl⟩
    rw [← hq] at HR HBR
    clear h0 hs hl hq hv h8
    go_enter Tryz.func18, Tryz.ntmps18
    go_wp2_with fail
    refine ((HCODE.out)).mono ?_
    rintro e w1 ⟨rfl, hb1⟩
    have p_1 := ((Bx.new_ w (w.heap.size) 26 #[.int .i64 wd, .int .i64 ht, .slice A xs.length c] (by simp)).alloc (.cells #[.int .i64 0, .slice none 0 0] 29)).below hb1
    obtain ⟨pa_1, pb_1, pc_1⟩ := (p_1).three
    have r_1 := (Bx.new_ (w.alloc (.cells #[.int .i64 wd, .int .i64 ht, .slice A xs.length c] 26)) (w.heap.size + 1) 29 #[.int .i64 0, .slice none 0 0] (by simp)).below hb1
    obtain ⟨ra_1, rb_1⟩ := (r_1).two
    have rf0_1 := (r_1).frozen 0
    have rf1_1 := (r_1).frozen 1
    have z_1 : ((w.alloc (.cells #[.int .i64 wd, .int .i64 ht, .slice A xs.length c] 26)).alloc (.cells #[.int .i64 0, .slice none 0 0] 29)).heap.size ≤ w1.heap.size := hb1.size
    simp only [World.size_alloc] at z_1
    have B_1 := (((Below.refl w.heap.size w).alloc (by first | omega | (simp; omega) | simp) (.cells #[.int .i64 wd, .int .i64 ht, .slice A xs.length c] 26)).alloc (by first | omega | (simp; omega) | simp) (.cells #[.int .i64 0, .slice none 0 0] 29)).trans (hb1.mono (by first | omega | (simp; omega) | simp))
    rw [HC0.out]
    go_wp2_with fail
    refine (HBR.out _ (PA.mk (p_1) (hxs.below (B_1)))).mono ?_
    rintro e w2 ⟨A2, c2, rfl, own2, hb2⟩
    have p_2 := (p_1).below hb2
    obtain ⟨pa_2, pb_2, pc_2⟩ := (p_2).three
    have r_2 := (r_1).below hb2
    obtain ⟨ra_2, rb_2⟩ := (r_2).two
    have rf0_2 := (r_2).frozen 0
    have rf1_2 := (r_2).frozen 1
    have z_2 : w1.heap.size ≤ w2.heap.size := hb2.size
    have B_2 := (B_1).trans (hb2.mono (by first | omega | (simp; omega) | simp))
    have r2 := r_2
    have B2 := B_2
    have hz1 := hb1.size
    have HZ1 : Hid (w.heap.size + 2 ≤ w1.heap.size) := hide (by have := (r_1).lt; omega)
    obtain ⟨za, zb⟩ := r2.two
    have f0 := r2.frozen 0
    have f1 := r2.frozen 1
    have HRQ := hide (r2.put2 (u0 := .int .i64 q.1) (u1 := .slice A2 q.2.length c2)).two
    have OWN := hide ((own2.far2 (b := w.heap.size + 1) (o0 := 0) (o1 := 1) (u0 := .int .i64 q.1) (u1 := .slice A2 q.2.length c2) (fun g hg => by have := (own2.ge hg).1; have := HZ1.out; omega)).mono (show w.heap.size ≤ w1.heap.size by have := HZ1.out; omega))
    have HB := hide (below_put2 (b := w.heap.size + 1) (o0 := 0) (o1 := 1) (u0 := .int .i64 q.1) (u1 := .slice A2 q.2.length c2) B2 (by omega))
    clear own2 r2 B2
    go_wp2_with fail
    obtain ⟨ra_9, rb_9⟩ := HRQ.out
    refine bodyPost_ret (v := .tuple #[.agg #[.int .i64 q.1, .slice A2 q.2.length c2], .int .i64 0]) (by simp [results, Tryz.results18, go_sem, ra_9, rb_9]) rfl ?_
    rw [HR.out]
    exact ⟨A2, c2, rfl, OWN.out, HB.out⟩
  ·
    have HR := hide (brR_no h0)
    obtain ⟨v, hvv⟩ : ∃ v, v = brC wd ht xs := ⟨_, rfl⟩
    rw [← hvv] at HR h0
    have HVV := hide hvv
    have d0 : (v != 0) = true := by simpa using h0
    clear h0 hvv
    go_enter Tryz.func18, Tryz.ntmps18
    go_wp2_with fail
    refine ((HCODE.out)).mono ?_
    rintro e w1 ⟨rfl, hb1⟩
    have p_1 := ((Bx.new_ w (w.heap.size) 26 #[.int .i64 wd, .int .i64 ht, .slice A xs.length c] (by simp)).alloc (.cells #[.int .i64 0, .slice none 0 0] 29)).below hb1
    obtain ⟨pa_1, pb_1, pc_1⟩ := (p_1).three
    have r_1 := (Bx.new_ (w.alloc (.cells #[.int .i64 wd, .int .i64 ht, .slice A xs.length c] 26)) (w.heap.size + 1) 29 #[.int .i64 0, .slice none 0 0] (by simp)).below hb1
    obtain ⟨ra_1, rb_1⟩ := (r_1).two
    have rf0_1 := (r_1).frozen 0
    have rf1_1 := (r_1).frozen 1
    have z_1 : ((w.alloc (.cells #[.int .i64 wd, .int .i64 ht, .slice A xs.length c] 26)).alloc (.cells #[.int .i64 0, .slice none 0 0] 29)).heap.size ≤ w1.heap.size := hb1.size
    simp only [World.size_alloc] at z_1
    have B_1 := (((Below.refl w.heap.size w).alloc (by first | omega | (simp; omega) | simp) (.cells #[.int .i64 wd, .int .i64 ht, .slice A xs.length c] 26)).alloc (by first | omega | (simp; omega) | simp) (.cells #[.int .i64 0, .slice none 0 0] 29)).trans (hb1.mono (by first | omega | (simp; omega) | simp))
    rw [← HVV.out]
    have r3 := (r_1).put2 (u0 := .int .i64 0) (u1 := .slice none 0 0)
    have HRQ := hide r3.two
    have HB := hide (below_put2 (b := w.heap.size + 1) (o0 := 0) (o1 := 1) (u0 := .int .i64 0) (u1 := .slice none 0 0) (B_1) (by omega))
    clear r3
    go_wp2_with fail
    obtain ⟨ra_9, rb_9⟩ := HRQ.out
    refine bodyPost_ret (v := .tuple #[.agg #[.int .i64 0, .slice none 0 0], .int .i64 v]) (by simp [results, Tryz.results18, go_sem, ra_9, rb_9]) rfl ?_
    rw [HR.out]
    exact ⟨none, 0, rfl, OwnI.nil _ _, HB.out⟩
set_option maxRecDepth 20000 in
set_option maxHeartbeats 4000000 in
theorem implBracketOf_any (wd ht : Int) (A : Option Addr) (c : Nat) (xs : List Int) (w : World) (hxs : RI w A xs) (hn : xs.length ≤ 1048576) :
    Calls Tryz.prog 6 #[.agg #[.int .i64 wd, .int .i64 ht, .slice A xs.length c]] w (RetPC w (brR wd ht xs).1.1 (brR wd ht xs).1.2 (brR wd ht xs).2) := by
  obtain ⟨pa_x1, pb_x1, pc_x1⟩ := ((Bx.new_ w (w.heap.size) 26 #[.int .i64 wd, .int .i64 ht, .slice A xs.length c] (by simp)).alloc (.cells #[.int .i64 0, .slice none 0 0] 29)).three
  obtain ⟨ra_x1, rb_x1⟩ := (Bx.new_ (w.alloc (.cells #[.int .i64 wd, .int .i64 ht, .slice A xs.length c] 26)) (w.heap.size + 1) 29 #[.int .i64 0, .slice none 0 0] (by simp)).two
  have rf0_x1 := (Bx.new_ (w.alloc (.cells #[.int .i64 wd, .int .i64 ht, .slice A xs.length c] 26)) (w.heap.size + 1) 29 #[.int .i64 0, .slice none 0 0] (by simp)).frozen 0
  have rf1_x1 := (Bx.new_ (w.alloc (.cells #[.int .i64 wd, .int .i64 ht, .slice A xs.length c] 26)) (w.heap.size + 1) 29 #[.int .i64 0, .slice none 0 0] (by simp)).frozen 1
  have HCODE := hide (bracketCode_any wd ht A c xs ((w.alloc (.cells #[.int .i64 wd, .int .i64 ht, .slice A xs.length c] 26)).alloc (.cells #[.int .i64 0, .slice none 0 0] 29)) (hxs.below (((Below.refl w.heap.size w).alloc (by first | omega | (simp; omega) | simp) (.cells #[.int .i64 wd, .int .i64 ht, .slice A xs.length c] 26)).alloc (by first | omega | (simp; omega) | simp) (.cells #[.int .i64 0, .slice none 0 0] 29))) hn)
  by_cases h0 : brC wd ht xs = 0
  · obtain ⟨hv, h8, _⟩ := brC_zero h0
    obtain ⟨hs, hl⟩ := vld_sz hv
    have HR := hide (brR_ok h0)
    have HC0 := hide h0
    have HBR := hide (fun (W : World) (h : RI W A xs) => bracket_any wd ht A c xs W h hn hs hl h8)
    obtain ⟨q, hq⟩ : ∃ q, q = brTo wd ht xs (2 ^ crN xs) := ⟨_, rfl⟩
    rw [← hq] at HR HBR
    clear h0 hs hl hq hv h8
    go_enter Tryz.func6, Tryz.ntmps6
    go_wp2_with fail
    refine ((HCODE.out)).mono ?_
    rintro e w1 ⟨rfl, hb1⟩
    have p_1 := ((Bx.new_ w (w.heap.size) 26 #[.int .i64 wd, .int .i64 ht, .slice A xs.length c] (by simp)).alloc (.cells #[.int .i64 0, .slice none 0 0] 29)).below hb1
    obtain ⟨pa_1, pb_1, pc_1⟩ := (p_1).three
    have r_1 := (Bx.new_ (w.alloc (.cells #[.int .i64 wd, .int .i64 ht, .slice A xs.length c] 26)) (w.heap.size + 1) 29 #[.int .i64 0, .slice none 0 0] (by simp)).below hb1
    obtain ⟨ra_1, rb_1⟩ := (r_1).two
    have rf0_1 := (r_1).frozen 0
    have rf1_1 := (r_1).frozen 1
    have z_1 : ((w.alloc (.cells #[.int .i64 wd, .int .i64 ht, .slice A xs.length c] 26)).alloc (.cells #[.int .i64 0, .slice none 0 0] 29)).heap.size ≤ w1.heap.size := hb1.size
    simp only [World.size_alloc] at z_1
    have B_1 := (((Below.refl w.heap.size w).alloc (by first | omega | (simp; omega) | simp) (.cells #[.int .i64 wd, .int .i64 ht, .slice A xs.length c] 26)).alloc (by first | omega | (simp; omega) | simp) (.cells #[.int .i64 0, .slice none 0 0] 29)).trans (hb1.mono (by first | omega | (simp; omega) | simp))
    rw [HC0.out]
    go_wp2_with fail
    refine (HBR.out _ (hxs.below (B_1))).mono ?_
    rintro e w2 ⟨A2, c2, rfl, own2, hb2⟩
    have p_2 := (p_1).below hb2
    obtain ⟨pa_2, pb_2, pc_2⟩ := (p_2).three
    have r_2 := (r_1).below hb2
    obtain ⟨ra_2, rb_2⟩ := (r_2).two
    have rf0_2 := (r_2).frozen 0
    have rf1_2 := (r_2).frozen 1
    have z_2 : w1.heap.size ≤ w2.heap.size := hb2.size
    have B_2 := (B_1).trans (hb2.mono (by first | omega | (simp; omega) | simp))
    have r2 := r_2
    have B2 := B_2
    have hz1 := hb1.size
    have HZ1 : Hid (w.heap.size + 2 ≤ w1.heap.size) := hide (by have := (r_1).lt; omega)
    obtain ⟨za, zb⟩ := r2.two
    have f0 := r2.frozen 0
    have f1 := r2.frozen 1
    have HRQ := hide (r2.put2 (u0 := .int .i64 q.1) (u1 := .slice A2 q.2.length c2)).two
    have OWN := hide ((own2.far2 (b := w.heap.size + 1) (o0 := 0) (o1 := 1) (u0 := .int .i64 q.1) (u1 := .slice A2 q.2.length c2) (fun g hg => by have := (own2.ge hg).1; have := HZ1.out; omega)).mono (show w.heap.size ≤ w1.heap.size by have := HZ1.out; omega))
    have HB := hide (below_put2 (b := w.heap.size + 1) (o0 := 0) (o1 := 1) (u0 := .int .i64 q.1) (u1 := .slice A2 q.2.length c2) B2 (by omega))
    clear own2 r2 B2
    go_wp2_with fail
    obtain ⟨ra_9, rb_9⟩ := HRQ.out
    refine bodyPost_ret (v := .tuple #[.agg #[.int .i64 q.1, .slice A2 q.2.length c2], .int .i64 0]) (by simp [results, Tryz.results6, go_sem, ra_9, rb_9]) rfl ?_
    rw [HR.out]
    exact ⟨A2, c2, rfl, OWN.out, HB.out⟩
  ·
    have HR := hide (brR_no h0)
    obtain ⟨v, hvv⟩ : ∃ v, v = brC wd ht xs := ⟨_, rfl⟩
    rw [← hvv] at HR h0
    have HVV := hide hvv
    have d0 : (v != 0) = true := by simpa using h0
    clear h0 hvv
    go_enter Tryz.func6, Tryz.ntmps6
    go_wp2_with fail
    refine ((HCODE.out)).mono ?_
    rintro e w1 ⟨rfl, hb1⟩
    have p_1 := ((Bx.new_ w (w.heap.size) 26 #[.int .i64 wd, .int .i64 ht, .slice A xs.length c] (by simp)).alloc (.cells #[.int .i64 0, .slice none 0 0] 29)).below hb1
    obtain ⟨pa_1, pb_1, pc_1⟩ := (p_1).three
    have r_1 := (Bx.new_ (w.alloc (.cells #[.int .i64 wd, .int .i64 ht, .slice A xs.length c] 26)) (w.heap.size + 1) 29 #[.int .i64 0, .slice none 0 0] (by simp)).below hb1
    obtain ⟨ra_1, rb_1⟩ := (r_1).two
    have rf0_1 := (r_1).frozen 0
    have rf1_1 := (r_1).frozen 1
    have z_1 : ((w.alloc (.cells #[.int .i64 wd, .int .i64 ht, .slice A xs.length c] 26)).alloc (.cells #[.int .i64 0, .slice none 0 0] 29)).heap.size ≤ w1.heap.size := hb1.size
    simp only [World.size_alloc] at z_1
    have B_1 := (((Below.refl w.heap.size w).alloc (by first | omega | (simp; omega) | simp) (.cells #[.int .i64 wd, .int .i64 ht, .slice A xs.length c] 26)).alloc (by first | omega | (simp; omega) | simp) (.cells #[.int .i64 0, .slice none 0 0] 29)).trans (hb1.mono (by first | omega | (simp; omega) | simp))
    rw [← HVV.out]
    have r3 := (r_1).put2 (u0 := .int .i64 0) (u1 := .slice none 0 0)
    have HRQ := hide r3.two
    have HB := hide (below_put2 (b := w.heap.size + 1) (o0 := 0) (o1 := 1) (u0 := .int .i64 0) (u1 := .slice none 0 0) (B_1) (by omega))
    clear r3
    go_wp2_with fail
    obtain ⟨ra_9, rb_9⟩ := HRQ.out
    refine bodyPost_ret (v := .tuple #[.agg #[.int .i64 0, .slice none 0 0], .int .i64 v]) (by simp [results, Tryz.results6, go_sem, ra_9, rb_9]) rfl ?_
    rw [HR.out]
    exact ⟨none, 0, rfl, OwnI.nil _ _, HB.out⟩
end Go.Proofs.YtjlifbdaieblpaaGreat
