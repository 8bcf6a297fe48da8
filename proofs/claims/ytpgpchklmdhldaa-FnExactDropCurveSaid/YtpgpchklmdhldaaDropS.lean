/-
  Contract: DropCurve, of the reference. Conditions: none beyond the lengths.
-/
import Derived.Test.YtpgpchklmdhldaaDropI
namespace Go.Proofs.Ytpgpchklmdhldaa
open Go.RowKit
set_option linter.unusedVariables false

def goneL (N : Nat) (l : List Int) : List Bool := (List.range N).map fun j : Nat => decide ((j : Int) ∈ l)
theorem goneL_length (N : Nat) (l : List Int) : (goneL N l).length = N := by simp [goneL]
theorem goneL_nil (N : Nat) : goneL N [] = List.replicate N false := by
  apply List.ext_getElem?
  intro i
  simp only [goneL, List.getElem?_map, List.getElem?_replicate]
  by_cases h : i < N
  · rw [List.getElem?_range h, if_pos h]
    simp
  · rw [List.getElem?_eq_none (by simp; omega), if_neg h]
    rfl
theorem goneL_at {N m : Nat} {l : List Int} (hm : m < N) : (goneL N l)[m]? = some (decide ((m : Int) ∈ l)) := by
  simp only [goneL, List.getElem?_map]
  rw [List.getElem?_range hm, Option.map_some]
theorem goneL_set {N m : Nat} {l : List Int} {c : Int} (hm : m < N) (hc : c = (m : Int)) : (goneL N l).set m true = goneL N (l ++ [c]) := by
  apply List.ext_getElem?
  intro i
  by_cases h : m = i
  · subst h
    rw [List.getElem?_set_self (by rw [goneL_length]; exact hm), goneL_at hm]
    simp [hc]
  · rw [List.getElem?_set_ne h]
    simp only [goneL, List.getElem?_map]
    by_cases h2 : i < N
    · rw [List.getElem?_range h2]
      simp only [Option.map_some, Option.some.injEq, decide_eq_decide, List.mem_append, List.mem_singleton]
      constructor
      · exact .inl
      · intro h3
        rcases h3 with h3 | h3
        · exact h3
        · omega
    · rw [List.getElem?_eq_none (by simp; omega)]
      rfl
theorem withoutC_cong {g g' : Nat → Bool} {code : List (List Int)} (h : ∀ k, k < sumLen code / 2 → g k = g' k) : withoutC g code = withoutC g' code := by
  unfold withoutC
  rw [numsW_congr h]
theorem gone_same {code : List (List Int)} {l : List Int} : withoutC (fun k => (goneL (sumLen code / 2) l).getD k false) code = withoutC (fun k : Nat => hasB l (k : Int)) code := withoutC_cong fun k hk => by
  rw [List.getD_eq_getElem?_getD, goneL_at hk]
  unfold hasB
  rw [Bool.eq_iff_iff]
  simp
theorem run_make_goneN (n : Nat) (hn : n ≤ 240) (W : World) :
    (Instr.makeSlice 69 (.int .i64 (n : Int)) (.int .i64 (n : Int))).run Try.prog W = .ok (.slice (some ⟨W.heap.size, 0, none⟩) n n) (W.alloc (.cells (madeCells boolE.z.cells (n * boolE.size)) 4)) :=
  boolE.run_make n (by simp [boolE]; omega) (by omega) W
theorem RGhd_drop {w : World} {A : Option Addr} {hs : List Hd} (h : RG hdE w A hs) (k : Nat) {c : Nat} (hc : hs.length ≤ c) : RG hdE w (if c = k then A else A.map (·.add k)) (hs.drop k) := by
  unfold RG at h ⊢
  rw [flat_encHd] at h ⊢
  rw [List.map_drop]
  exact Rd.drop_ h k (by simpa using hc)
/-- Rows whose headers are some of those of rows of the call's own. -/
theorem OwnC.ofHds {w w' : World} {base top base' : Nat} {A A' : Option Addr} {c c' : Nat} {code : List (List Int)} {hs : List Hd} (h1 : Own hdE w base A c hs) (h2 : ∀ g, blk A = some g → g < top) (h3 : OwnRows w base top hs code)
    (hk : ∀ b, base ≤ b → b < top → w'.heap[b]? = w.heap[b]?) (n : Nat) (hn : n ≤ code.length) (hb : base' ≤ base) (hown : Own hdE w' base' A' c' (hs.take n ++ hs.drop (n + 1))) (htop : top ≤ w'.heap.size) :
    OwnC w' base' w'.heap.size A' c' (code.take n ++ code.drop (n + 1)) := by
  obtain ⟨e1, e2, e3⟩ := h3
  refine ⟨hs.take n ++ hs.drop (n + 1), hown, fun g hg => (hown.ge hg).2, ?_, fun k hd xs q1 q2 => ?_, fun a b hd hd' q1 q2 hab => ?_⟩
  · rw [List.length_append, List.length_append, List.length_take, List.length_take, List.length_drop, List.length_drop, e1]
  · rw [erase_at (by omega)] at q1 q2
    have key : ∀ k', hs[k']? = some hd → code[k']? = some xs → hd.n = xs.length ∧ OwnI w' base' hd.A hd.c xs ∧ ∀ g, blk hd.A = some g → g < w'.heap.size := fun k' a1 a2 => by
      obtain ⟨m1, m2, m3⟩ := e2 k' hd xs a1 a2
      refine ⟨m1, (m2.keep (fun b _ hbk => hk b (m2.ge hbk).1 (m3 b hbk))).mono hb, fun g hg => ?_⟩
      have := m3 g hg
      omega
    split at q1
    · rename_i hlt
      rw [if_pos hlt] at q2
      exact key k q1 q2
    · rename_i hlt
      rw [if_neg hlt] at q2
      exact key _ q1 q2
  · rw [erase_at (by omega)] at q1 q2
    split at q1 <;> split at q2 <;> exact e3 _ _ hd hd' q1 q2 (by omega)

set_option maxRecDepth 100000 in
set_option maxHeartbeats 4000000 in
theorem specDrop_any (A : Option Addr) (c T : Nat) (code : List (List Int)) (j : Int) (w : World) (hc : RC w T A code) (hn : code.length + sumLen code ≤ 1048576) :
    Calls Try.prog 27 #[.slice A code.length c, .int .i64 j] w (RetCC w (dropR code j).1 (dropR code j).2) := by
  by_cases h0 : curveC code j = 0
  · obtain ⟨hv, n, rfl, hjl⟩ := curveC_zeroD h0
    obtain ⟨hs1, hs2, hs3⟩ := valid_sum hv
    obtain ⟨b, off, B, d, ys, rfl, hb, hxs, hce0, hd1, hd2, hr0⟩ := hc.row hjl
    have hxl := sumLen_row hxs
    have HV : Hid (dropR code (n : Int) = (cutAt (withoutC (fun k : Nat => hasB (ys.map crI) (k : Int)) code) n, 0)) := hide (by
      unfold dropR dropC
      rw [if_pos h0, show (n : Int).toNat = n by omega, getD_row hxs])
    have HI := hide (valid_ints hv)
    have hV3 := hide hs3
    have HX := hide hxs
    obtain ⟨N, hNe⟩ : ∃ N, N = sumLen code / 2 := ⟨_, rfl⟩
    have hNl : N ≤ 120 := by omega
    have HNE := hide hNe
    have e1 : (sumLen code : Int) / 2 = (N : Int) := by omega
    have hmk := fun W : World => run_make_goneN N (by omega) W
    have hjI : (n : Int) < (code.length : Int) := by omega
    clear hv hxs hs3 hd1 hd2 hNe
    go_enter Try.func27, Try.ntmps27
    go_wp2_with fail
    refine (l15Code_any _ _ T code _ _ hc hn).mono ?_
    rw [h0]
    rintro e w1 ⟨rfl, hb1⟩
    have hc1 := hc.below hb1
    have hz1 := hb1.size
    have hbs : Own boolE (w1.alloc (.cells (madeCells boolE.z.cells (N * boolE.size)) 4)) w.heap.size (some ⟨w1.heap.size, 0, none⟩) N (goneL N []) := by
      rw [goneL_nil]
      exact Own.made (E := boolE) w1 _ false rfl rfl hz1 (by omega)
    have hB1 := hb1.alloc hz1 (.cells (madeCells boolE.z.cells (N * boolE.size)) 4)
    have hz1' : w1.heap.size + 1 ≤ (w1.alloc (.cells (madeCells boolE.z.cells (N * boolE.size)) 4)).heap.size := by simp
    clear h0
    go_wp2_with (go_at_call 73; refine (l15Many_any _ _ T code _ hc1 hn).mono ?_; rintro e w' ⟨rfl, rfl⟩)
    go_loopw [8] (fun i wr => ∃ (k : Nat), k ≤ ys.length ∧ i = .int .i64 k ∧ Own boolE wr w.heap.size (some ⟨w1.heap.size, 0, none⟩) N (goneL N ((ys.take k).map crI)) ∧ Below w.heap.size w wr ∧ w1.heap.size + 1 ≤ wr.heap.size) (fun i _ => ys.length - (intOf i).toNat)
    case atStart => exact ⟨0, Nat.zero_le _, rfl, by rw [List.take_zero, List.map_nil]; exact hbs, hB1, hz1'⟩
    case round =>
      clear hbs hB1 hz1' hmk
      obtain ⟨k, hk, rfl, own, hB, hzk⟩ := hrel
      have hz := hB.size
      have hr := hr0.below hB
      have hce := (hB.cell (p := ⟨b, off + n, none⟩) hb).trans hce0
      by_cases hlt : k < ys.length
      · obtain ⟨b2, off2, x, rfl, hb2, hx, hcx⟩ := hr.at_ hlt
        obtain ⟨i0, i1, i2⟩ := HI.out ys (List.mem_of_getElem? HX.out) x (List.mem_of_getElem? hx)
        rw [← HNE.out] at i1 i2
        obtain ⟨m, hm⟩ : ∃ m : Nat, crI x = (m : Int) := ⟨(crI x).toNat, by unfold crI; omega⟩
        have hmN : m < N := by unfold crI at hm; omega
        have hwn : -9223372036854775808 < x := by omega
        have hwx : x ≤ 9223372036854775807 := by omega
        have hmI : (m : Int) < (N : Int) := by omega
        obtain ⟨g, hg, _, hgs, hcell, hfr, hput⟩ := boolE_at own (goneL_at (l := (ys.take k).map crI) hmN)
        injection hg with hg
        injection hg with hg
        subst hg
        have hp := hput true
        rw [goneL_set hmN hm, show (ys.take k).map crI ++ [crI x] = (ys.take (k + 1)).map crI by rw [List.take_add_one, hx, List.map_append]; rfl] at hp
        have hB2 := hB.setCell (p := ⟨w1.heap.size, m, none⟩) hz1 (.bool true)
        have hz2 : w1.heap.size + 1 ≤ (wr.setCell ⟨w1.heap.size, m, none⟩ (.bool true)).heap.size := by simpa using hzk
        have HP := hide hp.1
        have wc : IntKind.i64.wrap ((m : Int) + 1 - 1) = (m : Int) := by rw [IntKind.wrap_i64]; omega
        clear hx hput hp own
        go_wp2_with (go_at_call 78; refine (l15Size_any _ _ hwn hwx).mono ?_; rw [hm]; rintro e w' ⟨rfl, rfl⟩)
        go_roundw
        case rel => exact ⟨k + 1, by omega, by go_num, HP.out, hB2, hz2⟩
        case measure => simp [intOf]; omega
      · obtain rfl : k = ys.length := by omega
        rw [List.take_of_length_le (Nat.le_refl _)] at own
        obtain ⟨bs, hbsE⟩ : ∃ bs, bs = goneL N (ys.map crI) := ⟨_, rfl⟩
        rw [← hbsE] at own
        have HBL : Hid (bs.length = N) := hide (by rw [hbsE]; exact goneL_length _ _)
        have HW2 : Hid (withoutC (fun k => bs.getD k false) code = withoutC (fun k : Nat => hasB (ys.map crI) (k : Int)) code) := hide (by rw [hbsE, HNE.out]; exact gone_same)
        obtain ⟨dd, hdd⟩ : ∃ dd, dd = withoutC (fun k => bs.getD k false) code := ⟨_, rfl⟩
        have hdl : Hid (dd.length = code.length) := hide (by rw [hdd]; exact (withoutC_size _ _).1)
        have HD := hide hdd
        have hrd := own.rd
        clear hbsE
        go_wp2_with fail
        have hcall := l15Without_any _ c T _ N bs code _ (hc.below hB) hrd hn hV3.out (by rw [HBL.out, HNE.out]) HI.out
        rw [HBL.out, ← hdd] at hcall
        refine hcall.mono ?_
        rintro e w2 ⟨A2, c2, rfl, own2, hb2⟩
        have hB2 := hB.trans (hb2.mono hz)
        have hz2 := hB2.size
        obtain ⟨hds, o1, o2, o3, o4, o5⟩ := own2
        have hdn : n < hds.length := by rw [o3]; have := hdl.out; omega
        obtain ⟨g, hA2, hcap⟩ : ∃ g, A2 = some ⟨g, 0, none⟩ ∧ dd.length ≤ c2 := by
          rcases o1.2 with ⟨hv, hz⟩ | ⟨g, cap, cur, hv, hb, hh, hnc, hcm, hcs, ht⟩
          · omega
          · injection hv with hA hn' hc'
            exact ⟨g, hA, by rw [← o3, hc']; exact hnc⟩
        subst hA2
        clear hdd hcall
        obtain ⟨p1, hp1⟩ : ∃ p1, p1 = hds.take n := ⟨_, rfl⟩
        obtain ⟨p2, hp2⟩ : ∃ p2, p2 = hds.drop (n + 1) := ⟨_, rfl⟩
        have hl1 : Hid (p1.length = n) := hide (by rw [hp1, List.length_take]; omega)
        have hl2 : Hid (p2.length = dd.length - (n + 1)) := hide (by rw [hp2, List.length_drop, o3])
        have hr1 : RG hdE w2 (some ⟨g, 0, none⟩) p1 := by rw [hp1]; exact o1.rd.take_ n
        have hr2 : RG hdE w2 (if c2 = n + 1 then some ⟨g, 0, none⟩ else some ⟨g, n + 1, none⟩) p2 := by
          have := RGhd_drop o1.rd (n + 1) (c := c2) (by rw [o3]; exact hcap)
          rw [← hp2] at this
          simpa [Addr.add_lit] using this
        have hdd1 : n + 1 ≤ dd.length := by omega
        have hddl : dd.length ≤ 1048576 := by have := hdl.out; omega
        have he : Own hdE (w2.alloc (.cells #[] 33)) w.heap.size (some ⟨w2.heap.size, 0, none⟩) 0 [] := Own.new (E := hdE) w2 [] #[] rfl hz2 (by simp)
        have hBn : Below w2.heap.size w2 (w2.alloc (.cells #[] 33)) := (Below.refl _ _).alloc (Nat.le_refl _) _
        have q1 : (n : Int) ≤ (c2 : Int) := by omega
        have q2 : (n : Int) + 1 ≤ (dd.length : Int) := by omega
        have wn1 : IntKind.i64.wrap ((n : Int) + 1) = (n : Int) + 1 := by rw [IntKind.wrap_i64]; omega
        have HP := hide (And.intro hp1 hp2)
        clear hp1 hp2
        by_cases hcd : c2 = n + 1
        · subst hcd
          rw [if_pos rfl] at hr2
          have hl20 : Hid (p2.length = 0) := hide (by rw [hl2.out]; omega)
          go_wp2_with (first
            | (at_builtin; refine wpList_append_row hdE rfl (.tmp 43) (.tmp 46) rfl w.heap.size (some ⟨w2.heap.size, 0, none⟩) 0 [] rfl he (some ⟨g, 0, none⟩) _ p1 (by rw [hl1.out]; rfl) (hr1.alloc _) (by have := hl1.out; simp; omega) (by have := hl1.out; simp [hdE]; omega) (by simp; omega) p1 rfl ?_; intro A4 c4 w3 own4 hg4 hb4)
            | (at_builtin; refine wpList_append_row hdE rfl (.tmp 48) (.tmp 52) rfl w.heap.size A4 c4 p1 rfl own4 (some ⟨g, 0, none⟩) _ p2 (by first | (rw [hl20.out]; rfl) | (rw [hl2.out]; rfl)) (hr2.below (hBn.grown hg4 (by simp) (fun q hq => by have := blk_inj hq; omega))) (by have := hl1.out; have := hl2.out; omega) (by have := hl1.out; have := hl2.out; simp [hdE]; omega) (by have := hg4.size; simp only [World.size_alloc] at this; omega) (p1 ++ p2) rfl ?_; intro A5 c5 w5 own5 hg5 hb5))
          have hB3 := hBn.grown hg4 (by simp) (fun q hq => by have := blk_inj hq; omega)
          have hs3 := hg4.size
          simp only [World.size_alloc] at hs3
          have hB5 := hB3.grown hg5 (by omega) (fun q hq => by
            rcases hb4 with h | h
            · rw [h] at hq
              have := blk_inj hq
              omega
            · rw [h] at hq
              injection hq with hq
              simp only [World.size_alloc] at hq
              omega)
          have hB6 := hB2.trans (hB5.mono hz2)
          have hs5 := hB5.size
          have hcut : (cutAt dd n).length = (p1 ++ p2).length := by
            unfold cutAt
            have h1 := hl1.out
            have h2 := hl2.out
            rw [List.length_append, List.length_append, List.length_take, List.length_drop, h1, h2]
            omega
          obtain ⟨rfl, rfl⟩ := HP.out
          have hfin := OwnC.ofHds o1 o2 ⟨o3, o4, o5⟩ (fun b _ hb => hB5.block b hb) n (by omega) hz own5 hs5
          refine bodyPost_ret (v := .tuple #[.slice A5 (hds.take n ++ hds.drop (n + 1)).length c5, .int .i64 0]) (by simp [results, Try.results27, go_sem]) rfl ?_
          rw [HV.out, ← HW2.out, ← HD.out]
          exact ⟨A5, c5, congrArg (fun m => Ending.returned (Value.tuple #[Value.slice A5 m c5, Value.int .i64 0])) hcut.symm, hfin.mono (Nat.le_refl _) (Nat.le_refl _), hB6⟩
        · rw [if_neg hcd] at hr2
          go_wp2_with (first
            | (at_builtin; refine wpList_append_row hdE rfl (.tmp 43) (.tmp 46) rfl w.heap.size (some ⟨w2.heap.size, 0, none⟩) 0 [] rfl he (some ⟨g, 0, none⟩) _ p1 (by rw [hl1.out]; rfl) (hr1.alloc _) (by have := hl1.out; simp; omega) (by have := hl1.out; simp [hdE]; omega) (by simp; omega) p1 rfl ?_; intro A4 c4 w3 own4 hg4 hb4)
            | (at_builtin; refine wpList_append_row hdE rfl (.tmp 48) (.tmp 52) rfl w.heap.size A4 c4 p1 rfl own4 (some ⟨g, n + 1, none⟩) _ p2 (by rw [hl2.out]; rfl) (hr2.below (hBn.grown hg4 (by simp) (fun q hq => by have := blk_inj hq; omega))) (by have := hl1.out; have := hl2.out; omega) (by have := hl1.out; have := hl2.out; simp [hdE]; omega) (by have := hg4.size; simp only [World.size_alloc] at this; omega) (p1 ++ p2) rfl ?_; intro A5 c5 w5 own5 hg5 hb5))
          have hB3 := hBn.grown hg4 (by simp) (fun q hq => by have := blk_inj hq; omega)
          have hs3 := hg4.size
          simp only [World.size_alloc] at hs3
          have hB5 := hB3.grown hg5 (by omega) (fun q hq => by
            rcases hb4 with h | h
            · rw [h] at hq
              have := blk_inj hq
              omega
            · rw [h] at hq
              injection hq with hq
              simp only [World.size_alloc] at hq
              omega)
          have hB6 := hB2.trans (hB5.mono hz2)
          have hs5 := hB5.size
          have hcut : (cutAt dd n).length = (p1 ++ p2).length := by
            unfold cutAt
            have h1 := hl1.out
            have h2 := hl2.out
            rw [List.length_append, List.length_append, List.length_take, List.length_drop, h1, h2]
            omega
          obtain ⟨rfl, rfl⟩ := HP.out
          have hfin := OwnC.ofHds o1 o2 ⟨o3, o4, o5⟩ (fun b _ hb => hB5.block b hb) n (by omega) hz own5 hs5
          refine bodyPost_ret (v := .tuple #[.slice A5 (hds.take n ++ hds.drop (n + 1)).length c5, .int .i64 0]) (by simp [results, Try.results27, go_sem]) rfl ?_
          rw [HV.out, ← HW2.out, ← HD.out]
          exact ⟨A5, c5, congrArg (fun m => Ending.returned (Value.tuple #[Value.slice A5 m c5, Value.int .i64 0])) hcut.symm, hfin.mono (Nat.le_refl _) (Nat.le_refl _), hB6⟩
  · obtain ⟨q, hq⟩ : ∃ q, q = curveC code j := ⟨_, rfl⟩
    have HV : Hid (dropR code j = ([], q)) := hide (by unfold dropR; rw [if_neg h0, hq])
    have hq0 : (q != 0) = true := by rw [hq]; simpa using h0
    clear h0
    go_enter Try.func27, Try.ntmps27
    go_wp2_with fail
    refine (l15Code_any _ _ T code _ _ hc hn).mono ?_
    rw [← hq]
    rintro e w1 ⟨rfl, hb1⟩
    clear hq
    go_wp2_with fail
    refine bodyPost_ret (v := .tuple #[.slice none 0 0, .int .i64 q]) (by simp [results, Try.results27, go_sem]) rfl ?_
    rw [HV.out]
    exact ⟨none, 0, rfl, OwnC.nil _ _ _, hb1⟩
end Go.Proofs.Ytpgpchklmdhldaa
