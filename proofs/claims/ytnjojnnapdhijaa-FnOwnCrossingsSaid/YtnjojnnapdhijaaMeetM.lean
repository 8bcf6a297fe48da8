/-
  Contract: DropCurve, of the reference. Conditions: none beyond the lengths.
  Contract: isOdd. Conditions: none beyond the lengths.
  Contracts: MeetingsOf, of the reference and of the program. Conditions: none beyond the lengths.
-/
import Derived.Test.YtnjojnnapdhijaaDropIM
import Derived.Test.YtnjojnnapdhijaaPlaces
import Derived.Test.YtnjojnnapdhijaaFaultMath
import Derived.Test.YtnjojnnapdhijaaRenS
import Derived.Test.YtnjojnnapdhijaaCodeIn
import Derived.Deep.DeepCutAuto
import Derived.Deep.RegionHeld3
import Derived.BigQuiet
namespace Go.Proofs.Ytnjojnnapdhijaa
open Go.RowKit
set_option linter.unusedVariables false

def goneL (N : Nat) (l : List Int) : List Bool := (List.range N).map fun j : Nat => decide ((j : Int) ∈ l)
theorem goneL_length (N : Nat) (l : List Int) : (goneL N l).length = N := by simp [goneL]
theorem goneL_nil (N : Nat) : goneL N [] = List.replicate N false := by
  apply List.ext_getElem?
  intro i
  simp only [goneL, List.getElem?_map, List.getElem?_replicate]
  by_cases h : i < N
  · rw [List.getElem?_range h, if_pos h]
    simp
  · rw [List.getElem?_eq_none (by simp; omega), if_neg h]
    rfl
theorem goneL_at {N m : Nat} {l : List Int} (hm : m < N) : (goneL N l)[m]? = some (decide ((m : Int) ∈ l)) := by
  simp only [goneL, List.getElem?_map]
  rw [List.getElem?_range hm, Option.map_some]
theorem goneL_set {N m : Nat} {l : List Int} {c : Int} (hm : m < N) (hc : c = (m : Int)) : (goneL N l).set m true = goneL N (l ++ [c]) := by
  apply List.ext_getElem?
  intro i
  by_cases h : m = i
  · subst h
    rw [List.getElem?_set_self (by rw [goneL_length]; exact hm), goneL_at hm]
    simp [hc]
  · rw [List.getElem?_set_ne h]
    simp only [goneL, List.getElem?_map]
    by_cases h2 : i < N
    · rw [List.getElem?_range h2]
      simp only [Option.map_some, Option.some.injEq, decide_eq_decide, List.mem_append, List.mem_singleton]
      constructor
      · exact .inl
      · intro h3
        rcases h3 with h3 | h3
        · exact h3
        · omega
    · rw [List.getElem?_eq_none (by simp; omega)]
      rfl
theorem withoutC_cong {g g' : Nat → Bool} {code : List (List Int)} (h : ∀ k, k < sumLen code / 2 → g k = g' k) : withoutC g code = withoutC g' code := by
  unfold withoutC
  rw [numsW_congr h]
theorem gone_same {code : List (List Int)} {l : List Int} : withoutC (fun k => (goneL (sumLen code / 2) l).getD k false) code = withoutC (fun k : Nat => hasB l (k : Int)) code := withoutC_cong fun k hk => by
  rw [List.getD_eq_getElem?_getD, goneL_at hk]
  unfold hasB
  rw [Bool.eq_iff_iff]
  simp
theorem run_make_goneN (n : Nat) (hn : n ≤ 240) (W : World) :
    (Instr.makeSlice 71 (.int .i64 (n : Int)) (.int .i64 (n : Int))).run Try.prog W = .ok (.slice (some ⟨W.heap.size, 0, none⟩) n n) (W.alloc (.cells (madeCells boolE.z.cells (n * boolE.size)) 4)) :=
  boolE.run_make n (by simp [boolE]; omega) (by omega) W
theorem RGhd_drop {w : World} {A : Option Addr} {hs : List Hd} (h : RG hdE w A hs) (k : Nat) {c : Nat} (hc : hs.length ≤ c) : RG hdE w (if c = k then A else A.map (·.add k)) (hs.drop k) := by
  unfold RG at h ⊢
  rw [flat_encHd] at h ⊢
  rw [List.map_drop]
  exact Rd.drop_ h k (by simpa using hc)
/-- Rows whose headers are some of those of rows of the call's own. -/
theorem OwnC.ofHds {w w' : World} {base top base' : Nat} {A A' : Option Addr} {c c' : Nat} {code : List (List Int)} {hs : List Hd} (h1 : Own hdE w base A c hs) (h2 : ∀ g, blk A = some g → g < top) (h3 : OwnRows w base top hs code)
    (hk : ∀ b, base ≤ b → b < top → w'.heap[b]? = w.heap[b]?) (n : Nat) (hn : n ≤ code.length) (hb : base' ≤ base) (hown : Own hdE w' base' A' c' (hs.take n ++ hs.drop (n + 1))) (htop : top ≤ w'.heap.size) :
    OwnC w' base' w'.heap.size A' c' (code.take n ++ code.drop (n + 1)) := by
  obtain ⟨e1, e2, e3⟩ := h3
  refine ⟨hs.take n ++ hs.drop (n + 1), hown, fun g hg => (hown.ge hg).2, ?_, fun k hd xs q1 q2 => ?_, fun a b hd hd' q1 q2 hab => ?_⟩
  · rw [List.length_append, List.length_append, List.length_take, List.length_take, List.length_drop, List.length_drop, e1]
  · rw [erase_at (by omega)] at q1 q2
    have key : ∀ k', hs[k']? = some hd → code[k']? = some xs → hd.n = xs.length ∧ OwnI w' base' hd.A hd.c xs ∧ ∀ g, blk hd.A = some g → g < w'.heap.size := fun k' a1 a2 => by
      obtain ⟨m1, m2, m3⟩ := e2 k' hd xs a1 a2
      refine ⟨m1, (m2.keep (fun b _ hbk => hk b (m2.ge hbk).1 (m3 b hbk))).mono hb, fun g hg => ?_⟩
      have := m3 g hg
      omega
    split at q1
    · rename_i hlt
      rw [if_pos hlt] at q2
      exact key k q1 q2
    · rename_i hlt
      rw [if_neg hlt] at q2
      exact key _ q1 q2
  · rw [erase_at (by omega)] at q1 q2
    split at q1 <;> split at q2 <;> exact e3 _ _ hd hd' q1 q2 (by omega)

set_option maxRecDepth 100000 in
set_option maxHeartbeats 4000000 in
theorem specDrop_any (A : Option Addr) (c T : Nat) (code : List (List Int)) (j : Int) (w : World) (hc : RC w T A code) (hn : code.length + sumLen code ≤ 1048576) :
    Calls Try.prog 36 #[.slice A code.length c, .int .i64 j] w (RetCC w (dropR code j).1 (dropR code j).2) := by
  by_cases h0 : curveC code j = 0
  · obtain ⟨hv, n, rfl, hjl⟩ := curveC_zeroD h0
    obtain ⟨hs1, hs2, hs3⟩ := valid_sum hv
    obtain ⟨b, off, B, d, ys, rfl, hb, hxs, hce0, hd1, hd2, hr0⟩ := hc.row hjl
    have hxl := sumLen_row hxs
    have HV : Hid (dropR code (n : Int) = (cutAt (withoutC (fun k : Nat => hasB (ys.map crI) (k : Int)) code) n, 0)) := hide (by
      unfold dropR dropC
      rw [if_pos h0, show (n : Int).toNat = n by omega, getD_row hxs])
    have HI := hide (valid_ints hv)
    have hV3 := hide hs3
    have HX := hide hxs
    obtain ⟨N, hNe⟩ : ∃ N, N = sumLen code / 2 := ⟨_, rfl⟩
    have hNl : N ≤ 120 := by omega
    have HNE := hide hNe
    have e1 : (sumLen code : Int) / 2 = (N : Int) := by omega
    have hmk := fun W : World => run_make_goneN N (by omega) W
    have hjI : (n : Int) < (code.length : Int) := by omega
    clear hv hxs hs3 hd1 hd2 hNe
    go_enter Try.func36, Try.ntmps36
    go_wp2_with fail
    refine (l15Code_any _ _ T code _ _ hc hn).mono ?_
    rw [h0]
    rintro e w1 ⟨rfl, hb1⟩
    have hc1 := hc.below hb1
    have hz1 := hb1.size
    have hbs : Own boolE (w1.alloc (.cells (madeCells boolE.z.cells (N * boolE.size)) 4)) w.heap.size (some ⟨w1.heap.size, 0, none⟩) N (goneL N []) := by
      rw [goneL_nil]
      exact Own.made (E := boolE) w1 _ false rfl rfl hz1 (by omega)
    have hB1 := hb1.alloc hz1 (.cells (madeCells boolE.z.cells (N * boolE.size)) 4)
    have hz1' : w1.heap.size + 1 ≤ (w1.alloc (.cells (madeCells boolE.z.cells (N * boolE.size)) 4)).heap.size := by simp
    clear h0
    go_wp2_with (go_at_call 88; refine (l15Many_any _ _ T code _ hc1 hn).mono ?_; rintro e w' ⟨rfl, rfl⟩)
    go_loopw [8] (fun i wr => ∃ (k : Nat), k ≤ ys.length ∧ i = .int .i64 k ∧ Own boolE wr w.heap.size (some ⟨w1.heap.size, 0, none⟩) N (goneL N ((ys.take k).map crI)) ∧ Below w.heap.size w wr ∧ w1.heap.size + 1 ≤ wr.heap.size) (fun i _ => ys.length - (intOf i).toNat)
    case atStart => exact ⟨0, Nat.zero_le _, rfl, by rw [List.take_zero, List.map_nil]; exact hbs, hB1, hz1'⟩
    case round =>
      clear hbs hB1 hz1' hmk
      obtain ⟨k, hk, rfl, own, hB, hzk⟩ := hrel
      have hz := hB.size
      have hr := hr0.below hB
      have hce := (hB.cell (p := ⟨b, off + n, none⟩) hb).trans hce0
      by_cases hlt : k < ys.length
      · obtain ⟨b2, off2, x, rfl, hb2, hx, hcx⟩ := hr.at_ hlt
        obtain ⟨i0, i1, i2⟩ := HI.out ys (List.mem_of_getElem? HX.out) x (List.mem_of_getElem? hx)
        rw [← HNE.out] at i1 i2
        obtain ⟨m, hm⟩ : ∃ m : Nat, crI x = (m : Int) := ⟨(crI x).toNat, by unfold crI; omega⟩
        have hmN : m < N := by unfold crI at hm; omega
        have hwn : -9223372036854775808 < x := by omega
        have hwx : x ≤ 9223372036854775807 := by omega
        have hmI : (m : Int) < (N : Int) := by omega
        obtain ⟨g, hg, _, hgs, hcell, hfr, hput⟩ := boolE_at own (goneL_at (l := (ys.take k).map crI) hmN)
        injection hg with hg
        injection hg with hg
        subst hg
        have hp := hput true
        rw [goneL_set hmN hm, show (ys.take k).map crI ++ [crI x] = (ys.take (k + 1)).map crI by rw [List.take_add_one, hx, List.map_append]; rfl] at hp
        have hB2 := hB.setCell (p := ⟨w1.heap.size, m, none⟩) hz1 (.bool true)
        have hz2 : w1.heap.size + 1 ≤ (wr.setCell ⟨w1.heap.size, m, none⟩ (.bool true)).heap.size := by simpa using hzk
        have HP := hide hp.1
        have wc : IntKind.i64.wrap ((m : Int) + 1 - 1) = (m : Int) := by rw [IntKind.wrap_i64]; omega
        clear hx hput hp own
        go_wp2_with (go_at_call 89; refine (l15Size_any _ _ hwn hwx).mono ?_; rw [hm]; rintro e w' ⟨rfl, rfl⟩)
        go_roundw
        case rel => exact ⟨k + 1, by omega, by go_num, HP.out, hB2, hz2⟩
        case measure => simp [intOf]; omega
      · obtain rfl : k = ys.length := by omega
        rw [List.take_of_length_le (Nat.le_refl _)] at own
        obtain ⟨bs, hbsE⟩ : ∃ bs, bs = goneL N (ys.map crI) := ⟨_, rfl⟩
        rw [← hbsE] at own
        have HBL : Hid (bs.length = N) := hide (by rw [hbsE]; exact goneL_length _ _)
        have HW2 : Hid (withoutC (fun k => bs.getD k false) code = withoutC (fun k : Nat => hasB (ys.map crI) (k : Int)) code) := hide (by rw [hbsE, HNE.out]; exact gone_same)
        obtain ⟨dd, hdd⟩ : ∃ dd, dd = withoutC (fun k => bs.getD k false) code := ⟨_, rfl⟩
        have hdl : Hid (dd.length = code.length) := hide (by rw [hdd]; exact (withoutC_size _ _).1)
        have HD := hide hdd
        have hrd := own.rd
        clear hbsE
        go_wp2_with fail
        have hcall := l15Without_any _ c T _ N bs code _ (hc.below hB) hrd hn hV3.out (by rw [HBL.out, HNE.out]) HI.out
        rw [HBL.out, ← hdd] at hcall
        refine hcall.mono ?_
        rintro e w2 ⟨A2, c2, rfl, own2, hb2⟩
        have hB2 := hB.trans (hb2.mono hz)
        have hz2 := hB2.size
        obtain ⟨hds, o1, o2, o3, o4, o5⟩ := own2
        have hdn : n < hds.length := by rw [o3]; have := hdl.out; omega
        obtain ⟨g, hA2, hcap⟩ : ∃ g, A2 = some ⟨g, 0, none⟩ ∧ dd.length ≤ c2 := by
          rcases o1.2 with ⟨hv, hz⟩ | ⟨g, cap, cur, hv, hb, hh, hnc, hcm, hcs, ht⟩
          · omega
          · injection hv with hA hn' hc'
            exact ⟨g, hA, by rw [← o3, hc']; exact hnc⟩
        subst hA2
        clear hdd hcall
        obtain ⟨p1, hp1⟩ : ∃ p1, p1 = hds.take n := ⟨_, rfl⟩
        obtain ⟨p2, hp2⟩ : ∃ p2, p2 = hds.drop (n + 1) := ⟨_, rfl⟩
        have hl1 : Hid (p1.length = n) := hide (by rw [hp1, List.length_take]; omega)
        have hl2 : Hid (p2.length = dd.length - (n + 1)) := hide (by rw [hp2, List.length_drop, o3])
        have hr1 : RG hdE w2 (some ⟨g, 0, none⟩) p1 := by rw [hp1]; exact o1.rd.take_ n
        have hr2 : RG hdE w2 (if c2 = n + 1 then some ⟨g, 0, none⟩ else some ⟨g, n + 1, none⟩) p2 := by
          have := RGhd_drop o1.rd (n + 1) (c := c2) (by rw [o3]; exact hcap)
          rw [← hp2] at this
          simpa [Addr.add_lit] using this
        have hdd1 : n + 1 ≤ dd.length := by omega
        have hddl : dd.length ≤ 1048576 := by have := hdl.out; omega
        have he : Own hdE (w2.alloc (.cells #[] 34)) w.heap.size (some ⟨w2.heap.size, 0, none⟩) 0 [] := Own.new (E := hdE) w2 [] #[] rfl hz2 (by simp)
        have hBn : Below w2.heap.size w2 (w2.alloc (.cells #[] 34)) := (Below.refl _ _).alloc (Nat.le_refl _) _
        have q1 : (n : Int) ≤ (c2 : Int) := by omega
        have q2 : (n : Int) + 1 ≤ (dd.length : Int) := by omega
        have wn1 : IntKind.i64.wrap ((n : Int) + 1) = (n : Int) + 1 := by rw [IntKind.wrap_i64]; omega
        have HP := hide (And.intro hp1 hp2)
        clear hp1 hp2
        by_cases hcd : c2 = n + 1
        · subst hcd
          rw [if_pos rfl] at hr2
          have hl20 : Hid (p2.length = 0) := hide (by rw [hl2.out]; omega)
          go_wp2_with (first
            | (at_builtin; refine wpList_append_row hdE rfl (.tmp 43) (.tmp 46) rfl w.heap.size (some ⟨w2.heap.size, 0, none⟩) 0 [] rfl he (some ⟨g, 0, none⟩) _ p1 (by rw [hl1.out]; rfl) (hr1.alloc _) (by have := hl1.out; simp; omega) (by have := hl1.out; simp [hdE]; omega) (by simp; omega) p1 rfl ?_; intro A4 c4 w3 own4 hg4 hb4)
            | (at_builtin; refine wpList_append_row hdE rfl (.tmp 48) (.tmp 52) rfl w.heap.size A4 c4 p1 rfl own4 (some ⟨g, 0, none⟩) _ p2 (by first | (rw [hl20.out]; rfl) | (rw [hl2.out]; rfl)) (hr2.below (hBn.grown hg4 (by simp) (fun q hq => by have := blk_inj hq; omega))) (by have := hl1.out; have := hl2.out; omega) (by have := hl1.out; have := hl2.out; simp [hdE]; omega) (by have := hg4.size; simp only [World.size_alloc] at this; omega) (p1 ++ p2) rfl ?_; intro A5 c5 w5 own5 hg5 hb5))
          have hB3 := hBn.grown hg4 (by simp) (fun q hq => by have := blk_inj hq; omega)
          have hs3 := hg4.size
          simp only [World.size_alloc] at hs3
          have hB5 := hB3.grown hg5 (by omega) (fun q hq => by
            rcases hb4 with h | h
            · rw [h] at hq
              have := blk_inj hq
              omega
            · rw [h] at hq
              injection hq with hq
              simp only [World.size_alloc] at hq
              omega)
          have hB6 := hB2.trans (hB5.mono hz2)
          have hs5 := hB5.size
          have hcut : (cutAt dd n).length = (p1 ++ p2).length := by
            unfold cutAt
            have h1 := hl1.out
            have h2 := hl2.out
            rw [List.length_append, List.length_append, List.length_take, List.length_drop, h1, h2]
            omega
          obtain ⟨rfl, rfl⟩ := HP.out
          have hfin := OwnC.ofHds o1 o2 ⟨o3, o4, o5⟩ (fun b _ hb => hB5.block b hb) n (by omega) hz own5 hs5
          refine bodyPost_ret (v := .tuple #[.slice A5 (hds.take n ++ hds.drop (n + 1)).length c5, .int .i64 0]) (by simp [results, Try.results36, go_sem]) rfl ?_
          rw [HV.out, ← HW2.out, ← HD.out]
          exact ⟨A5, c5, congrArg (fun m => Ending.returned (Value.tuple #[Value.slice A5 m c5, Value.int .i64 0])) hcut.symm, hfin.mono (Nat.le_refl _) (Nat.le_refl _), hB6⟩
        · rw [if_neg hcd] at hr2
          go_wp2_with (first
            | (at_builtin; refine wpList_append_row hdE rfl (.tmp 43) (.tmp 46) rfl w.heap.size (some ⟨w2.heap.size, 0, none⟩) 0 [] rfl he (some ⟨g, 0, none⟩) _ p1 (by rw [hl1.out]; rfl) (hr1.alloc _) (by have := hl1.out; simp; omega) (by have := hl1.out; simp [hdE]; omega) (by simp; omega) p1 rfl ?_; intro A4 c4 w3 own4 hg4 hb4)
            | (at_builtin; refine wpList_append_row hdE rfl (.tmp 48) (.tmp 52) rfl w.heap.size A4 c4 p1 rfl own4 (some ⟨g, n + 1, none⟩) _ p2 (by rw [hl2.out]; rfl) (hr2.below (hBn.grown hg4 (by simp) (fun q hq => by have := blk_inj hq; omega))) (by have := hl1.out; have := hl2.out; omega) (by have := hl1.out; have := hl2.out; simp [hdE]; omega) (by have := hg4.size; simp only [World.size_alloc] at this; omega) (p1 ++ p2) rfl ?_; intro A5 c5 w5 own5 hg5 hb5))
          have hB3 := hBn.grown hg4 (by simp) (fun q hq => by have := blk_inj hq; omega)
          have hs3 := hg4.size
          simp only [World.size_alloc] at hs3
          have hB5 := hB3.grown hg5 (by omega) (fun q hq => by
            rcases hb4 with h | h
            · rw [h] at hq
              have := blk_inj hq
              omega
            · rw [h] at hq
              injection hq with hq
              simp only [World.size_alloc] at hq
              omega)
          have hB6 := hB2.trans (hB5.mono hz2)
          have hs5 := hB5.size
          have hcut : (cutAt dd n).length = (p1 ++ p2).length := by
            unfold cutAt
            have h1 := hl1.out
            have h2 := hl2.out
            rw [List.length_append, List.length_append, List.length_take, List.length_drop, h1, h2]
            omega
          obtain ⟨rfl, rfl⟩ := HP.out
          have hfin := OwnC.ofHds o1 o2 ⟨o3, o4, o5⟩ (fun b _ hb => hB5.block b hb) n (by omega) hz own5 hs5
          refine bodyPost_ret (v := .tuple #[.slice A5 (hds.take n ++ hds.drop (n + 1)).length c5, .int .i64 0]) (by simp [results, Try.results36, go_sem]) rfl ?_
          rw [HV.out, ← HW2.out, ← HD.out]
          exact ⟨A5, c5, congrArg (fun m => Ending.returned (Value.tuple #[Value.slice A5 m c5, Value.int .i64 0])) hcut.symm, hfin.mono (Nat.le_refl _) (Nat.le_refl _), hB6⟩
  · obtain ⟨q, hq⟩ : ∃ q, q = curveC code j := ⟨_, rfl⟩
    have HV : Hid (dropR code j = ([], q)) := hide (by unfold dropR; rw [if_neg h0, hq])
    have hq0 : (q != 0) = true := by rw [hq]; simpa using h0
    clear h0
    go_enter Try.func36, Try.ntmps36
    go_wp2_with fail
    refine (l15Code_any _ _ T code _ _ hc hn).mono ?_
    rw [← hq]
    rintro e w1 ⟨rfl, hb1⟩
    clear hq
    go_wp2_with fail
    refine bodyPost_ret (v := .tuple #[.slice none 0 0, .int .i64 q]) (by simp [results, Try.results36, go_sem]) rfl ?_
    rw [HV.out]
    exact ⟨none, 0, rfl, OwnC.nil _ _ _, hb1⟩
end Go.Proofs.Ytnjojnnapdhijaa

namespace Go.Proofs.Ytnjojnnapdhijaa
open Go.RowKit
set_option linter.unusedVariables false

theorem plc_bound {code : List (List Int)} (hn : code.length + sumLen code ≤ 1048576) (x : Int) : 0 ≤ (plc code x).1 ∧ (plc code x).1 ≤ 1048576 ∧ 0 ≤ (plc code x).2 ∧ (plc code x).2 ≤ 1048576 := by
  unfold plc
  cases h : placeOf code x with
  | none => simp
  | some p =>
    obtain ⟨a, b⟩ := p
    obtain ⟨an, bn, xs, rfl, rfl, h3, h4⟩ := placeOf_some h
    have h5 := (List.getElem?_eq_some_iff.1 h3).1
    have h6 := (List.getElem?_eq_some_iff.1 h4).1
    have h7 := sumLen_row h3
    simp only [Option.getD_some]
    omega
theorem atK_plc {l : List (Int × Int × Int)} {code : List (List Int)} (hl : ∀ x, l.lookup x = placeOf code x) (x : Int) : atK plE l x = plc code x := by
  unfold atK plc
  rw [hl]
  rfl
/-- what a look-up gives, in the worlds that a statement with two new blocks passes through -/
theorem Mp.look_pl {w : World} {b : Nat} {l : List (Int × Int × Int)} (h : Mp plE w b l) {x p1 p2 : Int} (hp : atK plE l x = (p1, p2)) :
    ((Instr.lookup 59 (.map (some b)) (.int .i64 x) false).run Try.prog w = .ok (.agg #[.int .i64 p1, .int .i64 p2]) w) ∧
    (∀ o, (Instr.lookup 59 (.map (some b)) (.int .i64 x) false).run Try.prog (w.alloc o) = .ok (.agg #[.int .i64 p1, .int .i64 p2]) (w.alloc o)) ∧
    (∀ o o', (Instr.lookup 59 (.map (some b)) (.int .i64 x) false).run Try.prog ((w.alloc o).alloc o') = .ok (.agg #[.int .i64 p1, .int .i64 p2]) ((w.alloc o).alloc o')) ∧
    ((Instr.lookup 59 (.map (some b)) (.int .i64 x) false).run Try.prog w.drew = .ok (.agg #[.int .i64 p1, .int .i64 p2]) w.drew) ∧
    (∀ o, (Instr.lookup 59 (.map (some b)) (.int .i64 x) false).run Try.prog (w.alloc o).drew = .ok (.agg #[.int .i64 p1, .int .i64 p2]) (w.alloc o).drew) ∧
    (∀ o o', (Instr.lookup 59 (.map (some b)) (.int .i64 x) false).run Try.prog ((w.alloc o).alloc o').drew = .ok (.agg #[.int .i64 p1, .int .i64 p2]) ((w.alloc o).alloc o').drew) := by
  have key : ∀ {w : World}, Mp plE w b l → (Instr.lookup 59 (.map (some b)) (.int .i64 x) false).run Try.prog w = .ok (.agg #[.int .i64 p1, .int .i64 p2]) w := fun h => by
    have := h.look x
    rw [hp] at this
    exact this
  exact ⟨key h, fun o => key (h.alloc o), fun o o' => key ((h.alloc o).alloc o'), key h.drew, fun o => key (h.alloc o).drew, fun o o' => key ((h.alloc o).alloc o').drew⟩

set_option maxRecDepth 100000 in
set_option maxHeartbeats 4000000 in
theorem isOdd_any (b : Nat) (l : List (Int × Int × Int)) (code : List (List Int)) (x : Int) (w : World) (hm : Mp plE w b l) (hl : ∀ x, l.lookup x = placeOf code x) (hn : code.length + sumLen code ≤ 1048576) (h1 : -9223372036854775808 < x) (h2 : x ≤ 9223372036854775807) :
    Calls Try.prog 58 #[.map (some b), .int .i64 x] w (RetV w (.bool (oddX code x))) := by
  obtain ⟨p1, p2, hp⟩ : ∃ p1 p2, plc code x = (p1, p2) := ⟨_, _, rfl⟩
  obtain ⟨q1, q2, hq⟩ : ∃ q1 q2, plc code (-x) = (q1, q2) := ⟨_, _, rfl⟩
  have hbp := plc_bound hn x
  have hbq := plc_bound hn (-x)
  rw [hp] at hbp
  rw [hq] at hbq
  obtain ⟨bp1, bp2, bp3, bp4⟩ := hbp
  obtain ⟨bq1, bq2, bq3, bq4⟩ := hbq
  dsimp only at bp1 bp2 bp3 bp4 bq1 bq2 bq3 bq4
  obtain ⟨k0, k1, k2, k3, k4, k5⟩ := hm.look_pl (x := x) ((atK_plc hl x).trans hp)
  obtain ⟨m0, m1, m2, m3, m4, m5⟩ := hm.look_pl (x := -x) ((atK_plc hl (-x)).trans hq)
  have HV : Hid (oddX code x = oddB (p1, p2) (q1, q2)) := hide (by unfold oddX; rw [hp, hq])
  have wn : IntKind.i64.wrap (-x) = -x := by rw [IntKind.wrap_i64]; omega
  clear hp hq
  go_enter Try.func58, Try.ntmps58
  go_upto_region 1 with fail
  go_cut [5, 6] (fun s5 s6 wx => ∃ (G5 G6 : Nat), s5 = .pointer (some ⟨G5, 0, none⟩) ∧ s6 = .pointer (some ⟨G6, 0, none⟩) ∧ Bx wx G5 63 #[.int .i64 p1, .int .i64 p2] ∧ Bx wx G6 63 #[.int .i64 q1, .int .i64 q2] ∧ Below w.heap.size w wx)
  case first =>
    go_region
    all_goals go_wp2_with fail
    all_goals go_meet
    all_goals first
      | exact ⟨w.heap.size, w.heap.size + 1, rfl, rfl, ((Bx.new_ _ _ _ _ (by simp)).alloc _).drew, (Bx.new_ _ _ _ _ (by simp)).drew, (((Below.refl _ _).alloc (by simp) _).alloc (by simp) _).drew⟩
      | exact ⟨w.heap.size + 1, w.heap.size, rfl, rfl, (Bx.new_ _ _ _ _ (by simp)).drew, ((Bx.new_ _ _ _ _ (by simp)).alloc _).drew, (((Below.refl _ _).alloc (by simp) _).alloc (by simp) _).drew⟩
  case rest =>
    clear k0 k1 k2 k3 k4 k5 m0 m1 m2 m3 m4 m5
    obtain ⟨G5, G6, rfl, rfl, b5, b6, hB⟩ := hcut
    obtain ⟨c5a, c5b⟩ := b5.two
    obtain ⟨c6a, c6b⟩ := b6.two
    by_cases h3 : p1 = q1
    · subst h3
      by_cases h4 : p2 < q2
      · have h5 : IntKind.i64.wrap (q2 - p2) = q2 - p2 := by rw [IntKind.wrap_i64]; omega
        have h6 : Int.tmod (q2 - p2 - 1) 2 = (q2 - p2 - 1) % 2 := Int.tmod_eq_emod_of_nonneg (by omega)
        go_wp2_with fail
        go_ret
        refine ⟨?_, hB⟩
        rw [HV.out]
        unfold oddB
        simp [h4]
      · have h5 : decide (p2 < q2) = false := decide_eq_false h4
        go_wp2_with fail
        go_ret
        refine ⟨?_, hB⟩
        rw [HV.out]
        unfold oddB
        rw [h5]
        simp
    · have h5 : (p1 == q1) = false := by simpa using h3
      go_wp2_with fail
      go_ret
      refine ⟨?_, hB⟩
      rw [HV.out]
      unfold oddB
      simp [h3]
end Go.Proofs.Ytnjojnnapdhijaa

namespace Go.Proofs.Ytnjojnnapdhijaa
open Go.RowKit
set_option linter.unusedVariables false

theorem OwnI.mp_ne2 {α : Type} {E : Me α} {w : World} {base b : Nat} {l : List (Int × α)} {A : Option Addr} {c : Nat} {xs : List Int} (h : OwnI w base A c xs) (hm : Mp E w b l) : some b ≠ blk A := hm.own_ne (intE_own.2 h)
theorem run_make_row (n : Nat) (hn : n ≤ 1048576) (W : World) :
    (Instr.makeSlice 34 (.int .i64 (n : Int)) (.int .i64 (n : Int))).run Try.prog W = .ok (.slice (some ⟨W.heap.size, 0, none⟩) n n) (W.alloc (.cells (madeCells intE.z.cells (n * intE.size)) 2)) :=
  intE.run_make n (by simp [intE]; omega) (by omega) W
theorem run_place_curve (x y : Int) (W : World) : (Instr.field 63 (.agg #[.int .i64 x, .int .i64 y]) 0).run Try.prog W = .ok (.int .i64 x) W := by
  have u3 := Try.underlying3
  have up := Try.underlying63
  have ha : (isAgg 3).run Try.prog W = .ok false W := by kernel_rfl
  go_simp
  simp [Instr.field, run_underlying Try.underlying63, go_sem, asAgg, Result.andThen]
/-- One more at a place of a square table. -/
theorem OwnC.bumpAt {w : World} {base top : Nat} {A : Option Addr} {c n : Nat} {m : Int} {t : List (List Int)} (h : OwnC w base top A c t) {a b : Nat} (hs : Sq n m t) (ha : a < n) (hb : b < n) :
    ∃ g B d xs v, A = some ⟨g, 0, none⟩ ∧ t[a]? = some xs ∧ w.cell? ⟨g, a, none⟩ = some (.slice (some ⟨B, 0, none⟩) xs.length d) ∧ xs.length = n ∧ (xs[b]? = some v ∧ 0 ≤ v ∧ v ≤ m) ∧ w.cell? ⟨B, b, none⟩ = some (.int .i64 v) ∧ w.frozen? ⟨B, b, none⟩ = false ∧ base ≤ B ∧ B < top ∧
      OwnI w base (some ⟨B, 0, none⟩) d xs ∧ OwnC (w.setCell ⟨B, b, none⟩ (.int .i64 (v + 1))) base top A c (bump a b t) ∧ w.grownBy (w.setCell ⟨B, b, none⟩ (.int .i64 (v + 1))) (some B) := by
  obtain ⟨g, B, d, xs, rfl, hg1, hg2, hg3, hx, hcell, hfr, hrow, htop, hupd⟩ := h.row (k := a) (by rw [hs.1]; exact ha)
  obtain ⟨hxl, hxv⟩ := hs.2 xs (List.mem_of_getElem? hx)
  obtain ⟨B0, v, rfl, hB1, hB2, hv, hcv, hfv, hset⟩ := hrow.at_ (k := b) (by rw [hxl]; exact hb)
  obtain ⟨o1, o2⟩ := hset (v + 1)
  have hvb := hxv v (List.mem_of_getElem? hv)
  refine ⟨g, B0, d, xs, v, rfl, hx, hcell, hxl, ⟨hv, hvb⟩, hcv, hfv, hB1, htop _ rfl, hrow, ?_, o2⟩
  rw [bump_at hx hv]
  exact hupd _ _ (by rw [List.length_set]) o1 o2
theorem l14FindV_any (A : Option Addr) (c T : Nat) (code : List (List Int)) (x : Int) (w : World) (i k : Nat) (hc : RC w T A code) (hn : code.length + sumLen code ≤ 1048576) (hv : validC code = true) (hx : x ∈ code.flatten) (hp : plc code x = ((i : Int), (k : Int))) :
    Calls Try.prog 94 #[.slice A code.length c, .int .i64 x] w (fun e w' => e = .returned (.int .i64 (i : Int)) ∧ w = w') := by
  have ha := valid_apart' hv
  obtain ⟨i0, k0, xs0, h1, h2, h3⟩ := apart_of_mem ha hx
  have e0 : plc code x = ((i0 : Int), (k0 : Int)) := by unfold plc; rw [h3]; rfl
  rw [e0] at hp
  injection hp with e1 e2
  obtain rfl : i0 = i := by omega
  have hi : i0 < code.length := (List.getElem?_eq_some_iff.1 h1).1
  have hiI : (i0 : Int) < (code.length : Int) := by omega
  have HA := hide ha
  have H3 := hide h3
  have HH : Hid (hasB xs0 x = true) := hide (any_hitH h2 (by simp))
  have H1 := hide h1
  clear ha h3 e0 e1 e2 h1 h2
  go_enter Try.func94, Try.ntmps94
  go_wp2_with fail
  go_loop [5] (fun s => ∃ j : Nat, j ≤ i0 ∧ s = .int .i64 j) (fun s => i0 + 1 - (intOf s).toNat)
  case atStart => exact ⟨0, Nat.zero_le _, rfl⟩
  case round =>
    obtain ⟨j, hj, rfl⟩ := hrel
    have hjl : j < code.length := by omega
    obtain ⟨b, off, B, d, xs, rfl, hb, hxx, hce, hd1, hd2, hR⟩ := hc.row hjl
    have hxl := sumLen_row hxx
    by_cases hji : j = i0
    · subst hji
      obtain rfl : xs = xs0 := by have := H1.out; rw [hxx] at this; injection this
      clear hxx
      go_wp2_with (go_at_call 92; refine (l00Has_any _ _ xs _ _ hR (by omega)).mono ?_; rw [HH.out]; rintro e w' ⟨rfl, rfl⟩)
      go_ret
      exact ⟨rfl, rfl⟩
    · have HN : Hid (hasB xs x = false) := hide (by
        cases hh : hasB xs x
        · rfl
        · unfold hasB at hh
          rw [List.any_eq_true] at hh
          obtain ⟨y, hy, he⟩ := hh
          have he' : y = x := by simpa using he
          subst he'
          obtain ⟨q, hq⟩ := List.mem_iff_getElem?.1 hy
          have h5 := HA.out j q xs y hxx hq
          rw [H3.out] at h5
          injection h5 with h5
          injection h5 with h5 _
          omega)
      clear hxx
      go_wp2_with (go_at_call 92; refine (l00Has_any _ _ xs _ _ hR (by omega)).mono ?_; rw [HN.out]; rintro e w' ⟨rfl, rfl⟩)
      go_round
      case rel => exact ⟨j + 1, by omega, by go_num⟩
      case measure => simp [intOf]; omega

set_option maxRecDepth 100000 in
set_option maxHeartbeats 8000000 in
theorem specMeet_any (A : Option Addr) (c T : Nat) (code : List (List Int)) (w : World) (hc : RC w T A code) (hn : code.length + sumLen code ≤ 1048576) :
    Calls Try.prog 42 #[.slice A code.length c] w (RetCC w (meetR code).1 (meetR code).2) := by
  cases hv : validC code
  · have HV : Hid (meetR code = ([], 1)) := hide (by unfold meetR; rw [if_neg (by rw [hv]; simp)])
    go_enter Try.func42, Try.ntmps42
    go_wp2_with fail
    refine (l14Ok_any _ _ T code _ hc hn).mono ?_
    rw [hv]
    rintro e w1 ⟨rfl, hb1⟩
    go_wp2_with fail
    refine bodyPost_ret (v := .tuple #[.slice none 0 0, .int .i64 1]) (by simp [results, Try.results42, go_sem]) rfl ?_
    rw [HV.out]
    exact ⟨none, 0, rfl, OwnC.nil _ _ _, hb1⟩
  · have HV : Hid (meetR code = (meetT code (sumLen code / 2), 0)) := hide (by unfold meetR; rw [if_pos hv])
    obtain ⟨hs1, hs2, hs3⟩ := valid_sum hv
    have hv0 := hide hv
    obtain ⟨N, hNe⟩ : ∃ N, N = sumLen code / 2 := ⟨_, rfl⟩
    have hNl : N ≤ 120 := by omega
    have HNE := hide hNe
    have e1 : (sumLen code : Int) / 2 = (N : Int) := by omega
    have hmk := fun W : World => run_make_row code.length (by omega) W
    clear hNe hs3
    go_enter Try.func42, Try.ntmps42
    go_wp2_with fail
    refine (l14Ok_any _ _ T code _ hc hn).mono ?_
    rw [hv]
    rintro e w1 ⟨rfl, hb1⟩
    clear hv
    have he : OwnC (w1.alloc (.cells #[] 34)) w.heap.size (w1.alloc (.cells #[] 34)).heap.size (some ⟨w1.heap.size, 0, none⟩) 0 [] := (OwnC.empty_ w1 _ rfl hb1.size).mono (Nat.le_refl _) (by simp)
    have hB0 := hb1.alloc hb1.size (.cells #[] 34)
    go_wp2_with fail
    go_loopw [4, 5] (fun o i wr => ∃ (k : Nat) (A1 : Option Addr) (c1 : Nat) (zs : List (List Int)), k ≤ code.length ∧ i = .int .i64 k ∧ o = .slice A1 zs.length c1 ∧ Hid (zs = List.replicate k (List.replicate code.length 0)) ∧ OwnC wr w.heap.size wr.heap.size A1 c1 zs ∧ Below w.heap.size w wr) (fun _ i _ => code.length - (intOf i).toNat)
    case atStart => exact ⟨0, _, 0, [], Nat.zero_le _, rfl, rfl, hide rfl, he, hB0⟩
    case round =>
      clear he hB0
      obtain ⟨k, A1, c1, zs, hk, rfl, rfl, hzs, own, hB⟩ := hrel
      obtain ⟨wo, rfl⟩ : ∃ wo : World, wo = wr := ⟨_, rfl⟩
      have hz := hB.size
      have hzl : zs.length ≤ 40 := by rw [hzs.out, List.length_replicate]; omega
      by_cases hlt : k < code.length
      · have hrow : OwnI (wo.alloc (.cells (madeCells intE.z.cells (code.length * intE.size)) 2)) wo.heap.size (some ⟨wo.heap.size, 0, none⟩) code.length (List.replicate code.length 0) := intE_own.1 (Own.made (E := intE) wo _ 0 rfl rfl (Nat.le_refl _) (by omega))
        have hfr : RG hdE ((wo.alloc (.cells (madeCells intE.z.cells (code.length * intE.size)) 2)).alloc (.cells #[.slice (some ⟨wo.heap.size, 0, none⟩) code.length code.length] 34)) (some ⟨wo.heap.size + 1, 0, none⟩) [⟨some ⟨wo.heap.size, 0, none⟩, (List.replicate code.length (0 : Int)).length, code.length⟩] := by
          rw [List.length_replicate]
          exact RG.fresh (E := hdE) (wo.alloc _) (wo.heap.size + 1) (by simp) ⟨some ⟨wo.heap.size, 0, none⟩, code.length, code.length⟩ #[.slice (some ⟨wo.heap.size, 0, none⟩) code.length code.length] rfl _
        obtain ⟨rz, hrz⟩ : ∃ rz, rz = List.replicate code.length (0 : Int) := ⟨_, rfl⟩
        rw [← hrz] at hrow hfr
        have HZ : Hid (zs ++ [rz] = List.replicate (k + 1) (List.replicate code.length 0)) := hide (by rw [hrz, hzs.out, List.replicate_succ'])
        clear hrz
        go_wp2_with (at_builtin; refine wpList_append_code rfl (.tmp 21) (.tmp 25) rfl w.heap.size wo.heap.size A1 c1 zs rfl ((own.alloc _).alloc _) (some ⟨wo.heap.size + 1, 0, none⟩) 1 rfl (some ⟨wo.heap.size, 0, none⟩) code.length rz hfr (hrow.alloc _) hz (by simp; omega) (by omega) (zs ++ [rz]) rfl ?_; intro A3 c3 w3 own3 hg3 hb3)
        go_roundw
        case rel => exact ⟨k + 1, A3, c3, zs ++ [rz], by omega, by go_num, by simp, HZ, own3, ((hB.alloc hz _).alloc (by simp; omega) _).grown hg3 (by simp; omega) (fun q hq => (own.ge_ hq).1)⟩
        case measure => simp [intOf]; omega
      · have HM0 : Hid (zs = meetT code 0) := hide (by rw [hzs.out, show k = code.length by omega]; rfl)
        clear hzs hmk
        go_wp2_with fail
        go_loopw [6] (fun s wr => ∃ (k : Nat) (t : List (List Int)), k ≤ N ∧ s = .int .i64 ((k : Int) + 1) ∧ Hid (zs.length = t.length) ∧ Hid (t = meetT code k) ∧ OwnC wr w.heap.size wo.heap.size A1 c1 t ∧ Below w.heap.size w wr ∧ wo.heap.size ≤ wr.heap.size) (fun s _ => N + 1 - (intOf s).toNat)
        case atStart => exact ⟨0, zs, Nat.zero_le _, by go_num, hide rfl, HM0, own, hB, Nat.le_refl _⟩
        case round =>
          clear own HM0 hB hz
          obtain ⟨k2, t, hk2, rfl, htl, ht, own, hB, hzz⟩ := hrel
          have hz := hB.size
          have hcr := hc.below hB
          by_cases hlt2 : k2 < N
          · obtain ⟨h1, h2⟩ := valid_at2 hv0.out (k := k2) (by rw [← HNE.out]; exact hlt2)
            obtain ⟨K, hK⟩ : ∃ K : Int, K = (k2 : Int) + 1 := ⟨_, rfl⟩
            rw [← hK] at h1 h2
            obtain ⟨a, ka, xa, ea, ca, la, fa, ga⟩ := curveOf_lt hv0.out h1
            obtain ⟨b, kb, xb, eb, cb, lb, fb, gb⟩ := curveOf_lt hv0.out h2
            have hsq := meetT_sq hv0.out k2 (by rw [← HNE.out]; exact hk2)
            rw [← ht.out] at hsq
            have HSQ := hide hsq
            have HT : Hid (meetS a b t = meetT code (k2 + 1)) := hide (by rw [meetT, ← ht.out, ← hK, ca, cb])
            have h1' := hide h1
            have h2' := hide h2
            have ea' := hide ea
            have eb' := hide eb
            have HKK := hide hK
            have wn : IntKind.i64.wrap (-K) = -K := by rw [IntKind.wrap_i64]; omega
            have wk1 : IntKind.i64.wrap (K + 1) = K + 1 := by rw [IntKind.wrap_i64]; omega
            have hKN : K ≤ (N : Int) := by omega
            have hla : (a : Int) < (t.length : Int) := by rw [hsq.1]; omega
            have hlb : (b : Int) < (t.length : Int) := by rw [hsq.1]; omega
            have hal : a < t.length := by rw [hsq.1]; exact la
            have hbl : b < t.length := by rw [hsq.1]; exact lb
            obtain ⟨g, B1, d1, xs1, v1, hA1, hx1, hc1, hbx1, hv1, hcc1, hff1, hge1, hlt1, oi1, ownb, hgb⟩ := own.bumpAt (a := a) (b := b) hsq la lb
            subst hA1
            rw [← hK]
            have hv1b : 0 ≤ v1 ∧ v1 ≤ 240 := by have := hv1.2; omega
            have wv1 : IntKind.i64.wrap (v1 + 1) = v1 + 1 := by rw [IntKind.wrap_i64]; omega
            have hlb1 : (b : Int) < (xs1.length : Int) := by rw [hbx1]; omega
            have hB1 := hB.setCell (p := ⟨B1, b, none⟩) hge1 (.int .i64 (v1 + 1))
            have hz1 : wo.heap.size ≤ (wr.setCell ⟨B1, b, none⟩ (.int .i64 (v1 + 1))).heap.size := by simpa using hzz
            have htl1 : Hid (t.length = (bump a b t).length) := hide (by unfold bump; rw [List.length_set])
            rw [htl.out]
            clear h1 h2 ea eb ca cb fa ga fb gb hsq hK hv1 hx1 hbx1 oi1 ht
            by_cases hab : a = b
            · have HT1 : Hid (bump a b t = meetT code (k2 + 1)) := hide (by rw [← HT.out]; unfold meetS; rw [if_pos hab])
              have hne : ((a : Int) != (b : Int)) = false := by simp [hab]
              clear hab
              go_wp2_with (first | (go_at_call 88; refine (l15Many_any _ _ T code _ hcr hn).mono ?_; rintro e w' ⟨rfl, rfl⟩) | (go_at_call_of 94 (Value.int .i64 K); refine (l14FindV_any _ _ T code K _ a ka hcr hn hv0.out h1'.out ea'.out).mono ?_; rintro e w' ⟨rfl, rfl⟩) | (go_at_call_of 94 (Value.int .i64 (-K)); refine (l14FindV_any _ _ T code (-K) _ b kb hcr hn hv0.out h2'.out eb'.out).mono ?_; rintro e w' ⟨rfl, rfl⟩))
              go_roundw
              case rel => exact ⟨k2 + 1, bump a b t, by omega, by rw [HKK.out]; go_num, htl1, HT1, ownb, hB1, hz1⟩
              case measure => have := HKK.out; simp [intOf]; omega
            · have HT1 : Hid (bump b a (bump a b t) = meetT code (k2 + 1)) := hide (by rw [← HT.out]; unfold meetS; rw [if_neg hab])
              have hne : ((a : Int) != (b : Int)) = true := by simp; omega
              obtain ⟨g2, B2, d2, xs2, v2, hA2, hx2, hc2, hbx2, hv2, hcc2, hff2, hge2, hlt2', oi2, ownc, hgc⟩ := ownb.bumpAt (a := b) (b := a) (HSQ.out.bump (by omega) la lb) lb la
              injection hA2 with hA2
              injection hA2 with hA2
              subst hA2
              have hv2b : 0 ≤ v2 ∧ v2 ≤ 241 := by have := hv2.2; omega
              have wv2 : IntKind.i64.wrap (v2 + 1) = v2 + 1 := by rw [IntKind.wrap_i64]; omega
              have hla2 : (a : Int) < (xs2.length : Int) := by rw [hbx2]; omega
              have hB2 := hB1.setCell (p := ⟨B2, a, none⟩) hge2 (.int .i64 (v2 + 1))
              have htl2 : Hid (t.length = (bump b a (bump a b t)).length) := hide (by unfold bump; simp)
              have hz2b : wo.heap.size ≤ ((wr.setCell ⟨B1, b, none⟩ (.int .i64 (v1 + 1))).setCell ⟨B2, a, none⟩ (.int .i64 (v2 + 1))).heap.size := by simpa using hz1
              clear hab hv2 hx2 hbx2 oi2 hgb hgc
              go_wp2_with (first | (go_at_call 88; refine (l15Many_any _ _ T code _ hcr hn).mono ?_; rintro e w' ⟨rfl, rfl⟩) | (go_at_call_of 94 (Value.int .i64 K); refine (l14FindV_any _ _ T code K _ a ka hcr hn hv0.out h1'.out ea'.out).mono ?_; rintro e w' ⟨rfl, rfl⟩) | (go_at_call_of 94 (Value.int .i64 (-K)); refine (l14FindV_any _ _ T code (-K) _ b kb hcr hn hv0.out h2'.out eb'.out).mono ?_; rintro e w' ⟨rfl, rfl⟩))
              go_roundw
              case rel => exact ⟨k2 + 1, bump b a (bump a b t), by omega, by rw [HKK.out]; go_num, htl2, HT1, ownc, hB2, hz2b⟩
              case measure => have := HKK.out; simp [intOf]; omega
          · have hkn : ¬ ((k2 : Int) + 1 ≤ (N : Int)) := by omega
            have ht' := ht.out
            rw [show k2 = N by omega, HNE.out] at ht'
            have HZ := hide ht'
            rw [htl.out]
            clear ht ht'
            go_wp2_with ((go_at_call 88; refine (l15Many_any _ _ T code _ hcr hn).mono ?_; rintro e w' ⟨rfl, rfl⟩))
            refine bodyPost_ret (v := .tuple #[.slice A1 t.length c1, .int .i64 0]) (by simp [results, Try.results42, go_sem]) rfl ?_
            rw [HV.out, ← HZ.out]
            exact ⟨A1, c1, rfl, own.mono (Nat.le_refl _) hzz, hB⟩
set_option maxRecDepth 100000 in
set_option maxHeartbeats 8000000 in
theorem implMeet_any (A : Option Addr) (c T : Nat) (code : List (List Int)) (w : World) (hc : RC w T A code) (hn : code.length + sumLen code ≤ 1048576) :
    Calls Try.prog 41 #[.slice A code.length c] w (RetCC w (meetR code).1 (meetR code).2) := by
  cases hv : validC code
  · have HV : Hid (meetR code = ([], 1)) := hide (by unfold meetR; rw [if_neg (by rw [hv]; simp)])
    go_enter Try.func41, Try.ntmps41
    go_wp2_with fail
    refine (validCode_any _ _ T code _ hc hn).mono ?_
    rw [hv]
    rintro e w1 ⟨rfl, hb1⟩
    go_wp2_with fail
    refine bodyPost_ret (v := .tuple #[.slice none 0 0, .int .i64 1]) (by simp [results, Try.results41, go_sem]) rfl ?_
    rw [HV.out]
    exact ⟨none, 0, rfl, OwnC.nil _ _ _, hb1⟩
  · have HV : Hid (meetR code = (meetT code (sumLen code / 2), 0)) := hide (by unfold meetR; rw [if_pos hv])
    obtain ⟨hs1, hs2, hs3⟩ := valid_sum hv
    have hv0 := hide hv
    obtain ⟨N, hNe⟩ : ∃ N, N = sumLen code / 2 := ⟨_, rfl⟩
    have hNl : N ≤ 120 := by omega
    have HNE := hide hNe
    have e1 : (sumLen code : Int) / 2 = (N : Int) := by omega
    have hmk := fun W : World => run_make_row code.length (by omega) W
    clear hNe hs3
    go_enter Try.func41, Try.ntmps41
    go_wp2_with fail
    refine (validCode_any _ _ T code _ hc hn).mono ?_
    rw [hv]
    rintro e w1 ⟨rfl, hb1⟩
    clear hv
    have he : OwnC (w1.alloc (.cells #[] 34)) w.heap.size (w1.alloc (.cells #[] 34)).heap.size (some ⟨w1.heap.size, 0, none⟩) 0 [] := (OwnC.empty_ w1 _ rfl hb1.size).mono (Nat.le_refl _) (by simp)
    have hB0 := hb1.alloc hb1.size (.cells #[] 34)
    go_wp2_with fail
    go_loopw [4, 15] (fun o i wr => ∃ (k : Nat) (A1 : Option Addr) (c1 : Nat) (zs : List (List Int)), k ≤ code.length ∧ i = .int .i64 k ∧ o = .slice A1 zs.length c1 ∧ Hid (zs = List.replicate k (List.replicate code.length 0)) ∧ OwnC wr w.heap.size wr.heap.size A1 c1 zs ∧ Below w.heap.size w wr) (fun _ i _ => code.length - (intOf i).toNat)
    case atStart => exact ⟨0, _, 0, [], Nat.zero_le _, rfl, rfl, hide rfl, he, hB0⟩
    case round =>
      clear he hB0
      obtain ⟨k, A1, c1, zs, hk, rfl, rfl, hzs, own, hB⟩ := hrel
      obtain ⟨wo, rfl⟩ : ∃ wo : World, wo = wr := ⟨_, rfl⟩
      have hz := hB.size
      have hzl : zs.length ≤ 40 := by rw [hzs.out, List.length_replicate]; omega
      by_cases hlt : k < code.length
      · have hrow : OwnI (wo.alloc (.cells (madeCells intE.z.cells (code.length * intE.size)) 2)) wo.heap.size (some ⟨wo.heap.size, 0, none⟩) code.length (List.replicate code.length 0) := intE_own.1 (Own.made (E := intE) wo _ 0 rfl rfl (Nat.le_refl _) (by omega))
        have hfr : RG hdE ((wo.alloc (.cells (madeCells intE.z.cells (code.length * intE.size)) 2)).alloc (.cells #[.slice (some ⟨wo.heap.size, 0, none⟩) code.length code.length] 34)) (some ⟨wo.heap.size + 1, 0, none⟩) [⟨some ⟨wo.heap.size, 0, none⟩, (List.replicate code.length (0 : Int)).length, code.length⟩] := by
          rw [List.length_replicate]
          exact RG.fresh (E := hdE) (wo.alloc _) (wo.heap.size + 1) (by simp) ⟨some ⟨wo.heap.size, 0, none⟩, code.length, code.length⟩ #[.slice (some ⟨wo.heap.size, 0, none⟩) code.length code.length] rfl _
        obtain ⟨rz, hrz⟩ : ∃ rz, rz = List.replicate code.length (0 : Int) := ⟨_, rfl⟩
        rw [← hrz] at hrow hfr
        have HZ : Hid (zs ++ [rz] = List.replicate (k + 1) (List.replicate code.length 0)) := hide (by rw [hrz, hzs.out, List.replicate_succ'])
        clear hrz
        go_wp2_with (at_builtin; refine wpList_append_code rfl (.tmp 17) (.tmp 21) rfl w.heap.size wo.heap.size A1 c1 zs rfl ((own.alloc _).alloc _) (some ⟨wo.heap.size + 1, 0, none⟩) 1 rfl (some ⟨wo.heap.size, 0, none⟩) code.length rz hfr (hrow.alloc _) hz (by simp; omega) (by omega) (zs ++ [rz]) rfl ?_; intro A3 c3 w3 own3 hg3 hb3)
        go_roundw
        case rel => exact ⟨k + 1, A3, c3, zs ++ [rz], by omega, by go_num, by simp, HZ, own3, ((hB.alloc hz _).alloc (by simp; omega) _).grown hg3 (by simp; omega) (fun q hq => (own.ge_ hq).1)⟩
        case measure => simp [intOf]; omega
      · have HM0 : Hid (zs = meetT code 0) := hide (by rw [hzs.out, show k = code.length by omega]; rfl)
        clear hzs hmk
        go_wp2_with fail
        refine (places_any _ _ T code _ (hc.below hB) hn).mono ?_
        rintro e w2 ⟨mb, l, rfl, hmb, hmp, hl, hb2⟩
        have own2 := own.below hb2
        have hB2 := hB.trans (hb2.mono hz)
        have HPL := hide (atK_plc hl.out)
        have hz2 := hb2.size
        go_wp2_with fail
        go_loopw [6] (fun s wr => ∃ (k : Nat) (t : List (List Int)), k ≤ N ∧ s = .int .i64 ((k : Int) + 1) ∧ Hid (zs.length = t.length) ∧ Hid (t = meetT code k) ∧ OwnC wr w.heap.size wo.heap.size A1 c1 t ∧ Mp plE wr mb l ∧ Below w.heap.size w wr ∧ wo.heap.size ≤ wr.heap.size) (fun s _ => N + 1 - (intOf s).toNat)
        case atStart => exact ⟨0, zs, Nat.zero_le _, by go_num, hide rfl, HM0, own2, hmp, hB2, hz2⟩
        case round =>
          clear own HM0 hB hz own2 hmp hB2
          obtain ⟨k2, t, hk2, rfl, htl, ht, own, hmp, hB, hzz⟩ := hrel
          have hz := hB.size
          have hcr := hc.below hB
          by_cases hlt2 : k2 < N
          · obtain ⟨h1, h2⟩ := valid_at2 hv0.out (k := k2) (by rw [← HNE.out]; exact hlt2)
            obtain ⟨K, hK⟩ : ∃ K : Int, K = (k2 : Int) + 1 := ⟨_, rfl⟩
            rw [← hK] at h1 h2
            obtain ⟨a, ka, xa, ea, ca, la, fa, ga⟩ := curveOf_lt hv0.out h1
            obtain ⟨b, kb, xb, eb, cb, lb, fb, gb⟩ := curveOf_lt hv0.out h2
            have hsq := meetT_sq hv0.out k2 (by rw [← HNE.out]; exact hk2)
            rw [← ht.out] at hsq
            have HSQ := hide hsq
            have HT : Hid (meetS a b t = meetT code (k2 + 1)) := hide (by rw [meetT, ← ht.out, ← hK, ca, cb])
            have h1' := hide h1
            have h2' := hide h2
            have ea' := hide ea
            have eb' := hide eb
            have HKK := hide hK
            have wn : IntKind.i64.wrap (-K) = -K := by rw [IntKind.wrap_i64]; omega
            have wk1 : IntKind.i64.wrap (K + 1) = K + 1 := by rw [IntKind.wrap_i64]; omega
            have hKN : K ≤ (N : Int) := by omega
            have hla : (a : Int) < (t.length : Int) := by rw [hsq.1]; omega
            have hlb : (b : Int) < (t.length : Int) := by rw [hsq.1]; omega
            have hal : a < t.length := by rw [hsq.1]; exact la
            have hbl : b < t.length := by rw [hsq.1]; exact lb
            obtain ⟨g, B1, d1, xs1, v1, hA1, hx1, hc1, hbx1, hv1, hcc1, hff1, hge1, hlt1, oi1, ownb, hgb⟩ := own.bumpAt (a := a) (b := b) hsq la lb
            subst hA1
            rw [← hK]
            have hv1b : 0 ≤ v1 ∧ v1 ≤ 240 := by have := hv1.2; omega
            have wv1 : IntKind.i64.wrap (v1 + 1) = v1 + 1 := by rw [IntKind.wrap_i64]; omega
            have hlb1 : (b : Int) < (xs1.length : Int) := by rw [hbx1]; omega
            have hB1 := hB.setCell (p := ⟨B1, b, none⟩) hge1 (.int .i64 (v1 + 1))
            have hz1 : wo.heap.size ≤ (wr.setCell ⟨B1, b, none⟩ (.int .i64 (v1 + 1))).heap.size := by simpa using hzz
            have htl1 : Hid (t.length = (bump a b t).length) := hide (by unfold bump; rw [List.length_set])
            rw [htl.out]
            have hmp1 := hmp.setFar (p := ⟨B1, b, none⟩) (fun e => (oi1.mp_ne2 hmp) (by rw [e]; rfl)) (.int .i64 (v1 + 1))
            obtain ⟨j0, j1, j2, j3, j4, j5⟩ := hmp.look_pl (x := K) ((HPL.out K).trans ea'.out)
            obtain ⟨m0, m1, m2, m3, m4, m5⟩ := hmp.look_pl (x := -K) ((HPL.out (-K)).trans eb'.out)
            have fl1 := fun W => run_place_curve (a : Int) (ka : Int) W
            have fl2 := fun W => run_place_curve (b : Int) (kb : Int) W
            clear j1 j2 j4 j5 m1 m2 m4 m5
            clear h1 h2 ea eb ca cb fa ga fb gb hsq hK hv1 hx1 hbx1 oi1 ht
            by_cases hab : a = b
            · have HT1 : Hid (bump a b t = meetT code (k2 + 1)) := hide (by rw [← HT.out]; unfold meetS; rw [if_pos hab])
              have hne : ((a : Int) != (b : Int)) = false := by simp [hab]
              clear hab
              go_wp2_with ((go_at_call 93; refine (countCoded_any _ _ T code _ hcr hn).mono ?_; rintro e w' ⟨rfl, rfl⟩))
              go_region
              clear j0 j3 m0 m3 fl1 fl2
              go_wp2_with fail
              go_roundw
              case rel => exact ⟨k2 + 1, bump a b t, by omega, by rw [HKK.out]; go_num, htl1, HT1, ownb.drew, hmp1.drew, hB1.drew, hz1⟩
              case measure => have := HKK.out; simp [intOf]; omega
            · have HT1 : Hid (bump b a (bump a b t) = meetT code (k2 + 1)) := hide (by rw [← HT.out]; unfold meetS; rw [if_neg hab])
              have hne : ((a : Int) != (b : Int)) = true := by simp; omega
              obtain ⟨g2, B2, d2, xs2, v2, hA2, hx2, hc2, hbx2, hv2, hcc2, hff2, hge2, hlt2', oi2, ownc, hgc⟩ := ownb.bumpAt (a := b) (b := a) (HSQ.out.bump (by omega) la lb) lb la
              injection hA2 with hA2
              injection hA2 with hA2
              subst hA2
              have hv2b : 0 ≤ v2 ∧ v2 ≤ 241 := by have := hv2.2; omega
              have wv2 : IntKind.i64.wrap (v2 + 1) = v2 + 1 := by rw [IntKind.wrap_i64]; omega
              have hla2 : (a : Int) < (xs2.length : Int) := by rw [hbx2]; omega
              have hB2 := hB1.setCell (p := ⟨B2, a, none⟩) hge2 (.int .i64 (v2 + 1))
              have htl2 : Hid (t.length = (bump b a (bump a b t)).length) := hide (by unfold bump; simp)
              have hz2b : wo.heap.size ≤ ((wr.setCell ⟨B1, b, none⟩ (.int .i64 (v1 + 1))).setCell ⟨B2, a, none⟩ (.int .i64 (v2 + 1))).heap.size := by simpa using hz1
              have hmp2 := hmp1.setFar (p := ⟨B2, a, none⟩) (fun e => (oi2.mp_ne2 hmp1) (by rw [e]; rfl)) (.int .i64 (v2 + 1))
              clear hab hv2 hx2 hbx2 oi2 hgb hgc
              go_wp2_with ((go_at_call 93; refine (countCoded_any _ _ T code _ hcr hn).mono ?_; rintro e w' ⟨rfl, rfl⟩))
              go_region
              clear j0 j3 m0 m3 fl1 fl2
              go_wp2_with fail
              go_roundw
              case rel => exact ⟨k2 + 1, bump b a (bump a b t), by omega, by rw [HKK.out]; go_num, htl2, HT1, ownc.drew, hmp2.drew, hB2.drew, hz2b⟩
              case measure => have := HKK.out; simp [intOf]; omega
          · have hkn : ¬ ((k2 : Int) + 1 ≤ (N : Int)) := by omega
            have ht' := ht.out
            rw [show k2 = N by omega, HNE.out] at ht'
            have HZ := hide ht'
            rw [htl.out]
            clear ht ht'
            go_wp2_with ((go_at_call 93; refine (countCoded_any _ _ T code _ hcr hn).mono ?_; rintro e w' ⟨rfl, rfl⟩))
            refine bodyPost_ret (v := .tuple #[.slice A1 t.length c1, .int .i64 0]) (by simp [results, Try.results41, go_sem]) rfl ?_
            rw [HV.out, ← HZ.out]
            exact ⟨A1, c1, rfl, own.mono (Nat.le_refl _) hzz, hB⟩
end Go.Proofs.Ytnjojnnapdhijaa
