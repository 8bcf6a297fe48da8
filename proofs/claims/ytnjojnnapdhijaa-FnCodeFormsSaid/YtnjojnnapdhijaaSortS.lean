/-
  Contract: SortCurves of the reference: rows put in one by one. Conditions: none beyond the lengths.
-/
import Derived.Test.YtnjojnnapdhijaaStab4
import Derived.Test.YtnjojnnapdhijaaRet
namespace Go.Proofs.Ytnjojnnapdhijaa
open Go.RowKit
set_option linter.unusedVariables false

def hdV (h : Hd) : Value := .slice h.A h.n h.c
theorem flat_hdV (hs : List Hd) : hs.flatMap hdE.cells = hs.map hdV := by
  induction hs with
  | nil => rfl
  | cons h t ih =>
    rw [List.flatMap_cons, ih]
    rfl
theorem RGhd_tail {w : World} {A : Option Addr} {hs : List Hd} (h : RG hdE w A hs) (k : Nat) {c : Nat} (hc : hs.length ≤ c) : RG hdE w (if c = k then A else A.map (·.add k)) (hs.drop k) := by
  unfold RG at h ⊢
  rw [flat_hdV] at h ⊢
  rw [List.map_drop]
  exact Rd.drop_ h k (by simpa using hc)
/-- a row put in at k -/
def insAt {α : Type} (zs : List α) (k : Nat) (x : α) : List α := zs.take k ++ x :: zs.drop k
theorem insAt_len {α : Type} {zs : List α} {k : Nat} (x : α) (h : k ≤ zs.length) : (insAt zs k x).length = zs.length + 1 := by
  unfold insAt
  rw [List.length_append, List.length_cons, List.length_take, List.length_drop]
  omega
theorem insAt_perm {zs : List Rw} {k : Nat} {x : Rw} : (insAt zs k x).Perm (x :: zs) := by
  unfold insAt
  refine List.perm_middle.trans ?_
  rw [List.take_append_drop]
theorem insAt_so {zs : List Rw} {k : Nat} {x : Rw} (hs : zs.Pairwise fun a b => cmpR a b ≤ 0) (h1 : ∀ y ∈ zs.take k, cmpR y x ≤ 0) (h2 : ∀ y ∈ zs.drop k, cmpR x y ≤ 0) : (insAt zs k x).Pairwise fun a b => cmpR a b ≤ 0 := by
  unfold insAt
  rw [← List.take_append_drop k zs] at hs
  obtain ⟨p1, p2, p3⟩ := List.pairwise_append.1 hs
  refine List.pairwise_append.2 ⟨p1, List.pairwise_cons.2 ⟨h2, p2⟩, fun a ha b hb => ?_⟩
  rcases List.mem_cons.1 hb with rfl | hb
  · exact h1 a ha
  · exact p3 a ha b hb
theorem insAt_at {α : Type} {zs : List α} {k : Nat} {x : α} (hk : k ≤ zs.length) (q : Nat) : (insAt zs k x)[q]? = if q < k then zs[q]? else if q = k then some x else zs[q - 1]? := by
  unfold insAt
  have hl : (zs.take k).length = k := by rw [List.length_take]; omega
  by_cases h : q < k
  · rw [if_pos h, List.getElem?_append_left (by omega), List.getElem?_take, if_pos h]
  · rw [if_neg h, List.getElem?_append_right (by omega), hl]
    by_cases h2 : q = k
    · subst h2
      rw [if_pos rfl, Nat.sub_self]
      rfl
    · rw [if_neg h2, show q - k = (q - k - 1) + 1 by omega, List.getElem?_cons_succ, List.getElem?_drop]
      congr 1
      omega
theorem OwnC.insHds {w w' : World} {base top base' : Nat} {A A' : Option Addr} {c c' : Nat} {code : List (List Int)} {hs : List Hd} (h1 : Own hdE w base A c hs) (h3 : OwnRows w base top hs code)
    (hk : ∀ b, base ≤ b → b < top → w'.heap[b]? = w.heap[b]?) {k : Nat} (hn : k ≤ code.length) (hb : base' ≤ base) {B : Option Addr} {d : Nat} {row : List Int} (hown : Own hdE w' base' A' c' (insAt hs k ⟨B, row.length, d⟩)) (hrow : OwnI w' base' B d row) (hB : ∀ q, blk B = some q → top ≤ q) (htop : top ≤ w'.heap.size) :
    OwnC w' base' w'.heap.size A' c' (insAt code k row) := by
  obtain ⟨e1, e2, e3⟩ := h3
  have key : ∀ (hd : Hd) (xs : List Int) (k' : Nat), hs[k']? = some hd → code[k']? = some xs → hd.n = xs.length ∧ OwnI w' base' hd.A hd.c xs ∧ ∀ g, blk hd.A = some g → g < w'.heap.size := fun hd xs k' a1 a2 => by
    obtain ⟨m1, m2, m3⟩ := e2 k' hd xs a1 a2
    refine ⟨m1, (m2.keep (fun b _ hbk => hk b (m2.ge hbk).1 (m3 b hbk))).mono hb, fun g hg => ?_⟩
    have := m3 g hg
    omega
  have far : ∀ (hd : Hd) (k' : Nat), hs[k']? = some hd → blk hd.A ≠ blk B ∨ (blk hd.A = none ∧ blk B = none) := fun hd k' a1 => by
    have hl : k' < code.length := by rw [← e1]; exact (List.getElem?_eq_some_iff.1 a1).1
    obtain ⟨m1, m2, m3⟩ := e2 k' hd _ a1 (List.getElem?_eq_getElem hl)
    cases ha : blk hd.A with
    | none =>
      cases hb' : blk B with
      | none => exact .inr ⟨rfl, rfl⟩
      | some q => exact .inl (by simp)
    | some g =>
      refine .inl fun e => ?_
      have := m3 g ha
      have := hB g e.symm
      omega
  refine ⟨insAt hs k ⟨B, row.length, d⟩, hown, fun g hg => (hown.ge hg).2, by rw [insAt_len _ (by omega), insAt_len _ hn, e1], fun q hd xs q1 q2 => ?_, fun a b hd hd' q1 q2 hab => ?_⟩
  · rw [insAt_at (by omega)] at q1
    rw [insAt_at hn] at q2
    split at q1
    · rename_i hlt
      rw [if_pos hlt] at q2
      exact key hd xs q q1 q2
    · rename_i hlt
      rw [if_neg hlt] at q2
      split at q1
      · rename_i he
        rw [if_pos he] at q2
        injection q1 with q1
        injection q2 with q2
        subst q1 q2
        exact ⟨rfl, hrow, fun g hg => (hrow.ge hg).2⟩
      · rename_i he
        rw [if_neg he] at q2
        exact key hd xs _ q1 q2
  · rw [insAt_at (by omega)] at q1 q2
    split at q1
    · split at q2
      · exact e3 _ _ hd hd' q1 q2 hab
      · split at q2
        · injection q2 with q2
          subst q2
          rcases far hd _ q1 with h | h
          · exact .inr h
          · exact .inl h.1
        · exact e3 _ _ hd hd' q1 q2 (by omega)
    · split at q1
      · injection q1 with q1
        subst q1
        have key2 : ∀ k', hs[k']? = some hd' → blk B = none ∨ blk B ≠ blk hd'.A := fun k' a1 => by
          rcases far hd' _ a1 with h | h
          · exact .inr (fun e => h e.symm)
          · exact .inl h.2
        split at q2
        · exact key2 _ q2
        · split at q2
          · omega
          · exact key2 _ q2
      · split at q2
        · exact e3 _ _ hd hd' q1 q2 (by omega)
        · split at q2
          · injection q2 with q2
            subst q2
            rcases far hd _ q1 with h | h
            · exact .inr h
            · exact .inl h.1
          · exact e3 _ _ hd hd' q1 q2 (by omega)
set_option maxHeartbeats 2000000 in
theorem l06NumbersQ_any (A B : Option Addr) (c d : Nat) (xs ys : List Int) (w : World) (hA0 : RI w A xs) (hB0 : RI w B ys) (hn : xs.length ≤ 1048576) (hm : ys.length ≤ 1048576) :
    Calls Try.prog 79 #[.slice A xs.length c, .slice B ys.length d] w (RetQ w (.int .i64 (cmpL xs ys))) := by
  go_enter Try.func79, Try.ntmps79
  go_wp2_with fail
  go_loopw [5] (fun s wr => ∃ k : Nat, k ≤ xs.length ∧ k ≤ ys.length ∧ s = .int .i64 k ∧ Hid (xs.take k = ys.take k) ∧ ∃ n, wr = w.drewN n) (fun s _ => xs.length - (intOf s).toNat)
  case atStart => exact ⟨0, Nat.zero_le _, Nat.zero_le _, rfl, hide (by simp), 0, rfl⟩
  case round =>
    obtain ⟨k, hk, hky, rfl, ht, n, rfl⟩ := hrel
    have hA := hA0
    have hB := hB0
    by_cases hlt : k < xs.length
    · obtain ⟨b, off, x, rfl, hb, hx, hcx⟩ := hA.at_ hlt
      by_cases hly : k < ys.length
      · obtain ⟨b2, off2, y, rfl, hb2, hy, hcy⟩ := hB.at_ hly
        have g1 : (k : Int) < (xs.length : Int) := by omega
        have g2 : (k : Int) < (ys.length : Int) := by omega
        by_cases h1 : x < y
        · have HV : Hid (cmpL xs ys = -1) := hide (cmpL_below ht.out hx hy h1)
          clear hx hy
          go_wp2_with fail
          go_quiet (fail)
          go_wp2_with fail
          go_ret
          rw [HV.out]
          exact ⟨rfl, _, World.drewN_drewN _ _ _⟩
        · by_cases h2 : y < x
          · have HV : Hid (cmpL xs ys = 1) := hide (cmpL_above ht.out hx hy h2)
            clear hx hy
            go_wp2_with fail
            go_quiet (fail)
            go_wp2_with fail
            go_quiet (fail)
            go_wp2_with fail
            go_ret
            rw [HV.out]
            exact ⟨rfl, _, by rw [World.drewN_drewN, World.drewN_drewN]⟩
          · have hxy : x = y := by omega
            have HT : Hid (xs.take (k + 1) = ys.take (k + 1)) := hide (take_eq_nextI hx (by rw [hxy]; exact hy) ht.out)
            clear hx hy hxy
            go_wp2_with fail
            go_quiet (fail)
            go_wp2_with fail
            go_quiet (fail)
            go_wp2_with fail
            go_roundw
            case rel => exact ⟨k + 1, by omega, by omega, by go_num, HT, _, rfl⟩
            case measure => simp [intOf]; omega
      · have HV : Hid (cmpL xs ys = 1) := hide (cmpL_end' ht.out (by omega) hlt)
        have hyy : ¬ (xs.length : Int) < (ys.length : Int) := by omega
        have hyz : (ys.length : Int) < (xs.length : Int) := by omega
        go_wp2_with fail
        go_ret
        rw [HV.out]
        exact ⟨rfl, _, rfl⟩
    · have HV := hide (cmpL_end ht.out (show xs.length = k by omega) hky)
      by_cases hly : k < ys.length
      · have hyy : (xs.length : Int) < (ys.length : Int) := by omega
        go_wp2_with fail
        go_ret
        rw [HV.out, if_pos hly]
        exact ⟨rfl, _, rfl⟩
      · have hyy : ¬ (xs.length : Int) < (ys.length : Int) := by omega
        have hyz : ¬ (ys.length : Int) < (xs.length : Int) := by omega
        go_wp2_with fail
        go_ret
        rw [HV.out, if_neg hly]
        exact ⟨rfl, _, rfl⟩
theorem sumLen_perm {s t : List Rw} (h : s.Perm t) : sumLen s = sumLen t := by
  unfold sumLen
  exact (h.map List.length).sum_nat
theorem sortR_len (code : List (List Int)) (hn : code.length + sumLen code ≤ 1048576) : (sortR code).1.length + sumLen (sortR code).1 ≤ 1048576 := by
  unfold sortR
  split
  · rw [show (sortC code, (0 : Int)).1 = sortC code from rfl, sortC_len, sumLen_perm (sortC_perm code)]
    exact hn
  · simp [sumLen]
/-- one row more put in -/
theorem ins_step {code zs : List Rw} {i k : Nat} {x : Rw} (hx : code[i]? = some x) (hp : zs.Perm (code.take i)) (hs : zs.Pairwise fun a b => cmpR a b ≤ 0) (hk : k ≤ zs.length) (hhi : ∀ q y, k ≤ q → zs[q]? = some y → 0 < cmpR y x) (hlo : k = 0 ∨ ∃ y, zs[k - 1]? = some y ∧ cmpR y x ≤ 0) :
    (insAt zs k x).Perm (code.take (i + 1)) ∧ (insAt zs k x).Pairwise fun a b => cmpR a b ≤ 0 := by
  refine ⟨insAt_perm.trans ?_, insAt_so hs (fun y hy => ?_) (fun y hy => ?_)⟩
  · rw [List.take_add_one, hx]
    exact (List.Perm.cons x hp).trans (List.perm_append_singleton x (code.take i)).symm
  · obtain ⟨q, hq⟩ := List.mem_iff_getElem?.1 hy
    rw [List.getElem?_take] at hq
    split at hq
    · rename_i hqk
      rcases hlo with h | ⟨z, hz, hc⟩
      · omega
      · by_cases e : q = k - 1
        · subst e
          rw [hz] at hq
          injection hq with hq
          rw [← hq]
          exact hc
        · have hq1 := (List.getElem?_eq_some_iff.1 hq)
          have hz1 := (List.getElem?_eq_some_iff.1 hz)
          have := (List.pairwise_iff_getElem.1 hs) q (k - 1) hq1.1 hz1.1 (by omega)
          rw [hq1.2, hz1.2] at this
          exact cmpR_trans this hc
    · cases hq
  · obtain ⟨q, hq⟩ := List.mem_iff_getElem?.1 hy
    rw [List.getElem?_drop] at hq
    have := hhi (k + q) y (by omega) hq
    have := cmpR_neg y x
    omega
theorem gtR_len {a b : Rw} (h : b.length < a.length) : 0 < cmpR a b := by unfold cmpR; rw [if_neg (by omega)]; omega
theorem leR_len {a b : Rw} (h : a.length < b.length) : cmpR a b ≤ 0 := by unfold cmpR; rw [if_neg (by omega)]; omega
theorem eqR_len {a b : Rw} (h : a.length = b.length) : cmpR a b = cmpL a b := by unfold cmpR; rw [if_pos h]
set_option maxRecDepth 40000 in
set_option maxHeartbeats 8000000 in
theorem specSortCurves_any (A : Option Addr) (c T : Nat) (code : List (List Int)) (w : World) (hc : RC w T A code) (hn : code.length + sumLen code ≤ 1048576) :
    Calls Try.prog 28 #[.slice A code.length c] w (RetCC w (sortR code).1 (sortR code).2) := by
  have HV := hide (l14Ok_any A c T code w hc hn)
  cases hv : validC code
  · rw [hv] at HV
    rw [sortR_no hv]
    clear hv
    go_enter Try.func28, Try.ntmps28
    go_wp2_with fail
    refine HV.out.mono ?_
    rintro e w1 ⟨rfl, hb1⟩
    go_wp2_with fail
    go_ret2
    exact ⟨none, 0, rfl, OwnC.nil _ _ _, hb1⟩
  · rw [hv] at HV
    rw [sortR_ok hv]
    have hl := (valid_sum hv).1
    have HL := hide (sortC_len code)
    have HRL : Hid (∀ (k : Nat) (r : List Int), code[k]? = some r → r.length ≤ 1048576) := hide fun k r hk => by
      have := sumLen_row hk
      omega
    have HFIN : Hid (∀ zs : List Rw, zs.Perm code → (zs.Pairwise fun a b => cmpR a b ≤ 0) → zs = sortC code) := hide fun zs h1 h2 => sorted_one h1 h2
    clear hv
    go_enter Try.func28, Try.ntmps28
    go_wp2_with fail
    refine HV.out.mono ?_
    rintro e w1 ⟨rfl, hb1⟩
    have hz1 := hb1.size
    have own0 : OwnC (w1.alloc (.cells #[] 34)) w1.heap.size (w1.alloc (.cells #[] 34)).heap.size (some ⟨w1.heap.size, 0, none⟩) 0 [] := (OwnC.empty_ w1 _ rfl (Nat.le_refl _)).mono (Nat.le_refl _) (by simp)
    have hB0 : Below w1.heap.size w1 (w1.alloc (.cells #[] 34)) := (Below.refl _ _).alloc (Nat.le_refl _) _
    have hc1 := hc.below hb1
    have HB1 := hide hb1
    clear hb1 hc HV
    go_wp2_with fail
    go_loopw [4, 5] (fun s4 s5 wr => ∃ (i g c1 : Nat) (zs : List (List Int)), i ≤ code.length ∧ s5 = .int .i64 (i : Int) ∧ s4 = .slice (some ⟨g, 0, none⟩) zs.length c1 ∧ zs.length = i ∧ Hid (zs.Perm (code.take i)) ∧ Hid (zs.Pairwise fun a b => cmpR a b ≤ 0) ∧ OwnC wr w1.heap.size wr.heap.size (some ⟨g, 0, none⟩) c1 zs ∧ Below w1.heap.size w1 wr) (fun _ s5 _ => code.length - (intOf s5).toNat)
    case atStart => exact ⟨0, _, 0, [], Nat.zero_le _, rfl, rfl, rfl, hide (by simp), hide List.Pairwise.nil, own0, hB0⟩
    case round =>
      clear own0 hB0
      obtain ⟨i, g, c1, zs, hi, rfl, rfl, hzl, hzp, hzs, own, hB⟩ := hrel
      obtain ⟨wo, rfl⟩ : ∃ wo : World, wo = wr := ⟨_, rfl⟩
      have hz := hB.size
      have HZL := hide hzl
      have hzle : zs.length ≤ 40 := by omega
      clear hzl
      by_cases hlt : i < code.length
      · have hltI : (i : Int) < (code.length : Int) := by omega
        obtain ⟨bx, offx, Bx, dx, x, rfl, hbx, hx, hcx, hdx1, hdx2, hRx⟩ := (hc1.below hB).row (k := i) hlt
        have hxl := HRL.out i x hx
        have HX := hide hx
        have hsrow := sumLen_row hx
        have own_ := own
        clear hx hdx1 hdx2
        go_wp2_with fail
        go_loopw [6] (fun s6 wr => ∃ k : Nat, k ≤ zs.length ∧ s6 = .int .i64 (k : Int) ∧ Hid (∀ q y, k ≤ q → zs[q]? = some y → 0 < cmpR y x) ∧ ∃ n, wr = wo.drewN n) (fun s6 _ => (intOf s6).toNat)
        case atStart => exact ⟨zs.length, Nat.le_refl _, rfl, hide (fun q y h1 h2 => by have := (List.getElem?_eq_some_iff.1 h2).1; omega), 0, rfl⟩
        case round =>
          obtain ⟨k, hk, rfl, hhi, nd, rfl⟩ := hrel
          obtain ⟨wv, hwv⟩ : ∃ wv, wv = wo.drewN nd := ⟨_, rfl⟩
          have HWV := hide hwv
          have hcxv : wv.cell? ⟨bx, offx + i, none⟩ = some (.slice Bx x.length dx) := by rw [hwv]; exact hcx
          have hRxv : RI wv Bx x := by rw [hwv]; exact hRx
          have ownv : OwnC wv w1.heap.size wo.heap.size (some ⟨g, 0, none⟩) c1 zs := by rw [hwv]; exact own_
          rw [← hwv]
          clear hwv
          go_upto_region 8 with fail
          go_cut [62] from 219 to 0 (fun s62 wx => ∃ (q : Bool) (n2 : Nat), s62 = .bool q ∧ wx = wo.drewN n2 ∧ Hid (q = true → 0 < k ∧ ∀ r v, k - 1 ≤ r → zs[r]? = some v → 0 < cmpR v x) ∧ Hid (q = false → k = 0 ∨ ∃ y, zs[k - 1]? = some y ∧ cmpR y x ≤ 0))
          case first =>
            by_cases hk0 : 0 < k
            · have hk0I : (k : Int) > 0 := by omega
              have d0 : decide ((0 : Int) < (k : Int)) = true := decide_eq_true (by omega)
              obtain ⟨k1, hk1⟩ : ∃ k1, k = k1 + 1 := ⟨k - 1, by omega⟩
              have hwk : IntKind.i64.wrap ((k : Int) - 1) = (k1 : Int) := by rw [IntKind.wrap_i64]; omega
              obtain ⟨bz, offz, Bz, dz, y, hAz, hbz, hy, hcy, _, _, hRy⟩ := ownv.rd.row (k := k1) (by omega)
              injection hAz with hAz
              injection hAz with e1 e2
              subst e1
              subst e2
              rw [Nat.zero_add] at hcy
              have hyl : y.length ≤ 1048576 := by
                have hm := hzp.out.mem_iff.1 (List.mem_of_getElem? hy)
                obtain ⟨q, hq⟩ := List.mem_iff_getElem?.1 (List.mem_of_mem_take hm)
                exact HRL.out q y hq
              have hk1z : (k1 : Int) < (zs.length : Int) := by omega
              have HGO : Hid (0 < cmpR y x → 0 < k ∧ ∀ r v, k - 1 ≤ r → zs[r]? = some v → 0 < cmpR v x) := hide fun h => ⟨hk0, fun r v h1 h2 => by
                by_cases e : r = k1
                · subst e
                  rw [hy] at h2
                  injection h2 with h2
                  rw [← h2]
                  exact h
                · exact hhi.out r v (by omega) h2⟩
              have HNO : Hid (cmpR y x ≤ 0 → k = 0 ∨ ∃ y, zs[k - 1]? = some y ∧ cmpR y x ≤ 0) := hide fun h => .inr ⟨y, by rw [hk1]; exact hy, h⟩
              have hN := fun W (e1 : RI W Bz y) (e2 : RI W Bx x) => l06NumbersQ_any Bz Bx dz dx y x W e1 e2 hyl hxl
              clear hy hk1
              rcases Nat.lt_trichotomy x.length y.length with hlen | hlen | hlen
              · have l1 : (y.length : Int) > (x.length : Int) := by omega
                have d1 : decide ((x.length : Int) < (y.length : Int)) = true := decide_eq_true (by omega)
                have n1 : decide (x.length < y.length) = true := decide_eq_true hlen
                have HS := hide (HGO.out (gtR_len hlen))
                clear hlen hN
                go_wp2_with fail
                go_quiet (fail)
                go_wp2_with fail
                go_meet
                exact ⟨true, _, rfl, by rw [HWV.out]; exact World.drewN_drewN _ _ _, hide fun _ => HS.out, hide fun h => by cases h⟩
              · have l1 : ¬ (y.length : Int) > (x.length : Int) := by omega
                have d1 : decide ((x.length : Int) < (y.length : Int)) = false := decide_eq_false (by omega)
                have n1 : decide (x.length < y.length) = false := decide_eq_false (by omega)
                have l2 : ((y.length : Int) == (x.length : Int)) = true := by rw [hlen]; simp
                have n2 : (y.length == x.length) = true := by rw [hlen]; simp
                have n3 : decide (y.length = x.length) = true := decide_eq_true hlen.symm
                have n4 : decide ((y.length : Int) = (x.length : Int)) = true := decide_eq_true (by omega)
                have HEQ := hide (eqR_len (a := y) (b := x) hlen.symm)
                clear hlen
                by_cases hgt : 0 < cmpL y x
                · have hgd : decide (0 < cmpL y x) = true := decide_eq_true hgt
                  have HS := hide (HGO.out (by rw [HEQ.out]; exact hgt))
                  go_wp2_with fail
                  go_quiet ((first | (go_at_call 79; exact Calls.quiet_of (hN _ hRy hRxv)) | fail))
                  go_wp2_with fail
                  go_meet
                  exact ⟨true, _, rfl, by rw [HWV.out]; exact World.drewN_drewN _ _ _, hide fun _ => HS.out, hide fun h => by cases h⟩
                · have hgd : decide (0 < cmpL y x) = false := decide_eq_false hgt
                  have HS := hide (HNO.out (by rw [HEQ.out]; omega))
                  go_wp2_with fail
                  go_quiet ((first | (go_at_call 79; exact Calls.quiet_of (hN _ hRy hRxv)) | fail))
                  go_wp2_with fail
                  go_meet
                  exact ⟨false, _, rfl, by rw [HWV.out]; exact World.drewN_drewN _ _ _, hide fun h => (by cases h), hide fun _ => HS.out⟩
              · have l1 : ¬ (y.length : Int) > (x.length : Int) := by omega
                have d1 : decide ((x.length : Int) < (y.length : Int)) = false := decide_eq_false (by omega)
                have n1 : decide (x.length < y.length) = false := decide_eq_false (by omega)
                have l2 : ((y.length : Int) == (x.length : Int)) = false := by simp; omega
                have n2 : (y.length == x.length) = false := by simp; omega
                have n3 : decide (y.length = x.length) = false := decide_eq_false (by omega)
                have n4 : decide ((y.length : Int) = (x.length : Int)) = false := decide_eq_false (by omega)
                have HS := hide (HNO.out (leR_len hlen))
                clear hlen hN
                go_wp2_with fail
                go_quiet (fail)
                go_wp2_with fail
                go_meet
                exact ⟨false, _, rfl, by rw [HWV.out]; exact World.drewN_drewN _ _ _, hide fun h => (by cases h), hide fun _ => HS.out⟩
            · have hk0I : ¬ (k : Int) > 0 := by omega
              have d0 : decide ((0 : Int) < (k : Int)) = false := decide_eq_false (by omega)
              have HS : Hid (k = 0) := hide (by omega)
              go_wp2_with fail
              go_quiet (fail)
              go_wp2_with fail
              go_meet
              exact ⟨false, _, rfl, by rw [HWV.out]; exact World.drewN_drewN _ _ _, hide fun h => (by cases h), hide fun _ => .inl HS.out⟩
          case rest =>
            obtain ⟨q, n2, rfl, rfl, hq1, hq2⟩ := hcut
            cases q
            · have hlo := hide (hq2.out rfl)
              clear hq1 hq2
              obtain ⟨w3, hw3⟩ : ∃ w3, w3 = wo.drewN n2 := ⟨_, rfl⟩
              have own3 : OwnC w3 w1.heap.size wo.heap.size (some ⟨g, 0, none⟩) c1 zs := by rw [hw3]; exact own
              have hB3 : Below w1.heap.size w1 w3 := by rw [hw3]; exact below_drewN'' hB _
              have hcx3 : w3.cell? ⟨bx, offx + i, none⟩ = some (.slice Bx x.length dx) := by rw [hw3]; exact hcx
              have hRx3 : RI w3 Bx x := by rw [hw3]; exact hRx
              have hbx3 : bx < w3.heap.size := by rw [hw3]; exact hbx
              have hzo : wo.heap.size = w3.heap.size := by rw [hw3]; rfl
              rw [hzo] at own3
              rw [← hw3]
              have hz3 := hB3.size
              have HST2 := hide (ins_step HX.out hzp.out hzs.out hk hhi.out hlo.out)
              have hcap := own3.cap_
              clear own own_ hB hcx hRx hbx hzo hw3 hhi hlo hzp hzs hz
              obtain ⟨hds, o1, o2, o3, o4, o5⟩ := own3
              obtain ⟨p1, hp1⟩ : ∃ p1, p1 = hds.take k := ⟨_, rfl⟩
              obtain ⟨p2, hp2⟩ : ∃ p2, p2 = hds.drop k := ⟨_, rfl⟩
              have hl1 : Hid (p1.length = k) := hide (by rw [hp1, List.length_take]; omega)
              have hl2 : Hid (p2.length = zs.length - k) := hide (by rw [hp2, List.length_drop, o3])
              have hr1 : RG hdE w3 (some ⟨g, 0, none⟩) p1 := by rw [hp1]; exact o1.rd.take_ k
              have hr2 : RG hdE w3 (if c1 = k then some ⟨g, 0, none⟩ else some ⟨g, k, none⟩) p2 := by
                have := RGhd_tail o1.rd k (c := c1) (by rw [o3]; exact hcap.1)
                rw [← hp2] at this
                simpa [Addr.add_lit] using this
              have he : Own hdE (w3.alloc (.cells #[] 34)) w1.heap.size (some ⟨w3.heap.size, 0, none⟩) 0 [] := Own.new (E := hdE) w3 [] #[] rfl hz3 (by simp)
              have hBn : Below w3.heap.size w3 (w3.alloc (.cells #[] 34)) := (Below.refl _ _).alloc (Nat.le_refl _) _
              have q1 : (k : Int) ≤ (c1 : Int) := by omega
              have q2 : (k : Int) ≤ (zs.length : Int) := by omega
              have HP := hide (And.intro hp1 hp2)
              clear hp1 hp2
              by_cases hcd : c1 = k
              · have hck := hcd.symm
                subst hck
                rw [if_pos rfl] at hr2
                have hl20 : Hid (p2.length = 0) := hide (by rw [hl2.out]; omega)
                go_wp2_with (first
                  | (at_builtin; refine wpList_append_row hdE rfl (.tmp 65) (.tmp 68) rfl w1.heap.size (some ⟨w3.heap.size, 0, none⟩) 0 [] rfl he (some ⟨g, 0, none⟩) _ p1 (by rw [hl1.out]; rfl) (hr1.alloc _) (by have := hl1.out; simp; omega) (by have := hl1.out; simp [hdE]; omega) (by simp; omega) p1 rfl ?_; intro A4 c4 w4 own4 hg4 hb4; have hB4 := hBn.grown hg4 (by simp) (fun q hq => by have := blk_inj hq; omega); have hc4 := (hB4.cell (p := ⟨bx, offx + i, none⟩) (by omega)).trans hcx3; have HB4 := hide (And.intro hB4 own4); have hz4 := hB4.size; clear hB4 own4)
                  | (go_at_call 73; refine (l00Own_any Bx dx x _ (hRx3.below HB4.out.1) (by omega)).mono ?_; rintro e w5 ⟨B5, d5, rfl, own5, hb5⟩; have hB5 := HB4.out.1.trans (hb5.mono hz4); have HB5 := hide (And.intro hB5 (And.intro own5 (And.intro (HB4.out.2.below hb5) hb5.size))); have hz5 := hB5.size; obtain ⟨px, hpx⟩ : ∃ px, px = p1 ++ [(⟨B5, x.length, d5⟩ : Hd)] := ⟨_, rfl⟩; have HPX := hide hpx; obtain ⟨py, hpy⟩ : ∃ py, py = px ++ p2 := ⟨_, rfl⟩; have HPY := hide hpy; have HXL : Hid (px.length = k + 1) := hide (by rw [hpx, List.length_append, hl1.out]; rfl); clear hB5 own5 hb5 hc4 hpx hpy)
                  | (at_builtin; refine wpList_append_row hdE rfl (.tmp 70) (.tmp 76) rfl w1.heap.size A4 c4 p1 rfl (HB5.out.2.2.1.alloc _) (some ⟨w5.heap.size, 0, none⟩) 1 [⟨B5, x.length, d5⟩] rfl (RG.fresh (E := hdE) w5 _ rfl ⟨B5, x.length, d5⟩ #[.slice B5 x.length d5] rfl _) (by have := hl1.out; simp; omega) (by have := hl1.out; simp [hdE]; omega) (by simp; omega) px HPX.out ?_; intro A6 c6 w6 own6 hg6 hb6; have hB6 := (HB5.out.1.alloc hz5 (.cells #[.slice B5 x.length d5] 34)).grown hg6 (by simp; omega) (fun q hq => by rcases hb4 with h | h <;> rw [h] at hq <;> simp [blk] at hq <;> omega); have HB6 := hide (And.intro hB6 (And.intro own6 (OwnI.grown (HB5.out.2.1.alloc (.cells #[.slice B5 x.length d5] 34)) hg6 (ownI_hd (HB5.out.2.1.alloc (.cells #[.slice B5 x.length d5] 34)) (HB5.out.2.2.1.alloc _))))); have hz6 := hB6.size; have hb6' := hb6; clear hB6 own6 hg6 hb6)
                  | (at_builtin; refine wpList_append_row hdE rfl (.tmp 78) (.tmp 81) rfl w1.heap.size A6 c6 px rfl HB6.out.2.1 (some ⟨g, 0, none⟩) _ p2 (by first | (rw [hl20.out]; rfl) | (rw [hl2.out]; rfl)) (hr2.below HB6.out.1) (by have := HXL.out; have := hl2.out; omega) (by have := HXL.out; have := hl2.out; simp [hdE]; omega) (by omega) py HPY.out ?_; intro A7 c7 w7 own7 hg7 hb7))
                have hA6 : ∀ q, blk A6 = some q → w3.heap.size ≤ q := fun q hq => by
                  rcases hb6' with h | h
                  · rw [h] at hq
                    rcases hb4 with h4 | h4 <;> rw [h4] at hq <;> simp [blk] at hq <;> omega
                  · rw [h] at hq
                    simp at hq
                    omega
                have hB7 := HB6.out.1.grown hg7 hz6 hA6
                have orow := OwnI.grown HB6.out.2.2 hg7 (ownI_hd HB6.out.2.2 HB6.out.2.1)
                obtain ⟨g7, hA7⟩ : ∃ g7, A7 = some ⟨g7, 0, none⟩ := by
                  rcases own7.2 with ⟨hv, hz⟩ | ⟨g, cap, cur, hv, hb, hh, hnc, hcm, hcs, ht⟩
                  · have h1 := HPY.out
                    have h2 := HXL.out
                    rw [h1, List.length_append] at hz
                    omega
                  · injection hv with hA hn' hc'
                    exact ⟨g, hA⟩
                subst hA7
                have hins : py = insAt hds k ⟨B5, x.length, d5⟩ := by
                  rw [HPY.out, HPX.out, HP.out.1, HP.out.2]
                  simp [insAt]
                have hlen : py.length = (insAt zs k x).length := by
                  rw [hins, insAt_len _ (by omega), insAt_len _ hk, o3]
                rw [hins] at own7
                have hfin := OwnC.insHds o1 ⟨o3, o4, o5⟩ (fun b _ hb => hB7.block b hb) hk (Nat.le_refl _) own7 (orow.mono (by omega)) (fun q hq => by have := (HB5.out.2.1.ge hq).1; omega) hB7.size
                have HFI := hide (And.intro hfin (hB3.trans (hB7.mono hz3)))
                have HLN := hide hlen
                have hzn : (insAt zs k x).length = i + 1 := by rw [insAt_len _ hk, HZL.out]
                have HZN := hide hzn
                clear hfin hins hlen own7 hg7 orow hB7 hzn o1 o2 o3 o4 o5 hr1 hr2 hb6' hb4 hb7
                obtain ⟨zz, hzz⟩ : ∃ zz, zz = insAt zs k x := ⟨_, rfl⟩
                rw [← hzz] at HFI HLN HZN HST2
                rw [HLN.out]
                clear hzz
                go_roundw
                case rel => exact ⟨i + 1, g7, c7, zz, by omega, by go_num, rfl, HZN.out, hide HST2.out.1, hide HST2.out.2, HFI.out.1, HFI.out.2⟩
                case measure => simp [intOf]; omega
              · rw [if_neg hcd] at hr2
                go_wp2_with (first
                  | (at_builtin; refine wpList_append_row hdE rfl (.tmp 65) (.tmp 68) rfl w1.heap.size (some ⟨w3.heap.size, 0, none⟩) 0 [] rfl he (some ⟨g, 0, none⟩) _ p1 (by rw [hl1.out]; rfl) (hr1.alloc _) (by have := hl1.out; simp; omega) (by have := hl1.out; simp [hdE]; omega) (by simp; omega) p1 rfl ?_; intro A4 c4 w4 own4 hg4 hb4; have hB4 := hBn.grown hg4 (by simp) (fun q hq => by have := blk_inj hq; omega); have hc4 := (hB4.cell (p := ⟨bx, offx + i, none⟩) (by omega)).trans hcx3; have HB4 := hide (And.intro hB4 own4); have hz4 := hB4.size; clear hB4 own4)
                  | (go_at_call 73; refine (l00Own_any Bx dx x _ (hRx3.below HB4.out.1) (by omega)).mono ?_; rintro e w5 ⟨B5, d5, rfl, own5, hb5⟩; have hB5 := HB4.out.1.trans (hb5.mono hz4); have HB5 := hide (And.intro hB5 (And.intro own5 (And.intro (HB4.out.2.below hb5) hb5.size))); have hz5 := hB5.size; obtain ⟨px, hpx⟩ : ∃ px, px = p1 ++ [(⟨B5, x.length, d5⟩ : Hd)] := ⟨_, rfl⟩; have HPX := hide hpx; obtain ⟨py, hpy⟩ : ∃ py, py = px ++ p2 := ⟨_, rfl⟩; have HPY := hide hpy; have HXL : Hid (px.length = k + 1) := hide (by rw [hpx, List.length_append, hl1.out]; rfl); clear hB5 own5 hb5 hc4 hpx hpy)
                  | (at_builtin; refine wpList_append_row hdE rfl (.tmp 70) (.tmp 76) rfl w1.heap.size A4 c4 p1 rfl (HB5.out.2.2.1.alloc _) (some ⟨w5.heap.size, 0, none⟩) 1 [⟨B5, x.length, d5⟩] rfl (RG.fresh (E := hdE) w5 _ rfl ⟨B5, x.length, d5⟩ #[.slice B5 x.length d5] rfl _) (by have := hl1.out; simp; omega) (by have := hl1.out; simp [hdE]; omega) (by simp; omega) px HPX.out ?_; intro A6 c6 w6 own6 hg6 hb6; have hB6 := (HB5.out.1.alloc hz5 (.cells #[.slice B5 x.length d5] 34)).grown hg6 (by simp; omega) (fun q hq => by rcases hb4 with h | h <;> rw [h] at hq <;> simp [blk] at hq <;> omega); have HB6 := hide (And.intro hB6 (And.intro own6 (OwnI.grown (HB5.out.2.1.alloc (.cells #[.slice B5 x.length d5] 34)) hg6 (ownI_hd (HB5.out.2.1.alloc (.cells #[.slice B5 x.length d5] 34)) (HB5.out.2.2.1.alloc _))))); have hz6 := hB6.size; have hb6' := hb6; clear hB6 own6 hg6 hb6)
                  | (at_builtin; refine wpList_append_row hdE rfl (.tmp 78) (.tmp 81) rfl w1.heap.size A6 c6 px rfl HB6.out.2.1 (some ⟨g, k, none⟩) _ p2 (by rw [hl2.out]; rfl) (hr2.below HB6.out.1) (by have := HXL.out; have := hl2.out; omega) (by have := HXL.out; have := hl2.out; simp [hdE]; omega) (by omega) py HPY.out ?_; intro A7 c7 w7 own7 hg7 hb7))
                have hA6 : ∀ q, blk A6 = some q → w3.heap.size ≤ q := fun q hq => by
                  rcases hb6' with h | h
                  · rw [h] at hq
                    rcases hb4 with h4 | h4 <;> rw [h4] at hq <;> simp [blk] at hq <;> omega
                  · rw [h] at hq
                    simp at hq
                    omega
                have hB7 := HB6.out.1.grown hg7 hz6 hA6
                have orow := OwnI.grown HB6.out.2.2 hg7 (ownI_hd HB6.out.2.2 HB6.out.2.1)
                obtain ⟨g7, hA7⟩ : ∃ g7, A7 = some ⟨g7, 0, none⟩ := by
                  rcases own7.2 with ⟨hv, hz⟩ | ⟨g, cap, cur, hv, hb, hh, hnc, hcm, hcs, ht⟩
                  · have h1 := HPY.out
                    have h2 := HXL.out
                    rw [h1, List.length_append] at hz
                    omega
                  · injection hv with hA hn' hc'
                    exact ⟨g, hA⟩
                subst hA7
                have hins : py = insAt hds k ⟨B5, x.length, d5⟩ := by
                  rw [HPY.out, HPX.out, HP.out.1, HP.out.2]
                  simp [insAt]
                have hlen : py.length = (insAt zs k x).length := by
                  rw [hins, insAt_len _ (by omega), insAt_len _ hk, o3]
                rw [hins] at own7
                have hfin := OwnC.insHds o1 ⟨o3, o4, o5⟩ (fun b _ hb => hB7.block b hb) hk (Nat.le_refl _) own7 (orow.mono (by omega)) (fun q hq => by have := (HB5.out.2.1.ge hq).1; omega) hB7.size
                have HFI := hide (And.intro hfin (hB3.trans (hB7.mono hz3)))
                have HLN := hide hlen
                have hzn : (insAt zs k x).length = i + 1 := by rw [insAt_len _ hk, HZL.out]
                have HZN := hide hzn
                clear hfin hins hlen own7 hg7 orow hB7 hzn o1 o2 o3 o4 o5 hr1 hr2 hb6' hb4 hb7
                obtain ⟨zz, hzz⟩ : ∃ zz, zz = insAt zs k x := ⟨_, rfl⟩
                rw [← hzz] at HFI HLN HZN HST2
                rw [HLN.out]
                clear hzz
                go_roundw
                case rel => exact ⟨i + 1, g7, c7, zz, by omega, by go_num, rfl, HZN.out, hide HST2.out.1, hide HST2.out.2, HFI.out.1, HFI.out.2⟩
                case measure => simp [intOf]; omega
            · have HGO := hide (hq1.out rfl)
              obtain ⟨k1, hk1⟩ : ∃ k1, k = k1 + 1 := ⟨k - 1, by have := HGO.out.1; omega⟩
              have hwk : IntKind.i64.wrap ((k : Int) - 1) = (k1 : Int) := by rw [IntKind.wrap_i64]; omega
              have HK1 := hide hk1
              clear hq1 hq2 hk1 hhi
              go_wp2_with fail
              go_roundw
              case rel => exact ⟨k1, by have := HK1.out; omega, rfl, hide (fun r v h1 h2 => HGO.out.2 r v (by have := HK1.out; omega) h2), _, rfl⟩
              case measure => have := HK1.out; simp [intOf]; omega
      · have hltI : ¬ (i : Int) < (code.length : Int) := by omega
        have HE : Hid (zs = sortC code) := hide (HFIN.out zs (by
          have := hzp.out
          rw [List.take_of_length_le (by omega)] at this
          exact this) hzs.out)
        have HF := hide (And.intro (own.mono hz1 (Nat.le_refl _)) (HB1.out.trans (hB.mono hz1)))
        clear hzp hzs own hB
        go_wp2_with fail
        go_ret2
        have := HE.out
        subst this
        exact ⟨_, c1, rfl, HF.out.1, HF.out.2⟩
end Go.Proofs.Ytnjojnnapdhijaa
