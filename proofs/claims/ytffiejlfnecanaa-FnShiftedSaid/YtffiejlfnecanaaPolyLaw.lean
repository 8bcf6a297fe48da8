/-
  Plain law: what the laws FnPolys and FnShifted say of small polynomials. Conditions: coefficients and powers that are drawn.
-/
import Derived.Test.YtffiejlfnecanaaPolyAlg
import Derived.Test.YtffiejlfnecanaaPolyTop
import Derived.Test.YtffiejlfnecanaaPolyMulTop
import Derived.Test.YtffiejlfnecanaaPolyRev
namespace Go.Proofs.Ytffiejlfnecanaa
open Go.RowKit
set_option linter.unusedVariables false

/-- coefficients of no more than B -/
def CB (B : Nat) (q : Int × List Int) : Prop := ∀ n, (cf q.1 q.2 n).natAbs ≤ B
theorem small_eq {a b : Int} (h : a % 18446744073709551616 = b % 18446744073709551616) (ha : wrap64 a = a) (hb : b.natAbs ≤ 4611686018427387904) : a = b := by unfold wrap64 at ha; omega
theorem cb_addP {B1 B2 : Nat} {p q : Int × List Int} (h1 : CB B1 p) (h2 : CB B2 q) (i1 : InW p.2) (i2 : InW q.2) (hb : B1 + B2 ≤ 4611686018427387904) : CB (B1 + B2) (addP p.1 p.2 q.1 q.2) := fun n => by
  have k1 := h1 n
  have k2 := h2 n
  rw [small_eq (cf_addP p.1 p.2 q.1 q.2 n) (inW_cf (inW_addP i1 i2)) (by omega)]
  omega
theorem sm_abs {f : Nat → Int} {B : Nat} : ∀ {k : Nat}, (∀ i, i < k → (f i).natAbs ≤ B) → (sm k f).natAbs ≤ k * B
  | 0, _ => by simp [sm]
  | k + 1, h => by
    have h1 := sm_abs (k := k) fun i hi => h i (by omega)
    have h2 := h k (by omega)
    rw [Nat.add_mul, Nat.one_mul]
    unfold sm
    omega
theorem cb_mulP {B1 B2 k : Nat} {p q : Int × List Int} (h1 : CB B1 p) (h2 : CB B2 q) (hk : p.2.length ≤ k) (hb : k * (B1 * B2) ≤ 4611686018427387904) : CB (k * (B1 * B2)) (mulP p.1 p.2 q.1 q.2) := fun n => by
  have h : (pq p.1 p.2.length (cf p.1 p.2) (cf q.1 q.2) n).natAbs ≤ p.2.length * (B1 * B2) := sm_abs fun i _ => by
    show (cf p.1 p.2 _ * cf q.1 q.2 _).natAbs ≤ _
    rw [Int.natAbs_mul]
    exact Nat.mul_le_mul (h1 _) (h2 _)
  have h3 : p.2.length * (B1 * B2) ≤ k * (B1 * B2) := Nat.mul_le_mul_right _ hk
  rw [small_eq (cf_mulP p.1 p.2 q.1 q.2 n) (inW_cf inW_mulP) (by omega)]
  omega
theorem CB.mem {B : Nat} {q : Int × List Int} (h : CB B q) : ∀ x ∈ q.2, x.natAbs ≤ B := by
  intro x hx
  obtain ⟨i, hi, rfl⟩ := List.getElem_of_mem hx
  have := h (q.1 + (i : Int))
  rw [cf_at, List.getD_eq_getElem?_getD, List.getElem?_eq_getElem hi] at this
  exact this
theorem cb_of {B : Nat} {q : Int × List Int} (h : ∀ x ∈ q.2, x.natAbs ≤ B) : CB B q := fun n => cf_mem (P := fun x => x.natAbs ≤ B) (by simp) h n
theorem CB.inW {B : Nat} {q : Int × List Int} (h : CB B q) (hb : B ≤ 4611686018427387904) : InW q.2 := fun x hx => by
  have := h.mem x hx
  unfold wrap64
  omega
theorem vld_ok {q : Int × List Int} (hc : Cn q) (hk : BK 200 q) (hb : CB 1000000000000 q) : vldP q.1 q.2 = true := by
  unfold BK at hk
  exact cn_vld hc (by omega) (by omega) (by omega) fun n => by have := hb n; omega
theorem small_ok {q : Int × List Int} (hb : CB 1000000 q) : smallP q.2 = true :=
  List.all_eq_true.2 fun x hx => inB_true.2 (by have := hb.mem x hx; omega)
theorem CB.mono {B B' : Nat} {q : Int × List Int} (h : CB B q) (hb : B ≤ B') : CB B' q := fun n => Nat.le_trans (h n) hb
theorem BK.mono_ {K K' : Int} {q : Int × List Int} (h : BK K q) (hk : K ≤ K') : BK K' q := ⟨by have := h.1; omega, by have := h.2.1; omega, by have := h.2.2; omega⟩

theorem trimS_lo (l : Int) (xs : List Int) : (trimS l xs).1 = 0 ∨ l ≤ (trimS l xs).1 := by
  unfold trimS
  split
  · exact .inl rfl
  · exact .inr (by dsimp only; omega)
/-- a polynomial that is drawn -/
structure Dw (q : Int × List Int) : Prop where
  cn : Cn q
  lo : -8 ≤ q.1
  bk : BK 9 q
  cb : CB 4 q
  len : q.2.length ≤ 5
theorem dw_trim {l : Int} {xs : List Int} (h1 : -4 ≤ l) (h2 : l ≤ 4) (hn : xs.length ≤ 5) (h : ∀ x ∈ xs, -4 ≤ x ∧ x ≤ 4) : Dw (trimS l xs) :=
  ⟨cn_trim _ _, by have := trimS_lo l xs; omega, trimS_bk (by omega) (by omega) (by omega), cb_of fun x hx => by
    rw [trimS_snd] at hx
    have := h x (rdropZ_mem (dropZ_mem hx))
    omega, Nat.le_trans (trimS_le _ _) hn⟩
theorem Dw.vld {q : Int × List Int} (h : Dw q) : vldP q.1 q.2 = true := vld_ok h.cn (h.bk.mono_ (by omega)) (h.cb.mono (by omega))
theorem Dw.small {q : Int × List Int} (h : Dw q) : smallP q.2 = true := small_ok (h.cb.mono (by omega))
theorem Dw.inW {q : Int × List Int} (h : Dw q) : InW q.2 := h.cb.inW (by omega)

theorem addPR_ok {p q : Int × List Int} (h1 : vldP p.1 p.2 = true) (h2 : vldP q.1 q.2 = true) (h3 : vldP (addP p.1 p.2 q.1 q.2).1 (addP p.1 p.2 q.1 q.2).2 = true) : addPR p.1 p.2 q.1 q.2 = ((addP p.1 p.2 q.1 q.2).1, (addP p.1 p.2 q.1 q.2).2, 0) := by
  unfold addPR
  rw [if_pos ⟨h1, h2⟩, resP_yes h3]
theorem mulPR_ok {p q : Int × List Int} (h1 : vldP p.1 p.2 = true) (h2 : vldP q.1 q.2 = true) (s1 : smallP p.2 = true) (s2 : smallP q.2 = true) (h3 : vldP (mulP p.1 p.2 q.1 q.2).1 (mulP p.1 p.2 q.1 q.2).2 = true) : mulPR p.1 p.2 q.1 q.2 = ((mulP p.1 p.2 q.1 q.2).1, (mulP p.1 p.2 q.1 q.2).2, 0) := by
  unfold mulPR
  rw [if_pos ⟨h1, h2⟩, if_pos ⟨s1, s2⟩, resP_yes h3]
/-- what the law FnPolys asks, of drawn polynomials -/
theorem polys_law {a b c : Int × List Int} (ha : Dw a) (hb : Dw b) (hc : Dw c) : ∃ x u v p q : Int × List Int,
    addPR a.1 a.2 b.1 b.2 = (x.1, x.2, 0) ∧ addPR b.1 b.2 a.1 a.2 = (x.1, x.2, 0) ∧ mulPR a.1 a.2 b.1 b.2 = (u.1, u.2, 0) ∧ mulPR b.1 b.2 a.1 a.2 = (u.1, u.2, 0) ∧ vldP x.1 x.2 = true ∧ vldP u.1 u.2 = true ∧
    mulPR x.1 x.2 c.1 c.2 = (v.1, v.2, 0) ∧ mulPR a.1 a.2 c.1 c.2 = (p.1, p.2, 0) ∧ mulPR b.1 b.2 c.1 c.2 = (q.1, q.2, 0) ∧ addPR p.1 p.2 q.1 q.2 = (v.1, v.2, 0) ∧
    sumP u.1 u.2 = (wrap64 (sumW a.2 * sumW b.2), 0) ∧ x.2.length ≤ 400 ∧ u.2.length ≤ 400 ∧ v.2.length ≤ 400 ∧ p.2.length ≤ 400 ∧ q.2.length ≤ 400 := by
  have hx : vldP (addP a.1 a.2 b.1 b.2).1 (addP a.1 a.2 b.1 b.2).2 = true := vld_ok (cn_addP _ _ _ _) ((addP_bk (K := 9) ha.bk hb.bk).mono_ (by omega)) ((cb_addP ha.cb hb.cb ha.inW hb.inW (by omega)).mono (by omega))
  have cx : CB (4 + 4) (addP a.1 a.2 b.1 b.2) := cb_addP ha.cb hb.cb ha.inW hb.inW (by omega)
  have kx : BK 9 (addP a.1 a.2 b.1 b.2) := addP_bk ha.bk hb.bk
  have lx : (addP a.1 a.2 b.1 b.2).2.length ≤ 18 := by unfold BK at kx; omega
  have hm : ∀ {p q : Int × List Int}, Dw p → Dw q → vldP (mulP p.1 p.2 q.1 q.2).1 (mulP p.1 p.2 q.1 q.2).2 = true := fun hp hq =>
    vld_ok (cn_mulP _ _ _ _) ((mulP_bk hp.bk hq.bk).mono_ (by omega)) ((cb_mulP hp.cb hq.cb hp.len (by omega)).mono (by omega))
  have hv : vldP (mulP (addP a.1 a.2 b.1 b.2).1 (addP a.1 a.2 b.1 b.2).2 c.1 c.2).1 (mulP (addP a.1 a.2 b.1 b.2).1 (addP a.1 a.2 b.1 b.2).2 c.1 c.2).2 = true :=
    vld_ok (cn_mulP _ _ _ _) ((mulP_bk kx hc.bk).mono_ (by omega)) ((cb_mulP cx hc.cb lx (by omega)).mono (by omega))
  have hd := mulP_addP a.1 a.2 b.1 b.2 c.1 c.2
  refine ⟨addP a.1 a.2 b.1 b.2, mulP a.1 a.2 b.1 b.2, mulP (addP a.1 a.2 b.1 b.2).1 (addP a.1 a.2 b.1 b.2).2 c.1 c.2, mulP a.1 a.2 c.1 c.2, mulP b.1 b.2 c.1 c.2, addPR_ok ha.vld hb.vld hx, ?_, mulPR_ok ha.vld hb.vld ha.small hb.small (hm ha hb), ?_, hx, hm ha hb,
    mulPR_ok hx hc.vld (small_ok (cx.mono (by omega))) hc.small hv, mulPR_ok ha.vld hc.vld ha.small hc.small (hm ha hc), mulPR_ok hb.vld hc.vld hb.small hc.small (hm hb hc), ?_, ?_,
    (vldP_bounds hx).2.2.1, (vldP_bounds (hm ha hb)).2.2.1, (vldP_bounds hv).2.2.1, (vldP_bounds (hm ha hc)).2.2.1, (vldP_bounds (hm hb hc)).2.2.1⟩
  · have e := addP_comm a.1 a.2 b.1 b.2 ha.inW hb.inW
    rw [e] at hx ⊢
    exact addPR_ok hb.vld ha.vld hx
  · have e := mulP_comm a.1 a.2 b.1 b.2
    rw [e]
    exact mulPR_ok hb.vld ha.vld hb.small ha.small (hm hb ha)
  · rw [hd] at hv ⊢
    exact addPR_ok (hm ha hc) (hm hb hc) hv
  · unfold sumP
    rw [if_pos (hm ha hb), sumW_mulP]

/-- powers turned round -/
def rvP (q : Int × List Int) : Int × List Int := trimS (1 - q.1 - q.2.length) q.2.reverse
theorem cf_rv (q : Int × List Int) (n : Int) : cf (rvP q).1 (rvP q).2 n = cf q.1 q.2 (-n) := by
  unfold rvP
  rw [cf_trim]
  obtain ⟨l, xs⟩ := q
  dsimp only
  by_cases h1 : n < 1 - l - xs.length
  · rw [cf_low h1, cf_high (by omega)]
  · by_cases h2 : -n < l
    · rw [cf_low h2, cf_high (by rw [List.length_reverse]; omega)]
    · obtain ⟨j, rfl⟩ : ∃ j : Nat, n = 1 - l - xs.length + j := ⟨(n - (1 - l - xs.length)).toNat, by omega⟩
      have hj : j < xs.length := by omega
      rw [cf_at, show -(1 - l - (xs.length : Int) + (j : Int)) = l + ((xs.length - 1 - j : Nat) : Int) by omega, cf_at]
      rw [List.getD_eq_getElem?_getD, List.getD_eq_getElem?_getD, List.getElem?_reverse hj]
theorem cn_rv (q : Int × List Int) : Cn (rvP q) := cn_trim _ _
theorem rv_rv {q : Int × List Int} (h : Cn q) : rvP (rvP q) = q := cn_eq (cn_rv _) h fun n => by rw [cf_rv, cf_rv, Int.neg_neg]
theorem inW_rv {q : Int × List Int} (h : InW q.2) : InW (rvP q).2 := trimS_inW fun x hx => h x (List.mem_reverse.1 hx)
theorem dw_rv {q : Int × List Int} (h : Dw q) : Dw (rvP q) :=
  ⟨cn_rv _, by
    have h3 := trimS_lo (1 - q.1 - q.2.length) q.2.reverse
    have := h.bk
    unfold BK at this
    unfold rvP
    omega, by
    have h3 := h.lo
    have := h.bk
    unfold BK at this
    by_cases hz : q.2 = []
    · unfold rvP
      rw [hz, show ([] : List Int).reverse = [] from rfl, trimS_nil]
      unfold BK
      simp
    · have hp := List.length_pos_iff.2 hz
      have hl := h.len
      have := h.cn.2 hp
      refine trimS_bk (by omega) (by omega) (by rw [List.length_reverse]; omega), fun n => by rw [cf_rv]; exact h.cb _, Nat.le_trans (trimS_le _ _) (by rw [List.length_reverse]; exact h.len)⟩
theorem invPR_rv {q : Int × List Int} (h : vldP q.1 q.2 = true) (h2 : vldP (rvP q).1 (rvP q).2 = true) : invPR q.1 q.2 = ((rvP q).1, (rvP q).2, 0) := by
  unfold invPR
  rw [if_pos h]
  exact resP_yes h2
/-- turned round, a product is the product of what is turned round -/
theorem rv_mul (p q : Int × List Int) : mulP (rvP p).1 (rvP p).2 (rvP q).1 (rvP q).2 = rvP (mulP p.1 p.2 q.1 q.2) :=
  cn_eq (cn_mulP _ _ _ _) (cn_rv _) fun n => mod_eq (by
    rw [cf_mulP, cf_rv, cf_mulP]
    congr 1
    obtain ⟨r, hr⟩ : ∃ r, r = rvP p := ⟨_, rfl⟩
    have hc : ∀ m, cf r.1 r.2 m = cf p.1 p.2 (-m) := fun m => by rw [hr, cf_rv]
    rw [← hr]
    obtain ⟨L, hL⟩ : ∃ L : Int, L = min r.1 (1 - p.1 - p.2.length) := ⟨_, rfl⟩
    obtain ⟨K, hK⟩ : ∃ K : Nat, K = (max (r.1 + r.2.length) (1 - p.1) - L).toNat := ⟨_, rfl⟩
    rw [pq_same (L' := L) (K' := K) (off_cf r.1 r.2) (Int.le_refl _) (Int.le_refl _) (by omega) (by omega),
      pq_same (L' := 1 - L - K) (K' := K) (off_cf p.1 p.2) (Int.le_refl _) (Int.le_refl _) (by omega) (by omega)]
    unfold pq ws
    rw [sm_rev]
    refine sm_congr fun i hi => ?_
    show cf r.1 r.2 (L + ((K - 1 - i : Nat) : Int)) * cf (rvP q).1 (rvP q).2 (n - (L + ((K - 1 - i : Nat) : Int))) = cf p.1 p.2 (1 - L - K + i) * cf q.1 q.2 (-n - (1 - L - K + i))
    rw [hc, cf_rv]
    congr 2 <;> omega) (inW_cf inW_mulP) (inW_cf (inW_rv inW_mulP))
theorem shiftPR_ok {q : Int × List Int} {p t : Int} (h1 : vldP q.1 q.2 = true) (hp : -1000 ≤ p ∧ p ≤ 1000) (ht : -1000 ≤ t ∧ t ≤ 1000) (h3 : vldP (shiftP q.1 q.2 p t).1 (shiftP q.1 q.2 p t).2 = true) : shiftPR q.1 q.2 p t = ((shiftP q.1 q.2 p t).1, (shiftP q.1 q.2 p t).2, 0) := by
  unfold shiftPR
  rw [if_pos h1, if_pos ⟨inB_true.2 hp, inB_true.2 ht⟩, resP_yes h3]
theorem shift_none (l : Int) (xs : List Int) (p : Int) : shiftP l xs p 0 = (0, []) := by
  rw [← mulP_one]
  refine cn_eq (cn_mulP _ _ _ _) ⟨fun _ => rfl, fun h => by simp at h⟩ fun n => mod_eq ?_ (inW_cf inW_mulP) (by rw [cf_nil]; exact wrap_zero)
  rw [cf_mulP, cf_nil]
  have : pq l xs.length (cf l xs) (cf p [0]) n = 0 := sm_zero fun i _ => by
    show _ * cf p [0] _ = 0
    rw [cf_zero, cf_nil, Int.mul_zero]
  rw [this]
/-- the term that is shifted by -/
def termP (p t : Int) : Int × List Int := if t = 0 then (0, []) else (p, [t])
theorem mul_term (q : Int × List Int) (p t : Int) : mulP q.1 q.2 (termP p t).1 (termP p t).2 = shiftP q.1 q.2 p t := by
  unfold termP
  split
  · rename_i h
    rw [h, shift_none]
    unfold mulP
    rw [if_pos (.inr rfl)]
  · exact mulP_one _ _ _ _
/-- what the law FnShifted asks, of drawn polynomials -/
theorem shifted_law {a b : Int × List Int} (ha : Dw a) (hb : Dw b) {p t : Int} (hp : -10 ≤ p ∧ p ≤ 10) (ht : -4 ≤ t ∧ t ≤ 4) : ∃ x u v q r : Int × List Int,
    shiftPR a.1 a.2 p t = (x.1, x.2, 0) ∧ mulPR a.1 a.2 (termP p t).1 (termP p t).2 = (x.1, x.2, 0) ∧ invPR a.1 a.2 = (u.1, u.2, 0) ∧ vldP u.1 u.2 = true ∧ invPR u.1 u.2 = (a.1, a.2, 0) ∧ invPR b.1 b.2 = (v.1, v.2, 0) ∧
    mulPR u.1 u.2 v.1 v.2 = (r.1, r.2, 0) ∧ mulPR a.1 a.2 b.1 b.2 = (q.1, q.2, 0) ∧ invPR q.1 q.2 = (r.1, r.2, 0) ∧ x.2.length ≤ 400 ∧ u.2.length ≤ 400 ∧ v.2.length ≤ 400 ∧ q.2.length ≤ 400 ∧ r.2.length ≤ 400 := by
  have hm : ∀ {p q : Int × List Int}, Dw p → Dw q → vldP (mulP p.1 p.2 q.1 q.2).1 (mulP p.1 p.2 q.1 q.2).2 = true := fun hp hq =>
    vld_ok (cn_mulP _ _ _ _) ((mulP_bk hp.bk hq.bk).mono_ (by omega)) ((cb_mulP hp.cb hq.cb hp.len (by omega)).mono (by omega))
  have ct : CB 4 (termP p t) := cb_of fun x hx => by
    unfold termP at hx
    split at hx
    · simp at hx
    · rw [List.mem_singleton] at hx
      omega
  have kt : BK 11 (termP p t) := by
    unfold termP BK
    split
    · simp
    · simp only [List.length_cons, List.length_nil]
      omega
  have nt : Cn (termP p t) := by
    unfold termP
    split
    · exact ⟨fun _ => rfl, fun h => by simp at h⟩
    · rename_i h
      exact ⟨fun h => by simp at h, fun _ => ⟨h, h⟩⟩
  have hs : vldP (mulP a.1 a.2 (termP p t).1 (termP p t).2).1 (mulP a.1 a.2 (termP p t).1 (termP p t).2).2 = true :=
    vld_ok (cn_mulP _ _ _ _) ((mulP_bk ha.bk kt).mono_ (by omega)) ((cb_mulP ha.cb ct ha.len (by omega)).mono (by omega))
  have hmt := mulPR_ok (p := a) (q := termP p t) ha.vld (vld_ok nt (kt.mono_ (by omega)) (ct.mono (by omega))) ha.small (small_ok (ct.mono (by omega))) hs
  rw [mul_term] at hs hmt
  have hu := dw_rv ha
  have hv := dw_rv hb
  have hrr := hm hu hv
  have e := rv_mul a b
  have er := rv_rv ha.cn
  refine ⟨shiftP a.1 a.2 p t, rvP a, rvP b, mulP a.1 a.2 b.1 b.2, mulP (rvP a).1 (rvP a).2 (rvP b).1 (rvP b).2, shiftPR_ok ha.vld (by omega) (by omega) hs, hmt, invPR_rv ha.vld hu.vld, hu.vld, ?_, invPR_rv hb.vld hv.vld,
    mulPR_ok hu.vld hv.vld hu.small hv.small hrr, mulPR_ok ha.vld hb.vld ha.small hb.small (hm ha hb), ?_,
    (vldP_bounds hs).2.2.1, (vldP_bounds hu.vld).2.2.1, (vldP_bounds hv.vld).2.2.1, (vldP_bounds (hm ha hb)).2.2.1, (vldP_bounds hrr).2.2.1⟩
  · have := invPR_rv (q := rvP a) hu.vld (by rw [er]; exact ha.vld)
    rw [er] at this
    exact this
  · rw [e] at hrr ⊢
    exact invPR_rv (hm ha hb) hrr
end Go.Proofs.Ytffiejlfnecanaa
