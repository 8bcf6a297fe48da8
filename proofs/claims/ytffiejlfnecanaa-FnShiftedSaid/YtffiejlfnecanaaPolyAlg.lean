/-
  Plain law: the coefficients of sums and products of polynomials, up to the machine's wrapping; a polynomial without needless coefficients is known by its coefficients. No program is named here. Conditions: none.
-/
import Derived.Test.YtffiejlfnecanaaBrMath
import Derived.Test.YtffiejlfnecanaaPolySum
namespace Go.Proofs.Ytffiejlfnecanaa
open Go.RowKit
set_option linter.unusedVariables false

theorem wrap_zero : wrap64 0 = 0 := by unfold wrap64; omega
/-- the coefficient at a power -/
def cf (l : Int) (xs : List Int) (n : Int) : Int := if n < l then 0 else xs.getD (n - l).toNat 0
theorem getD_big {xs : List Int} {k : Nat} (h : xs.length ≤ k) : xs.getD k 0 = 0 := by
  rw [List.getD_eq_getElem?_getD, List.getElem?_eq_none h]; rfl
theorem cf_low {l n : Int} {xs : List Int} (h : n < l) : cf l xs n = 0 := if_pos h
theorem cf_high {l n : Int} {xs : List Int} (h : l + xs.length ≤ n) : cf l xs n = 0 := by
  unfold cf
  rw [if_neg (by omega)]
  exact getD_big (by omega)
theorem cf_at {l : Int} {xs : List Int} (i : Nat) : cf l xs (l + i) = xs.getD i 0 := by
  unfold cf
  rw [if_neg (by omega), show (l + (i : Int) - l).toNat = i by omega]
theorem cf_nil (l n : Int) : cf l [] n = 0 := by
  unfold cf
  split
  · rfl
  · rfl
theorem cf_zero (l n : Int) (t : List Int) : cf l (0 :: t) n = cf (l + 1) t n := by
  by_cases h : n < l
  · rw [cf_low h, cf_low (by omega)]
  · by_cases h2 : n = l
    · subst h2
      rw [cf_low (show n < n + 1 by omega)]
      have := cf_at (l := n) (xs := 0 :: t) 0
      simpa using this
    · obtain ⟨k, hk⟩ : ∃ k : Nat, n = l + 1 + k := ⟨(n - l - 1).toNat, by omega⟩
      subst hk
      rw [cf_at, show l + 1 + (k : Int) = l + ((k + 1 : Nat) : Int) by omega, cf_at]
      rfl
theorem rdrop_getD : ∀ (xs : List Int) (i : Nat), (rdropZ xs).getD i 0 = xs.getD i 0
  | [], i => rfl
  | x :: t, i => by
    have ih := rdrop_getD t
    unfold rdropZ
    split
    · rename_i h
      have h0 : ∀ i, t.getD i 0 = 0 := fun i => by rw [← ih i, h]; rfl
      split
      · rename_i hx
        subst hx
        cases i with
        | zero => rfl
        | succ i => show (0 : Int) = t.getD i 0; rw [h0]
      · cases i with
        | zero => rfl
        | succ i => show (0 : Int) = t.getD i 0; rw [h0]
    · cases i with
      | zero => rfl
      | succ i => exact ih i
theorem cf_rdrop (l n : Int) (xs : List Int) : cf l (rdropZ xs) n = cf l xs n := by
  unfold cf
  rw [rdrop_getD]
theorem cf_drop : ∀ (xs : List Int) (l n : Int), cf (l + (xs.length - (dropZ xs).length : Nat)) (dropZ xs) n = cf l xs n
  | [], l, n => by simp [dropZ]
  | x :: t, l, n => by
    by_cases hx : x = 0
    · subst hx
      have h2 : dropZ (0 :: t) = dropZ t := by simp [dropZ]
      rw [h2, cf_zero, ← cf_drop t (l + 1) n]
      have := dropZ_le t
      congr 1
      rw [List.length_cons]
      omega
    · have h2 : dropZ (x :: t) = x :: t := by simp [dropZ, hx]
      rw [h2]
      congr 1
      omega
theorem cf_trim (l n : Int) (xs : List Int) : cf (trimS l xs).1 (trimS l xs).2 n = cf l xs n := by
  have h := cf_drop (rdropZ xs) l n
  rw [cf_rdrop] at h
  unfold trimS
  split
  · rename_i h0
    rw [h0] at h
    rw [← h, cf_nil, cf_nil]
  · exact h

/-- without needless coefficients -/
def Cn (q : Int × List Int) : Prop := (q.2 = [] → q.1 = 0) ∧ (0 < q.2.length → q.2.getD 0 0 ≠ 0 ∧ q.2.getD (q.2.length - 1) 0 ≠ 0)
theorem drop_head : ∀ (xs : List Int), 0 < (dropZ xs).length → (dropZ xs).getD 0 0 ≠ 0
  | [], h => by simp [dropZ] at h
  | x :: t, h => by
    by_cases hx : x = 0
    · subst hx
      have h2 : dropZ (0 :: t) = dropZ t := by simp [dropZ]
      rw [h2] at h ⊢
      exact drop_head t h
    · have h2 : dropZ (x :: t) = x :: t := by simp [dropZ, hx]
      rw [h2]
      simpa using hx
theorem rdrop_last : ∀ (xs : List Int), 0 < (rdropZ xs).length → (rdropZ xs).getD ((rdropZ xs).length - 1) 0 ≠ 0
  | [], h => by simp [rdropZ] at h
  | x :: t, h => by
    by_cases h0 : rdropZ t = []
    · by_cases hx : x = 0
      · have : rdropZ (x :: t) = [] := by simp [rdropZ, h0, hx]
        rw [this] at h
        simp at h
      · have : rdropZ (x :: t) = [x] := by simp [rdropZ, h0, hx]
        rw [this]
        simpa using hx
    · have : rdropZ (x :: t) = x :: rdropZ t := by simp [rdropZ, h0]
      rw [this]
      have hp : 0 < (rdropZ t).length := List.length_pos_iff.2 h0
      have ih := rdrop_last t hp
      rw [List.length_cons, show (rdropZ t).length + 1 - 1 = (rdropZ t).length - 1 + 1 by omega]
      exact ih
theorem cn_trim (l : Int) (xs : List Int) : Cn (trimS l xs) := by
  unfold Cn
  rw [trimS_snd]
  refine ⟨fun h => ?_, fun h => ⟨drop_head _ h, ?_⟩⟩
  · unfold trimS
    rw [if_pos h]
  · rw [← drop_comm] at h ⊢
    exact rdrop_last _ h
theorem cn_eq {p q : Int × List Int} (hp : Cn p) (hq : Cn q) (h : ∀ n, cf p.1 p.2 n = cf q.1 q.2 n) : p = q := by
  obtain ⟨l, xs⟩ := p
  obtain ⟨m, ys⟩ := q
  dsimp only [Cn] at hp hq h
  have a0 : ∀ {l : Int} {xs : List Int}, cf l xs l = xs.getD 0 0 := fun {l xs} => by have := cf_at (l := l) (xs := xs) 0; simpa using this
  by_cases hx : xs.length = 0
  · have hx' := List.eq_nil_of_length_eq_zero hx
    subst hx'
    by_cases hy : ys.length = 0
    · have hy' := List.eq_nil_of_length_eq_zero hy
      subst hy'
      rw [hp.1 rfl, hq.1 rfl]
    · have := h m
      rw [cf_nil, a0] at this
      exact absurd this.symm (hq.2 (by omega)).1
  · by_cases hy : ys.length = 0
    · have hy' := List.eq_nil_of_length_eq_zero hy
      subst hy'
      have := h l
      rw [cf_nil, a0] at this
      exact absurd this (hp.2 (by omega)).1
    · obtain ⟨px, pl⟩ := hp.2 (by omega)
      obtain ⟨qx, ql⟩ := hq.2 (by omega)
      have e1 : l = m := by
        rcases Int.lt_trichotomy l m with h1 | h1 | h1
        · have := h l
          rw [a0, cf_low h1] at this
          exact absurd this px
        · exact h1
        · have := h m
          rw [a0, cf_low h1] at this
          exact absurd this.symm qx
      subst e1
      have e2 : xs.length = ys.length := by
        rcases Nat.lt_trichotomy xs.length ys.length with h1 | h1 | h1
        · have := h (l + ((ys.length - 1 : Nat) : Int))
          rw [cf_at, cf_at, getD_big (by omega)] at this
          exact absurd this.symm ql
        · exact h1
        · have := h (l + ((xs.length - 1 : Nat) : Int))
          rw [cf_at, cf_at, getD_big (xs := ys) (by omega)] at this
          exact absurd this pl
      have e3 : xs = ys := by
        apply List.ext_getElem e2
        intro i h1 h2
        have := h (l + (i : Int))
        rw [cf_at, cf_at, List.getD_eq_getElem?_getD, List.getD_eq_getElem?_getD, List.getElem?_eq_getElem h1, List.getElem?_eq_getElem h2] at this
        exact this
      rw [e3]
theorem getD_cf {l : Int} {xs : List Int} {B : Int} (h : ∀ n, -B ≤ cf l xs n ∧ cf l xs n ≤ B) : ∀ x ∈ xs, -B ≤ x ∧ x ≤ B := by
  intro x hx
  obtain ⟨i, hi, rfl⟩ := List.getElem_of_mem hx
  have := h (l + (i : Int))
  rw [cf_at, List.getD_eq_getElem?_getD, List.getElem?_eq_getElem hi] at this
  exact this
theorem cf_mem {l : Int} {xs : List Int} {P : Int → Prop} (h0 : P 0) (h : ∀ x ∈ xs, P x) (n : Int) : P (cf l xs n) := by
  unfold cf
  split
  · exact h0
  · by_cases hk : (n - l).toNat < xs.length
    · rw [List.getD_eq_getElem?_getD, List.getElem?_eq_getElem hk]
      exact h _ (List.getElem_mem hk)
    · rw [getD_big (by omega)]
      exact h0
theorem cn_vld {q : Int × List Int} (hc : Cn q) (h1 : -1000 ≤ q.1) (h2 : q.1 ≤ 1000) (h3 : q.2.length ≤ 400) (h : ∀ n, -1000000000000 ≤ cf q.1 q.2 n ∧ cf q.1 q.2 n ≤ 1000000000000) : vldP q.1 q.2 = true := by
  unfold vldP
  split
  · rename_i h0
    have := hc.1 (List.eq_nil_of_length_eq_zero h0)
    simpa using this
  · rename_i h0
    obtain ⟨c1, c2⟩ := hc.2 (by omega)
    have h4 := getD_cf h
    rw [Bool.and_eq_true, Bool.and_eq_true, Bool.and_eq_true, Bool.and_eq_true]
    refine ⟨List.all_eq_true.2 fun x hx => inB_true.2 (h4 x hx), decide_eq_true h3, inB_true.2 ⟨h1, h2⟩, ?_, ?_⟩
    · simpa using c1
    · simpa using c2

/-- sums -/
def sm : Nat → (Nat → Int) → Int
  | 0, _ => 0
  | k + 1, f => sm k f + f k
theorem sm_congr {f g : Nat → Int} : ∀ {k : Nat}, (∀ i, i < k → f i = g i) → sm k f = sm k g
  | 0, _ => rfl
  | k + 1, h => by
    unfold sm
    rw [sm_congr fun i hi => h i (by omega), h k (by omega)]
theorem sm_zero {f : Nat → Int} : ∀ {k : Nat}, (∀ i, i < k → f i = 0) → sm k f = 0
  | 0, _ => rfl
  | k + 1, h => by
    unfold sm
    rw [sm_zero fun i hi => h i (by omega), h k (by omega)]
    rfl
theorem sm_add (f g : Nat → Int) : ∀ k : Nat, sm k (fun i => f i + g i) = sm k f + sm k g
  | 0 => rfl
  | k + 1 => by
    show sm k (fun i => f i + g i) + (f k + g k) = sm k f + f k + (sm k g + g k)
    rw [sm_add f g k]
    omega
theorem sm_mul (c : Int) (f : Nat → Int) : ∀ k : Nat, sm k (fun i => c * f i) = c * sm k f
  | 0 => by simp [sm]
  | k + 1 => by
    unfold sm
    rw [sm_mul c f k, Int.mul_add]
theorem sm_append (f : Nat → Int) (a : Nat) : ∀ b : Nat, sm (a + b) f = sm a f + sm b (fun i => f (a + i))
  | 0 => by simp [sm]
  | b + 1 => by
    show sm (a + b) f + f (a + b) = _
    rw [sm_append f a b]
    show _ = sm a f + (sm b (fun i => f (a + i)) + f (a + b))
    omega
theorem sm_first (f : Nat → Int) (k : Nat) : sm (k + 1) f = f 0 + sm k (fun i => f (i + 1)) := by
  have h := sm_append f 1 k
  rw [show 1 + k = k + 1 by omega] at h
  rw [h]
  congr 1
  · simp [sm]
  · exact sm_congr fun i _ => by rw [show 1 + i = i + 1 by omega]
theorem sm_rev : ∀ (k : Nat) (f : Nat → Int), sm k f = sm k (fun i => f (k - 1 - i))
  | 0, _ => rfl
  | k + 1, f => by
    rw [sm_first (fun i => f (k + 1 - 1 - i)) k]
    show sm k f + f k = _
    rw [sm_rev k f]
    have : sm k (fun i => f (k - 1 - i)) = sm k (fun i => f (k + 1 - 1 - (i + 1))) := sm_congr fun i hi => by rw [show k + 1 - 1 - (i + 1) = k - 1 - i by omega]
    rw [this, show k + 1 - 1 - 0 = k by omega]
    omega
theorem sm_swap (f : Nat → Nat → Int) : ∀ a b : Nat, sm a (fun i => sm b (fun j => f i j)) = sm b (fun j => sm a (fun i => f i j))
  | 0, b => (sm_zero fun _ _ => rfl).symm
  | a + 1, b => by
    show sm a (fun i => sm b (fun j => f i j)) + sm b (fun j => f a j) = sm b (fun j => sm a (fun i => f i j) + f a j)
    rw [sm_swap f a b, sm_add]
theorem mod_add {a b c d : Int} (h1 : a % 18446744073709551616 = b % 18446744073709551616) (h2 : c % 18446744073709551616 = d % 18446744073709551616) : (a + c) % 18446744073709551616 = (b + d) % 18446744073709551616 := by omega
theorem mod_mul {a b c d : Int} (h1 : a % 18446744073709551616 = b % 18446744073709551616) (h2 : c % 18446744073709551616 = d % 18446744073709551616) : (a * c) % 18446744073709551616 = (b * d) % 18446744073709551616 := by
  rw [Int.mul_emod, h1, h2, ← Int.mul_emod]
theorem mod_wrap (x : Int) : wrap64 x % 18446744073709551616 = x % 18446744073709551616 := by unfold wrap64; omega
theorem mod_eq {a b : Int} (h : a % 18446744073709551616 = b % 18446744073709551616) (ha : wrap64 a = a) (hb : wrap64 b = b) : a = b := by unfold wrap64 at ha hb; omega
theorem sm_mod {f g : Nat → Int} : ∀ {k : Nat}, (∀ i, i < k → f i % 18446744073709551616 = g i % 18446744073709551616) → sm k f % 18446744073709551616 = sm k g % 18446744073709551616
  | 0, _ => rfl
  | k + 1, h => mod_add (sm_mod fun i hi => h i (by omega)) (h k (by omega))
theorem sm_bound {f : Nat → Int} {B : Int} : ∀ {k : Nat}, (∀ i, i < k → -B ≤ f i ∧ f i ≤ B) → -((k : Int) * B) ≤ sm k f ∧ sm k f ≤ (k : Int) * B
  | 0, _ => by simp [sm]
  | k + 1, h => by
    have h1 := sm_bound (k := k) fun i hi => h i (by omega)
    have h2 := h k (by omega)
    rw [Int.natCast_add, Int.add_mul, Int.natCast_one, Int.one_mul]
    unfold sm
    omega

/-- the sum of a function's values in a window -/
def ws (L : Int) (K : Nat) (h : Int → Int) : Int := sm K (fun i => h (L + i))
/-- zero outside of a window -/
def Off (A B : Int) (h : Int → Int) : Prop := ∀ n, n < A ∨ B ≤ n → h n = 0
theorem ws_in {L L' A B : Int} {K K' : Nat} {h : Int → Int} (ho : Off L (L + K) h) (h1 : L' ≤ L) (h2 : L + K ≤ L' + K') : ws L' K' h = ws L K h := by
  unfold ws
  obtain ⟨a, ha⟩ : ∃ a : Nat, L = L' + a := ⟨(L - L').toNat, by omega⟩
  obtain ⟨b, hb⟩ : ∃ b : Nat, K' = a + (K + b) := ⟨K' - a - K, by omega⟩
  subst ha hb
  rw [sm_append, sm_append, sm_zero (k := a) fun i hi => ho _ (.inl (by omega)), sm_zero (k := b) fun i hi => ho _ (.inr (by omega))]
  rw [Int.zero_add, Int.add_zero]
  exact sm_congr fun i _ => by rw [show L' + ((a + i : Nat) : Int) = L' + (a : Int) + (i : Int) by omega]
theorem ws_same {L L' A B : Int} {K K' : Nat} {h : Int → Int} (ho : Off A B h) (a1 : L ≤ A) (a2 : B ≤ L + K) (b1 : L' ≤ A) (b2 : B ≤ L' + K') : ws L K h = ws L' K' h := by
  have o1 : Off L (L + K) h := fun n hn => ho n (by omega)
  have o2 : Off L' (L' + K') h := fun n hn => ho n (by omega)
  obtain ⟨m, hm⟩ : ∃ m : Int, m = min L L' := ⟨_, rfl⟩
  have e1 := ws_in (A := 0) (B := 0) (L' := m) (K' := (max (L + K) (L' + K') - m).toNat) o1 (by omega) (by omega)
  have e2 := ws_in (A := 0) (B := 0) (L' := m) (K' := (max (L + K) (L' + K') - m).toNat) o2 (by omega) (by omega)
  rw [← e1, e2]
theorem off_cf (l : Int) (xs : List Int) : Off l (l + xs.length) (cf l xs) := fun n hn => hn.elim cf_low cf_high

/-- a sum of products, in a window -/
def pq (L : Int) (K : Nat) (f g : Int → Int) (n : Int) : Int := ws L K (fun m => f m * g (n - m))
theorem off_pq {A B n : Int} {f g : Int → Int} (h : Off A B f) : Off A B (fun m => f m * g (n - m)) := fun m hm => by show f m * _ = 0; rw [h m hm, Int.zero_mul]
theorem pq_same {L L' A B : Int} {K K' : Nat} {f g : Int → Int} {n : Int} (ho : Off A B f) (a1 : L ≤ A) (a2 : B ≤ L + K) (b1 : L' ≤ A) (b2 : B ≤ L' + K') : pq L K f g n = pq L' K' f g n :=
  ws_same (off_pq ho) a1 a2 b1 b2
theorem pq_turn (L : Int) (K : Nat) (f g : Int → Int) (n : Int) : pq L K f g n = pq (n - L - K + 1) K g f n := by
  unfold pq ws
  rw [sm_rev]
  refine sm_congr fun i hi => ?_
  show f (L + ((K - 1 - i : Nat) : Int)) * g (n - (L + ((K - 1 - i : Nat) : Int))) = g (n - L - K + 1 + i) * f (n - (n - L - K + 1 + i))
  rw [Int.mul_comm]
  congr 2 <;> omega
theorem pq_add (L : Int) (K : Nat) (f1 f2 g : Int → Int) (n : Int) : pq L K (fun m => f1 m + f2 m) g n = pq L K f1 g n + pq L K f2 g n := by
  unfold pq ws
  rw [← sm_add]
  exact sm_congr fun i _ => Int.add_mul _ _ _
theorem pq_mod {L : Int} {K : Nat} {f f' g g' : Int → Int} {n : Int} (h1 : ∀ m, f m % 18446744073709551616 = f' m % 18446744073709551616) (h2 : ∀ m, g m % 18446744073709551616 = g' m % 18446744073709551616) : pq L K f g n % 18446744073709551616 = pq L K f' g' n % 18446744073709551616 :=
  sm_mod fun i _ => mod_mul (h1 _) (h2 _)

theorem addAt_mod {out xs : List Int} {off j : Nat} (hj : j < out.length) : (addAt out off xs).getD j 0 % 18446744073709551616 = (out.getD j 0 + (if j < off then 0 else xs.getD (j - off) 0)) % 18446744073709551616 := by
  have e0 : out.getD j 0 = out[j] := by rw [List.getD_eq_getElem?_getD, List.getElem?_eq_getElem hj]; rfl
  have e1 : (addAt out off xs).getD j 0 = if off ≤ j ∧ j - off < xs.length then wrap64 (out[j] + xs.getD (j - off) 0) else out[j] := by rw [List.getD_eq_getElem?_getD, addAt_at, List.getElem?_eq_getElem hj, Option.map_some]; rfl
  rw [e0, e1]
  by_cases h : off ≤ j ∧ j - off < xs.length
  · rw [if_pos h, if_neg (by omega), mod_wrap]
  · rw [if_neg h]
    by_cases h2 : j < off
    · rw [if_pos h2, Int.add_zero]
    · rw [if_neg h2, getD_big (by omega), Int.add_zero]
theorem rep_getD (n j : Nat) : (List.replicate n (0 : Int)).getD j 0 = 0 := by
  by_cases h : j < n
  · rw [List.getD_eq_getElem?_getD, List.getElem?_replicate_of_lt h]; rfl
  · exact getD_big (by simp; omega)
theorem cf_off {l : Int} {xs : List Int} {lo : Int} {j : Nat} (h : lo ≤ l) : (if j < (l - lo).toNat then 0 else xs.getD (j - (l - lo).toNat) 0) = cf l xs (lo + j) := by
  unfold cf
  by_cases h1 : j < (l - lo).toNat
  · rw [if_pos h1, if_pos (by omega)]
  · rw [if_neg h1, if_neg (by omega)]
    congr 1
    omega
theorem cf_addP (l0 : Int) (xs0 : List Int) (l1 : Int) (xs1 : List Int) (n : Int) : cf (addP l0 xs0 l1 xs1).1 (addP l0 xs0 l1 xs1).2 n % 18446744073709551616 = (cf l0 xs0 n + cf l1 xs1 n) % 18446744073709551616 := by
  unfold addP
  split
  · rename_i h
    rw [List.eq_nil_of_length_eq_zero h, cf_trim, cf_nil, Int.zero_add]
  · split
    · rename_i h0 h
      rw [List.eq_nil_of_length_eq_zero h, cf_trim, cf_nil, Int.add_zero]
    · rw [cf_trim]
      have f1 : lowOf l0 l1 ≤ l0 ∧ lowOf l0 l1 ≤ l1 := by unfold lowOf; split <;> omega
      have f2 : l0 + xs0.length ≤ highOf (l0 + xs0.length) (l1 + xs1.length) ∧ l1 + xs1.length ≤ highOf (l0 + xs0.length) (l1 + xs1.length) := by unfold highOf; split <;> omega
      by_cases h : n < lowOf l0 l1
      · rw [cf_low h, cf_low (by omega), cf_low (by omega)]; rfl
      · obtain ⟨j, rfl⟩ : ∃ j : Nat, n = lowOf l0 l1 + j := ⟨(n - lowOf l0 l1).toNat, by omega⟩
        rw [cf_at]
        by_cases h2 : j < (highOf (l0 + xs0.length) (l1 + xs1.length) - lowOf l0 l1).toNat
        · unfold addRaw
          rw [addAt_mod (by rw [addAt_length, List.length_replicate]; exact h2), cf_off f1.2]
          refine mod_add ?_ rfl
          rw [addAt_mod (by rw [List.length_replicate]; exact h2), cf_off f1.1, rep_getD, Int.zero_add]
        · rw [getD_big (by unfold addRaw; rw [addAt_length, addAt_length, List.length_replicate]; omega), cf_high (by omega), cf_high (by omega)]
          rfl
theorem cn_addP (l0 : Int) (xs0 : List Int) (l1 : Int) (xs1 : List Int) : Cn (addP l0 xs0 l1 xs1) := by
  unfold addP
  split
  · exact cn_trim _ _
  · split <;> exact cn_trim _ _
theorem inW_addP {l0 : Int} {xs0 : List Int} {l1 : Int} {xs1 : List Int} (h0 : InW xs0) (h1 : InW xs1) : InW (addP l0 xs0 l1 xs1).2 := by
  unfold addP
  split
  · exact trimS_inW h1
  · split
    · exact trimS_inW h0
    · exact trimS_inW (addAt_inW (addAt_inW fun x hx => by rw [List.eq_of_mem_replicate hx]; exact wrap_zero))
theorem inW_cf {l n : Int} {xs : List Int} (h : InW xs) : wrap64 (cf l xs n) = cf l xs n := cf_mem (P := fun x => wrap64 x = x) wrap_zero h n

theorem row_mod (x : Int) (ys : List Int) (i : Nat) : (rowW x ys).getD i 0 % 18446744073709551616 = (x * ys.getD i 0) % 18446744073709551616 := by
  unfold rowW
  by_cases h : i < ys.length
  · rw [List.getD_eq_getElem?_getD, List.getElem?_map, List.getD_eq_getElem?_getD, List.getElem?_eq_getElem h]
    exact mod_wrap _
  · rw [getD_big (by simp; omega), getD_big (by omega), Int.mul_zero]
theorem mulTo_mod {n : Nat} {xs ys : List Int} {j : Nat} (hj : j < n) : ∀ k : Nat, (mulTo n xs ys k).getD j 0 % 18446744073709551616 = sm k (fun i => xs.getD i 0 * (if j < i then 0 else ys.getD (j - i) 0)) % 18446744073709551616
  | 0 => by
    show (List.replicate n (0 : Int)).getD j 0 % _ = _
    rw [rep_getD]; rfl
  | k + 1 => by
    show (addAt (mulTo n xs ys k) k (rowW (xs.getD k 0) ys)).getD j 0 % _ = (sm k _ + xs.getD k 0 * (if j < k then 0 else ys.getD (j - k) 0)) % _
    rw [addAt_mod (by rw [mulTo_length]; exact hj)]
    refine mod_add (mulTo_mod hj k) ?_
    by_cases h : j < k
    · rw [if_pos h, if_pos h, Int.mul_zero]
    · rw [if_neg h, if_neg h, row_mod]
theorem cf_mulP (l0 : Int) (xs0 : List Int) (l1 : Int) (xs1 : List Int) (n : Int) : cf (mulP l0 xs0 l1 xs1).1 (mulP l0 xs0 l1 xs1).2 n % 18446744073709551616 = pq l0 xs0.length (cf l0 xs0) (cf l1 xs1) n % 18446744073709551616 := by
  unfold mulP
  split
  · rename_i h
    rw [cf_nil]
    have : pq l0 xs0.length (cf l0 xs0) (cf l1 xs1) n = 0 := by
      rcases h with h | h
      · unfold pq ws; rw [h]; rfl
      · refine sm_zero fun i _ => ?_
        show _ * cf l1 xs1 _ = 0
        rw [List.eq_nil_of_length_eq_zero h, cf_nil, Int.mul_zero]
    rw [this]
  · rename_i h
    rw [cf_trim]
    by_cases h1 : n < l0 + l1
    · rw [cf_low h1]
      have : pq l0 xs0.length (cf l0 xs0) (cf l1 xs1) n = 0 := sm_zero fun i _ => by
        show _ * cf l1 xs1 _ = 0
        rw [cf_low (l := l1) (by omega), Int.mul_zero]
      rw [this]
    · obtain ⟨j, rfl⟩ : ∃ j : Nat, n = l0 + l1 + j := ⟨(n - l0 - l1).toNat, by omega⟩
      rw [cf_at]
      by_cases h2 : j < xs0.length + xs1.length - 1
      · rw [mulTo_mod h2]
        unfold pq ws
        congr 1
        refine sm_congr fun i hi => ?_
        dsimp only
        rw [cf_at]
        congr 1
        unfold cf
        by_cases h3 : j < i
        · rw [if_pos h3, if_pos (by omega)]
        · rw [if_neg h3, if_neg (by omega)]
          congr 1
          omega
      · rw [getD_big (by rw [mulTo_length]; omega)]
        have : pq l0 xs0.length (cf l0 xs0) (cf l1 xs1) (l0 + l1 + j) = 0 := sm_zero fun i hi => by
          show _ * cf l1 xs1 _ = 0
          rw [cf_high (l := l1) (by omega), Int.mul_zero]
        rw [this]
theorem cn_mulP (l0 : Int) (xs0 : List Int) (l1 : Int) (xs1 : List Int) : Cn (mulP l0 xs0 l1 xs1) := by
  unfold mulP
  split
  · exact ⟨fun _ => rfl, fun h => by simp at h⟩
  · exact cn_trim _ _
theorem inW_mulP {l0 : Int} {xs0 : List Int} {l1 : Int} {xs1 : List Int} : InW (mulP l0 xs0 l1 xs1).2 := by
  unfold mulP
  split
  · exact fun x hx => by simp at hx
  · exact trimS_inW (mulTo_inW _ _ _ _)
/-- sums and products do not depend on the order -/
theorem addP_comm (l0 : Int) (xs0 : List Int) (l1 : Int) (xs1 : List Int) (h0 : InW xs0) (h1 : InW xs1) : addP l0 xs0 l1 xs1 = addP l1 xs1 l0 xs0 :=
  cn_eq (cn_addP _ _ _ _) (cn_addP _ _ _ _) fun n => mod_eq (by rw [cf_addP, cf_addP, Int.add_comm]) (inW_cf (inW_addP h0 h1)) (inW_cf (inW_addP h1 h0))
theorem mulP_comm (l0 : Int) (xs0 : List Int) (l1 : Int) (xs1 : List Int) : mulP l0 xs0 l1 xs1 = mulP l1 xs1 l0 xs0 :=
  cn_eq (cn_mulP _ _ _ _) (cn_mulP _ _ _ _) fun n => mod_eq (by
    rw [cf_mulP, cf_mulP]
    congr 1
    obtain ⟨L, hL⟩ : ∃ L : Int, L = min l0 (n - l1 - xs1.length + 1) := ⟨_, rfl⟩
    obtain ⟨K, hK⟩ : ∃ K : Nat, K = (max (l0 + xs0.length) (n - l1 + 1) - L).toNat := ⟨_, rfl⟩
    rw [pq_same (L' := L) (K' := K) (off_cf l0 xs0) (Int.le_refl _) (Int.le_refl _) (by omega) (by omega), pq_turn]
    exact pq_same (off_cf l1 xs1) (by omega) (by omega) (Int.le_refl _) (Int.le_refl _)) (inW_cf inW_mulP) (inW_cf inW_mulP)
/-- products are distributed over sums -/
theorem mulP_addP (l0 : Int) (xs0 : List Int) (l1 : Int) (xs1 : List Int) (l2 : Int) (xs2 : List Int) :
    mulP (addP l0 xs0 l1 xs1).1 (addP l0 xs0 l1 xs1).2 l2 xs2 = addP (mulP l0 xs0 l2 xs2).1 (mulP l0 xs0 l2 xs2).2 (mulP l1 xs1 l2 xs2).1 (mulP l1 xs1 l2 xs2).2 :=
  cn_eq (cn_mulP _ _ _ _) (cn_addP _ _ _ _) fun n => mod_eq (by
    rw [cf_mulP, cf_addP, mod_add (cf_mulP l0 xs0 l2 xs2 n) (cf_mulP l1 xs1 l2 xs2 n)]
    obtain ⟨q, hq⟩ : ∃ q, q = addP l0 xs0 l1 xs1 := ⟨_, rfl⟩
    have hc : ∀ m, cf q.1 q.2 m % 18446744073709551616 = (cf l0 xs0 m + cf l1 xs1 m) % 18446744073709551616 := fun m => by rw [hq]; exact cf_addP _ _ _ _ _
    rw [← hq]
    obtain ⟨L, hL⟩ : ∃ L : Int, L = min q.1 (min l0 l1) := ⟨_, rfl⟩
    obtain ⟨K, hK⟩ : ∃ K : Nat, K = (max (q.1 + q.2.length) (max (l0 + xs0.length) (l1 + xs1.length)) - L).toNat := ⟨_, rfl⟩
    rw [pq_same (L' := L) (K' := K) (off_cf q.1 q.2) (Int.le_refl _) (Int.le_refl _) (by omega) (by omega),
      pq_same (L' := L) (K' := K) (off_cf l0 xs0) (Int.le_refl _) (Int.le_refl _) (by omega) (by omega),
      pq_same (L' := L) (K' := K) (off_cf l1 xs1) (Int.le_refl _) (Int.le_refl _) (by omega) (by omega), ← pq_add]
    exact pq_mod hc fun _ => rfl) (inW_cf inW_mulP) (inW_cf (inW_addP inW_mulP inW_mulP))

theorem sumW_fold : ∀ (xs : List Int) (s : Int), xs.foldl (fun s x => wrap64 (s + x)) s % 18446744073709551616 = (s + sm xs.length (fun i => xs.getD i 0)) % 18446744073709551616
  | [], s => by simp [sm]
  | x :: t, s => by
    rw [List.foldl_cons, sumW_fold t, List.length_cons, sm_first]
    have h1 := mod_wrap (s + x)
    have h2 : sm t.length (fun i => (x :: t).getD (i + 1) 0) = sm t.length (fun i => t.getD i 0) := sm_congr fun i _ => rfl
    have h3 : (x :: t).getD 0 0 = x := rfl
    rw [h2, h3, ← Int.add_assoc]
    exact mod_add h1 rfl
theorem sumW_mod (l : Int) (xs : List Int) : sumW xs % 18446744073709551616 = ws l xs.length (cf l xs) % 18446744073709551616 := by
  unfold sumW ws
  rw [sumW_fold, Int.zero_add]
  congr 1
  exact sm_congr fun i _ => (cf_at i).symm
theorem sumW_wrap (xs : List Int) : wrap64 (sumW xs) = sumW xs := by
  unfold sumW
  have : ∀ (xs : List Int) (s : Int), wrap64 s = s → wrap64 (xs.foldl (fun s x => wrap64 (s + x)) s) = xs.foldl (fun s x => wrap64 (s + x)) s := by
    intro xs
    induction xs with
    | nil => intro s h; exact h
    | cons x t ih => intro s _; exact ih _ (wrap_idem _)
  exact this xs 0 wrap_zero
/-- values are multiplied -/
theorem sumW_mulP (l0 : Int) (xs0 : List Int) (l1 : Int) (xs1 : List Int) : sumW (mulP l0 xs0 l1 xs1).2 = wrap64 (sumW xs0 * sumW xs1) :=
  mod_eq (by
    obtain ⟨q, hq⟩ : ∃ q, q = mulP l0 xs0 l1 xs1 := ⟨_, rfl⟩
    have hc : ∀ m, cf q.1 q.2 m % 18446744073709551616 = pq l0 xs0.length (cf l0 xs0) (cf l1 xs1) m % 18446744073709551616 := fun m => by rw [hq]; exact cf_mulP _ _ _ _ _
    rw [← hq, mod_wrap, sumW_mod q.1, mod_mul (sumW_mod l0 xs0) (sumW_mod l1 xs1)]
    obtain ⟨L, hL⟩ : ∃ L : Int, L = min q.1 (l0 + l1) := ⟨_, rfl⟩
    obtain ⟨K, hK⟩ : ∃ K : Nat, K = (max (q.1 + q.2.length) (l0 + xs0.length + l1 + xs1.length) - L).toNat := ⟨_, rfl⟩
    rw [ws_same (L' := L) (K' := K) (off_cf q.1 q.2) (Int.le_refl _) (Int.le_refl _) (by omega) (by omega)]
    have e1 : ws L K (cf q.1 q.2) % 18446744073709551616 = ws L K (pq l0 xs0.length (cf l0 xs0) (cf l1 xs1)) % 18446744073709551616 := sm_mod fun i _ => hc _
    rw [e1]
    congr 1
    unfold pq
    have e2 : ws L K (fun n => ws l0 xs0.length (fun m => cf l0 xs0 m * cf l1 xs1 (n - m))) = sm xs0.length (fun i => sm K (fun j => cf l0 xs0 (l0 + i) * cf l1 xs1 (L + j - (l0 + i)))) := by
      unfold ws
      exact sm_swap (fun j i => cf l0 xs0 (l0 + i) * cf l1 xs1 (L + j - (l0 + i))) K xs0.length
    rw [e2]
    show _ = sm xs0.length (fun i => cf l0 xs0 (l0 + i)) * _
    rw [Int.mul_comm, ← sm_mul]
    refine sm_congr fun i hi => ?_
    rw [sm_mul, Int.mul_comm]
    congr 1
    have : sm K (fun j => cf l1 xs1 (L + j - (l0 + i))) = ws (L - (l0 + i)) K (cf l1 xs1) := by
      unfold ws
      exact sm_congr fun j _ => by congr 1; omega
    rw [this]
    exact ws_same (off_cf l1 xs1) (by omega) (by omega) (Int.le_refl _) (Int.le_refl _)) (sumW_wrap _) (wrap_idem _)
end Go.Proofs.Ytffiejlfnecanaa
