/-
  Plain law of FnDirections: what goes on over and under at a crossing. Conditions: a valid panel.
-/
import Derived.Test.YtmjeafklafjakaaParSum
namespace Go.Proofs.Ytmjeafklafjakaa
set_option linter.unusedVariables false

theorem pm_turn {a b c d s : Int} (ha : a = 1 ∨ a = -1) (hb : b = 1 ∨ b = -1) (hc : c = 1 ∨ c = -1) (hd : d = 1 ∨ d = -1) (h1 : a * b = s) (h2 : c * d = -s) : (a * d = 1 ∧ b * c = -1) ∨ (a * d = -1 ∧ b * c = 1) := by
  rcases ha with rfl | rfl <;> rcases hb with rfl | rfl <;> rcases hc with rfl | rfl <;> rcases hd with rfl | rfl <;> omega
/-- what the law FnDirections asks of a crossing -/
theorem dirs_law {wd ht : Int} {xs : List Int} (hs : Sz wd ht) (hl : (xs.length : Int) = innerN wd ht) {k : Nat} (hk : k < (zTo xs xs.length).length) :
    ∃ (j : Nat) (x y a b c d s t : Int), (zTo xs xs.length)[k]? = some (j : Int) ∧ j < xs.length ∧ pntX wd j = x ∧ pntY wd j = y ∧ OnP wd ht x y ∧ crossB wd ht xs x y = true ∧ (dirL wd ht xs true)[k]? = some ⟨x, y, a, b⟩ ∧ (dirL wd ht xs false)[k]? = some ⟨x, y, c, d⟩ ∧
      OkW wd ht ⟨x, y, a, b⟩ ∧ OkW wd ht ⟨x, y, c, d⟩ ∧ slopeI x = s ∧ a * b = s ∧ c * d = -s ∧ (sgL wd ht xs)[k]? = some t ∧ ((a * d = 1 ∧ b * c = -1 ∧ t = 1) ∨ (a * d = -1 ∧ b * c = 1 ∧ t = -1)) := by
  obtain ⟨j, hj, h0, hjk⟩ := zTo_find hk
  obtain ⟨hp, he, hn, _, _⟩ := pnt_facts hs (k := j) (by omega)
  have hz := zTo_at h0 hj
  rw [hjk] at hz
  have way : ∀ bb : Bool, ∃ a b : Int, (dirL wd ht xs bb)[k]? = some ⟨pntX wd j, pntY wd j, a, b⟩ ∧ OkW wd ht ⟨pntX wd j, pntY wd j, a, b⟩ ∧ (slopeI (pntX wd j) = a * b ↔ bb = true) := by
    intro bb
    obtain ⟨i, c, a, hc, ha, hok, hcr, hov, hix, hd, ho⟩ := dir_spec (b := bb) hs hl hk
    obtain ⟨j2, e1, e2, e3⟩ := num_cross hs hl hok.2.2.2 hcr
    have hjj : j2 = j := by
      have hu : (zTo xs j2).length = (zTo xs j).length := by
        rw [hjk, ← hix]
        unfold idxW
        rw [e1]
        rfl
      by_cases hlt : j2 < j
      · have := zTo_lt e3 hlt; omega
      · by_cases hgt : j < j2
        · have := zTo_lt h0 hgt; omega
        · omega
    subst hjj
    have q1 := pnt_num hs hok.2.2.2 (cross_iff.1 hcr).1 e1
    have qx : pntX wd j2 = a.nx := congrArg Prod.fst q1
    have qy : pntY wd j2 = a.ny := congrArg Prod.snd q1
    rw [qx, qy]
    have hst := step_cross (wd := wd) (ht := ht) (xs := xs) hcr
    refine ⟨a.dx, a.dy, by rw [hd, hst], by rw [← hst]; exact okW_step hok, ?_⟩
    unfold overB at hov
    rw [← hov]
    simp
  obtain ⟨a, b, d1, o1, s1⟩ := way true
  obtain ⟨c, d, d2, o2, s2⟩ := way false
  have hsl := slope_pm (pntX wd j)
  have ha := o1.1
  have hb := o1.2.1
  have hc := o2.1
  have hd := o2.2.1
  simp only at ha hb hc hd
  have e1 : a * b = slopeI (pntX wd j) := (s1.2 rfl).symm
  have e2 : c * d = -slopeI (pntX wd j) := by
    have h1 : ¬ slopeI (pntX wd j) = c * d := fun e => by simpa using s2.1 e
    have h2 : c * d = 1 ∨ c * d = -1 := by rcases hc with rfl | rfl <;> rcases hd with rfl | rfl <;> omega
    omega
  have hcr : crossB wd ht xs (pntX wd j) (pntY wd j) = true := cross_iff.2 ⟨he, by
    unfold kindI
    rw [if_neg he, hn]
    exact h0⟩
  refine ⟨j, pntX wd j, pntY wd j, a, b, c, d, slopeI (pntX wd j), _, hz, hj, rfl, rfl, hp, hcr, d1, d2, o1, o2, rfl, e1, e2, sgL_at d1 d2, ?_⟩
  unfold sgW
  simp only
  rcases pm_turn ha hb hc hd e1 e2 with ⟨h1, h2⟩ | ⟨h1, h2⟩
  · exact .inl ⟨h1, h2, by rw [if_pos (by rw [h1, h2]; omega)]⟩
  · exact .inr ⟨h1, h2, by rw [if_neg (by rw [h1, h2]; omega)]⟩
end Go.Proofs.Ytmjeafklafjakaa
