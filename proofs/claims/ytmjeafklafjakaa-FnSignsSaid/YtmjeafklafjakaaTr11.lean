/-
  Contract: the walkers that go on at all crossings, of the reference. Conditions: a valid panel's sides and breaks.
-/
import Derived.Test.YtmjeafklafjakaaTr10
import Derived.Deep.LoopGhost
import Derived.Deep.DeepCutAuto
namespace Go.Proofs.Ytmjeafklafjakaa
open Go.RowKit
set_option linter.unusedVariables false

section
variable {w w0 : World} {b : Nat} {o0 o1 o2 o3 : Nat} {u0 u1 u2 u3 : Value}
theorem Bx.far4 {b' : Nat} {t : TypeId} {cs : Array Value} (h : Bx w b' t cs) (hne : b' ≠ b) : Bx ((((w.setCell ⟨b, o0, none⟩ u0).setCell ⟨b, o1, none⟩ u1).setCell ⟨b, o2, none⟩ u2).setCell ⟨b, o3, none⟩ u3) b' t cs :=
  (((h.far (p := ⟨b, o0, none⟩) hne u0).far (p := ⟨b, o1, none⟩) hne u1).far (p := ⟨b, o2, none⟩) hne u2).far (p := ⟨b, o3, none⟩) hne u3
theorem Bx.put4 {t : TypeId} {v0 v1 v2 v3 : Value} (h : Bx w b t #[v0, v1, v2, v3]) : Bx ((((w.setCell ⟨b, 0, none⟩ u0).setCell ⟨b, 1, none⟩ u1).setCell ⟨b, 2, none⟩ u2).setCell ⟨b, 3, none⟩ u3) b t #[u0, u1, u2, u3] :=
  (((h.set_ 0 u0).set_ 1 u1).set_ 2 u2).set_ 3 u3
theorem Own.far4 {α : Type} {E : El α} {base : Nat} {A : Option Addr} {c : Nat} {xs : List α} (h : Own E w base A c xs) (hne : blk A ≠ some b) : Own E ((((w.setCell ⟨b, o0, none⟩ u0).setCell ⟨b, o1, none⟩ u1).setCell ⟨b, o2, none⟩ u2).setCell ⟨b, o3, none⟩ u3) base A c xs :=
  (((h.setFar (p := ⟨b, o0, none⟩) hne u0).setFar (p := ⟨b, o1, none⟩) hne u1).setFar (p := ⟨b, o2, none⟩) hne u2).setFar (p := ⟨b, o3, none⟩) hne u3
theorem below_put4 {B : Nat} (h : Below B w0 w) (hb : B ≤ b) : Below B w0 ((((w.setCell ⟨b, o0, none⟩ u0).setCell ⟨b, o1, none⟩ u1).setCell ⟨b, o2, none⟩ u2).setCell ⟨b, o3, none⟩ u3) :=
  (((h.setCell (p := ⟨b, o0, none⟩) hb u0).setCell (p := ⟨b, o1, none⟩) hb u1).setCell (p := ⟨b, o2, none⟩) hb u2).setCell (p := ⟨b, o3, none⟩) hb u3
end
theorem list_set_set {α : Type} (l : List α) (k : Nat) (x y : α) : (l.set k x).set k y = l.set k y := by simp
/-- a walker laid into a row -/
theorem Own.putWk {w : World} {base g c : Nat} {l : List Wk} (h : Own wkE w base (some ⟨g, 0, none⟩) c l) {k : Nat} (hk : k < l.length) (x y u v : Int) :
    Own wkE ((((w.setCell ⟨g, k * 4, none⟩ (.int .i64 x)).setCell ⟨g, k * 4 + 1, none⟩ (.int .i64 y)).setCell ⟨g, k * 4 + 2, none⟩ (.int .i64 u)).setCell ⟨g, k * 4 + 3, none⟩ (.int .i64 v)) base (some ⟨g, 0, none⟩) c (l.set k ⟨x, y, u, v⟩) := by
  have hx : l[k]? = some l[k] := List.getElem?_eq_getElem hk
  have h1 := (h.put (k := k) (j := 0) (x := l[k]) (y := ⟨x, l[k].y, l[k].dx, l[k].dy⟩) (u := .int .i64 x) hx (by simp [wkE]) rfl).1
  have h2 := (h1.put (k := k) (j := 1) (x := ⟨x, l[k].y, l[k].dx, l[k].dy⟩) (y := ⟨x, y, l[k].dx, l[k].dy⟩) (u := .int .i64 y) (by rw [List.getElem?_set_self hk]) (by simp [wkE]) rfl).1
  rw [list_set_set] at h2
  have h3 := (h2.put (k := k) (j := 2) (x := ⟨x, y, l[k].dx, l[k].dy⟩) (y := ⟨x, y, u, l[k].dy⟩) (u := .int .i64 u) (by rw [List.getElem?_set_self hk]) (by simp [wkE]) rfl).1
  rw [list_set_set] at h3
  have h4 := (h3.put (k := k) (j := 3) (x := ⟨x, y, u, l[k].dy⟩) (y := ⟨x, y, u, v⟩) (u := .int .i64 v) (by rw [List.getElem?_set_self hk]) (by simp [wkE]) rfl).1
  rw [list_set_set] at h4
  exact h4
section
variable {wd ht : Int} {xs : List Int} {b : Bool}
theorem putD_hit {c : Int} {st : List Wk × List Int} {a : Wk} (h1 : crossB wd ht xs a.nx a.ny = true) (h2 : overB a = b) : putD wd ht xs b c st a = (st.1.set (idxW wd xs a) (stepW wd ht xs a), st.2.set (idxW wd xs a) c) := by
  rw [putD, if_pos ⟨h1, h2⟩, step_cross h1]
theorem putD_no {c : Int} {st : List Wk × List Int} {a : Wk} (h1 : crossB wd ht xs a.nx a.ny = false) : putD wd ht xs b c st a = st := by
  rw [putD, if_neg (fun h => by rw [h1] at h; cases h.1)]
theorem putD_other {c : Int} {st : List Wk × List Int} {a : Wk} (h2 : overB a ≠ b) : putD wd ht xs b c st a = st := by
  rw [putD, if_neg (fun h => h2 h.2)]
theorem putD_len {c : Int} {st : List Wk × List Int} {a : Wk} : (putD wd ht xs b c st a).1.length = st.1.length ∧ (putD wd ht xs b c st a).2.length = st.2.length := by
  unfold putD
  split <;> simp
theorem rowD_len {c : Int} : ∀ (cur : List Wk) (st : List Wk × List Int), (rowD wd ht xs b c st cur).1.length = st.1.length ∧ (rowD wd ht xs b c st cur).2.length = st.2.length
  | [], st => ⟨rfl, rfl⟩
  | x :: t, st => by
    have h1 := rowD_len (c := c) t (putD wd ht xs b c st x)
    have h2 := putD_len (wd := wd) (ht := ht) (xs := xs) (b := b) (c := c) (st := st) (a := x)
    exact ⟨h1.1.trans h2.1, h1.2.trans h2.2⟩
theorem toD_len : ∀ i, (toD wd ht xs b i).1.length = (zTo xs xs.length).length ∧ (toD wd ht xs b i).2.length = (zTo xs xs.length).length
  | 0 => by simp [toD]
  | i + 1 => by
    have h := toD_len i
    have h1 := rowD_len (wd := wd) (ht := ht) (xs := xs) (b := b) (c := (i : Int)) ((curL wd ht xs).getD i []) (toD wd ht xs b i)
    rw [toD]
    exact ⟨h1.1.trans h.1, h1.2.trans h.2⟩
end
/-- What l17At hands back: who goes on over and under. -/
def RetAt (wd ht : Int) (xs : List Int) (w : World) (e : Ending) (w' : World) : Prop :=
  ∃ A c B d, e = .returned (.tuple #[.slice A (dirL wd ht xs true).length c, .slice B (dirL wd ht xs false).length d]) ∧ Own wkE w' w.heap.size A c (dirL wd ht xs true) ∧ Own wkE w' w.heap.size B d (dirL wd ht xs false) ∧ Below w.heap.size w w'

end Go.Proofs.Ytmjeafklafjakaa
