/-
  Contract: the walkers that go on at all crossings, of the reference. Conditions: a valid panel's sides and breaks.
-/
import Derived.Test.YtjlifbdaieblpaaGreatTr10
import Derived.Deep.LoopGhost
import Derived.Deep.DeepCutAuto
namespace Go.Proofs.YtjlifbdaieblpaaGreat
open Go.RowKit
set_option linter.unusedVariables false

section
variable {w w0 : World} {b : Nat} {o0 o1 o2 o3 : Nat} {u0 u1 u2 u3 : Value}
theorem Bx.far4 {b' : Nat} {t : TypeId} {cs : Array Value} (h : Bx w b' t cs) (hne : b' ≠ b) : Bx ((((w.setCell ⟨b, o0, none⟩ u0).setCell ⟨b, o1, none⟩ u1).setCell ⟨b, o2, none⟩ u2).setCell ⟨b, o3, none⟩ u3) b' t cs :=
  (((h.far (p := ⟨b, o0, none⟩) hne u0).far (p := ⟨b, o1, none⟩) hne u1).far (p := ⟨b, o2, none⟩) hne u2).far (p := ⟨b, o3, none⟩) hne u3
theorem Bx.put4 {t : TypeId} {v0 v1 v2 v3 : Value} (h : Bx w b t #[v0, v1, v2, v3]) : Bx ((((w.setCell ⟨b, 0, none⟩ u0).setCell ⟨b, 1, none⟩ u1).setCell ⟨b, 2, none⟩ u2).setCell ⟨b, 3, none⟩ u3) b t #[u0, u1, u2, u3] :=
  (((h.set_ 0 u0).set_ 1 u1).set_ 2 u2).set_ 3 u3
theorem Own.far4 {α : Type} {E : El α} {base : Nat} {A : Option Addr} {c : Nat} {xs : List α} (h : Own E w base A c xs) (hne : blk A ≠ some b) : Own E ((((w.setCell ⟨b, o0, none⟩ u0).setCell ⟨b, o1, none⟩ u1).setCell ⟨b, o2, none⟩ u2).setCell ⟨b, o3, none⟩ u3) base A c xs :=
  (((h.setFar (p := ⟨b, o0, none⟩) hne u0).setFar (p := ⟨b, o1, none⟩) hne u1).setFar (p := ⟨b, o2, none⟩) hne u2).setFar (p := ⟨b, o3, none⟩) hne u3
theorem below_put4 {B : Nat} (h : Below B w0 w) (hb : B ≤ b) : Below B w0 ((((w.setCell ⟨b, o0, none⟩ u0).setCell ⟨b, o1, none⟩ u1).setCell ⟨b, o2, none⟩ u2).setCell ⟨b, o3, none⟩ u3) :=
  (((h.setCell (p := ⟨b, o0, none⟩) hb u0).setCell (p := ⟨b, o1, none⟩) hb u1).setCell (p := ⟨b, o2, none⟩) hb u2).setCell (p := ⟨b, o3, none⟩) hb u3
end
theorem list_set_set {α : Type} (l : List α) (k : Nat) (x y : α) : (l.set k x).set k y = l.set k y := by simp
/-- a walker laid into a row -/
theorem Own.putWk {w : World} {base g c : Nat} {l : List Wk} (h : Own wkE w base (some ⟨g, 0, none⟩) c l) {k : Nat} (hk : k < l.length) (x y u v : Int) :
    Own wkE ((((w.setCell ⟨g, k * 4, none⟩ (.int .i64 x)).setCell ⟨g, k * 4 + 1, none⟩ (.int .i64 y)).setCell ⟨g, k * 4 + 2, none⟩ (.int .i64 u)).setCell ⟨g, k * 4 + 3, none⟩ (.int .i64 v)) base (some ⟨g, 0, none⟩) c (l.set k ⟨x, y, u, v⟩) := by
  have hx : l[k]? = some l[k] := List.getElem?_eq_getElem hk
  have h1 := (h.put (k := k) (j := 0) (x := l[k]) (y := ⟨x, l[k].y, l[k].dx, l[k].dy⟩) (u := .int .i64 x) hx (by simp [wkE]) rfl).1
  have h2 := (h1.put (k := k) (j := 1) (x := ⟨x, l[k].y, l[k].dx, l[k].dy⟩) (y := ⟨x, y, l[k].dx, l[k].dy⟩) (u := .int .i64 y) (by rw [List.getElem?_set_self hk]) (by simp [wkE]) rfl).1
  rw [list_set_set] at h2
  have h3 := (h2.put (k := k) (j := 2) (x := ⟨x, y, l[k].dx, l[k].dy⟩) (y := ⟨x, y, u, l[k].dy⟩) (u := .int .i64 u) (by rw [List.getElem?_set_self hk]) (by simp [wkE]) rfl).1
  rw [list_set_set] at h3
  have h4 := (h3.put (k := k) (j := 3) (x := ⟨x, y, u, l[k].dy⟩) (y := ⟨x, y, u, v⟩) (u := .int .i64 v) (by rw [List.getElem?_set_self hk]) (by simp [wkE]) rfl).1
  rw [list_set_set] at h4
  exact h4
section
variable {wd ht : Int} {xs : List Int} {b : Bool}
theorem putD_hit {c : Int} {st : List Wk × List Int} {a : Wk} (h1 : crossB wd ht xs a.nx a.ny = true) (h2 : overB a = b) : putD wd ht xs b c st a = (st.1.set (idxW wd xs a) (stepW wd ht xs a), st.2.set (idxW wd xs a) c) := by
  rw [putD, if_pos ⟨h1, h2⟩, step_cross h1]
theorem putD_no {c : Int} {st : List Wk × List Int} {a : Wk} (h1 : crossB wd ht xs a.nx a.ny = false) : putD wd ht xs b c st a = st := by
  rw [putD, if_neg (fun h => by rw [h1] at h; cases h.1)]
theorem putD_other {c : Int} {st : List Wk × List Int} {a : Wk} (h2 : overB a ≠ b) : putD wd ht xs b c st a = st := by
  rw [putD, if_neg (fun h => h2 h.2)]
theorem putD_len {c : Int} {st : List Wk × List Int} {a : Wk} : (putD wd ht xs b c st a).1.length = st.1.length ∧ (putD wd ht xs b c st a).2.length = st.2.length := by
  unfold putD
  split <;> simp
theorem rowD_len {c : Int} : ∀ (cur : List Wk) (st : List Wk × List Int), (rowD wd ht xs b c st cur).1.length = st.1.length ∧ (rowD wd ht xs b c st cur).2.length = st.2.length
  | [], st => ⟨rfl, rfl⟩
  | x :: t, st => by
    have h1 := rowD_len (c := c) t (putD wd ht xs b c st x)
    have h2 := putD_len (wd := wd) (ht := ht) (xs := xs) (b := b) (c := c) (st := st) (a := x)
    exact ⟨h1.1.trans h2.1, h1.2.trans h2.2⟩
theorem toD_len : ∀ i, (toD wd ht xs b i).1.length = (zTo xs xs.length).length ∧ (toD wd ht xs b i).2.length = (zTo xs xs.length).length
  | 0 => by simp [toD]
  | i + 1 => by
    have h := toD_len i
    have h1 := rowD_len (wd := wd) (ht := ht) (xs := xs) (b := b) (c := (i : Int)) ((curL wd ht xs).getD i []) (toD wd ht xs b i)
    rw [toD]
    exact ⟨h1.1.trans h.1, h1.2.trans h.2⟩
end
/-- What l17At hands back: who goes on over and under. -/
def RetAt (wd ht : Int) (xs : List Int) (w : World) (e : Ending) (w' : World) : Prop :=
  ∃ A c B d, e = .returned (.tuple #[.slice A (dirL wd ht xs true).length c, .slice B (dirL wd ht xs false).length d]) ∧ Own wkE w' w.heap.size A c (dirL wd ht xs true) ∧ Own wkE w' w.heap.size B d (dirL wd ht xs false) ∧ Below w.heap.size w w'

set_option maxRecDepth 20000 in
set_option maxHeartbeats 8000000 in
theorem l17At_any (b0 : Nat) (wd ht : Int) (A : Option Addr) (c : Nat) (xs : List Int) (w : World) (hp : PA w b0 wd ht A c xs) (hs : Sz wd ht) (hl : (xs.length : Int) = innerN wd ht) (hn : xs.length ≤ 1048576) :
    Calls Tryz.prog 55 #[.pointer (some ⟨b0, 0, none⟩)] w (RetAt wd ht xs w) := by
  have hcl : (curL wd ht xs).length ≤ 256 := by have h1 := (trInv_all (xs := xs) hs).cnt; have h2 := nSeg_int hs; simp only at h1; omega
  have HL := hide hl
  have HS := hide hs
  obtain ⟨n, hnn⟩ : ∃ n, n = (zTo xs xs.length).length := ⟨_, rfl⟩
  have HNN := hide hnn
  have hnl : n ≤ 1048576 := by have := zTo_len xs xs.length; omega
  have hmk : ∀ W : World, (Instr.makeSlice 73 (.int .i64 (n : Int)) (.int .i64 (n : Int))).run Tryz.prog W = .ok (.slice (some ⟨W.heap.size, 0, none⟩) n n) (W.alloc (.cells (madeCells #[.int .i64 0, .int .i64 0, .int .i64 0, .int .i64 0] (n * 4)) 79)) := fun W => wkE.run_make n (by simp [wkE]; omega) (by omega) W
  have HALL := hide (l13All_any b0 wd ht A c xs w hp hn)
  clear hs hl hnn
  go_enter Tryz.func55, Tryz.ntmps55
  go_wp2_with fail
  refine HALL.out.mono ?_
  rintro e w1 ⟨A1, c1, rfl, own1, hb1⟩
  rw [← HNN.out]
  clear own1
  have hz1 := hb1.size
  have ov1 : Own wkE (w1.alloc (.cells (madeCells #[.int .i64 0, .int .i64 0, .int .i64 0, .int .i64 0] (n * 4)) 79)) w.heap.size (some ⟨w1.heap.size, 0, none⟩) n (List.replicate n zW) := Own.made (E := wkE) w1 w1.heap.size (m := n) zW rfl rfl hz1 (by omega)
  have un1 : Own wkE ((w1.alloc (.cells (madeCells #[.int .i64 0, .int .i64 0, .int .i64 0, .int .i64 0] (n * 4)) 79)).alloc (.cells (madeCells #[.int .i64 0, .int .i64 0, .int .i64 0, .int .i64 0] (n * 4)) 79)) w.heap.size (some ⟨w1.heap.size + 1, 0, none⟩) n (List.replicate n zW) := Own.made (E := wkE) (w1.alloc (.cells (madeCells #[.int .i64 0, .int .i64 0, .int .i64 0, .int .i64 0] (n * 4)) 79)) (w1.heap.size + 1) (m := n) zW rfl (by simp) (by simp; omega) (by omega)
  have ov2 := ov1.alloc (.cells (madeCells #[.int .i64 0, .int .i64 0, .int .i64 0, .int .i64 0] (n * 4)) 79)
  have hB2 := (hb1.alloc hz1 (.cells (madeCells #[.int .i64 0, .int .i64 0, .int .i64 0, .int .i64 0] (n * 4)) 79)).alloc (by simp; omega) (.cells (madeCells #[.int .i64 0, .int .i64 0, .int .i64 0, .int .i64 0] (n * 4)) 79)
  have hz2 : w1.heap.size + 2 ≤ ((w1.alloc (.cells (madeCells #[.int .i64 0, .int .i64 0, .int .i64 0, .int .i64 0] (n * 4)) 79)).alloc (.cells (madeCells #[.int .i64 0, .int .i64 0, .int .i64 0, .int .i64 0] (n * 4)) 79)).heap.size := by simp
  clear ov1
  have HCNT := hide (l04Count_any b0 wd ht A c xs _ (hp.below hB2) HS.out HL.out)
  go_wp2_with fail
  refine HCNT.out.mono ?_
  rintro e w3 ⟨rfl, hb3⟩
  have ov3 := ov2.below hb3
  have un3 := un1.below hb3
  have hB3 := hB2.trans (hb3.mono (by simp; omega))
  have hz3 := Nat.le_trans hz2 hb3.size
  have e1 : (toD wd ht xs true 0).1 = List.replicate n zW := by rw [toD, HNN.out]
  have e2 : (toD wd ht xs false 0).1 = List.replicate n zW := by rw [toD, HNN.out]
  rw [← e1] at ov3
  rw [← e2] at un3
  obtain ⟨K, hK⟩ : ∃ K, K = (curL wd ht xs).length := ⟨_, rfl⟩
  have HK := hide hK
  rw [← HK.out]
  have hKl : K ≤ 256 := by omega
  clear e1 e2 ov2 un1 hB2 hz2 hb1 hb3 hcl hK HALL HCNT hmk
  go_wp2_with fail
  go_loopw [8] (fun iv wr => ∃ (i : Nat), i ≤ K ∧ iv = .int .i64 (i : Int) ∧ Own wkE wr w.heap.size (some ⟨w1.heap.size, 0, none⟩) n (toD wd ht xs true i).1 ∧ Own wkE wr w.heap.size (some ⟨w1.heap.size + 1, 0, none⟩) n (toD wd ht xs false i).1 ∧ w1.heap.size + 2 ≤ wr.heap.size ∧ Below w.heap.size w wr) (fun iv _ => K - (intOf iv).toNat)
  case atStart => exact ⟨0, Nat.zero_le _, rfl, ov3, un3, hz3, hB3⟩
  case round =>
    clear ov3 un3 hz3 hB3
    obtain ⟨wo, rfl⟩ : ∃ wo, wo = wr := ⟨_, rfl⟩
    obtain ⟨i, hi, rfl, ov, un, hz, hB⟩ := hrel
    by_cases hlt : i < K
    · have hc : (curL wd ht xs)[i]? = some ((curL wd ht xs)[i]'(by rw [← HK.out]; exact hlt)) := List.getElem?_eq_getElem _
      obtain ⟨j, hj, hcj, hoj, hmin⟩ := (trInv_all (xs := xs) HS.out).start i _ hc
      rw [hcj] at hc
      have hwk := (walkK_ok HS.out hj).1
      have hper := per_spec (xs := xs) HS.out hwk
      have HNT := hide (fun b => toD_next (b := b) hc)
      have HSTART := hide (fun (W : World) (hb : Below w.heap.size w W) => l13Start_any b0 wd ht A c xs i j W (hp.below hb) HS.out HL.out hj hoj hmin (by omega))
      have HOK := hide (okW_it (xs := xs) hwk)
      have HAT := hide (fun i hi => orbW_at (wd := wd) (ht := ht) (xs := xs) (walkK ht j) (i := i) hi)
      have HOL := hide (orbW_len (wd := wd) (ht := ht) (xs := xs) (walkK ht j))
      have hn2 := (nSeg_int HS.out).2.1
      obtain ⟨a, ha⟩ : ∃ a, a = walkK ht j := ⟨_, rfl⟩
      rw [← ha] at hper HNT HSTART HOK HAT HOL
      obtain ⟨P, hP⟩ : ∃ P, P = perW wd ht xs a := ⟨_, rfl⟩
      rw [← hP] at hper HAT HOL
      obtain ⟨orb, ho⟩ : ∃ o, o = orbW wd ht xs a := ⟨_, rfl⟩
      rw [← ho] at HNT HAT HOL
      obtain ⟨p1, p2, p3, p4⟩ := hper
      have HP := hide p2
      have HNE := hide p4
      have hP2 : P ≤ 256 := by omega
      clear ha hP ho p2 p3 p4 hwk hoj hmin hcj hc hn2
      go_wp2_with fail
      refine ((HSTART.out _ hB)).mono ?_
      rintro e w3 ⟨rfl, hb3⟩
      have ov_3 := (ov).below hb3
      have un_3 := (un).below hb3
      have z_3 : wo.heap.size ≤ w3.heap.size := hb3.size
      have B_3 := (Below.refl wo.heap.size wo).trans (hb3.mono (by first | omega | (simp; omega) | simp))
      obtain ⟨wka_x1, wkb_x1, wkc_x1, wkd_x1⟩ := (Bx.new_ w3 (w3.heap.size) 79 #[.int .i64 a.x, .int .i64 a.y, .int .i64 a.dx, .int .i64 a.dy] (by simp)).four
      have ov4 := (((ov_3).alloc (.cells #[.int .i64 a.x, .int .i64 a.y, .int .i64 a.dx, .int .i64 a.dy] 79)).alloc (.cells #[.int .i64 a.x, .int .i64 a.y, .int .i64 a.dx, .int .i64 a.dy] 79))
      have un4 := (((un_3).alloc (.cells #[.int .i64 a.x, .int .i64 a.y, .int .i64 a.dx, .int .i64 a.dy] 79)).alloc (.cells #[.int .i64 a.x, .int .i64 a.y, .int .i64 a.dx, .int .i64 a.dy] 79))
      have wk4 := ((Bx.new_ w3 (w3.heap.size) 79 #[.int .i64 a.x, .int .i64 a.y, .int .i64 a.dx, .int .i64 a.dy] (by simp)).alloc (.cells #[.int .i64 a.x, .int .i64 a.y, .int .i64 a.dx, .int .i64 a.dy] 79))
      have x4 := (Bx.new_ (w3.alloc (.cells #[.int .i64 a.x, .int .i64 a.y, .int .i64 a.dx, .int .i64 a.dy] 79)) (w3.heap.size + 1) 79 #[.int .i64 a.x, .int .i64 a.y, .int .i64 a.dx, .int .i64 a.dy] (by simp))
      have hB4 := hB.trans (((((B_3).alloc (by first | omega | (simp; omega) | simp) (.cells #[.int .i64 a.x, .int .i64 a.y, .int .i64 a.dx, .int .i64 a.dy] 79)).alloc (by first | omega | (simp; omega) | simp) (.cells #[.int .i64 a.x, .int .i64 a.y, .int .i64 a.dx, .int .i64 a.dy] 79))).mono (by omega))
      have hz4 : w3.heap.size + 2 ≤ (((w3.alloc (.cells #[.int .i64 a.x, .int .i64 a.y, .int .i64 a.dx, .int .i64 a.dy] 79)).alloc (.cells #[.int .i64 a.x, .int .i64 a.y, .int .i64 a.dx, .int .i64 a.dy] 79))).heap.size := by simp
      have hz5 : w1.heap.size + 2 ≤ w3.heap.size := by omega
      clear ov un ov_3 un_3 hB hb3
      go_wp2_with fail
      go_loopg [12] P (fun g fv wr => ∃ (m : Nat) (fb : Bool), m + g = P ∧ fv = .bool fb ∧ Hid (fb = decide (m = 0)) ∧ Bx wr w3.heap.size 79 #[.int .i64 a.x, .int .i64 a.y, .int .i64 a.dx, .int .i64 a.dy] ∧ Bx wr (w3.heap.size + 1) 79 #[.int .i64 (itW wd ht xs m a).x, .int .i64 (itW wd ht xs m a).y, .int .i64 (itW wd ht xs m a).dx, .int .i64 (itW wd ht xs m a).dy] ∧
          Own wkE wr w.heap.size (some ⟨w1.heap.size, 0, none⟩) n (rowD wd ht xs true (i : Int) (toD wd ht xs true i) (orb.take m)).1 ∧ Own wkE wr w.heap.size (some ⟨w1.heap.size + 1, 0, none⟩) n (rowD wd ht xs false (i : Int) (toD wd ht xs false i) (orb.take m)).1 ∧ w3.heap.size + 2 ≤ wr.heap.size ∧ Below w.heap.size w wr)
      case atStart => exact ⟨0, true, by omega, rfl, hide rfl, wk4, x4, ov4, un4, hz4, hB4⟩
      case round =>
        clear ov4 un4 wk4 x4 hB4 hz4
        obtain ⟨m, fb, hmg, rfl, hfb, hwk, hx, ov, un, hz4, hB⟩ := hrel
        have hzB := hB.size
        obtain ⟨x, hxx⟩ : ∃ x, x = itW wd ht xs m a := ⟨_, rfl⟩
        rw [← hxx] at hx
        have hok : OkW wd ht x := by rw [hxx]; exact HOK.out m
        have HX := hide hxx
        obtain ⟨xa_0, xb_0, xc_0, xd_0⟩ := hx.four
        obtain ⟨wa_0, wb_0, wc_0, wd_0⟩ := hwk.four
        clear hxx
        by_cases hlt2 : m < P
        · have hcase : fb = true ∨ (fb = false ∧ ¬ (x.x = a.x ∧ x.y = a.y ∧ x.dx = a.dx ∧ x.dy = a.dy)) := by
            by_cases h0 : m = 0
            · exact .inl (by rw [hfb.out, h0]; rfl)
            · refine .inr ⟨by rw [hfb.out]; simpa using h0, wk_ne ?_⟩
              rw [HX.out]
              exact HNE.out m (by omega) hlt2
          have HRT := hide (fun b => rowD_next (wd := wd) (ht := ht) (xs := xs) (b := b) (c := (i : Int)) (st := toD wd ht xs b i) (HAT.out m hlt2))
          rw [← HX.out] at HRT
          have HRL := hide (fun b => (rowD_len (wd := wd) (ht := ht) (xs := xs) (b := b) (c := (i : Int)) (orb.take m) (toD wd ht xs b i)).1.trans (by rw [(toD_len i).1, ← HNN.out] : (toD wd ht xs b i).1.length = n))
          have HNEXT := hide (fun (W : World) => l03Next_any wd ht x W HS.out hok)
          have HSTEP := hide (fun (W : World) (hb : Below w.heap.size w W) => l03Step_any b0 wd ht A c xs x W (hp.below hb) HS.out HL.out hok)
          have HIS := hide (fun (W : World) (hb : Below w.heap.size w W) => l13Is_any b0 wd ht x.nx x.ny A c xs W (hp.below hb) HS.out HL.out hok.2.2.2)
          have HIX : Hid (crossB wd ht xs x.nx x.ny = true → ∀ (W : World) (hb : Below w.heap.size w W), Calls Tryz.prog 86 #[.pointer (some ⟨b0, 0, none⟩), .agg #[.int .i64 x.nx, .int .i64 x.ny]] W (RetV W (.int .i64 ((idxW wd xs x : Nat) : Int)))) := hide (fun hcr W hb => l13Index_any b0 wd ht x.nx x.ny A c xs W (hp.below hb) HS.out HL.out hn hok.2.2.2 (cross_iff.1 hcr).1)
          have HIL : Hid (crossB wd ht xs x.nx x.ny = true → idxW wd xs x < n) := hide (fun hcr => by rw [HNN.out]; exact idx_lt HS.out HL.out hok hcr)
          have HOV := hide (fun (W : World) => l13Over_any wd ht x W HS.out hok)
          rcases hcase with rfl | ⟨rfl, hne⟩
          case' inr => have hneq := fun W => run_neq_wk hne W
          all_goals
            go_wp2_with fail
            refine ((HNEXT.out _)).mono ?_
            rintro e w4 ⟨rfl, hb4⟩
            have ov_4 := (ov).below hb4
            have un_4 := (un).below hb4
            have hwk_4 := (hwk).below hb4
            have hx_4 := (hx).below hb4
            have z_4 : wr.heap.size ≤ w4.heap.size := hb4.size
            have B_4 := (Below.refl wr.heap.size wr).trans (hb4.mono (by first | omega | (simp; omega) | simp))
            obtain ⟨xa_4, xb_4, xc_4, xd_4⟩ := (((hx_4).alloc (.cells #[.int .i64 x.nx, .int .i64 x.ny] 77))).four
            clear xa_0 xb_0 xc_0 xd_0 wa_0 wb_0 wc_0 wd_0
            go_wp2_with fail
            refine ((HSTEP.out _ (hB.trans ((((B_4).alloc (by first | omega | (simp; omega) | simp) (.cells #[.int .i64 x.nx, .int .i64 x.ny] 77))).mono (by omega))))).mono ?_
            rintro e w5 ⟨rfl, hb5⟩
            have ov_5 := ((ov_4).alloc (.cells #[.int .i64 x.nx, .int .i64 x.ny] 77)).below hb5
            have un_5 := ((un_4).alloc (.cells #[.int .i64 x.nx, .int .i64 x.ny] 77)).below hb5
            have hwk_5 := ((hwk_4).alloc (.cells #[.int .i64 x.nx, .int .i64 x.ny] 77)).below hb5
            have hx_5 := ((hx_4).alloc (.cells #[.int .i64 x.nx, .int .i64 x.ny] 77)).below hb5
            have at_5 := (Bx.new_ w4 (w4.heap.size) 77 #[.int .i64 x.nx, .int .i64 x.ny] (by simp)).below hb5
            obtain ⟨ata_5, atb_5⟩ := (at_5).two
            have z_5 : (w4.alloc (.cells #[.int .i64 x.nx, .int .i64 x.ny] 77)).heap.size ≤ w5.heap.size := hb5.size
            simp only [World.size_alloc] at z_5
            have B_5 := ((B_4).alloc (by first | omega | (simp; omega) | simp) (.cells #[.int .i64 x.nx, .int .i64 x.ny] 77)).trans (hb5.mono (by first | omega | (simp; omega) | simp))
            obtain ⟨ata_x1, atb_x1⟩ := ((at_5).alloc (.cells #[.int .i64 x.nx, .int .i64 x.ny, .int .i64 (stepW wd ht xs x).dx, .int .i64 (stepW wd ht xs x).dy] 79)).two
            go_wp2_with fail
            refine ((HIS.out _ (hB.trans ((((B_5).alloc (by first | omega | (simp; omega) | simp) (.cells #[.int .i64 x.nx, .int .i64 x.ny, .int .i64 (stepW wd ht xs x).dx, .int .i64 (stepW wd ht xs x).dy] 79))).mono (by omega))))).mono ?_
            rintro e w6 ⟨rfl, hb6⟩
            have ov_6 := ((ov_5).alloc (.cells #[.int .i64 x.nx, .int .i64 x.ny, .int .i64 (stepW wd ht xs x).dx, .int .i64 (stepW wd ht xs x).dy] 79)).below hb6
            have un_6 := ((un_5).alloc (.cells #[.int .i64 x.nx, .int .i64 x.ny, .int .i64 (stepW wd ht xs x).dx, .int .i64 (stepW wd ht xs x).dy] 79)).below hb6
            have hwk_6 := ((hwk_5).alloc (.cells #[.int .i64 x.nx, .int .i64 x.ny, .int .i64 (stepW wd ht xs x).dx, .int .i64 (stepW wd ht xs x).dy] 79)).below hb6
            have hx_6 := ((hx_5).alloc (.cells #[.int .i64 x.nx, .int .i64 x.ny, .int .i64 (stepW wd ht xs x).dx, .int .i64 (stepW wd ht xs x).dy] 79)).below hb6
            have at_6 := ((at_5).alloc (.cells #[.int .i64 x.nx, .int .i64 x.ny, .int .i64 (stepW wd ht xs x).dx, .int .i64 (stepW wd ht xs x).dy] 79)).below hb6
            obtain ⟨ata_6, atb_6⟩ := (at_6).two
            have nw_6 := (Bx.new_ w5 (w5.heap.size) 79 #[.int .i64 x.nx, .int .i64 x.ny, .int .i64 (stepW wd ht xs x).dx, .int .i64 (stepW wd ht xs x).dy] (by simp)).below hb6
            obtain ⟨nwa_6, nwb_6, nwc_6, nwd_6⟩ := (nw_6).four
            have z_6 : (w5.alloc (.cells #[.int .i64 x.nx, .int .i64 x.ny, .int .i64 (stepW wd ht xs x).dx, .int .i64 (stepW wd ht xs x).dy] 79)).heap.size ≤ w6.heap.size := hb6.size
            simp only [World.size_alloc] at z_6
            have B_6 := ((B_5).alloc (by first | omega | (simp; omega) | simp) (.cells #[.int .i64 x.nx, .int .i64 x.ny, .int .i64 (stepW wd ht xs x).dx, .int .i64 (stepW wd ht xs x).dy] 79)).trans (hb6.mono (by first | omega | (simp; omega) | simp))
            obtain ⟨xa_6, xb_6, xc_6, xd_6⟩ := ((hx_6)).four
            clear xa_4 xb_4 xc_4 xd_4
            have HNX : Hid (itW wd ht xs (m + 1) a = stepW wd ht xs x) := hide (by rw [HX.out]; rfl)
            have hz6 : w3.heap.size + 2 ≤ w6.heap.size := by omega
            have hB6 := hB.trans (((B_6)).mono (by omega))
            cases hcr : crossB wd ht xs x.nx x.ny
            · have HR1 : Hid (∀ b, rowD wd ht xs b (i : Int) (toD wd ht xs b i) (orb.take (m + 1)) = rowD wd ht xs b (i : Int) (toD wd ht xs b i) (orb.take m)) := hide (fun b => by rw [HRT.out b, putD_no hcr])
              have xfr := ((hx_6)).frozen
              go_wp2_with fail
              go_roundg (P - (m + 1))
              case measure => omega
              case rel => exact ⟨m + 1, false, by omega, rfl, hide (by simp), ((hwk_6)).far4 (by omega), by rw [HNX.out]; exact ((hx_6)).put4, by rw [HR1.out true]; exact ((ov_6)).far4 (blk_ne (by omega)), by rw [HR1.out false]; exact ((un_6)).far4 (blk_ne (by omega)), by simp; omega, below_put4 hB6 (by omega)⟩
            · have hil := HIL.out hcr
              go_wp2_with fail
              refine ((HIX.out hcr _ hB6)).mono ?_
              rintro e w7 ⟨rfl, hb7⟩
              have ov_7 := (ov_6).below hb7
              have un_7 := (un_6).below hb7
              have hwk_7 := (hwk_6).below hb7
              have hx_7 := (hx_6).below hb7
              have at_7 := (at_6).below hb7
              obtain ⟨ata_7, atb_7⟩ := (at_7).two
              have nw_7 := (nw_6).below hb7
              obtain ⟨nwa_7, nwb_7, nwc_7, nwd_7⟩ := (nw_7).four
              have z_7 : w6.heap.size ≤ w7.heap.size := hb7.size
              have B_7 := (B_6).trans (hb7.mono (by first | omega | (simp; omega) | simp))
              obtain ⟨xa_7, xb_7, xc_7, xd_7⟩ := ((hx_7)).four
              clear xa_6 xb_6 xc_6 xd_6
              go_wp2_with fail
              refine ((HOV.out _)).mono ?_
              rintro e w8 ⟨rfl, hb8⟩
              have ov_8 := (ov_7).below hb8
              have un_8 := (un_7).below hb8
              have hwk_8 := (hwk_7).below hb8
              have hx_8 := (hx_7).below hb8
              have at_8 := (at_7).below hb8
              obtain ⟨ata_8, atb_8⟩ := (at_8).two
              have nw_8 := (nw_7).below hb8
              obtain ⟨nwa_8, nwb_8, nwc_8, nwd_8⟩ := (nw_8).four
              have z_8 : w7.heap.size ≤ w8.heap.size := hb8.size
              have B_8 := (B_7).trans (hb8.mono (by first | omega | (simp; omega) | simp))
              have hB8 := hB.trans (((B_8)).mono (by omega))
              clear xa_7 xb_7 xc_7 xd_7
              cases hov : overB x
              ·
                have HR1 : Hid (rowD wd ht xs false (i : Int) (toD wd ht xs false i) (orb.take (m + 1)) = ((rowD wd ht xs false (i : Int) (toD wd ht xs false i) (orb.take m)).1.set (idxW wd xs x) (stepW wd ht xs x), (rowD wd ht xs false (i : Int) (toD wd ht xs false i) (orb.take m)).2.set (idxW wd xs x) (i : Int))) := hide (by rw [HRT.out false, putD_hit hcr hov])
                have HR2 : Hid (rowD wd ht xs true (i : Int) (toD wd ht xs true i) (orb.take (m + 1)) = rowD wd ht xs true (i : Int) (toD wd ht xs true i) (orb.take m)) := hide (by rw [HRT.out true, putD_other (by rw [hov]; decide)])
                obtain ⟨g, a', hA, hgb, hgs, _, _, _, _, _, hgf⟩ := ((un_8)).wk (k := idxW wd xs x) (by rw [HRL.out false]; exact hil)
                injection hA with hA; injection hA with hA; subst hA
                have me9 := ((un_8)).putWk (k := idxW wd xs x) (by rw [HRL.out false]; exact hil) x.nx x.ny (stepW wd ht xs x).dx (stepW wd ht xs x).dy
                have ot9 := ((ov_8)).far4 (b := w1.heap.size + 1) (o0 := idxW wd xs x * 4) (o1 := idxW wd xs x * 4 + 1) (o2 := idxW wd xs x * 4 + 2) (o3 := idxW wd xs x * 4 + 3) (u0 := .int .i64 x.nx) (u1 := .int .i64 x.ny) (u2 := .int .i64 (stepW wd ht xs x).dx) (u3 := .int .i64 (stepW wd ht xs x).dy) (blk_ne (by omega))
                have hwk9 := ((hwk_8)).far4 (b := w1.heap.size + 1) (o0 := idxW wd xs x * 4) (o1 := idxW wd xs x * 4 + 1) (o2 := idxW wd xs x * 4 + 2) (o3 := idxW wd xs x * 4 + 3) (u0 := .int .i64 x.nx) (u1 := .int .i64 x.ny) (u2 := .int .i64 (stepW wd ht xs x).dx) (u3 := .int .i64 (stepW wd ht xs x).dy) (by omega)
                have hx9 := ((hx_8)).far4 (b := w1.heap.size + 1) (o0 := idxW wd xs x * 4) (o1 := idxW wd xs x * 4 + 1) (o2 := idxW wd xs x * 4 + 2) (o3 := idxW wd xs x * 4 + 3) (u0 := .int .i64 x.nx) (u1 := .int .i64 x.ny) (u2 := .int .i64 (stepW wd ht xs x).dx) (u3 := .int .i64 (stepW wd ht xs x).dy) (by omega)
                have hnw9 := ((nw_8)).far4 (b := w1.heap.size + 1) (o0 := idxW wd xs x * 4) (o1 := idxW wd xs x * 4 + 1) (o2 := idxW wd xs x * 4 + 2) (o3 := idxW wd xs x * 4 + 3) (u0 := .int .i64 x.nx) (u1 := .int .i64 x.ny) (u2 := .int .i64 (stepW wd ht xs x).dx) (u3 := .int .i64 (stepW wd ht xs x).dy) (by omega)
                have hB9 := below_put4 (b := w1.heap.size + 1) (o0 := idxW wd xs x * 4) (o1 := idxW wd xs x * 4 + 1) (o2 := idxW wd xs x * 4 + 2) (o3 := idxW wd xs x * 4 + 3) (u0 := .int .i64 x.nx) (u1 := .int .i64 x.ny) (u2 := .int .i64 (stepW wd ht xs x).dx) (u3 := .int .i64 (stepW wd ht xs x).dy) hB8 (by omega)
                have rf0 := hgf (idxW wd xs x * 4)
                have rf1 := hgf (idxW wd xs x * 4 + 1)
                have rf2 := hgf (idxW wd xs x * 4 + 2)
                have rf3 := hgf (idxW wd xs x * 4 + 3)
                have hz9 : w8.heap.size ≤ (((((w8.setCell ⟨w1.heap.size + 1, idxW wd xs x * 4, none⟩ (.int .i64 x.nx)).setCell ⟨w1.heap.size + 1, idxW wd xs x * 4 + 1, none⟩ (.int .i64 x.ny)).setCell ⟨w1.heap.size + 1, idxW wd xs x * 4 + 2, none⟩ (.int .i64 (stepW wd ht xs x).dx)).setCell ⟨w1.heap.size + 1, idxW wd xs x * 4 + 3, none⟩ (.int .i64 (stepW wd ht xs x).dy))).heap.size := by simp
                have hall := hide (And.intro me9 (And.intro ot9 (And.intro hwk9 (And.intro hx9 (And.intro hnw9 (And.intro hB9 hz9))))))
                clear hgf me9 ot9 hwk9 hx9 hnw9 hB9 hz9
                go_upto_region 20 with fail
                generalize ((((w8.setCell ⟨w1.heap.size + 1, idxW wd xs x * 4, none⟩ (.int .i64 x.nx)).setCell ⟨w1.heap.size + 1, idxW wd xs x * 4 + 1, none⟩ (.int .i64 x.ny)).setCell ⟨w1.heap.size + 1, idxW wd xs x * 4 + 2, none⟩ (.int .i64 (stepW wd ht xs x).dx)).setCell ⟨w1.heap.size + 1, idxW wd xs x * 4 + 3, none⟩ (.int .i64 (stepW wd ht xs x).dy)) = w9 at hall ⊢
                obtain ⟨me9, ot9, hwk9, hx9, hnw9, hB9, hz9⟩ := hall.out
                obtain ⟨na_9, nb_9, nc_9, nd_9⟩ := hnw9.four
                obtain ⟨xg_0, xg_1, xg_2, xg_3⟩ := hx9.four
                have xf0 := hx9.frozen 0
                have xf1 := hx9.frozen 1
                have xf2 := hx9.frozen 2
                have xf3 := hx9.frozen 3
                clear hall
                go_wp2_with fail
                go_roundg (P - (m + 1))
                case measure => omega
                case rel => exact ⟨m + 1, false, by omega, rfl, hide (by simp), hwk9.far4 (by omega), by rw [HNX.out]; exact hx9.put4, by rw [HR2.out]; exact ot9.far4 (blk_ne (by omega)), by rw [HR1.out]; exact me9.far4 (blk_ne (by omega)), by simp; omega, below_put4 hB9 (by omega)⟩
              ·
                have HR1 : Hid (rowD wd ht xs true (i : Int) (toD wd ht xs true i) (orb.take (m + 1)) = ((rowD wd ht xs true (i : Int) (toD wd ht xs true i) (orb.take m)).1.set (idxW wd xs x) (stepW wd ht xs x), (rowD wd ht xs true (i : Int) (toD wd ht xs true i) (orb.take m)).2.set (idxW wd xs x) (i : Int))) := hide (by rw [HRT.out true, putD_hit hcr hov])
                have HR2 : Hid (rowD wd ht xs false (i : Int) (toD wd ht xs false i) (orb.take (m + 1)) = rowD wd ht xs false (i : Int) (toD wd ht xs false i) (orb.take m)) := hide (by rw [HRT.out false, putD_other (by rw [hov]; decide)])
                obtain ⟨g, a', hA, hgb, hgs, _, _, _, _, _, hgf⟩ := ((ov_8)).wk (k := idxW wd xs x) (by rw [HRL.out true]; exact hil)
                injection hA with hA; injection hA with hA; subst hA
                have me9 := ((ov_8)).putWk (k := idxW wd xs x) (by rw [HRL.out true]; exact hil) x.nx x.ny (stepW wd ht xs x).dx (stepW wd ht xs x).dy
                have ot9 := ((un_8)).far4 (b := w1.heap.size) (o0 := idxW wd xs x * 4) (o1 := idxW wd xs x * 4 + 1) (o2 := idxW wd xs x * 4 + 2) (o3 := idxW wd xs x * 4 + 3) (u0 := .int .i64 x.nx) (u1 := .int .i64 x.ny) (u2 := .int .i64 (stepW wd ht xs x).dx) (u3 := .int .i64 (stepW wd ht xs x).dy) (blk_ne (by omega))
                have hwk9 := ((hwk_8)).far4 (b := w1.heap.size) (o0 := idxW wd xs x * 4) (o1 := idxW wd xs x * 4 + 1) (o2 := idxW wd xs x * 4 + 2) (o3 := idxW wd xs x * 4 + 3) (u0 := .int .i64 x.nx) (u1 := .int .i64 x.ny) (u2 := .int .i64 (stepW wd ht xs x).dx) (u3 := .int .i64 (stepW wd ht xs x).dy) (by omega)
                have hx9 := ((hx_8)).far4 (b := w1.heap.size) (o0 := idxW wd xs x * 4) (o1 := idxW wd xs x * 4 + 1) (o2 := idxW wd xs x * 4 + 2) (o3 := idxW wd xs x * 4 + 3) (u0 := .int .i64 x.nx) (u1 := .int .i64 x.ny) (u2 := .int .i64 (stepW wd ht xs x).dx) (u3 := .int .i64 (stepW wd ht xs x).dy) (by omega)
                have hnw9 := ((nw_8)).far4 (b := w1.heap.size) (o0 := idxW wd xs x * 4) (o1 := idxW wd xs x * 4 + 1) (o2 := idxW wd xs x * 4 + 2) (o3 := idxW wd xs x * 4 + 3) (u0 := .int .i64 x.nx) (u1 := .int .i64 x.ny) (u2 := .int .i64 (stepW wd ht xs x).dx) (u3 := .int .i64 (stepW wd ht xs x).dy) (by omega)
                have hB9 := below_put4 (b := w1.heap.size) (o0 := idxW wd xs x * 4) (o1 := idxW wd xs x * 4 + 1) (o2 := idxW wd xs x * 4 + 2) (o3 := idxW wd xs x * 4 + 3) (u0 := .int .i64 x.nx) (u1 := .int .i64 x.ny) (u2 := .int .i64 (stepW wd ht xs x).dx) (u3 := .int .i64 (stepW wd ht xs x).dy) hB8 (by omega)
                have rf0 := hgf (idxW wd xs x * 4)
                have rf1 := hgf (idxW wd xs x * 4 + 1)
                have rf2 := hgf (idxW wd xs x * 4 + 2)
                have rf3 := hgf (idxW wd xs x * 4 + 3)
                have hz9 : w8.heap.size ≤ (((((w8.setCell ⟨w1.heap.size, idxW wd xs x * 4, none⟩ (.int .i64 x.nx)).setCell ⟨w1.heap.size, idxW wd xs x * 4 + 1, none⟩ (.int .i64 x.ny)).setCell ⟨w1.heap.size, idxW wd xs x * 4 + 2, none⟩ (.int .i64 (stepW wd ht xs x).dx)).setCell ⟨w1.heap.size, idxW wd xs x * 4 + 3, none⟩ (.int .i64 (stepW wd ht xs x).dy))).heap.size := by simp
                have hall := hide (And.intro me9 (And.intro ot9 (And.intro hwk9 (And.intro hx9 (And.intro hnw9 (And.intro hB9 hz9))))))
                clear hgf me9 ot9 hwk9 hx9 hnw9 hB9 hz9
                go_upto_region 20 with fail
                generalize ((((w8.setCell ⟨w1.heap.size, idxW wd xs x * 4, none⟩ (.int .i64 x.nx)).setCell ⟨w1.heap.size, idxW wd xs x * 4 + 1, none⟩ (.int .i64 x.ny)).setCell ⟨w1.heap.size, idxW wd xs x * 4 + 2, none⟩ (.int .i64 (stepW wd ht xs x).dx)).setCell ⟨w1.heap.size, idxW wd xs x * 4 + 3, none⟩ (.int .i64 (stepW wd ht xs x).dy)) = w9 at hall ⊢
                obtain ⟨me9, ot9, hwk9, hx9, hnw9, hB9, hz9⟩ := hall.out
                obtain ⟨na_9, nb_9, nc_9, nd_9⟩ := hnw9.four
                obtain ⟨xg_0, xg_1, xg_2, xg_3⟩ := hx9.four
                have xf0 := hx9.frozen 0
                have xf1 := hx9.frozen 1
                have xf2 := hx9.frozen 2
                have xf3 := hx9.frozen 3
                clear hall
                go_wp2_with fail
                go_roundg (P - (m + 1))
                case measure => omega
                case rel => exact ⟨m + 1, false, by omega, rfl, hide (by simp), hwk9.far4 (by omega), by rw [HNX.out]; exact hx9.put4, by rw [HR1.out]; exact me9.far4 (blk_ne (by omega)), by rw [HR2.out]; exact ot9.far4 (blk_ne (by omega)), by simp; omega, below_put4 hB9 (by omega)⟩
        · have hmP : P = m := by omega
          have hfb2 : fb = false := by rw [hfb.out]; simp; omega
          have hxa : x = a := by rw [HX.out, ← hmP, HP.out]
          have HZP : Hid (orb.take m = orb) := hide (by rw [← hmP]; exact List.take_of_length_le (by rw [HOL.out]; exact Nat.le_refl _))
          rw [HZP.out] at ov un
          clear hlt2 hmP HX hmg
          subst hxa hfb2
          go_wp2_with fail
          go_roundw
          case rel => exact ⟨i + 1, by omega, by go_num, by rw [HNT.out true]; exact ov, by rw [HNT.out false]; exact un, by omega, hB⟩
          case measure => simp [intOf]; omega
    · obtain rfl : K = i := by omega
      have H1 : Hid (dirL wd ht xs true = (toD wd ht xs true K).1) := hide (by unfold dirL; rw [HK.out])
      have H2 : Hid (dirL wd ht xs false = (toD wd ht xs false K).1) := hide (by unfold dirL; rw [HK.out])
      have H3 : Hid ((dirL wd ht xs true).length = n) := hide (by rw [H1.out, (toD_len _).1, HNN.out])
      have H4 : Hid ((dirL wd ht xs false).length = n) := hide (by rw [H2.out, (toD_len _).1, HNN.out])
      clear hlt
      go_wp2_with fail
      go_ret2
      exact ⟨some ⟨w1.heap.size, 0, none⟩, n, some ⟨w1.heap.size + 1, 0, none⟩, n, by rw [H3.out, H4.out]; rfl, by rw [H1.out]; exact ov, by rw [H2.out]; exact un, hB⟩
end Go.Proofs.YtjlifbdaieblpaaGreat
