/-
  Contracts: the signs of crossings, of the reference and of the program. Conditions: a valid panel's sides and breaks.
-/
import Derived.Test.YtjlifbdaieblpaaGreatTr12
import Derived.Test.YtjlifbdaieblpaaGreatPolySum
namespace Go.Proofs.YtjlifbdaieblpaaGreat
open Go.RowKit
set_option linter.unusedVariables false

theorem sg_facts {o u : Wk} (h1 : o.dx = 1 ∨ o.dx = -1) (h2 : o.dy = 1 ∨ o.dy = -1) (h3 : u.dx = 1 ∨ u.dx = -1) (h4 : u.dy = 1 ∨ u.dy = -1) :
    (-1 ≤ o.dx * u.dy ∧ o.dx * u.dy ≤ 1) ∧ (-1 ≤ o.dy * u.dx ∧ o.dy * u.dx ≤ 1) := ⟨prod_pm h1 h4, prod_pm h2 h3⟩
set_option maxHeartbeats 1000000 in
theorem l17Sign_any (o u : Wk) (w : World) (h1 : o.dx = 1 ∨ o.dx = -1) (h2 : o.dy = 1 ∨ o.dy = -1) (h3 : u.dx = 1 ∨ u.dx = -1) (h4 : u.dy = 1 ∨ u.dy = -1) :
    Calls Tryz.prog 56 #[.agg #[.int .i64 o.x, .int .i64 o.y, .int .i64 o.dx, .int .i64 o.dy], .agg #[.int .i64 u.x, .int .i64 u.y, .int .i64 u.dx, .int .i64 u.dy]] w (RetV w (.int .i64 (sgW o u))) := by
  obtain ⟨⟨m1, m2⟩, ⟨m3, m4⟩⟩ := sg_facts h1 h2 h3 h4
  clear h1 h2 h3 h4
  obtain ⟨oa_x1, ob_x1, oc_x1, od_x1⟩ := ((Bx.new_ w (w.heap.size) 79 #[.int .i64 o.x, .int .i64 o.y, .int .i64 o.dx, .int .i64 o.dy] (by simp)).alloc (.cells #[.int .i64 u.x, .int .i64 u.y, .int .i64 u.dx, .int .i64 u.dy] 79)).four
  obtain ⟨ua_x1, ub_x1, uc_x1, ud_x1⟩ := (Bx.new_ (w.alloc (.cells #[.int .i64 o.x, .int .i64 o.y, .int .i64 o.dx, .int .i64 o.dy] 79)) (w.heap.size + 1) 79 #[.int .i64 u.x, .int .i64 u.y, .int .i64 u.dx, .int .i64 u.dy] (by simp)).four
  by_cases hs : 0 < o.dx * u.dy - o.dy * u.dx
  · have HV : Hid (sgW o u = 1) := hide (by unfold sgW; rw [if_pos hs])
    go_enter Tryz.func56, Tryz.ntmps56
    go_wp2_with fail
    go_ret
    rw [HV.out]
    exact ⟨rfl, (((Below.refl w.heap.size w).alloc (by first | omega | (simp; omega) | simp) (.cells #[.int .i64 o.x, .int .i64 o.y, .int .i64 o.dx, .int .i64 o.dy] 79)).alloc (by first | omega | (simp; omega) | simp) (.cells #[.int .i64 u.x, .int .i64 u.y, .int .i64 u.dx, .int .i64 u.dy] 79))⟩
  · have HV : Hid (sgW o u = -1) := hide (by unfold sgW; rw [if_neg hs])
    go_enter Tryz.func56, Tryz.ntmps56
    go_wp2_with fail
    go_ret
    rw [HV.out]
    exact ⟨rfl, (((Below.refl w.heap.size w).alloc (by first | omega | (simp; omega) | simp) (.cells #[.int .i64 o.x, .int .i64 o.y, .int .i64 o.dx, .int .i64 o.dy] 79)).alloc (by first | omega | (simp; omega) | simp) (.cells #[.int .i64 u.x, .int .i64 u.y, .int .i64 u.dx, .int .i64 u.dy] 79))⟩
theorem Own.wk_at {w : World} {base g c : Nat} {l : List Wk} (h : Own wkE w base (some ⟨g, 0, none⟩) c l) {k : Nat} {a : Wk} (hk : l[k]? = some a) :
    w.cell? ⟨g, k * 4, none⟩ = some (.int .i64 a.x) ∧ w.cell? ⟨g, k * 4 + 1, none⟩ = some (.int .i64 a.y) ∧ w.cell? ⟨g, k * 4 + 2, none⟩ = some (.int .i64 a.dx) ∧ w.cell? ⟨g, k * 4 + 3, none⟩ = some (.int .i64 a.dy) := by
  obtain ⟨g', a', hA, _, _, ha, h1, h2, h3, h4, _⟩ := h.wk (k := k) (List.getElem?_eq_some_iff.1 hk).1
  injection hA with hA; injection hA with hA; subst hA
  rw [hk] at ha
  injection ha with ha
  subst ha
  exact ⟨h1, h2, h3, h4⟩
theorem dir_two {wd ht : Int} {xs : List Int} (hs : Sz wd ht) (hl : (xs.length : Int) = innerN wd ht) {k : Nat} (hk : k < (zTo xs xs.length).length) :
    ∃ o u, (dirL wd ht xs true)[k]? = some o ∧ (dirL wd ht xs false)[k]? = some u ∧ OkW wd ht o ∧ OkW wd ht u := by
  obtain ⟨o, i, h1, h2, h3, h4, h5⟩ := dir_own (b := true) hs hl hk
  obtain ⟨u, j, g1, g2, g3, g4, g5⟩ := dir_own (b := false) hs hl hk
  exact ⟨o, u, h1, g1, h4, g4⟩

theorem OwnI.newI_ (w : World) {base : Nat} (n : Nat) (xs : List Int) (cs : Array Value) (hn : n = w.heap.size) (hcs : cs.toList = xs.map (Value.int .i64)) (hb : base ≤ w.heap.size) (hm : xs.length ≤ maxLen) :
    OwnI (w.alloc (.cells cs 2)) base (some ⟨n, 0, none⟩) xs.length xs := by
  subst hn
  exact OwnI.new w xs cs hcs hb hm
set_option maxRecDepth 20000 in
set_option maxHeartbeats 8000000 in
theorem signs_any (wd ht : Int) (A : Option Addr) (c : Nat) (xs : List Int) (w : World) (hxs : RI w A xs) (hcap : xs.length ≤ c ∧ c ≤ 9223372036854775807) (hs : Sz wd ht) (hl : (xs.length : Int) = innerN wd ht) (hn : xs.length ≤ 1048576) :
    Calls Tryz.prog 27 #[.agg #[.int .i64 wd, .int .i64 ht, .slice A xs.length c]] w (RetI w (sgL wd ht xs)) := by
  have HL := hide hl
  have HS := hide hs
  obtain ⟨n, hnn⟩ : ∃ n, n = (zTo xs xs.length).length := ⟨_, rfl⟩
  have hnl : n ≤ 1048576 := by have := zTo_len xs xs.length; omega
  have HLEN := hide (fun b => dir_len (b := b) (xs := xs) hs hl)
  have HTWO := hide (fun k hk => dir_two (xs := xs) hs hl (k := k) hk)
  have HSL := hide (sgL_len (xs := xs) hs hl)
  rw [← hnn] at HLEN HTWO HSL
  clear hnn
  obtain ⟨pa_x1, pb_x1, pc_x1⟩ := (Bx.new_ w (w.heap.size) 26 #[.int .i64 wd, .int .i64 ht, .slice A xs.length c] (by simp)).three
  have he := OwnI.empty_ (w.alloc (.cells #[.int .i64 wd, .int .i64 ht, .slice A xs.length c] 26)) (base := w.heap.size) (w.heap.size + 1) (by simp) (by simp)
  obtain ⟨pa_x2, pb_x2, pc_x2⟩ := ((Bx.new_ w (w.heap.size) 26 #[.int .i64 wd, .int .i64 ht, .slice A xs.length c] (by simp)).alloc (.cells #[] 2)).three
  have HD := hide (directions_any wd ht A c xs ((w.alloc (.cells #[.int .i64 wd, .int .i64 ht, .slice A xs.length c] 26)).alloc (.cells #[] 2)) (hxs.below (((Below.refl w.heap.size w).alloc (by first | omega | (simp; omega) | simp) (.cells #[.int .i64 wd, .int .i64 ht, .slice A xs.length c] 26)).alloc (by first | omega | (simp; omega) | simp) (.cells #[] 2))) hcap hs hl hn)
  clear hs hl hcap
  go_enter Tryz.func27, Tryz.ntmps27
  go_wp2_with fail
  refine HD.out.mono ?_
  rintro e w1 ⟨A1, a1, A2, a2, A3, a3, A4, a4, rfl, ho, hu, _, _, hb1⟩
  have p_1 := ((Bx.new_ w (w.heap.size) 26 #[.int .i64 wd, .int .i64 ht, .slice A xs.length c] (by simp)).alloc (.cells #[] 2)).below hb1
  obtain ⟨pa_1, pb_1, pc_1⟩ := (p_1).three
  have out_1 := (he).below hb1
  have z_1 : ((w.alloc (.cells #[.int .i64 wd, .int .i64 ht, .slice A xs.length c] 26)).alloc (.cells #[] 2)).heap.size ≤ w1.heap.size := hb1.size
  simp only [World.size_alloc] at z_1
  have B_1 := (((Below.refl w.heap.size w).alloc (by first | omega | (simp; omega) | simp) (.cells #[.int .i64 wd, .int .i64 ht, .slice A xs.length c] 26)).alloc (by first | omega | (simp; omega) | simp) (.cells #[] 2)).trans (hb1.mono (by first | omega | (simp; omega) | simp))
  rw [(HLEN.out true).1, (HLEN.out false).1]
  have out1 := (out_1)
  have hB1 := (B_1)
  obtain ⟨T, hT⟩ : ∃ T, T = (w1).heap.size := ⟨_, rfl⟩
  clear hT out_1 hb1 he
  go_wp2_with fail
  go_loopw [20, 3] (fun kv ov wr => ∃ (k : Nat) (A5 : Option Addr) (c5 : Nat) (zs : List Int), k ≤ n ∧ kv = .int .i64 (k : Int) ∧ ov = .slice A5 zs.length c5 ∧ Hid (zs = (sgL wd ht xs).take k) ∧ Hid (zs.length = k) ∧ OwnI wr w.heap.size A5 c5 zs ∧ Own wkE wr (w.heap.size + 1 + 1) A1 a1 (dirL wd ht xs true) ∧ Own wkE wr (w.heap.size + 1 + 1) A2 a2 (dirL wd ht xs false) ∧ Below w.heap.size w wr) (fun kv _ _ => n - (intOf kv).toNat)
  case atStart => exact ⟨0, _, 0, [], Nat.zero_le _, rfl, rfl, hide (by simp), hide rfl, out1, by simpa using ho, by simpa using hu, hB1⟩
  case round =>
    clear out1 hB1 ho hu
    obtain ⟨k, A5, c5, zs, hk, rfl, rfl, hzs, hzl, own, ho, hu, hB⟩ := hrel
    have hz := hB.size
    have hzlen : zs.length ≤ 1048576 := by rw [hzl.out]; omega
    by_cases hlt : k < n
    · obtain ⟨o, u, h1, h2, ok1, ok2⟩ := HTWO.out k hlt
      obtain ⟨⟨m1, m2⟩, ⟨m3, m4⟩⟩ := sg_facts ok1.1 ok1.2.1 ok2.1 ok2.2.1
      have HN := hide (sgL_next h1 h2)
      have hw1 : IntKind.i64.wrap (o.dx * u.dy) = o.dx * u.dy := by rw [IntKind.wrap_i64]; omega
      have hw2 : IntKind.i64.wrap (o.dy * u.dx) = o.dy * u.dx := by rw [IntKind.wrap_i64]; omega
      have hw3 : IntKind.i64.wrap (o.dx * u.dy - o.dy * u.dx) = o.dx * u.dy - o.dy * u.dx := by rw [IntKind.wrap_i64]; omega
      obtain ⟨g1, o2, hA1, _, hgo, hoo, oa, ob, oc, od, _⟩ := ho.wk (k := k) (by rw [(HLEN.out true).1]; exact hlt)
      obtain rfl : o = o2 := by rw [h1] at hoo; injection hoo
      subst hA1
      obtain ⟨xa_x1, xb_x1, xc_x1, xd_x1⟩ := (Bx.new_ wr (wr.heap.size) 79 #[.int .i64 o.x, .int .i64 o.y, .int .i64 o.dx, .int .i64 o.dy] (by simp)).four
      obtain ⟨g2, u2, hA2, _, hgu, huu, ua, ub, uc, ud, _⟩ := (((hu).alloc (.cells #[.int .i64 o.x, .int .i64 o.y, .int .i64 o.dx, .int .i64 o.dy] 79))).wk (k := k) (by rw [(HLEN.out false).1]; exact hlt)
      obtain rfl : u = u2 := by rw [h2] at huu; injection huu
      subst hA2
      clear h1 h2 hoo huu ok1 ok2
      by_cases hs : 0 < o.dx * u.dy - o.dy * u.dx
      ·
        have HV : Hid (sgW o u = 1) := hide (by unfold sgW; rw [if_pos hs])
        have d0 : decide (o.dx * u.dy - o.dy * u.dx > 0) = true := by simpa using hs
        go_wp2_with fail
        go_quiet (fail)
        rename Nat => nq
        go_wp2_with (at_builtin; refine wpList_append_ints rfl (.tmp 43) (.tmp 44) rfl w.heap.size A5 c5 zs rfl (((((own).alloc (.cells #[.int .i64 o.x, .int .i64 o.y, .int .i64 o.dx, .int .i64 o.dy] 79)).drewN nq)).alloc _) (some ⟨wr.heap.size + 1, 0, none⟩) 1 [1] rfl (OwnI.newI_ (base := 0) _ _ [1] #[.int .i64 (1)] (by simp) rfl (Nat.zero_le _) (by simp [maxLen])).rd (by simp; omega) (by simp; omega) (zs ++ [1]) rfl ?_; intro A7 c7 w7 own7 hg7 hb7)
        have ho7 := (((((ho).alloc (.cells #[.int .i64 o.x, .int .i64 o.y, .int .i64 o.dx, .int .i64 o.dy] 79)).drewN nq)).alloc (.cells #[.int .i64 (1)] 2)).grownInts hg7 (((((own).alloc (.cells #[.int .i64 o.x, .int .i64 o.y, .int .i64 o.dx, .int .i64 o.dy] 79)).drewN nq)).alloc _) (by decide)
        have hu7 := (((((hu).alloc (.cells #[.int .i64 o.x, .int .i64 o.y, .int .i64 o.dx, .int .i64 o.dy] 79)).drewN nq)).alloc (.cells #[.int .i64 (1)] 2)).grownInts hg7 (((((own).alloc (.cells #[.int .i64 o.x, .int .i64 o.y, .int .i64 o.dx, .int .i64 o.dy] 79)).drewN nq)).alloc _) (by decide)
        have hB7 := ((hB.trans (((below_drewN' ((Below.refl wr.heap.size wr).alloc (by first | omega | (simp; omega) | simp) (.cells #[.int .i64 o.x, .int .i64 o.y, .int .i64 o.dx, .int .i64 o.dy] 79)) nq)).mono hz)).alloc (by simp; omega) (.cells #[.int .i64 (1)] 2)).grown hg7 (by simp; omega) (fun q hq => (((((own).alloc (.cells #[.int .i64 o.x, .int .i64 o.y, .int .i64 o.dx, .int .i64 o.dy] 79)).drewN nq)).ge hq).1)
        go_roundw
        case rel => exact ⟨k + 1, A7, c7, zs ++ [1], by omega, by go_num, by simp, hide (by rw [HN.out, HV.out, ← hzs.out]), hide (by rw [List.length_append, hzl.out]; rfl), own7, ho7, hu7, hB7⟩
        case measure => simp [intOf]; omega
      ·
        have HV : Hid (sgW o u = -1) := hide (by unfold sgW; rw [if_neg hs])
        have d0 : decide (o.dx * u.dy - o.dy * u.dx > 0) = false := by simpa using hs
        go_wp2_with fail
        go_quiet (fail)
        rename Nat => nq
        go_wp2_with (at_builtin; refine wpList_append_ints rfl (.tmp 46) (.tmp 47) rfl w.heap.size A5 c5 zs rfl (((((own).alloc (.cells #[.int .i64 o.x, .int .i64 o.y, .int .i64 o.dx, .int .i64 o.dy] 79)).drewN nq)).alloc _) (some ⟨wr.heap.size + 1, 0, none⟩) 1 [-1] rfl (OwnI.newI_ (base := 0) _ _ [-1] #[.int .i64 (-1)] (by simp) rfl (Nat.zero_le _) (by simp [maxLen])).rd (by simp; omega) (by simp; omega) (zs ++ [-1]) rfl ?_; intro A7 c7 w7 own7 hg7 hb7)
        have ho7 := (((((ho).alloc (.cells #[.int .i64 o.x, .int .i64 o.y, .int .i64 o.dx, .int .i64 o.dy] 79)).drewN nq)).alloc (.cells #[.int .i64 (-1)] 2)).grownInts hg7 (((((own).alloc (.cells #[.int .i64 o.x, .int .i64 o.y, .int .i64 o.dx, .int .i64 o.dy] 79)).drewN nq)).alloc _) (by decide)
        have hu7 := (((((hu).alloc (.cells #[.int .i64 o.x, .int .i64 o.y, .int .i64 o.dx, .int .i64 o.dy] 79)).drewN nq)).alloc (.cells #[.int .i64 (-1)] 2)).grownInts hg7 (((((own).alloc (.cells #[.int .i64 o.x, .int .i64 o.y, .int .i64 o.dx, .int .i64 o.dy] 79)).drewN nq)).alloc _) (by decide)
        have hB7 := ((hB.trans (((below_drewN' ((Below.refl wr.heap.size wr).alloc (by first | omega | (simp; omega) | simp) (.cells #[.int .i64 o.x, .int .i64 o.y, .int .i64 o.dx, .int .i64 o.dy] 79)) nq)).mono hz)).alloc (by simp; omega) (.cells #[.int .i64 (-1)] 2)).grown hg7 (by simp; omega) (fun q hq => (((((own).alloc (.cells #[.int .i64 o.x, .int .i64 o.y, .int .i64 o.dx, .int .i64 o.dy] 79)).drewN nq)).ge hq).1)
        go_roundw
        case rel => exact ⟨k + 1, A7, c7, zs ++ [-1], by omega, by go_num, by simp, hide (by rw [HN.out, HV.out, ← hzs.out]), hide (by rw [List.length_append, hzl.out]; rfl), own7, ho7, hu7, hB7⟩
        case measure => simp [intOf]; omega
    · have e1 : n = k := by omega
      have HE : Hid (zs = sgL wd ht xs) := hide (by rw [hzs.out, ← e1, List.take_of_length_le (by rw [HSL.out]; exact Nat.le_refl _)])
      clear e1
      go_wp2_with fail
      go_ret
      exact ⟨A5, c5, by rw [← HE.out]; rfl, by rw [← HE.out]; exact own, hB⟩

set_option maxRecDepth 20000 in
set_option maxHeartbeats 8000000 in
theorem l17Signs_any (b0 : Nat) (wd ht : Int) (A : Option Addr) (c : Nat) (xs : List Int) (w : World) (hp : PA w b0 wd ht A c xs) (hs : Sz wd ht) (hl : (xs.length : Int) = innerN wd ht) (hn : xs.length ≤ 1048576) :
    Calls Tryz.prog 31 #[.pointer (some ⟨b0, 0, none⟩)] w (RetI w (sgL wd ht xs)) := by
  obtain ⟨n, hnn⟩ : ∃ n, n = (zTo xs xs.length).length := ⟨_, rfl⟩
  have hnl : n ≤ 1048576 := by have := zTo_len xs xs.length; omega
  have HLEN := hide (fun b => dir_len (b := b) (xs := xs) hs hl)
  have HTWO := hide (fun k hk => dir_two (xs := xs) hs hl (k := k) hk)
  have HSL := hide (sgL_len (xs := xs) hs hl)
  rw [← hnn] at HLEN HTWO HSL
  clear hnn
  have he := OwnI.empty_ w (base := w.heap.size) w.heap.size rfl (Nat.le_refl _)
  have HD := hide (l17At_any b0 wd ht A c xs (w.alloc (.cells #[] 2)) (hp.below ((Below.refl w.heap.size w).alloc (by first | omega | (simp; omega) | simp) (.cells #[] 2))) hs hl hn)
  clear hs hl
  go_enter Tryz.func31, Tryz.ntmps31
  go_wp2_with fail
  refine HD.out.mono ?_
  rintro e w1 ⟨A1, a1, A2, a2, rfl, ho, hu, hb1⟩
  have out_1 := (he).below hb1
  have z_1 : (w.alloc (.cells #[] 2)).heap.size ≤ w1.heap.size := hb1.size
  simp only [World.size_alloc] at z_1
  have B_1 := ((Below.refl w.heap.size w).alloc (by first | omega | (simp; omega) | simp) (.cells #[] 2)).trans (hb1.mono (by first | omega | (simp; omega) | simp))
  rw [(HLEN.out true).1, (HLEN.out false).1]
  have out1 := (out_1)
  have hB1 := (B_1)
  clear out_1 hb1 he
  go_wp2_with fail
  go_loopw [6, 3] (fun kv ov wr => ∃ (k : Nat) (A5 : Option Addr) (c5 : Nat) (zs : List Int), k ≤ n ∧ kv = .int .i64 (k : Int) ∧ ov = .slice A5 zs.length c5 ∧ Hid (zs = (sgL wd ht xs).take k) ∧ Hid (zs.length = k) ∧ OwnI wr w.heap.size A5 c5 zs ∧ Own wkE wr (w.heap.size + 1) A1 a1 (dirL wd ht xs true) ∧ Own wkE wr (w.heap.size + 1) A2 a2 (dirL wd ht xs false) ∧ Below w.heap.size w wr) (fun kv _ _ => n - (intOf kv).toNat)
  case atStart => exact ⟨0, _, 0, [], Nat.zero_le _, rfl, rfl, hide (by simp), hide rfl, out1, by simpa using ho, by simpa using hu, hB1⟩
  case round =>
    clear out1 hB1 ho hu
    obtain ⟨k, A5, c5, zs, hk, rfl, rfl, hzs, hzl, own, ho, hu, hB⟩ := hrel
    have hz := hB.size
    have hzlen : zs.length ≤ 1048576 := by rw [hzl.out]; omega
    by_cases hlt : k < n
    · obtain ⟨o, u, h1, h2, ok1, ok2⟩ := HTWO.out k hlt
      have HN := hide (sgL_next h1 h2)
      obtain ⟨g1, o2, hA1, _, hgo, hoo, oa, ob, oc, od, _⟩ := ho.wk (k := k) (by rw [(HLEN.out true).1]; exact hlt)
      obtain rfl : o = o2 := by rw [h1] at hoo; injection hoo
      subst hA1
      obtain ⟨g2, u2, hA2, _, hgu, huu, ua, ub, uc, ud, _⟩ := hu.wk (k := k) (by rw [(HLEN.out false).1]; exact hlt)
      obtain rfl : u = u2 := by rw [h2] at huu; injection huu
      subst hA2
      have HSG := hide (fun W => l17Sign_any o u W ok1.1 ok1.2.1 ok2.1 ok2.2.1)
      have C0 : Below wr.heap.size wr wr.drew := (Below.refl _ _).drew
      have keepS : Hid (∀ W, Below wr.heap.size wr W → (W.cell? ⟨g1, k * 4, none⟩ = some (.int .i64 o.x) ∧ W.cell? ⟨g1, k * 4 + 1, none⟩ = some (.int .i64 o.y) ∧ W.cell? ⟨g1, k * 4 + 2, none⟩ = some (.int .i64 o.dx) ∧ W.cell? ⟨g1, k * 4 + 3, none⟩ = some (.int .i64 o.dy)) ∧ (W.cell? ⟨g2, k * 4, none⟩ = some (.int .i64 u.x) ∧ W.cell? ⟨g2, k * 4 + 1, none⟩ = some (.int .i64 u.y) ∧ W.cell? ⟨g2, k * 4 + 2, none⟩ = some (.int .i64 u.dx) ∧ W.cell? ⟨g2, k * 4 + 3, none⟩ = some (.int .i64 u.dy))) := hide fun W hW => ⟨⟨by rw [hW.cell (p := ⟨g1, _, none⟩) hgo]; exact oa, by rw [hW.cell (p := ⟨g1, _, none⟩) hgo]; exact ob, by rw [hW.cell (p := ⟨g1, _, none⟩) hgo]; exact oc, by rw [hW.cell (p := ⟨g1, _, none⟩) hgo]; exact od⟩, by rw [hW.cell (p := ⟨g2, _, none⟩) hgu]; exact ua, by rw [hW.cell (p := ⟨g2, _, none⟩) hgu]; exact ub, by rw [hW.cell (p := ⟨g2, _, none⟩) hgu]; exact uc, by rw [hW.cell (p := ⟨g2, _, none⟩) hgu]; exact ud⟩
      have HOO := hide h1
      have HUU := hide h2
      clear h1 h2 hoo huu ok1 ok2 oa ob oc od ua ub uc ud
      go_wp2_with fail
      go_region_held3 (fun w' => (w'.cell? ⟨g1, k * 4, none⟩ = some (.int .i64 o.x) ∧ w'.cell? ⟨g1, k * 4 + 1, none⟩ = some (.int .i64 o.y) ∧ w'.cell? ⟨g1, k * 4 + 2, none⟩ = some (.int .i64 o.dx) ∧ w'.cell? ⟨g1, k * 4 + 3, none⟩ = some (.int .i64 o.dy)) ∧ (w'.cell? ⟨g2, k * 4, none⟩ = some (.int .i64 u.x) ∧ w'.cell? ⟨g2, k * 4 + 1, none⟩ = some (.int .i64 u.y) ∧ w'.cell? ⟨g2, k * 4 + 2, none⟩ = some (.int .i64 u.dx) ∧ w'.cell? ⟨g2, k * 4 + 3, none⟩ = some (.int .i64 u.dy)))
        (first | exact keepS.out _ C0 | exact keepS.out _ CX | exact keepS.out _ (CX.alloc (Below.size CX) _) | exact HK9 | fail)
        (first
          | (go_at_call 56; refine (HSG.out _).mono ?_; rintro e wx ⟨rfl, CX0⟩; have CX : Below wr.heap.size wr wx := C0.trans (CX0.mono (Nat.le_refl _)))
          | (refine step_append_row intE rfl (.tmp 19) (.tmp 29) rfl w.heap.size A5 c5 zs rfl ((intE_own.2 (own.below CX)).alloc _) (some ⟨wx.heap.size, 0, none⟩) 1 [sgW o u] rfl (RG.fresh (E := intE) _ _ rfl _ #[.int .i64 (sgW o u)] rfl _) (by simp; omega) (by simp [intE]; omega) (by simp; have := CX.size; omega) _ rfl ?_; intro A7 c7 w7 own7 hg7 hb7; have ho7 := (((ho.below CX).alloc (.cells #[.int .i64 (sgW o u)] 2)).grownInts hg7 ((own.below CX).alloc _) (by decide)); have hu7 := (((hu.below CX).alloc (.cells #[.int .i64 (sgW o u)] 2)).grownInts hg7 ((own.below CX).alloc _) (by decide)); have HK9 := And.intro (ho7.wk_at HOO.out) (hu7.wk_at HUU.out))
          | fail)
      go_wp2_with fail
      have hzx := CX.size
      have hB7 := ((hB.trans (CX.mono hz)).alloc (Nat.le_trans hz hzx) (.cells #[.int .i64 (sgW o u)] 2)).grown hg7 (by simp; omega) (fun q hq => (own.ge hq).1)
      go_roundw
      case rel => exact ⟨k + 1, A7, c7, zs ++ [sgW o u], by omega, by go_num, by simp, hide (by rw [HN.out, ← hzs.out]), hide (by rw [List.length_append, hzl.out]; rfl), intE_own.1 own7, ho7, hu7, hB7⟩
      case measure => simp [intOf]; omega
    · have e1 : n = k := by omega
      have HE : Hid (zs = sgL wd ht xs) := hide (by rw [hzs.out, ← e1, List.take_of_length_le (by rw [HSL.out]; exact Nat.le_refl _)])
      clear e1
      go_wp2_with fail
      go_ret
      exact ⟨A5, c5, by rw [← HE.out]; rfl, by rw [← HE.out]; exact own, hB⟩
end Go.Proofs.YtjlifbdaieblpaaGreat
