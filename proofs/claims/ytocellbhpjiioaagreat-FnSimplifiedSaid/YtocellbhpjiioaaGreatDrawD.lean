/-
  Contract: a code drawn for moves. Conditions: the numbers of bytes and of choices are far below the machine's.
-/
import Derived.Test.YtocellbhpjiioaaGreatBentC
import Derived.Test.YtocellbhpjiioaaGreatCodeInM
namespace Go.Proofs.YtocellbhpjiioaaGreat
open Go.RowKit
set_option linter.unusedVariables false

/-- a fresh row put into a code, whatever was made since -/
theorem OwnC.putSrc {w w' : World} {base top b g p : Nat} {B : Option Addr} {c d : Nat} {code : List (List Int)} {ps : List Int} (h : OwnC w base top (some ⟨g, 0, none⟩) c code) (ht : top ≤ w.heap.size) (hb : b < base) (hp : p < code.length) (hg : w.grownBy w' (some b)) {t2 : Nat} (hrow : OwnI w' t2 B d ps) (h2 : w.heap.size ≤ t2) :
    OwnC (w'.setCell ⟨g, p, none⟩ (.slice B ps.length d)) base (w'.setCell ⟨g, p, none⟩ (.slice B ps.length d)).heap.size (some ⟨g, 0, none⟩) c (code.set p ps) := by
  have h1 := h.src hg hb ht
  have hbt : base ≤ top := by have := (h1.ge2c (g := g) rfl); omega
  have := (h1.put hp (hrow.mono (Nat.le_trans ht h2)) hbt).1
  rw [World.size_setCell]
  exact this

/-- a row of its own under way: made since wr -/
def NX (wr w : World) (b : Nat) (A : Option Addr) (c : Nat) (xs : List Int) (K t2 : Nat) (B : Option Addr) (d : Nat) (ns : List Int) : Prop :=
  OwnI w t2 B d ns ∧ Sr w b A c xs K ∧ wr.grownBy w (some b) ∧ wr.heap.size ≤ t2 ∧ t2 ≤ w.heap.size
theorem OwnI.shape {w : World} {base c : Nat} {A : Option Addr} {xs : List Int} (h : OwnI w base A c xs) : (A = none ∧ c = 0 ∧ xs.length = 0) ∨ ∃ g, A = some ⟨g, 0, none⟩ := by
  unfold OwnI World.ownsRow at h
  rcases h.2 with ⟨e, hn⟩ | ⟨g, cap, cur, e, _⟩
  · injection e with e1 e2 e3
    exact .inl ⟨e1, e3, e2⟩
  · injection e with e1 e2 e3
    exact .inr ⟨g, e1⟩
section
variable {wr w w' : World} {b : Nat} {A : Option Addr} {c : Nat} {xs : List Int} {K K0 t2 : Nat} {B B' : Option Addr} {d d' : Nat} {ns ns' : List Int}
theorem NX.app (h : NX wr w b A c xs K t2 B d ns) (h0 : Sr wr b A c xs K0) {o : Obj} (own' : OwnI w' t2 B' d' ns') (hg : (w.alloc o).grownBy w' (blk B)) : NX wr w' b A c xs K t2 B' d' ns' := by
  obtain ⟨h1, h2, h3, h4, h5⟩ := h
  have hz := hg.size
  rw [World.size_alloc] at hz
  exact ⟨own', (h2.alloc o).grownOld h0 (fun q hq => (h1.ge hq).1) h4 hg, gr_own (gr_below h3 ((Below.refl _ _).alloc (Nat.le_refl _) o)) (fun q hq => (h1.ge hq).1) h4 hg, h4, by omega⟩
theorem NX.app0 (h : NX wr w b A c xs K t2 B d ns) (h0 : Sr wr b A c xs K0) (own' : OwnI w' t2 B' d' ns') (hg : w.grownBy w' (blk B)) : NX wr w' b A c xs K t2 B' d' ns' := by
  obtain ⟨h1, h2, h3, h4, h5⟩ := h
  have hz := hg.size
  exact ⟨own', h2.grownOld h0 (fun q hq => (h1.ge hq).1) h4 hg, gr_own h3 (fun q hq => (h1.ge hq).1) h4 hg, h4, by omega⟩
theorem NX.src (h : NX wr w b A c xs K t2 B d ns) (h0 : Sr wr b A c xs K0) {K' : Nat} (hs : Sr w' b A c xs K') (hg : w.grownBy w' (some b)) : NX wr w' b A c xs K' t2 B d ns := by
  obtain ⟨h1, h2, h3, h4, h5⟩ := h
  have hz := hg.size
  have hb := h0.lt
  exact ⟨h1.src hg (by omega), hs, gr_trans h3 hg, h4, by omega⟩
theorem NX.put {w0 : World} {base g e p : Nat} {code : List (List Int)} (h : NX wr w b A c xs K t2 B d ns) {Ka : Nat} (ha : Sr w0 b A c xs Ka) (g0 : w0.grownBy wr (some b)) (hbase : w0.heap.size ≤ base) (own : OwnC wr base wr.heap.size (some ⟨g, 0, none⟩) e code) (hp : p < code.length) :
    (∃ B4 d4 n4, w.cell? ⟨g, p, none⟩ = some (.slice B4 n4 d4)) ∧ w.frozen? ⟨g, p, none⟩ = false ∧
    OwnC (w.setCell ⟨g, p, none⟩ (.slice B ns.length d)) base (w.setCell ⟨g, p, none⟩ (.slice B ns.length d)).heap.size (some ⟨g, 0, none⟩) e (code.set p ns) ∧ Sr (w.setCell ⟨g, p, none⟩ (.slice B ns.length d)) b A c xs K ∧
    w0.grownBy (w.setCell ⟨g, p, none⟩ (.slice B ns.length d)) (some b) ∧ base ≤ (w.setCell ⟨g, p, none⟩ (.slice B ns.length d)).heap.size := by
  obtain ⟨h1, h2, h3, h4, h5⟩ := h
  have hb := ha.lt
  obtain ⟨q1, q2⟩ := own.ge2c (g := g) rfl
  have hz := h3.size
  have own' := own.src h3 (by omega) (Nat.le_refl _)
  obtain ⟨g', B4, d4, ys, e1, _, _, _, _, hc, hf, _⟩ := own'.row hp
  injection e1 with e1
  injection e1 with e1
  subst e1
  refine ⟨⟨B4, d4, _, hc⟩, hf, own.putSrc (Nat.le_refl _) (by omega) hp h3 h1 h4, ?_, ?_, by rw [World.size_setCell]; omega⟩
  · exact h2.far (p := ⟨g, p, none⟩) (show b ≠ g by omega) (fun h1 e => by have := ha.row_lt h1 e; simp at this; omega) _
  · exact gr_new (gr_trans g0 h3) (p := ⟨g, p, none⟩) (show w0.heap.size ≤ g by omega) _
end
set_option maxRecDepth 40000 in
set_option maxHeartbeats 16000000 in
theorem l16Draw_any (b : Nat) (A : Option Addr) (c : Nat) (xs : List Int) (K : Nat) (w : World) (h : Sr w b A c xs K) (hK : K ≤ 70000) (hx : ∀ x ∈ xs, 0 ≤ x ∧ x ≤ 255) (hn : xs.length ≤ 1048576) :
    Calls Tryz.prog 22 #[.pointer (some ⟨b, 0, none⟩)] w (RetDv w b A c xs (K + 500) 64 80) := by
  have hb0 := h.lt
  have H0 := hide h
  have HX := hide hx
  go_enter Tryz.func22, Tryz.ntmps22
  go_wp2_with fail
  refine (one_any b A c xs K 3 w h (by omega) hx hn (by omega) (by omega)).mono ?_
  rintro e w0 ⟨v, rfl, s0, g0⟩
  have hz0 := g0.size
  clear h hx
  rcases v with _ | _
  · have HD := hide (l14Draw_any b A c xs (K + 1) w0 s0 (by omega) HX.out hn)
    clear s0
    go_wp2_with fail
    refine HD.out.mono ?_
    rintro e w1 ⟨code, B, d, rfl, hcb, own1, s1, g1⟩
    have hz1 := g1.size
    have hsum := hcb.sum
    have hcl := hcb.1
    have HCP := hide (l14Copy_any B d w1.heap.size code w1 (own1.dr (Nat.le_refl _)).rc (by omega))
    have HCB := hide hcb
    clear own1 HD hsum hcb
    go_wp2_with fail
    refine HCP.out.mono ?_
    rintro e w2 ⟨B2, d2, rfl, own2, b2⟩
    have hz2 := b2.size
    have s2 := s1.below b2
    have g2 := gr_below (gr_trans g0 g1) b2
    obtain ⟨T, hT⟩ : ∃ T, T = w1.heap.size := ⟨_, rfl⟩
    rw [← hT] at own2 hz2 hz1
    obtain ⟨N, hN⟩ : ∃ N, N = code.length := ⟨_, rfl⟩
    have HN := hide hN
    rw [← hN] at hcl ⊢
    clear hN hT s1 g1 g0 b2 HCP
    by_cases hN0 : N = 0
    · have hNi : (N : Int) = 0 := by omega
      have HF := hide (And.intro own2 (And.intro s2 g2))
      clear own2 s2 g2
      go_wp2_with fail
      go_ret
      exact ⟨code, B2, d2, by rw [← HN.out, hN0]; rfl, ⟨HCB.out.1, fun r hr => ⟨Nat.le_trans (HCB.out.2 r hr).1 (by omega), (HCB.out.2 r hr).2⟩⟩, (HF.out.1.dr (Nat.le_refl _)).mono (by omega), HF.out.2.1.more (by omega), HF.out.2.2⟩
    · have hNi : ¬ ((N : Int) = 0) := by omega
      go_wp2_with fail
      refine (pick_any b A c xs _ 5 _ s2 (by omega) HX.out hn (by omega) (by omega)).mono ?_
      rintro e w3 ⟨k0, rfl, hk0, hk5, s3, g3⟩
      have own3 := (own2.src g3 (by omega) (Nat.le_refl _)).mono (Nat.le_refl _) g3.size
      have G3 := gr_trans g2 g3
      have hz3 := g3.size
      obtain ⟨k1, rfl⟩ : ∃ k : Nat, k0 = (k : Int) := ⟨k0.toNat, by omega⟩
      have HC0 : Hid (∀ r ∈ code, r.length + 4 * k1 ≤ 80 ∧ ∀ x ∈ r, I64 x) := hide fun r hr => ⟨by have := (HCB.out.2 r hr).1; omega, (HCB.out.2 r hr).2⟩
      clear own2 s2 g2 g3
      go_wp2_with fail
      go_loopw [4] (fun s4 wr => ∃ (k : Nat) (zs : List (List Int)), k ≤ 4 ∧ s4 = .int .i64 (k : Int) ∧ Hid (zs.length = N) ∧ Hid (∀ r ∈ zs, r.length + 4 * k ≤ 80 ∧ ∀ x ∈ r, I64 x) ∧ OwnC wr T wr.heap.size B2 d2 zs ∧ Sr wr b A c xs (K + 403 + 5 * (4 - k)) ∧ w.grownBy wr (some b) ∧ T ≤ wr.heap.size) (fun s4 _ => (intOf s4).toNat)
      case atStart => exact ⟨k1, code, by omega, rfl, hide HN.out.symm, HC0, own3, s3.more (by omega), G3, by omega⟩
      case round =>
        clear own3 s3 G3 HC0
        obtain ⟨k, zs, hk4, rfl, hzl, hzb, own, hs, hg, hTz⟩ := hrel
        have hz := hg.size
        by_cases hkp : 0 < k
        · have hki : (0 : Int) < (k : Int) := by omega
          have hkw : IntKind.i64.wrap ((k : Int) - 1) = (k : Int) - 1 := by rw [IntKind.wrap_i64]; omega
          have hcbz : CodeB 64 80 zs := ⟨by rw [hzl.out]; omega, fun r hr => ⟨by have := (hzb.out r hr).1; omega, (hzb.out r hr).2⟩⟩
          have hsm := hcbz.sum
          rw [hzl.out] at hsm
          obtain ⟨M, hM⟩ : ∃ M, M = sumLen zs / 2 := ⟨_, rfl⟩
          have hM2 : M ≤ 2560 := by omega
          have HMANY := hide (l15Many_any B2 d2 wr.heap.size zs wr (own.dr (Nat.le_refl _)).rc (by rw [hzl.out]; omega))
          rw [hzl.out, ← hM] at HMANY
          clear hsm hcbz hM
          go_wp2_with fail
          refine HMANY.out.mono ?_
          rintro e w4 ⟨rfl, rfl⟩
          clear HMANY
          go_wp2_with fail
          refine (pickG_any b A c xs _ (N : Int) _ hs (by omega) HX.out hn (by omega) (by omega)).mono ?_
          rintro e w4 ⟨p, rfl, hp, s4, g4⟩
          have hz4 := g4.size
          have hpN : p < N := by omega
          have hpc : p < zs.length := by rw [hzl.out]; exact hpN
          obtain ⟨g, B4, d4, ys, rfl, hgT, hgs, hys, hc3, oR, hBT, RS⟩ := own.rowSrc (Nat.le_refl _) (b := b) (by omega) hpc
          have hyb := hzb.out ys (List.mem_of_getElem? hys)
          obtain ⟨o4, c4, f4, _, _⟩ := RS w4 g4
          have hcap := oR.cap
          obtain ⟨L, hL⟩ : ∃ L, L = ys.length := ⟨_, rfl⟩
          have hLl : L + 4 * k ≤ 80 := by rw [hL]; exact hyb.1
          have hLd : L ≤ d4 := by rw [hL]; exact hcap.1
          have hd4 : d4 ≤ 9223372036854775807 := by simpa [maxLen] using hcap.2
          have hLw : IntKind.i64.wrap ((L : Int) + 1) = (L : Int) + 1 := by rw [IntKind.wrap_i64]; omega
          have OSH0 : (B4 = none ∧ d4 = 0 ∧ L = 0) ∨ ∃ g, B4 = some ⟨g, 0, none⟩ := by rw [hL]; exact oR.shape
          have HYB := hide hyb
          have HL := hide hL
          have HRS := hide RS
          have HO := hide (And.intro own (And.intro hg hs))
          rw [← hL] at c4
          clear own hg hs oR hcap hyb hL hys RS o4 hc3
          go_wp2_with fail
          refine (pickG_any b A c xs _ ((L : Int) + 1) _ s4 (by omega) HX.out hn (by omega) (by omega)).mono ?_
          rintro e w5 ⟨q, rfl, hq, s5, g5⟩
          have hqL : q ≤ L := by omega
          have hz5 := g5.size
          have G5 := gr_trans g4 g5
          clear g4 g5 s4 c4 f4
          obtain ⟨p1, hp1⟩ : ∃ p1, p1 = ys.take q := ⟨_, rfl⟩
          obtain ⟨p2, hp2⟩ : ∃ p2, p2 = ys.drop q := ⟨_, rfl⟩
          have hl1 : Hid (p1.length = q) := hide (by rw [hp1, List.length_take, ← HL.out]; omega)
          have hl2 : Hid (p2.length = L - q) := hide (by rw [hp2, List.length_drop, HL.out])
          have HTK : Hid (∀ W, wr.grownBy W (some b) → RI W B4 p1) := hide fun W hW => by rw [hp1]; exact (HRS.out W hW).1.rd.take_ q
          have HDP : Hid (∀ W, wr.grownBy W (some b) → RI W (if d4 = q then B4 else B4.map (·.add q)) p2) := hide fun W hW => by rw [hp2]; exact (HRS.out W hW).1.rd.drop_ q (by rw [← HL.out]; exact hLd)
          have HSM : Hid ((∀ x ∈ p1, I64 x) ∧ ∀ x ∈ p2, I64 x) := hide ⟨fun x hx => HYB.out.2 x (List.mem_of_mem_take (hp1 ▸ hx)), fun x hx => HYB.out.2 x (List.mem_of_mem_drop (hp2 ▸ hx))⟩
          have HCOPY := hide (l00Own_any B4 d4 p1 w5 (HTK.out w5 G5) (by rw [hl1.out]; omega))
          rw [hl1.out] at HCOPY
          have hqi : (q : Int) ≤ (L : Int) := by omega
          have hqd : (q : Int) ≤ (d4 : Int) := by omega
          have hLdi : (L : Int) ≤ (d4 : Int) := by omega
          clear hp1 hp2
          have HS0 := hide HO.out.2.2
          have OSH := hide OSH0
          clear OSH0
          have H3 := hide HO.out.2.1
          have p1L := hl1
          have p2L := hl2
          have p1I : Hid (∀ x ∈ p1, I64 x) := hide HSM.out.1
          have p2I : Hid (∀ x ∈ p2, I64 x) := hide HSM.out.2
          have hTbase : w.heap.size ≤ T := by omega
          have hM1 : IntKind.i64.wrap ((M : Int) + 1) = (M : Int) + 1 := by rw [IntKind.wrap_i64]; omega
          have hMn : IntKind.i64.wrap (-(M : Int)) = -(M : Int) := by rw [IntKind.wrap_i64]; omega
          have hMn1 : IntKind.i64.wrap (-(M : Int) - 1) = -(M : Int) - 1 := by rw [IntKind.wrap_i64]; omega
          have hMn2 : IntKind.i64.wrap (-(M : Int) - 2) = -(M : Int) - 2 := by rw [IntKind.wrap_i64]; omega
          have hM2w : IntKind.i64.wrap ((M : Int) + 2) = (M : Int) + 2 := by rw [IntKind.wrap_i64]; omega
          have hqdn : q ≤ d4 := by omega
          have HROW : Hid (∀ ns : List Int, ns.length ≤ L + 2 → (∀ x ∈ ns, I64 x) → ∀ r ∈ zs.set p ns, r.length + 4 * (k - 1) ≤ 80 - 2 ∧ ∀ x ∈ r, I64 x) := hide (fun ns h1 h2 r hr => by
            rcases List.mem_or_eq_of_mem_set hr with h | h
            · have := hzb.out r h
              exact ⟨by omega, this.2⟩
            · rw [h]
              exact ⟨by omega, h2⟩)
          obtain ⟨n1, hn1⟩ : ∃ n1, n1 = p1 ++ [(M : Int) + 1] := ⟨_, rfl⟩
          have n1E := hide hn1
          have n1L : Hid (n1.length = q + 1) := hide (by rw [hn1, List.length_append, p1L.out]; first | (simp; done) | omega | (simp; omega))
          have n1I : Hid (∀ x ∈ n1, I64 x) := hide (by rw [hn1]; intro x hx; refine (List.mem_append.1 hx).elim (p1I.out x) (fun hx => ?_); simp at hx; unfold I64; first | omega | (rcases hx with rfl | rfl <;> omega))
          clear hn1
          go_wp2_with fail
          refine HCOPY.out.mono ?_
          rintro e w6 ⟨A6, c6, rfl, own6, hb6⟩
          have hz6 := hb6.size
          obtain ⟨t2, ht2⟩ : ∃ t2, t2 = w5.heap.size := ⟨_, rfl⟩
          rw [← ht2] at own6
          have ht2r : wr.heap.size ≤ t2 := by omega
          rw [p1L.out]
          have X6 : Hid (NX wr w6 b A c xs _ t2 A6 c6 p1) := hide ⟨own6, s5.below hb6, gr_below G5 hb6, ht2r, by omega⟩
          clear own6 hb6 G5 s5 HCOPY hl1 hl2
          go_wp2_with (at_builtin; refine wpList_append_ints rfl (.tmp 49) (.tmp 52) rfl t2 A6 c6 p1 (by rw [p1L.out]; rfl) (X6.out.1.alloc _) (some ⟨w6.heap.size, 0, none⟩) 1 [(M : Int) + 1] rfl (OwnI.new (base := 0) w6 [(M : Int) + 1] #[.int .i64 ((M : Int) + 1)] rfl (Nat.zero_le _) (by simp [maxLen])).rd (by rw [p1L.out]; simp; omega) (by have := X6.out.2.2.2.2; simp; omega) n1 n1E.out ?_; intro A7 c7 w7 own7 hg7 hb7; rw [n1L.out]; have X7 := hide (X6.out.app HS0.out own7 hg7); clear own7 hg7 hb7)
          go_wp2_with fail
          refine (one_any b A c xs _ 2 _ X7.out.2.1 (by omega) HX.out hn (by omega) (by omega)).mono ?_
          rintro e w8 ⟨v8, rfl, s8, g8⟩
          have X8 := hide (X7.out.src HS0.out s8 g8)
          clear s8 g8
          rcases v8 with _ | _
          · have hpair : True := trivial
            obtain ⟨n2, hn2⟩ : ∃ n2, n2 = n1 ++ [(M : Int) + 2] := ⟨_, rfl⟩
            have n2E := hide hn2
            have n2L : Hid (n2.length = q + 2) := hide (by rw [hn2, List.length_append, n1L.out]; first | (simp; done) | omega | (simp; omega))
            have n2I : Hid (∀ x ∈ n2, I64 x) := hide (by rw [hn2]; intro x hx; refine (List.mem_append.1 hx).elim (n1I.out x) (fun hx => ?_); simp at hx; unfold I64; first | omega | (rcases hx with rfl | rfl <;> omega))
            clear hn2
            obtain ⟨n3, hn3⟩ : ∃ n3, n3 = n2 ++ p2 := ⟨_, rfl⟩
            have n3E := hide hn3
            have n3L : Hid (n3.length = L + 2) := hide (by rw [hn3, List.length_append, n2L.out, p2L.out]; omega)
            have n3I : Hid (∀ x ∈ n3, I64 x) := hide (by rw [hn3]; intro x hx; exact (List.mem_append.1 hx).elim (n2I.out x) (p2I.out x))
            clear hn3
            go_upto_region 18 with (at_builtin; refine wpList_append_ints rfl (.tmp 70) (.tmp 73) rfl t2 A7 c7 n1 (by rw [n1L.out]; rfl) (X8.out.1.alloc _) (some ⟨w8.heap.size, 0, none⟩) 1 [(M : Int) + 2] rfl (OwnI.new (base := 0) w8 [(M : Int) + 2] #[.int .i64 ((M : Int) + 2)] rfl (Nat.zero_le _) (by simp [maxLen])).rd (by rw [n1L.out]; simp; omega) (by have := X8.out.2.2.2.2; simp; omega) n2 n2E.out ?_; intro A9 c9 w9 own9 hg9 hb9; rw [n2L.out]; have X9 := hide (X8.out.app HS0.out own9 hg9); clear own9 hg9 hb9)
            go_cut [] (fun wx => OwnC wx T wx.heap.size (some ⟨g, 0, none⟩) d2 (zs.set p n3) ∧ Sr wx b A c xs (K + 403 + 5 * (4 - k) + 1 + 1 + 1) ∧ w.grownBy wx (some b) ∧ T ≤ wx.heap.size)
            case first =>
              rcases OSH.out with ⟨e1, e2, e3⟩ | ⟨gq, e1⟩
              · have hq0 : q = 0 := by omega
                have hL0 : L = 0 := by omega
                have HDQ : Hid (∀ W, wr.grownBy W (some b) → RI W none p2) := hide (fun W _ => by rw [List.eq_nil_of_length_eq_zero (show p2.length = 0 by rw [p2L.out]; omega)]; exact Rd.nil W none)
                subst e1 e2 hq0 hL0
                go_wp2_with (at_builtin; refine wpList_append_ints rfl (.tmp 77) (.tmp 80) rfl t2 A9 c9 n2 (by rw [n2L.out]; rfl) X9.out.1 none 0 p2 (by rw [p2L.out]; rfl) (HDQ.out _ X9.out.2.2.1) (by rw [n2L.out, p2L.out]; omega) X9.out.2.2.2.2 n3 n3E.out ?_; intro A10 c10 w10 own10 hg10 hb10; have Y10 := X9.out.app0 HS0.out own10 hg10; have q0 := Y10.put H0.out HO.out.2.1 hTbase HO.out.1 hpc; rw [n3L.out] at q0 ⊢; have q1 := q0.1; obtain ⟨_, _, _, q1⟩ := q1; have q2 := q0.2.1; have Q10 := hide q0.2.2; clear q0 own10 hg10 hb10 Y10)
                go_meet
                exact Q10.out
              · by_cases hcq : d4 = q
                · have hcqi : True := trivial
                  have HDQ : Hid (∀ W, wr.grownBy W (some b) → RI W (some ⟨gq, 0, none⟩) p2) := hide (fun W hW => by have := HDP.out W hW; rw [if_pos hcq, e1] at this; exact this)
                  subst e1
                  clear hcqi hLd hLdi
                  subst hcq
                  go_wp2_with (at_builtin; refine wpList_append_ints rfl (.tmp 77) (.tmp 80) rfl t2 A9 c9 n2 (by rw [n2L.out]; rfl) X9.out.1 (some ⟨gq, 0, none⟩) _ p2 (by rw [p2L.out]; rfl) (HDQ.out _ X9.out.2.2.1) (by rw [n2L.out, p2L.out]; omega) X9.out.2.2.2.2 n3 n3E.out ?_; intro A10 c10 w10 own10 hg10 hb10; have Y10 := X9.out.app0 HS0.out own10 hg10; have q0 := Y10.put H0.out HO.out.2.1 hTbase HO.out.1 hpc; rw [n3L.out] at q0 ⊢; have q1 := q0.1; obtain ⟨_, _, _, q1⟩ := q1; have q2 := q0.2.1; have Q10 := hide q0.2.2; clear q0 own10 hg10 hb10 Y10)
                  go_meet
                  exact Q10.out
                · have hcqi : ¬ ((d4 : Int) = (q : Int)) := by omega
                  have HDQ : Hid (∀ W, wr.grownBy W (some b) → RI W (some ⟨gq, q, none⟩) p2) := hide (fun W hW => by have := HDP.out W hW; rw [if_neg hcq, e1] at this; simpa [Addr.add_lit] using this)
                  subst e1
                  go_wp2_with (at_builtin; refine wpList_append_ints rfl (.tmp 77) (.tmp 80) rfl t2 A9 c9 n2 (by rw [n2L.out]; rfl) X9.out.1 (some ⟨gq, q, none⟩) (d4 - q) p2 (by rw [p2L.out]; rfl) (HDQ.out _ X9.out.2.2.1) (by rw [n2L.out, p2L.out]; omega) X9.out.2.2.2.2 n3 n3E.out ?_; intro A10 c10 w10 own10 hg10 hb10; have Y10 := X9.out.app0 HS0.out own10 hg10; have q0 := Y10.put H0.out HO.out.2.1 hTbase HO.out.1 hpc; rw [n3L.out] at q0 ⊢; have q1 := q0.1; obtain ⟨_, _, _, q1⟩ := q1; have q2 := q0.2.1; have Q10 := hide q0.2.2; clear q0 own10 hg10 hb10 Y10)
                  go_meet
                  exact Q10.out
            case rest =>
              obtain ⟨wv, rfl⟩ : ∃ wv : World, wv = wc := ⟨_, rfl⟩
              obtain ⟨own12a, s12a, G12a, hT12a⟩ := hcut
              have hz12a := G12a.size
              go_wp2_with fail
              refine (pickG_any b A c xs _ (N : Int) _ s12a (by omega) HX.out hn (by omega) (by omega)).mono ?_
              rintro e w12 ⟨p', rfl, hp', s12, g12⟩
              have hz12 := g12.size
              have own12 := (own12a.src g12 (by omega) (Nat.le_refl _)).mono (Nat.le_refl _) g12.size
              have G12 := gr_trans G12a g12
              obtain ⟨zt, hzt⟩ : ∃ zt, zt = zs.set p n3 := ⟨_, rfl⟩
              rw [← hzt] at own12
              have HZL : Hid (zt.length = N) := hide (by rw [hzt, List.length_set]; exact hzl.out)
              have HZR : Hid (∀ r ∈ zt, r.length + 4 * (k - 1) ≤ 80 - 2 ∧ ∀ x ∈ r, I64 x) := hide (fun r hr => HROW.out n3 (by rw [n3L.out]; omega) n3I.out r (hzt ▸ hr))
              clear hzt own12a s12a G12a g12
              have hpN' : p' < N := by omega
              have hpc' : p' < zt.length := by rw [HZL.out]; exact hpN'
              obtain ⟨g', B14, d14, yt, hA14, hgT2, hgs2, hyt, hc14, oR2, hBT2, RS2⟩ := own12.rowSrc (Nat.le_refl _) (b := b) (by omega) hpc'
              injection hA14 with hA14
              injection hA14 with hA14
              subst hA14
              have hyb2 := HZR.out yt (List.mem_of_getElem? hyt)
              have hcap2 := oR2.cap
              obtain ⟨L2, hL2⟩ : ∃ L2, L2 = yt.length := ⟨_, rfl⟩
              have hLl2 : L2 + 4 * (k - 1) ≤ 80 - 2 := by rw [hL2]; exact hyb2.1
              have hLd2 : L2 ≤ d14 := by rw [hL2]; exact hcap2.1
              have hd14 : d14 ≤ 9223372036854775807 := by simpa [maxLen] using hcap2.2
              have hLw2 : IntKind.i64.wrap ((L2 : Int) + 1) = (L2 : Int) + 1 := by rw [IntKind.wrap_i64]; omega
              have OSH2 := hide (by rw [hL2]; exact oR2.shape : (B14 = none ∧ d14 = 0 ∧ L2 = 0) ∨ ∃ g, B14 = some ⟨g, 0, none⟩)
              have HYB2 := hide hyb2
              have HLL2 := hide hL2
              have HRS2 := hide RS2
              have HO2 := hide (And.intro own12 (And.intro G12 s12))
              rw [← hL2] at hc14
              clear own12 G12 oR2 hcap2 hyb2 hL2 hyt RS2
              go_wp2_with fail
              refine (pickG_any b A c xs _ ((L2 : Int) + 1) _ s12 (by omega) HX.out hn (by omega) (by omega)).mono ?_
              rintro e w13 ⟨q2, rfl, hq2, s13, g13⟩
              have hqL2 : q2 ≤ L2 := by omega
              have hz13 := g13.size
              clear s12 hc14
              obtain ⟨r1, hr1⟩ : ∃ r1, r1 = yt.take q2 := ⟨_, rfl⟩
              obtain ⟨r2, hr2⟩ : ∃ r2, r2 = yt.drop q2 := ⟨_, rfl⟩
              have r1L : Hid (r1.length = q2) := hide (by rw [hr1, List.length_take, ← HLL2.out]; omega)
              have r2L : Hid (r2.length = L2 - q2) := hide (by rw [hr2, List.length_drop, HLL2.out])
              have HTK2 : Hid (∀ W, w12.grownBy W (some b) → RI W B14 r1) := hide fun W hW => by rw [hr1]; exact (HRS2.out W hW).1.rd.take_ q2
              have HDP2 : Hid (∀ W, w12.grownBy W (some b) → RI W (if d14 = q2 then B14 else B14.map (·.add q2)) r2) := hide fun W hW => by rw [hr2]; exact (HRS2.out W hW).1.rd.drop_ q2 (by rw [← HLL2.out]; exact hLd2)
              have r1I : Hid (∀ x ∈ r1, I64 x) := hide fun x hx => HYB2.out.2 x (List.mem_of_mem_take (hr1 ▸ hx))
              have r2I : Hid (∀ x ∈ r2, I64 x) := hide fun x hx => HYB2.out.2 x (List.mem_of_mem_drop (hr2 ▸ hx))
              have HCOPY2 := hide (l00Own_any B14 d14 r1 w13 (HTK2.out w13 g13) (by rw [r1L.out]; omega))
              rw [r1L.out] at HCOPY2
              have hqi2 : (q2 : Int) ≤ (L2 : Int) := by omega
              have hqd2 : (q2 : Int) ≤ (d14 : Int) := by omega
              have hLdi2 : (L2 : Int) ≤ (d14 : Int) := by omega
              have HS2 := hide HO2.out.2.2
              have HROW2 : Hid (∀ ns : List Int, ns.length ≤ L2 + 2 → (∀ x ∈ ns, I64 x) → ∀ r ∈ zt.set p' ns, r.length + 4 * (k - 1) ≤ 80 ∧ ∀ x ∈ r, I64 x) := hide (fun ns h1 h2 r hr => by
                rcases List.mem_or_eq_of_mem_set hr with h | h
                · have := HZR.out r h
                  exact ⟨by omega, this.2⟩
                · rw [h]
                  exact ⟨by omega, h2⟩)
              clear hr1 hr2
              go_wp2_with fail
              refine HCOPY2.out.mono ?_
              rintro e w14 ⟨A14, c14, rfl, own14, hb14⟩
              have hz14 := hb14.size
              obtain ⟨t3, ht3⟩ : ∃ t3, t3 = w13.heap.size := ⟨_, rfl⟩
              rw [← ht3] at own14
              have ht3r : w12.heap.size ≤ t3 := by omega
              rw [r1L.out]
              have X14 : Hid (NX w12 w14 b A c xs _ t3 A14 c14 r1) := hide ⟨own14, s13.below hb14, gr_below g13 hb14, ht3r, by omega⟩
              clear own14 hb14 g13 s13 HCOPY2
              obtain ⟨m2, hm2⟩ : ∃ m2, m2 = r1 ++ [-(M : Int) - 1, -(M : Int) - 2] := ⟨_, rfl⟩
              have m2E := hide hm2
              have m2L : Hid (m2.length = q2 + 2) := hide (by rw [hm2, List.length_append, r1L.out]; first | (simp; done) | omega | (simp; omega))
              have m2I : Hid (∀ x ∈ m2, I64 x) := hide (by rw [hm2]; intro x hx; refine (List.mem_append.1 hx).elim (r1I.out x) (fun hx => ?_); simp at hx; unfold I64; first | omega | (rcases hx with rfl | rfl <;> omega))
              clear hm2
              obtain ⟨m3, hm3⟩ : ∃ m3, m3 = m2 ++ r2 := ⟨_, rfl⟩
              have m3E := hide hm3
              have m3L : Hid (m3.length = L2 + 2) := hide (by rw [hm3, List.length_append, m2L.out, r2L.out]; omega)
              have m3I : Hid (∀ x ∈ m3, I64 x) := hide (by rw [hm3]; intro x hx; exact (List.mem_append.1 hx).elim (m2I.out x) (r2I.out x))
              clear hm3
              go_upto_region 23 with (at_builtin; refine wpList_append_ints rfl (.tmp 99) (.tmp 106) rfl t3 A14 c14 r1 (by rw [r1L.out]; rfl) (X14.out.1.alloc _) (some ⟨w14.heap.size, 0, none⟩) 2 [-(M : Int) - 1, -(M : Int) - 2] rfl (OwnI.new (base := 0) w14 [-(M : Int) - 1, -(M : Int) - 2] #[.int .i64 (-(M : Int) - 1), .int .i64 (-(M : Int) - 2)] rfl (Nat.zero_le _) (by simp [maxLen])).rd (by rw [r1L.out]; simp; omega) (by have := X14.out.2.2.2.2; simp; omega) m2 m2E.out ?_; intro A15 c15 w15 own15 hg15 hb15; rw [m2L.out]; have X15 := hide (X14.out.app HS2.out own15 hg15); clear own15 hg15 hb15)
              rcases OSH2.out with ⟨e1, e2, e3⟩ | ⟨gq, e1⟩
              · have hq0 : q2 = 0 := by omega
                have hL0 : L2 = 0 := by omega
                have HDQ : Hid (∀ W, w12.grownBy W (some b) → RI W none r2) := hide (fun W _ => by rw [List.eq_nil_of_length_eq_zero (show r2.length = 0 by rw [r2L.out]; omega)]; exact Rd.nil W none)
                subst e1 e2 hq0 hL0
                go_wp2_with (at_builtin; refine wpList_append_ints rfl (.tmp 110) (.tmp 113) rfl t3 A15 c15 m2 (by rw [m2L.out]; rfl) X15.out.1 none 0 r2 (by rw [r2L.out]; rfl) (HDQ.out _ X15.out.2.2.1) (by rw [m2L.out, r2L.out]; omega) X15.out.2.2.2.2 m3 m3E.out ?_; intro A16 c16 w16 own16 hg16 hb16; have Y16 := X15.out.app0 HS2.out own16 hg16; have q0 := Y16.put H0.out HO2.out.2.1 hTbase HO2.out.1 hpc'; rw [m3L.out] at q0 ⊢; have q1 := q0.1; obtain ⟨_, _, _, q1⟩ := q1; have q2 := q0.2.1; have Q16 := hide q0.2.2; clear q0 own16 hg16 hb16 Y16)
                go_roundw
                case rel => exact ⟨k - 1, zt.set p' m3, by omega, by go_num, hide (by rw [List.length_set]; exact HZL.out), hide (fun r hr => HROW2.out m3 (by rw [m3L.out]; omega) m3I.out r hr), Q16.out.1, Q16.out.2.1.more (by omega), Q16.out.2.2.1, Q16.out.2.2.2⟩
                case measure => simp [intOf]; omega
              · by_cases hcq : d14 = q2
                · have hcqi : True := trivial
                  have HDQ : Hid (∀ W, w12.grownBy W (some b) → RI W (some ⟨gq, 0, none⟩) r2) := hide (fun W hW => by have := HDP2.out W hW; rw [if_pos hcq, e1] at this; exact this)
                  subst e1
                  clear hcqi hLd2 hLdi2
                  subst hcq
                  go_wp2_with (at_builtin; refine wpList_append_ints rfl (.tmp 110) (.tmp 113) rfl t3 A15 c15 m2 (by rw [m2L.out]; rfl) X15.out.1 (some ⟨gq, 0, none⟩) _ r2 (by rw [r2L.out]; rfl) (HDQ.out _ X15.out.2.2.1) (by rw [m2L.out, r2L.out]; omega) X15.out.2.2.2.2 m3 m3E.out ?_; intro A16 c16 w16 own16 hg16 hb16; have Y16 := X15.out.app0 HS2.out own16 hg16; have q0 := Y16.put H0.out HO2.out.2.1 hTbase HO2.out.1 hpc'; rw [m3L.out] at q0 ⊢; have q1 := q0.1; obtain ⟨_, _, _, q1⟩ := q1; have q2 := q0.2.1; have Q16 := hide q0.2.2; clear q0 own16 hg16 hb16 Y16)
                  go_roundw
                  case rel => exact ⟨k - 1, zt.set p' m3, by omega, by go_num, hide (by rw [List.length_set]; exact HZL.out), hide (fun r hr => HROW2.out m3 (by rw [m3L.out]; omega) m3I.out r hr), Q16.out.1, Q16.out.2.1.more (by omega), Q16.out.2.2.1, Q16.out.2.2.2⟩
                  case measure => simp [intOf]; omega
                · have hcqi : ¬ ((d14 : Int) = (q2 : Int)) := by omega
                  have HDQ : Hid (∀ W, w12.grownBy W (some b) → RI W (some ⟨gq, q2, none⟩) r2) := hide (fun W hW => by have := HDP2.out W hW; rw [if_neg hcq, e1] at this; simpa [Addr.add_lit] using this)
                  subst e1
                  go_wp2_with (at_builtin; refine wpList_append_ints rfl (.tmp 110) (.tmp 113) rfl t3 A15 c15 m2 (by rw [m2L.out]; rfl) X15.out.1 (some ⟨gq, q2, none⟩) (d14 - q2) r2 (by rw [r2L.out]; rfl) (HDQ.out _ X15.out.2.2.1) (by rw [m2L.out, r2L.out]; omega) X15.out.2.2.2.2 m3 m3E.out ?_; intro A16 c16 w16 own16 hg16 hb16; have Y16 := X15.out.app0 HS2.out own16 hg16; have q0 := Y16.put H0.out HO2.out.2.1 hTbase HO2.out.1 hpc'; rw [m3L.out] at q0 ⊢; have q1 := q0.1; obtain ⟨_, _, _, q1⟩ := q1; have q2 := q0.2.1; have Q16 := hide q0.2.2; clear q0 own16 hg16 hb16 Y16)
                  go_roundw
                  case rel => exact ⟨k - 1, zt.set p' m3, by omega, by go_num, hide (by rw [List.length_set]; exact HZL.out), hide (fun r hr => HROW2.out m3 (by rw [m3L.out]; omega) m3I.out r hr), Q16.out.1, Q16.out.2.1.more (by omega), Q16.out.2.2.1, Q16.out.2.2.2⟩
                  case measure => simp [intOf]; omega
          · have hloop : True := trivial
            obtain ⟨n2, hn2⟩ : ∃ n2, n2 = n1 ++ [-(M : Int) - 1] := ⟨_, rfl⟩
            have n2E := hide hn2
            have n2L : Hid (n2.length = q + 2) := hide (by rw [hn2, List.length_append, n1L.out]; first | (simp; done) | omega | (simp; omega))
            have n2I : Hid (∀ x ∈ n2, I64 x) := hide (by rw [hn2]; intro x hx; refine (List.mem_append.1 hx).elim (n1I.out x) (fun hx => ?_); simp at hx; unfold I64; first | omega | (rcases hx with rfl | rfl <;> omega))
            clear hn2
            obtain ⟨n3, hn3⟩ : ∃ n3, n3 = n2 ++ p2 := ⟨_, rfl⟩
            have n3E := hide hn3
            have n3L : Hid (n3.length = L + 2) := hide (by rw [hn3, List.length_append, n2L.out, p2L.out]; omega)
            have n3I : Hid (∀ x ∈ n3, I64 x) := hide (by rw [hn3]; intro x hx; exact (List.mem_append.1 hx).elim (n2I.out x) (p2I.out x))
            clear hn3
            go_upto_region 16 with (at_builtin; refine wpList_append_ints rfl (.tmp 56) (.tmp 60) rfl t2 A7 c7 n1 (by rw [n1L.out]; rfl) (X8.out.1.alloc _) (some ⟨w8.heap.size, 0, none⟩) 1 [-(M : Int) - 1] rfl (OwnI.new (base := 0) w8 [-(M : Int) - 1] #[.int .i64 (-(M : Int) - 1)] rfl (Nat.zero_le _) (by simp [maxLen])).rd (by rw [n1L.out]; simp; omega) (by have := X8.out.2.2.2.2; simp; omega) n2 n2E.out ?_; intro A9 c9 w9 own9 hg9 hb9; rw [n2L.out]; have X9 := hide (X8.out.app HS0.out own9 hg9); clear own9 hg9 hb9)
            go_cut [] (fun wx => OwnC wx T wx.heap.size (some ⟨g, 0, none⟩) d2 (zs.set p n3) ∧ Sr wx b A c xs (K + 403 + 5 * (4 - k) + 1 + 1 + 1) ∧ w.grownBy wx (some b) ∧ T ≤ wx.heap.size)
            case first =>
              rcases OSH.out with ⟨e1, e2, e3⟩ | ⟨gq, e1⟩
              · have hq0 : q = 0 := by omega
                have hL0 : L = 0 := by omega
                have HDQ : Hid (∀ W, wr.grownBy W (some b) → RI W none p2) := hide (fun W _ => by rw [List.eq_nil_of_length_eq_zero (show p2.length = 0 by rw [p2L.out]; omega)]; exact Rd.nil W none)
                subst e1 e2 hq0 hL0
                go_wp2_with (at_builtin; refine wpList_append_ints rfl (.tmp 64) (.tmp 67) rfl t2 A9 c9 n2 (by rw [n2L.out]; rfl) X9.out.1 none 0 p2 (by rw [p2L.out]; rfl) (HDQ.out _ X9.out.2.2.1) (by rw [n2L.out, p2L.out]; omega) X9.out.2.2.2.2 n3 n3E.out ?_; intro A10 c10 w10 own10 hg10 hb10; have Y10 := X9.out.app0 HS0.out own10 hg10; have q0 := Y10.put H0.out HO.out.2.1 hTbase HO.out.1 hpc; rw [n3L.out] at q0 ⊢; have q1 := q0.1; obtain ⟨_, _, _, q1⟩ := q1; have q2 := q0.2.1; have Q10 := hide q0.2.2; clear q0 own10 hg10 hb10 Y10)
                go_meet
                exact Q10.out
              · by_cases hcq : d4 = q
                · have hcqi : True := trivial
                  have HDQ : Hid (∀ W, wr.grownBy W (some b) → RI W (some ⟨gq, 0, none⟩) p2) := hide (fun W hW => by have := HDP.out W hW; rw [if_pos hcq, e1] at this; exact this)
                  subst e1
                  clear hcqi hLd hLdi
                  subst hcq
                  go_wp2_with (at_builtin; refine wpList_append_ints rfl (.tmp 64) (.tmp 67) rfl t2 A9 c9 n2 (by rw [n2L.out]; rfl) X9.out.1 (some ⟨gq, 0, none⟩) _ p2 (by rw [p2L.out]; rfl) (HDQ.out _ X9.out.2.2.1) (by rw [n2L.out, p2L.out]; omega) X9.out.2.2.2.2 n3 n3E.out ?_; intro A10 c10 w10 own10 hg10 hb10; have Y10 := X9.out.app0 HS0.out own10 hg10; have q0 := Y10.put H0.out HO.out.2.1 hTbase HO.out.1 hpc; rw [n3L.out] at q0 ⊢; have q1 := q0.1; obtain ⟨_, _, _, q1⟩ := q1; have q2 := q0.2.1; have Q10 := hide q0.2.2; clear q0 own10 hg10 hb10 Y10)
                  go_meet
                  exact Q10.out
                · have hcqi : ¬ ((d4 : Int) = (q : Int)) := by omega
                  have HDQ : Hid (∀ W, wr.grownBy W (some b) → RI W (some ⟨gq, q, none⟩) p2) := hide (fun W hW => by have := HDP.out W hW; rw [if_neg hcq, e1] at this; simpa [Addr.add_lit] using this)
                  subst e1
                  go_wp2_with (at_builtin; refine wpList_append_ints rfl (.tmp 64) (.tmp 67) rfl t2 A9 c9 n2 (by rw [n2L.out]; rfl) X9.out.1 (some ⟨gq, q, none⟩) (d4 - q) p2 (by rw [p2L.out]; rfl) (HDQ.out _ X9.out.2.2.1) (by rw [n2L.out, p2L.out]; omega) X9.out.2.2.2.2 n3 n3E.out ?_; intro A10 c10 w10 own10 hg10 hb10; have Y10 := X9.out.app0 HS0.out own10 hg10; have q0 := Y10.put H0.out HO.out.2.1 hTbase HO.out.1 hpc; rw [n3L.out] at q0 ⊢; have q1 := q0.1; obtain ⟨_, _, _, q1⟩ := q1; have q2 := q0.2.1; have Q10 := hide q0.2.2; clear q0 own10 hg10 hb10 Y10)
                  go_meet
                  exact Q10.out
            case rest =>
              obtain ⟨w12, rfl⟩ : ∃ w12 : World, w12 = wc := ⟨_, rfl⟩
              have HQ := hide hcut
              clear hcut
              go_wp2_with fail
              go_roundw
              case rel => exact ⟨k - 1, zs.set p n3, by omega, by go_num, hide (by rw [List.length_set]; exact hzl.out), hide (fun r hr => by have := HROW.out n3 (by rw [n3L.out]; omega) n3I.out r hr; exact ⟨by omega, this.2⟩), HQ.out.1, HQ.out.2.1.more (by omega), HQ.out.2.2.1, HQ.out.2.2.2⟩
              case measure => simp [intOf]; omega
        · obtain rfl : k = 0 := by omega
          have hki : ¬ ((0 : Int) < ((0 : Nat) : Int)) := by omega
          have HF := hide (And.intro hzl.out (And.intro hzb.out (And.intro own (And.intro hs hg))))
          clear own hs hg hzl hzb hkp
          go_wp2_with fail
          go_ret
          obtain ⟨f1, f2, f3, f4, f5⟩ := HF.out
          exact ⟨zs, B2, d2, by rw [f1]; rfl, ⟨by omega, fun r hr => ⟨by have := (f2 r hr).1; omega, (f2 r hr).2⟩⟩, (f3.dr (Nat.le_refl _)).mono (by omega), f4.more (by omega), f5⟩
  · have HD := hide (l15Bent_any b A c xs (K + 1) w0 s0 (by omega) HX.out hn)
    clear s0
    go_wp2_with fail
    refine HD.out.mono ?_
    rintro e w1 ⟨code, B, d, rfl, hcb, hdr, s1, g1⟩
    have HF := hide (And.intro hcb (And.intro hdr (And.intro s1 (gr_trans g0 g1))))
    clear hcb hdr s1 g1 g0 HD
    go_wp2_with fail
    go_ret
    exact ⟨code, B, d, rfl, HF.out.1.mono (Nat.le_refl _) (by omega), HF.out.2.1.mono hz0, HF.out.2.2.1.more (by omega), HF.out.2.2.2⟩
end Go.Proofs.YtocellbhpjiioaaGreat
