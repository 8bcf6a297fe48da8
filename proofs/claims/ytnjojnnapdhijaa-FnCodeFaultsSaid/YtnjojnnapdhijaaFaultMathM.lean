/-
  Contracts: what is drawn for the law of own crossings. Conditions: arguments of at most 4096 bytes.
  Contracts: what is drawn for the law of faults. Conditions: the numbers of bytes and of choices are far below the machine's.
  Plain lemmas: the first fault of a code; elements that are met again after an odd number of others. Conditions: none; nothing of the program is named here.
-/
import Derived.Test.YtnjojnnapdhijaaBentA
import Derived.Test.YtnjojnnapdhijaaBentC
import Derived.Test.YtnjojnnapdhijaaRenS
import Derived.Test.YtnjojnnapdhijaaNamesM
namespace Go.Proofs.Ytnjojnnapdhijaa
open Go.RowKit
set_option linter.unusedVariables false

def RetAt (w : World) (b : Nat) (A : Option Addr) (c : Nat) (xs : List Int) (K : Nat) (e : Ending) (w' : World) : Prop :=
  ∃ (code : List (List Int)) (B : Option Addr) (d : Nat) (k : Int), e = .returned (.tuple #[.slice B code.length d, .int .i64 k]) ∧ CodeB 64 300 code ∧ Dr w' w.heap.size B d code ∧ Sr w' b A c xs K ∧ w.grownBy w' (some b)
def RetDA (w : World) (e : Ending) (w' : World) : Prop :=
  ∃ (code : List (List Int)) (B : Option Addr) (d : Nat) (k : Int), e = .returned (.tuple #[.slice B code.length d, .int .i64 k]) ∧ CodeB 64 300 code ∧ Dr w' w.heap.size B d code ∧ Below w.heap.size w w'
def RetDB (w : World) (e : Ending) (w' : World) : Prop :=
  ∃ (code : List (List Int)) (B : Option Addr) (d : Nat), e = .returned (.slice B code.length d) ∧ CodeB 64 300 code ∧ Dr w' w.heap.size B d code ∧ Below w.heap.size w w'
theorem CodeB.lenA {n m : Nat} {code : List (List Int)} (h : CodeB n m code) (hn : n ≤ 64) (hm : m ≤ 300) : code.length ≤ 64 ∧ code.length + sumLen code ≤ 1048576 := by
  have h1 := h.sum
  have h2 := h.1
  have h3 : code.length * m ≤ 64 * 300 := Nat.mul_le_mul (by omega) hm
  omega
set_option maxHeartbeats 4000000 in
theorem l14At_any (b : Nat) (A : Option Addr) (c : Nat) (xs : List Int) (K : Nat) (w : World) (h : Sr w b A c xs K) (hK : K ≤ 70000) (hx : ∀ x ∈ xs, 0 ≤ x ∧ x ≤ 255) (hn : xs.length ≤ 1048576) :
    Calls Try.prog 84 #[.pointer (some ⟨b, 0, none⟩)] w (RetAt w b A c xs (K + 460)) := by
  have hb0 := h.lt
  have H0 := hide h
  have HX := hide hx
  have HD := hide (l14Bent_any b A c xs K w h (by omega) hx hn)
  clear h hx
  go_enter Try.func84, Try.ntmps84
  go_wp2_with fail
  refine HD.out.mono ?_
  rintro e w1 ⟨code, B, d, rfl, hcb, hdr, s1, g1⟩
  have hz1 := g1.size
  have HCB := hide hcb
  have hcl := hcb.1
  obtain ⟨N, hN⟩ : ∃ N, N = code.length := ⟨_, rfl⟩
  have HN := hide hN
  rw [← hN] at hcl ⊢
  have HDR := hide hdr
  obtain ⟨M, hM⟩ : ∃ M : Int, max 1 (N : Int) = M := ⟨_, rfl⟩
  have hM1 : 0 < M ∧ M ≤ 64 := by omega
  have HMX := hide (l00Max_any 1 (N : Int) w1)
  rw [hM] at HMX
  clear hN hcb hdr HD hM
  go_wp2_with fail
  refine HMX.out.mono ?_
  rintro e w1' ⟨rfl, rfl⟩
  go_wp2_with fail
  refine (pickG_any b A c xs _ M w1 s1 (by omega) HX.out hn hM1.1 (by omega)).mono ?_
  rintro e w2 ⟨p, rfl, hp, s2, g2⟩
  have G2 := gr_trans g1 g2
  clear s1 g1 HMX
  go_wp2_with fail
  refine (one_any b A c xs _ 12 w2 s2 (by omega) HX.out hn (by omega) (by omega)).mono ?_
  rintro e w3 ⟨v, rfl, s3, g3⟩
  have G3 := gr_trans G2 g3
  have hz3 := g3.size
  rcases v with _ | _
  · have HF := hide (And.intro ((HDR.out.src g2 hb0).src g3 hb0) (And.intro s3 G3))
    clear s2 g2 G2 s3 g3 G3
    go_wp2_with fail
    go_ret2
    exact ⟨code, B, d, _, by rw [← HN.out]; rfl, HCB.out, HF.out.1, HF.out.2.1.more (by omega), HF.out.2.2⟩
  · have HS := hide (s3.alloc (.cells #[.int .i64 (-1), .int .i64 (N : Int)] 2))
    have HNEW := hide (OwnI.new (base := 0) w3 [-1, (N : Int)] #[.int .i64 (-1), .int .i64 (N : Int)] rfl (Nat.zero_le _) (by simp [maxLen])).rd
    have hl3 := s3.lt
    have HG := hide (And.intro g2 (And.intro g3 G3))
    clear s2 g2 G2 s3 g3 G3
    go_wp2_with fail
    refine (among_any b A c xs _ (some ⟨w3.heap.size, 0, none⟩) 2 [-1, (N : Int)] _ HS.out (by omega) HX.out hn HNEW.out (fun q hq => by simp [blk] at hq; omega) (by simp) (by simp)).mono ?_
    rintro e w4 ⟨x, rfl, hxm, s4, g4⟩
    have HF := hide (And.intro ((((HDR.out.src HG.out.1 hb0).src HG.out.2.1 hb0).alloc _).src g4 hb0) (And.intro s4 (gr_trans (gr_below HG.out.2.2 ((Below.refl _ _).alloc (Nat.le_refl _) _)) g4)))
    clear hxm s4 g4
    go_wp2_with fail
    go_ret2
    exact ⟨code, B, d, x, by rw [← HN.out]; rfl, HCB.out, HF.out.1, HF.out.2.1.more (by omega), HF.out.2.2⟩
set_option maxHeartbeats 4000000 in
theorem drawDropCurve_any (A : Option Addr) (c : Nat) (xs : List Int) (w : World) (h : RB w A xs) (hx : ∀ x ∈ xs, 0 ≤ x ∧ x ≤ 255) (hn : xs.length ≤ 1048576) :
    Calls Try.prog 34 #[.slice A xs.length c] w (RetDA w) := by
  have hs := Sr.new (c := c) w h
  have hb := (Below.refl w.heap.size w).alloc (Nat.le_refl _) (.cells #[.slice A xs.length c, .int .i64 0, .int .u64 0] 101)
  have HD := hide (l14At_any w.heap.size A c xs 0 _ hs (by omega) hx hn)
  clear h hx hs
  go_enter Try.func34, Try.ntmps34
  go_wp2_with fail
  refine (l00From_any A xs.length c w).mono ?_
  rintro e w1 ⟨rfl, rfl⟩
  go_wp2_with fail
  refine HD.out.mono ?_
  rintro e w2 ⟨code, B, d, k, rfl, hcb, hdr, s2, g2⟩
  have HF := hide (And.intro (hdr.mono (base' := w.heap.size) (by simp)) (below_gr hb g2 (Nat.le_refl _)))
  clear hdr s2 g2 hb
  go_wp2_with fail
  go_ret2
  exact ⟨code, B, d, k, rfl, hcb, HF.out.1, HF.out.2⟩
set_option maxHeartbeats 4000000 in
theorem drawOwnCrossings_any (A : Option Addr) (c : Nat) (xs : List Int) (w : World) (h : RB w A xs) (hx : ∀ x ∈ xs, 0 ≤ x ∧ x ≤ 255) (hn : xs.length ≤ 1048576) :
    Calls Try.prog 37 #[.slice A xs.length c] w (RetDA w) := by
  have hs := Sr.new (c := c) w h
  have hb := (Below.refl w.heap.size w).alloc (Nat.le_refl _) (.cells #[.slice A xs.length c, .int .i64 0, .int .u64 0] 101)
  have HD := hide (l14At_any w.heap.size A c xs 0 _ hs (by omega) hx hn)
  clear h hx hs
  go_enter Try.func37, Try.ntmps37
  go_wp2_with fail
  refine (l00From_any A xs.length c w).mono ?_
  rintro e w1 ⟨rfl, rfl⟩
  go_wp2_with fail
  refine HD.out.mono ?_
  rintro e w2 ⟨code, B, d, k, rfl, hcb, hdr, s2, g2⟩
  have HF := hide (And.intro (hdr.mono (base' := w.heap.size) (by simp)) (below_gr hb g2 (Nat.le_refl _)))
  clear hdr s2 g2 hb
  go_wp2_with fail
  go_ret2
  exact ⟨code, B, d, k, rfl, hcb, HF.out.1, HF.out.2⟩
set_option maxHeartbeats 4000000 in
theorem drawMeetingsOf_any (A : Option Addr) (c : Nat) (xs : List Int) (w : World) (h : RB w A xs) (hx : ∀ x ∈ xs, 0 ≤ x ∧ x ≤ 255) (hn : xs.length ≤ 1048576) :
    Calls Try.prog 40 #[.slice A xs.length c] w (RetDB w) := by
  have hs := Sr.new (c := c) w h
  have hb := (Below.refl w.heap.size w).alloc (Nat.le_refl _) (.cells #[.slice A xs.length c, .int .i64 0, .int .u64 0] 101)
  have HD := hide (l15Bent_any w.heap.size A c xs 0 _ hs (by omega) hx hn)
  clear h hx hs
  go_enter Try.func40, Try.ntmps40
  go_wp2_with fail
  refine (l00From_any A xs.length c w).mono ?_
  rintro e w1 ⟨rfl, rfl⟩
  go_wp2_with fail
  refine HD.out.mono ?_
  rintro e w2 ⟨code, B, d, rfl, hcb, hdr, s2, g2⟩
  have HF := hide (And.intro (hdr.mono (base' := w.heap.size) (by simp)) (below_gr hb g2 (Nat.le_refl _)))
  clear hdr s2 g2 hb
  go_wp2_with fail
  go_ret
  exact ⟨code, B, d, rfl, hcb.mono (Nat.le_refl _) (by omega), HF.out.1, HF.out.2⟩
end Go.Proofs.Ytnjojnnapdhijaa

namespace Go.Proofs.Ytnjojnnapdhijaa
open Go.RowKit
set_option linter.unusedVariables false

set_option maxHeartbeats 4000000 in
theorem l15Long_any (n : Nat) (w : World) (hn : n ≤ 130) :
    Calls Try.prog 53 #[.int .i64 (n : Int)] w fun e w' => ∃ (zs : List Int) (B : Option Addr), e = .returned (.slice B 1 1) ∧ CodeB 64 300 [zs] ∧ Dr w' w.heap.size B 1 [zs] ∧ Below w.heap.size w w' := by
  go_enter Try.func53, Try.ntmps53
  have own0 := OwnI.empty_ w (base := w.heap.size) w.heap.size rfl (Nat.le_refl _)
  have hB0 := (Below.refl w.heap.size w).alloc (Nat.le_refl _) (.cells #[] 2)
  go_wp2_with fail
  go_loopw [3, 4] (fun s3 s4 wr => ∃ (k : Nat) (A1 : Option Addr) (c1 : Nat) (zs : List Int), 1 ≤ k ∧ k ≤ n + 1 ∧ s4 = .int .i64 (k : Int) ∧ s3 = .slice A1 zs.length c1 ∧ zs.length + 2 ≤ 2 * k ∧ Hid (∀ x ∈ zs, -200 ≤ x ∧ x ≤ 200) ∧ OwnI wr w.heap.size A1 c1 zs ∧ Below w.heap.size w wr) (fun _ s4 _ => n + 1 - (intOf s4).toNat)
  case atStart => exact ⟨1, _, 0, [], Nat.le_refl _, by omega, rfl, rfl, by simp, hide (by simp), own0, hB0⟩
  case round =>
    clear own0 hB0
    obtain ⟨k, A1, c1, zs, hk1, hk2, rfl, rfl, hzl, hzb, own, hB⟩ := hrel
    have hz := hB.size
    by_cases hlt : k ≤ n
    · have hkn : (k : Int) ≤ (n : Int) := by omega
      have hwn : IntKind.i64.wrap (-(k : Int)) = -(k : Int) := by rw [IntKind.wrap_i64]; omega
      have HZB : Hid (∀ x ∈ zs ++ [(k : Int), -(k : Int)], -200 ≤ x ∧ x ≤ 200) := hide fun x hx => by
        rcases List.mem_append.1 hx with hx | hx
        · exact hzb.out x hx
        · simp at hx; omega
      go_wp2_with (at_builtin; refine wpList_append_ints rfl (.tmp 11) (.tmp 15) rfl w.heap.size A1 c1 zs rfl (own.alloc _) (some ⟨wr.heap.size, 0, none⟩) 2 [(k : Int), -(k : Int)] rfl (OwnI.new (base := 0) wr [(k : Int), -(k : Int)] #[.int .i64 (k : Int), .int .i64 (-(k : Int))] rfl (Nat.zero_le _) (by simp [maxLen])).rd (by simp; omega) (by simp; omega) (zs ++ [(k : Int), -(k : Int)]) rfl ?_; intro A3 c3 w3 own3 hg3 hb3)
      go_roundw
      case rel => exact ⟨k + 1, A3, c3, _, by omega, by omega, by go_num, by simp, by simp; omega, HZB, own3, (hB.alloc hz _).grown hg3 (by simp; omega) (fun q hq => (own.ge hq).1)⟩
      case measure => simp [intOf]; omega
    · have hkn : ¬ ((k : Int) ≤ (n : Int)) := by omega
      have HF := hide (And.intro (Dr.one own hz) (hB.alloc hz (.cells #[.slice A1 zs.length c1] 34)))
      have HC : Hid (CodeB 64 300 [zs]) := hide (codeB_long (by omega) (by omega) (fun x hx => by have := hzb.out x hx; unfold I64; omega))
      clear own hB hzb hzl
      go_wp2_with fail
      go_ret
      exact ⟨zs, _, rfl, HC.out, HF.out.1, HF.out.2⟩

set_option maxHeartbeats 4000000 in
theorem drawCodeFault_any (A : Option Addr) (c : Nat) (xs : List Int) (w : World) (h : RB w A xs) (hx : ∀ x ∈ xs, 0 ≤ x ∧ x ≤ 255) (hn : xs.length ≤ 1048576) :
    Calls Try.prog 8 #[.slice A xs.length c] w (RetDB w) := by
  have hs := Sr.new (c := c) w h
  have hb := (Below.refl w.heap.size w).alloc (Nat.le_refl _) (.cells #[.slice A xs.length c, .int .i64 0, .int .u64 0] 101)
  have HX := hide hx
  have HD := hide (one_any w.heap.size A c xs 0 16 _ hs (by omega) hx hn (by omega) (by omega))
  clear h hx hs
  go_enter Try.func8, Try.ntmps8
  go_wp2_with fail
  refine (l00From_any A xs.length c w).mono ?_
  rintro e w1 ⟨rfl, rfl⟩
  go_wp2_with fail
  refine HD.out.mono ?_
  rintro e w2 ⟨v, rfl, s2, g2⟩
  have hz2 := g2.size
  rw [World.size_alloc] at hz2
  have B2 := below_gr hb g2 (Nat.le_refl _)
  clear HD hb
  rcases v with _ | _
  · go_wp2_with fail
    refine (one_any w.heap.size A c xs _ 16 _ s2 (by omega) HX.out hn (by omega) (by omega)).mono ?_
    rintro e w3 ⟨v, rfl, s3, g3⟩
    have hz3 := g3.size
    have B3 := below_gr B2 g3 (Nat.le_refl _)
    clear s2 g2 g3 B2
    rcases v with _ | _
    · go_wp2_with fail
      refine (l15Bent_any w.heap.size A c xs _ _ s3 (by omega) HX.out hn).mono ?_
      rintro e w4 ⟨code, B, d, rfl, hcb, hdr, s4, g4⟩
      have HF := hide (And.intro (hdr.mono (base' := w.heap.size) (by omega)) (below_gr B3 g4 (Nat.le_refl _)))
      have HC := hide hcb
      clear hdr s4 g4 s3 B3 hcb
      go_wp2_with fail
      go_ret
      exact ⟨code, B, d, rfl, HC.out.mono (Nat.le_refl _) (by omega), HF.out.1, HF.out.2⟩
    · go_wp2_with fail
      refine (pick_any w.heap.size A c xs _ 2 _ s3 (by omega) HX.out hn (by omega) (by omega)).mono ?_
      rintro e w4 ⟨x, rfl, hx0, hx1, s4, g4⟩
      obtain ⟨n, hnn⟩ : ∃ n : Nat, 40 + x = (n : Int) := ⟨(40 + x).toNat, by omega⟩
      have hw40 : IntKind.i64.wrap (40 + x) = (n : Int) := by rw [IntKind.wrap_i64]; omega
      have hn64 : n ≤ 64 := by omega
      have hz4 := g4.size
      have hmk := fun W : World => run_make_hd n (by omega) W
      have hown : OwnC (w4.alloc (.cells (madeCells hdE.z.cells (n * hdE.size)) 34)) w4.heap.size (w4.heap.size + 1) (some ⟨w4.heap.size, 0, none⟩) n (List.replicate n []) := OwnC.made w4 _ rfl (Nat.le_refl _) (by omega)
      have HF := hide (And.intro ((hown.dr (by simp)).mono (show w.heap.size ≤ w4.heap.size by omega)) ((below_gr B3 g4 (Nat.le_refl _)).alloc (by omega) (.cells (madeCells hdE.z.cells (n * hdE.size)) 34)))
      clear hown s4 g4 s3 B3 hnn hx0 hx1
      go_wp2_with fail
      go_ret
      exact ⟨List.replicate n [], _, n, by simp, ⟨by simpa using hn64, fun r hr => by rw [(List.mem_replicate.1 hr).2]; exact ⟨by simp, fun x hx => nomatch hx⟩⟩, HF.out.1, HF.out.2⟩
  · go_wp2_with fail
    refine (pick_any w.heap.size A c xs _ 2 _ s2 (by omega) HX.out hn (by omega) (by omega)).mono ?_
    rintro e w3 ⟨x, rfl, hx0, hx1, s3, g3⟩
    obtain ⟨n, hnn⟩ : ∃ n : Nat, 120 + x = (n : Int) := ⟨(120 + x).toNat, by omega⟩
    have hw : IntKind.i64.wrap (120 + x) = (n : Int) := by rw [IntKind.wrap_i64]; omega
    have hn130 : n ≤ 130 := by omega
    have hz3 := g3.size
    have B3 := below_gr B2 g3 (Nat.le_refl _)
    have HL := hide (l15Long_any n w3 hn130)
    clear s2 g2 B2 s3 g3 hnn hx0 hx1
    go_wp2_with fail
    refine HL.out.mono ?_
    rintro e w4 ⟨zs, B, rfl, hcb, hdr, b4⟩
    have HF := hide (And.intro (hdr.mono (base' := w.heap.size) (by omega)) (B3.trans (b4.mono (by omega))))
    clear hdr b4 B3
    go_wp2_with fail
    go_ret
    exact ⟨[zs], B, 1, rfl, hcb, HF.out.1, HF.out.2⟩

def RetDI (e : Ending) (w0 w' : World) (k : Int) : Prop := e = .returned (.int .i64 k) ∧ Below w0.heap.size w0 w'
set_option maxHeartbeats 4000000 in
theorem drawCodeFaultName_any (A : Option Addr) (c : Nat) (xs : List Int) (w : World) (h : RB w A xs) (hx : ∀ x ∈ xs, 0 ≤ x ∧ x ≤ 255) (hn : xs.length ≤ 1048576) :
    Calls Try.prog 12 #[.slice A xs.length c] w fun e w' => ∃ k : Int, -1 ≤ k ∧ k ≤ 8 ∧ RetDI e w w' k := by
  have hs := Sr.new (c := c) w h
  have hb := (Below.refl w.heap.size w).alloc (Nat.le_refl _) (.cells #[.slice A xs.length c, .int .i64 0, .int .u64 0] 101)
  have HD := hide (pick_any w.heap.size A c xs 0 10 _ hs (by omega) hx hn (by omega) (by omega))
  clear h hx hs
  go_enter Try.func12, Try.ntmps12
  go_wp2_with fail
  refine (l00From_any A xs.length c w).mono ?_
  rintro e w1 ⟨rfl, rfl⟩
  go_wp2_with fail
  refine HD.out.mono ?_
  rintro e w2 ⟨x, rfl, hx0, hx1, s2, g2⟩
  have hw : IntKind.i64.wrap (x - 1) = x - 1 := by rw [IntKind.wrap_i64]; omega
  have HF := hide (below_gr hb g2 (Nat.le_refl _))
  clear s2 g2 hb
  go_wp2_with fail
  go_ret
  exact ⟨x - 1, by omega, by omega, rfl, HF.out⟩

set_option maxHeartbeats 4000000 in
theorem drawEvenlySpaced_any (A : Option Addr) (c : Nat) (xs : List Int) (w : World) (h : RB w A xs) (hx : ∀ x ∈ xs, 0 ≤ x ∧ x ≤ 255) (hn : xs.length ≤ 1048576) :
    Calls Try.prog 11 #[.slice A xs.length c] w (RetDA w) := by
  have hs := Sr.new (c := c) w h
  have hb := (Below.refl w.heap.size w).alloc (Nat.le_refl _) (.cells #[.slice A xs.length c, .int .i64 0, .int .u64 0] 101)
  have HX := hide hx
  have hb0 := hs.lt
  rw [World.size_alloc] at hb0
  have HD := hide (l15Bent_any w.heap.size A c xs 0 _ hs (by omega) hx hn)
  clear h hx hs
  go_enter Try.func11, Try.ntmps11
  go_wp2_with fail
  refine (l00From_any A xs.length c w).mono ?_
  rintro e w1 ⟨rfl, rfl⟩
  go_wp2_with fail
  refine HD.out.mono ?_
  rintro e w2 ⟨code, B, d, rfl, hcb, hdr, s2, g2⟩
  have B2 := below_gr hb g2 (Nat.le_refl _)
  have HC := hide hcb
  have hcl := hcb.1
  obtain ⟨N, hN⟩ : ∃ N, N = code.length := ⟨_, rfl⟩
  have HN := hide hN
  rw [← hN] at hcl ⊢
  have HDR := hide hdr
  have hwN : IntKind.i64.wrap ((N : Int) + 1) = (N : Int) + 1 := by rw [IntKind.wrap_i64]; omega
  clear hN hcb hdr HD hb g2
  go_wp2_with fail
  refine (pickG_any w.heap.size A c xs _ ((N : Int) + 1) w2 s2 (by omega) HX.out hn (by omega) (by omega)).mono ?_
  rintro e w3 ⟨p, rfl, hp, s3, g3⟩
  have D3 := HDR.out.src g3 (by simp)
  have B3 := below_gr B2 g3 (Nat.le_refl _)
  clear s2 B2 HDR
  go_wp2_with fail
  refine (pick_any w.heap.size A c xs _ 16 w3 s3 (by omega) HX.out hn (by omega) (by omega)).mono ?_
  rintro e w4 ⟨x, rfl, hx0, hx1, s4, g4⟩
  have HF := hide (And.intro ((D3.src g4 (by simp)).mono (base' := w.heap.size) (by simp)) (below_gr B3 g4 (Nat.le_refl _)))
  obtain ⟨y, hy⟩ : ∃ y : Int, x.tdiv 15 = y := ⟨_, rfl⟩
  have hy0 : 0 ≤ y ∧ y ≤ 1 := by rw [← hy, Int.tdiv_eq_ediv_of_nonneg hx0]; omega
  have hwy : IntKind.i64.wrap y = y := by rw [IntKind.wrap_i64]; omega
  have hwp : IntKind.i64.wrap ((p : Int) - y) = (p : Int) - y := by rw [IntKind.wrap_i64]; omega
  clear D3 B3 s3 g3 s4 g4
  go_wp2_with fail
  go_ret2
  exact ⟨code, B, d, (p : Int) - y, by rw [← HN.out]; rfl, HC.out.mono (Nat.le_refl _) (by omega), HF.out.1, HF.out.2⟩
end Go.Proofs.Ytnjojnnapdhijaa

namespace Go.Proofs.Ytnjojnnapdhijaa
open Go.RowKit
set_option linter.unusedVariables false

/-- Each element stands just where it stands first. -/
def Apart (code : List (List Int)) : Prop := ∀ (i k : Nat) (xs : List Int) (x : Int), code[i]? = some xs → xs[k]? = some x → placeOf code x = some ((i : Int), (k : Int))
theorem apart_of_nodup {code : List (List Int)} (h : code.flatten.Nodup) : Apart code := fun i k xs x h1 h2 => by
  refine placeOf_first h1 h2 (fun ho => ?_)
  obtain ⟨t, e⟩ := upTo_prefix h1 h2
  rw [e, List.nodup_append] at h
  exact h.2.2 x ho x (by simp) rfl
def plc (code : List (List Int)) (x : Int) : Int × Int := (placeOf code x).getD (0, 0)
/-- what isOdd looks at -/
def oddB (p q : Int × Int) : Bool := p.1 == q.1 && decide (p.2 < q.2) && ((q.2 - p.2 - 1) % 2 == 1)
def oddX (code : List (List Int)) (x : Int) : Bool := oddB (plc code x) (plc code (-x))
/-- element k of a row is met again after an odd number of others -/
def oddAt (xs : List Int) (k j : Nat) : Bool := decide (k < j) && (xs.getD j 0 == -(xs.getD k 0)) && decide ((j - k) % 2 = 0)
def oddK (xs : List Int) (k : Nat) : Bool := (List.range xs.length).any (oddAt xs k)
theorem oddK_of {xs : List Int} {k j : Nat} (hj : j < xs.length) (h : oddAt xs k j = true) : oddK xs k = true := by
  unfold oddK
  rw [List.any_eq_true]
  exact ⟨j, by simpa using hj, h⟩
theorem oddK_no {xs : List Int} {k : Nat} (h : ∀ j, j < xs.length → oddAt xs k j = false) : oddK xs k = false := by
  unfold oddK
  rw [List.any_eq_false]
  intro j hj
  rw [h j (by simpa using hj)]
  simp
theorem getD_at {xs : List Int} {k : Nat} {x : Int} (h : xs[k]? = some x) : xs.getD k 0 = x := by rw [List.getD_eq_getElem?_getD, h]; rfl
theorem oddX_eq {code : List (List Int)} (ha : Apart code) {i k : Nat} {xs : List Int} {x : Int} (h : code[i]? = some xs) (hx : xs[k]? = some x) : oddX code x = oddK xs k := by
  have h1 : plc code x = ((i : Int), (k : Int)) := by unfold plc; rw [ha i k xs x h hx]; rfl
  have hg := getD_at hx
  cases hk : oddK xs k
  · unfold oddX
    rw [h1]
    cases ho : oddB ((i : Int), (k : Int)) (plc code (-x))
    · rfl
    · exfalso
      unfold oddB at ho
      simp only [Bool.and_eq_true, beq_iff_eq, decide_eq_true_eq] at ho
      obtain ⟨⟨e1, e2⟩, e3⟩ := ho
      cases hp : placeOf code (-x) with
      | none =>
        unfold plc at e2
        rw [hp] at e2
        simp at e2
        omega
      | some p =>
        obtain ⟨a, b⟩ := p
        obtain ⟨an, bn, ys, q1, q2, q3, q4⟩ := placeOf_some hp
        unfold plc at e1 e2 e3
        rw [hp] at e1 e2 e3
        simp only [Option.getD_some] at e1 e2 e3
        have hai : an = i := by omega
        subst hai
        rw [h] at q3
        injection q3 with q3
        subst q3
        have hb := (List.getElem?_eq_some_iff.1 q4).1
        have : oddK xs k = true := oddK_of hb (by
          unfold oddAt
          rw [hg, getD_at q4]
          simp only [Bool.and_eq_true, decide_eq_true_eq, beq_self_eq_true, and_true]
          omega)
        rw [hk] at this
        cases this
  · unfold oddK at hk
    rw [List.any_eq_true] at hk
    obtain ⟨j, hj, ho⟩ := hk
    have hj' : j < xs.length := by simpa using hj
    unfold oddAt at ho
    simp only [Bool.and_eq_true, beq_iff_eq, decide_eq_true_eq] at ho
    obtain ⟨⟨e1, e2⟩, e3⟩ := ho
    have hxj : xs[j]? = some xs[j] := List.getElem?_eq_getElem hj'
    rw [hg, getD_at hxj] at e2
    have h2 : plc code (-x) = ((i : Int), (j : Int)) := by
      unfold plc
      rw [← e2, ha i j xs _ h hxj]
      rfl
    unfold oddX oddB
    rw [h1, h2]
    simp only [Bool.and_eq_true, beq_iff_eq, decide_eq_true_eq, true_and]
    omega

def manyP (code : List (List Int)) (c : Nat) : Bool := decide (240 < sumLen (code.take (c + 1)))
def halfC (code : List (List Int)) : Int := ((sumLen code : Int) + 1) / 2
def badP (code : List (List Int)) (q : Int × Int × Int) : Bool := q.1 == 0 || !inB q.1 (-halfC code) (halfC code) || placeOf code q.1 != some q.2
def badKind (code : List (List Int)) (q : Int × Int × Int) : Int := if q.1 = 0 then 2 else if inB q.1 (-halfC code) (halfC code) = false then 3 else 4
def absentP (code : List (List Int)) (q : Int × Int × Int) : Bool := placeOf code (-q.1) == none
def oddP (code : List (List Int)) (q : Int × Int × Int) : Bool := oddX code q.1
/-- the first fault of a code -/
def faultC (code : List (List Int)) : Int × Int × Int :=
  if 40 < code.length then (1, 0, 0) else
  match (List.range code.length).find? (manyP code) with
  | some c => (1, (c : Int), 0)
  | none =>
    match (posC code).find? (badP code) with
    | some q => (badKind code q, q.2.1, q.2.2)
    | none =>
      match (posC code).find? (absentP code) with
      | some q => (5, q.2.1, q.2.2)
      | none =>
        match (posC code).find? (oddP code) with
        | some q => (6, q.2.1, q.2.2)
        | none => (0, 0, 0)
theorem fault_long {code : List (List Int)} (h : 40 < code.length) : faultC code = (1, 0, 0) := by unfold faultC; rw [if_pos h]
theorem range_find_hit {p : Nat → Bool} {n k : Nat} (hk : k < n) (h : ∀ j, j < k → p j = false) (hp : p k = true) : (List.range n).find? p = some k := by
  rw [List.find?_range_eq_some]
  exact ⟨hp, by simpa using hk, fun j hj => by simp [h j hj]⟩
theorem range_find_none {p : Nat → Bool} {n : Nat} (h : ∀ j, j < n → p j = false) : (List.range n).find? p = none := by
  rw [List.find?_eq_none]
  intro j hj
  simp [h j (by simpa using hj)]
theorem fault_many {code : List (List Int)} {c : Nat} (h : ¬ 40 < code.length) (hc : c < code.length) (h1 : ∀ j, j < c → manyP code j = false) (h2 : manyP code c = true) : faultC code = (1, (c : Int), 0) := by
  unfold faultC
  rw [if_neg h, range_find_hit hc h1 h2]
theorem fault_bad {code : List (List Int)} {q : Int × Int × Int} (h : ¬ 40 < code.length) (h1 : ∀ j, j < code.length → manyP code j = false) (h2 : (posC code).find? (badP code) = some q) : faultC code = (badKind code q, q.2.1, q.2.2) := by
  unfold faultC
  rw [if_neg h, range_find_none h1, h2]
theorem fault_absent {code : List (List Int)} {q : Int × Int × Int} (h : ¬ 40 < code.length) (h1 : ∀ j, j < code.length → manyP code j = false) (h2 : (posC code).find? (badP code) = none) (h3 : (posC code).find? (absentP code) = some q) : faultC code = (5, q.2.1, q.2.2) := by
  unfold faultC
  rw [if_neg h, range_find_none h1, h2]
  dsimp only
  rw [h3]
theorem fault_odd {code : List (List Int)} {q : Int × Int × Int} (h : ¬ 40 < code.length) (h1 : ∀ j, j < code.length → manyP code j = false) (h2 : (posC code).find? (badP code) = none) (h3 : (posC code).find? (absentP code) = none) (h4 : (posC code).find? (oddP code) = some q) : faultC code = (6, q.2.1, q.2.2) := by
  unfold faultC
  rw [if_neg h, range_find_none h1, h2]
  dsimp only
  rw [h3]
  dsimp only
  rw [h4]
theorem fault_none {code : List (List Int)} (h : ¬ 40 < code.length) (h1 : ∀ j, j < code.length → manyP code j = false) (h2 : (posC code).find? (badP code) = none) (h3 : (posC code).find? (absentP code) = none) (h4 : (posC code).find? (oddP code) = none) : faultC code = (0, 0, 0) := by
  unfold faultC
  rw [if_neg h, range_find_none h1, h2]
  dsimp only
  rw [h3]
  dsimp only
  rw [h4]
theorem many_none {code : List (List Int)} (h : sumLen code ≤ 240) : ∀ j, j < code.length → manyP code j = false := fun j _ => by
  have := sumLen_take_le code (j + 1)
  unfold manyP
  exact decide_eq_false (by omega)
theorem apart_of_bad {code : List (List Int)} (h : (posC code).find? (badP code) = none) : Apart code := fun i k xs x h1 h2 => by
  rw [List.find?_eq_none] at h
  obtain ⟨t, ht⟩ := posC_split h1 h2
  have := h (x, (i : Int), (k : Int)) (by rw [ht]; simp)
  unfold badP at this
  simp at this
  exact this.2
theorem good_of_bad {code : List (List Int)} (h : (posC code).find? (badP code) = none) {i k : Nat} {xs : List Int} {x : Int} (h1 : code[i]? = some xs) (h2 : xs[k]? = some x) : x ≠ 0 ∧ inB x (-halfC code) (halfC code) = true := by
  rw [List.find?_eq_none] at h
  obtain ⟨t, ht⟩ := posC_split h1 h2
  have := h (x, (i : Int), (k : Int)) (by rw [ht]; simp)
  unfold badP at this
  simp at this
  exact this.1
/-- which numbers have been met -/
def flagL (n : Nat) (g : Nat → Int) (l : List Int) : List Bool := (List.range (n + 1)).map fun j : Nat => decide (g j ∈ l)
theorem flagL_length (n : Nat) (g : Nat → Int) (l : List Int) : (flagL n g l).length = n + 1 := by simp [flagL]
theorem flagL_nil (n : Nat) (g : Nat → Int) : flagL n g [] = List.replicate (n + 1) false := by
  apply List.ext_getElem?
  intro i
  simp only [flagL, List.getElem?_map, List.getElem?_replicate]
  by_cases h : i < n + 1
  · rw [List.getElem?_range h, if_pos h]
    simp
  · rw [List.getElem?_eq_none (by simp; omega), if_neg h]
    rfl
theorem flagL_at {n m : Nat} {g : Nat → Int} {l : List Int} (hx : m < n + 1) : (flagL n g l)[m]? = some (decide (g m ∈ l)) := by
  simp only [flagL, List.getElem?_map]
  rw [List.getElem?_range hx, Option.map_some]
theorem flagL_set {n m : Nat} {g : Nat → Int} {l : List Int} {x : Int} (hg : ∀ a b, g a = g b → a = b) (hm : x = g m) (hx : m < n + 1) : (flagL n g l).set m true = flagL n g (l ++ [x]) := by
  apply List.ext_getElem?
  intro i
  by_cases h : m = i
  · subst h
    rw [List.getElem?_set_self (by rw [flagL_length]; exact hx), flagL_at hx]
    simp [hm]
  · rw [List.getElem?_set_ne h]
    simp only [flagL, List.getElem?_map]
    by_cases h2 : i < n + 1
    · rw [List.getElem?_range h2]
      simp only [Option.map_some, Option.some.injEq, decide_eq_decide, List.mem_append, List.mem_singleton]
      constructor
      · exact .inl
      · intro h3
        rcases h3 with h3 | h3
        · exact h3
        · exact absurd (hg _ _ (h3.trans hm)).symm h
    · rw [List.getElem?_eq_none (by simp; omega)]
      rfl
theorem flagL_other {n : Nat} {g : Nat → Int} {l : List Int} {x : Int} (h : ∀ j, g j ≠ x) : flagL n g (l ++ [x]) = flagL n g l := by
  unfold flagL
  apply List.map_congr_left
  intro j _
  simp [h j]
def posG (j : Nat) : Int := (j : Int)
def negG (j : Nat) : Int := -(j : Int)
theorem posG_inj (a b : Nat) (h : posG a = posG b) : a = b := by unfold posG at h; omega
theorem negG_inj (a b : Nat) (h : negG a = negG b) : a = b := by unfold negG at h; omega
end Go.Proofs.Ytnjojnnapdhijaa
