/-
  Contract: places, where the elements of a code stand. Conditions: none beyond the lengths.
-/
import Derived.Test.YtnjojnnapdhijaaMap
import Derived.Test.YtnjojnnapdhijaaPos
import Derived.Maps.OwnOps
namespace Go.Proofs.Ytnjojnnapdhijaa
open Go.RowKit
set_option linter.unusedVariables false

/-- A function that hands back the places of a code. -/
def RetMp (w : World) (code : List (List Int)) (e : Ending) (w' : World) : Prop :=
  ∃ b l, e = .returned (.map (some b)) ∧ w.heap.size ≤ b ∧ Mp plE w' b l ∧ Hid (∀ x, l.lookup x = placeOf code x) ∧ Below w.heap.size w w'
theorem lookP_add {l : List (Int × Int × Int)} {code : List (List Int)} {i k : Nat} {xs : List Int} {x : Int} (h : code[i]? = some xs) (hx : xs[k]? = some x) (hl : ∀ y, l.lookup y = (posTo code i k).lookup y) :
    ∀ y, (l ++ [(x, (i : Int), (k : Int))]).lookup y = (posTo code i (k + 1)).lookup y := fun y => by
  rw [posTo_next h hx, lookup_append, lookup_append, hl]
theorem lookP_old {l : List (Int × Int × Int)} {code : List (List Int)} {i k : Nat} {xs : List Int} {x : Int} (h : code[i]? = some xs) (hx : xs[k]? = some x) (hl : ∀ y, l.lookup y = (posTo code i k).lookup y) {p : Int × Int} (hp : l.lookup x = some p) :
    ∀ y, l.lookup y = (posTo code i (k + 1)).lookup y := fun y => by
  rw [posTo_next h hx, lookup_append, hl]
  cases hy : (posTo code i k).lookup y with
  | some q => rfl
  | none =>
    by_cases hxy : y = x
    · subst hxy
      rw [← hl, hp] at hy
      cases hy
    · have : (y == x) = false := by simpa using hxy
      simp [List.lookup, this]

set_option maxRecDepth 100000 in
set_option maxHeartbeats 4000000 in
theorem places_any (A : Option Addr) (c T : Nat) (code : List (List Int)) (w : World) (hc : RC w T A code) (hn : code.length + sumLen code ≤ 1048576) :
    Calls Try.prog 56 #[.slice A code.length c] w (RetMp w code) := by
  have hmm := @run_makeMap Try.prog
  have hcl : code.length ≤ 1048576 := by omega
  have H0 : Hid (∀ x, List.lookup x ([] : List (Int × Int × Int)) = (posTo code 0 0).lookup x) := hide (fun x => by rw [posTo_zero])
  go_enter Try.func56, Try.ntmps56
  go_wp2_with fail
  go_loopw [13] (fun s5 wr => ∃ (i : Nat) (l : List (Int × Int × Int)), i ≤ code.length ∧ s5 = .int .i64 i ∧ Hid (∀ x, l.lookup x = (posTo code i 0).lookup x) ∧ Mp plE wr w.heap.size l ∧ Below w.heap.size w wr) (fun s5 _ => code.length - (intOf s5).toNat)
  case atStart => exact ⟨0, [], Nat.zero_le _, rfl, H0, Mp.made w _ rfl, (Below.refl _ _).alloc (Nat.le_refl _) _⟩
  case round =>
    clear H0 hmm
    obtain ⟨i, l, hi, rfl, hl, hmp, hB⟩ := hrel
    obtain ⟨wo, rfl⟩ : ∃ wo : World, wo = wr := ⟨_, rfl⟩
    by_cases hlt : i < code.length
    · obtain ⟨b, off, B, d, xs, rfl, hb, hx, hce, hd1, hd2, hr⟩ := hc.row hlt
      have hce1 := (hB.cell (p := ⟨b, off + i, none⟩) hb).trans hce
      have hxl := sumLen_row hx
      have HX := hide hx
      clear hx hd1 hd2
      go_wp2_with fail
      go_loopw [20] (fun s6 wr => ∃ (k : Nat) (l : List (Int × Int × Int)), k ≤ xs.length ∧ s6 = .int .i64 k ∧ Hid (∀ x, l.lookup x = (posTo code i k).lookup x) ∧ Mp plE wr w.heap.size l ∧ Below w.heap.size w wr) (fun s6 _ => xs.length - (intOf s6).toNat)
      case atStart => exact ⟨0, l, Nat.zero_le _, rfl, hl, hmp, hB⟩
      case round =>
        clear hl hmp hce1 hB
        obtain ⟨k, l, hk, rfl, hl, hmp, hB⟩ := hrel
        have hr2 := hr.below hB
        have hz := hB.size
        by_cases hkl : k < xs.length
        · obtain ⟨b2, off2, x, rfl, hb2, hx, hcx⟩ := hr2.at_ hkl
          have hlook := hmp.look_ok x
          obtain ⟨p1, p2, hp⟩ : ∃ p1 p2, atK plE l x = (p1, p2) := ⟨_, _, rfl⟩
          cases hlx : l.lookup x with
          | none =>
            have HL := hide (lookP_add HX.out hx hl.out)
            have hlk : (Instr.lookup 59 (.map (some w.heap.size)) (.int .i64 x) true).run Try.prog wr = .ok (.tuple #[.agg #[.int .i64 p1, .int .i64 p2], .bool false]) wr := by
              have := hlook
              rw [hp, hlx] at this
              exact this
            have HN := hide hlx
            clear hx hlook hp hlx
            go_wp2_with (at_mapUpdate; refine wpList_put rfl (.tmp 33) (.tmp 34) (.tmp 37) plE rfl w.heap.size l rfl (hmp.alloc _) x rfl ((i : Int), (k : Int)) rfl HN.out ?_; intro w2 hmp2 hg2)
            go_roundw
            case rel => exact ⟨k + 1, _, by omega, by go_num, HL, hmp2, (hB.alloc hz _).grown hg2 (by simp; omega) (fun k hk => by injection hk with hk; omega)⟩
            case measure => simp [intOf]; omega
          | some q =>
            have HL := hide (lookP_old HX.out hx hl.out hlx)
            have hlk : (Instr.lookup 59 (.map (some w.heap.size)) (.int .i64 x) true).run Try.prog wr = .ok (.tuple #[.agg #[.int .i64 p1, .int .i64 p2], .bool true]) wr := by
              have := hlook
              rw [hp, hlx] at this
              exact this
            clear hx hlook hp hlx
            go_wp2_with fail
            go_roundw
            case rel => exact ⟨k + 1, l, by omega, by go_num, HL, hmp.alloc _, hB.alloc hz _⟩
            case measure => simp [intOf]; omega
        · have HL : Hid (∀ x, l.lookup x = (posTo code (i + 1) 0).lookup x) := hide (by rw [← posTo_row (k := k) HX.out (by omega)]; exact hl.out)
          go_wp2_with fail
          go_roundw
          case rel => exact ⟨i + 1, l, by omega, by go_num, HL, hmp, hB⟩
          case measure => simp [intOf]; omega
    · have HL : Hid (∀ x, l.lookup x = placeOf code x) := hide (fun x => by rw [hl.out, posTo_all (by omega)]; rfl)
      go_wp2_with fail
      go_ret
      exact ⟨w.heap.size, l, rfl, Nat.le_refl _, hmp, HL, hB⟩
end Go.Proofs.Ytnjojnnapdhijaa
