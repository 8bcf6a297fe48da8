/-
  What the laws FnPolys and FnShifted call, of polynomials in rows of the call's own. Conditions: the results are valid.
-/
import Derived.Test.YtffiejlfnecanaaDrawQ
import Derived.Test.YtffiejlfnecanaaPolyTopI
import Derived.Test.YtffiejlfnecanaaPolyInvI
import Derived.Test.YtffiejlfnecanaaPolyText2
import Derived.Test.YtffiejlfnecanaaPolyLaw
namespace Go.Proofs.Ytffiejlfnecanaa
open Go.RowKit
set_option linter.unusedVariables false

theorem implAddPolys_ok {w : World} {b0 : Nat} {B0 : Option Addr} {d0 : Nat} {q0 : Int × List Int} {b1 : Nat} {B1 : Option Addr} {d1 : Nat} {q1 : Int × List Int} {x : Int × List Int} (E : addPR q0.1 q0.2 q1.1 q1.2 = (x.1, x.2, 0)) (h0 : OwnI w b0 B0 d0 q0.2) (n0 : q0.2.length ≤ 400) (h1 : OwnI w b1 B1 d1 q1.2) (n1 : q1.2.length ≤ 400) :
    Calls Try.prog 7 #[.agg #[.int .i64 q0.1, .slice B0 q0.2.length d0], .agg #[.int .i64 q1.1, .slice B1 q1.2.length d1]] w (RetPC w x.1 x.2 0) := by
  have H := implAddPolys_any q0.1 B0 d0 q0.2 q1.1 B1 d1 q1.2 w h0.rd h1.rd (by omega) (by omega) h0.cap_ h1.cap_
  rw [E] at H
  exact H
theorem specAddPolys_ok {w : World} {b0 : Nat} {B0 : Option Addr} {d0 : Nat} {q0 : Int × List Int} {b1 : Nat} {B1 : Option Addr} {d1 : Nat} {q1 : Int × List Int} {x : Int × List Int} (E : addPR q0.1 q0.2 q1.1 q1.2 = (x.1, x.2, 0)) (h0 : OwnI w b0 B0 d0 q0.2) (n0 : q0.2.length ≤ 400) (h1 : OwnI w b1 B1 d1 q1.2) (n1 : q1.2.length ≤ 400) :
    Calls Try.prog 12 #[.agg #[.int .i64 q0.1, .slice B0 q0.2.length d0], .agg #[.int .i64 q1.1, .slice B1 q1.2.length d1]] w (RetPC w x.1 x.2 0) := by
  have H := specAddPolys_any q0.1 B0 d0 q0.2 q1.1 B1 d1 q1.2 w h0.rd h1.rd (by omega) (by omega) h0.cap_ h1.cap_
  rw [E] at H
  exact H
theorem implMulPolys_ok {w : World} {b0 : Nat} {B0 : Option Addr} {d0 : Nat} {q0 : Int × List Int} {b1 : Nat} {B1 : Option Addr} {d1 : Nat} {q1 : Int × List Int} {x : Int × List Int} (E : mulPR q0.1 q0.2 q1.1 q1.2 = (x.1, x.2, 0)) (h0 : OwnI w b0 B0 d0 q0.2) (n0 : q0.2.length ≤ 400) (h1 : OwnI w b1 B1 d1 q1.2) (n1 : q1.2.length ≤ 400) :
    Calls Try.prog 8 #[.agg #[.int .i64 q0.1, .slice B0 q0.2.length d0], .agg #[.int .i64 q1.1, .slice B1 q1.2.length d1]] w (RetPC w x.1 x.2 0) := by
  have H := implMulPolys_any q0.1 B0 d0 q0.2 q1.1 B1 d1 q1.2 w h0.rd h1.rd (by omega) (by omega) h0.cap_ h1.cap_
  rw [E] at H
  exact H
theorem specMulPolys_ok {w : World} {b0 : Nat} {B0 : Option Addr} {d0 : Nat} {q0 : Int × List Int} {b1 : Nat} {B1 : Option Addr} {d1 : Nat} {q1 : Int × List Int} {x : Int × List Int} (E : mulPR q0.1 q0.2 q1.1 q1.2 = (x.1, x.2, 0)) (h0 : OwnI w b0 B0 d0 q0.2) (n0 : q0.2.length ≤ 400) (h1 : OwnI w b1 B1 d1 q1.2) (n1 : q1.2.length ≤ 400) :
    Calls Try.prog 11 #[.agg #[.int .i64 q0.1, .slice B0 q0.2.length d0], .agg #[.int .i64 q1.1, .slice B1 q1.2.length d1]] w (RetPC w x.1 x.2 0) := by
  have H := specMulPolys_any q0.1 B0 d0 q0.2 q1.1 B1 d1 q1.2 w h0.rd h1.rd (by omega) (by omega)
  rw [E] at H
  exact H
theorem implInversePoly_ok {w : World} {b0 : Nat} {B0 : Option Addr} {d0 : Nat} {q0 : Int × List Int} {x : Int × List Int} (E : invPR q0.1 q0.2 = (x.1, x.2, 0)) (h0 : OwnI w b0 B0 d0 q0.2) (n0 : q0.2.length ≤ 400) :
    Calls Try.prog 16 #[.agg #[.int .i64 q0.1, .slice B0 q0.2.length d0]] w (RetPC w x.1 x.2 0) := by
  have H := implInversePoly_any q0.1 B0 d0 q0.2 w h0.rd (by omega) h0.cap_
  rw [E] at H
  exact H
theorem specInversePoly_ok {w : World} {b0 : Nat} {B0 : Option Addr} {d0 : Nat} {q0 : Int × List Int} {x : Int × List Int} (E : invPR q0.1 q0.2 = (x.1, x.2, 0)) (h0 : OwnI w b0 B0 d0 q0.2) (n0 : q0.2.length ≤ 400) :
    Calls Try.prog 17 #[.agg #[.int .i64 q0.1, .slice B0 q0.2.length d0]] w (RetPC w x.1 x.2 0) := by
  have H := specInversePoly_any q0.1 B0 d0 q0.2 w h0.rd (by omega)
  rw [E] at H
  exact H
theorem implShiftPoly_ok {w : World} {b0 : Nat} {B0 : Option Addr} {d0 : Nat} {q0 : Int × List Int} {x : Int × List Int} {p t : Int} (E : shiftPR q0.1 q0.2 p t = (x.1, x.2, 0)) (h0 : OwnI w b0 B0 d0 q0.2) (n0 : q0.2.length ≤ 400) :
    Calls Try.prog 15 #[.agg #[.int .i64 q0.1, .slice B0 q0.2.length d0], .int .i64 p, .int .i64 t] w (RetPC w x.1 x.2 0) := by
  have H := implShiftPoly_any q0.1 B0 d0 q0.2 p t w h0.rd (by omega)
  rw [E] at H
  exact H
theorem specSamePoly_ok {w : World} {b0 : Nat} {B0 : Option Addr} {d0 : Nat} {q0 : Int × List Int} {b1 : Nat} {B1 : Option Addr} {d1 : Nat} (h0 : OwnI w b0 B0 d0 q0.2) (n0 : q0.2.length ≤ 400) (h1 : OwnI w b1 B1 d1 q0.2) :
    Calls Try.prog 9 #[.agg #[.int .i64 q0.1, .slice B0 q0.2.length d0], .agg #[.int .i64 q0.1, .slice B1 q0.2.length d1]] w (RetV w (.bool true)) := by
  have H := specSamePoly_any q0.1 q0.1 B0 B1 d0 d1 q0.2 q0.2 w h0.rd h1.rd (by omega) (by omega)
  rw [show decide (q0.1 = q0.1 ∧ q0.2 = q0.2) = true by simp] at H
  exact H
theorem specValidPoly_ok {w : World} {b0 : Nat} {B0 : Option Addr} {d0 : Nat} {q0 : Int × List Int} (E : vldP q0.1 q0.2 = true) (h0 : OwnI w b0 B0 d0 q0.2) (n0 : q0.2.length ≤ 400) :
    Calls Try.prog 10 #[.agg #[.int .i64 q0.1, .slice B0 q0.2.length d0]] w (RetV w (.bool true)) := by
  have H := specValidPoly_any q0.1 B0 d0 q0.2 w h0.rd (by omega)
  rw [E] at H
  exact H
theorem implPolySum_ok {w : World} {b0 : Nat} {B0 : Option Addr} {d0 : Nat} {q0 : Int × List Int} {s : Int} (E : sumP q0.1 q0.2 = (s, 0)) (h0 : OwnI w b0 B0 d0 q0.2) (n0 : q0.2.length ≤ 400) :
    Calls Try.prog 13 #[.agg #[.int .i64 q0.1, .slice B0 q0.2.length d0]] w (RetV w (.tuple #[.int .i64 s, .int .i64 0])) := by
  have H := implPolySum_any q0.1 B0 d0 q0.2 w h0.rd (by omega)
  rw [E] at H
  exact H
theorem sumP_ok {q : Int × List Int} (h : vldP q.1 q.2 = true) : sumP q.1 q.2 = (sumW q.2, 0) := by
  unfold sumP
  rw [if_pos h]
theorem text_ne {q : Int × List Int} (h : Dw q) : polyT q.1 q.2 ≠ [] := by
  unfold polyT
  rw [if_pos h.vld]
  split
  · simp
  · exact polyOut_ne _ _ ⟨q.2.getD 0 0, by
      rw [List.getD_eq_getElem?_getD, List.getElem?_eq_getElem (by omega)]
      exact List.getElem_mem _, (h.cn.2 (by omega)).1⟩
end Go.Proofs.Ytffiejlfnecanaa
