/-
  No cell of these rows narrows 'for every input' (looked for: loops, veiled, ifaces, maps, wideKeys, modest, calm, conditions, laid).
  DERIVED. THE GIVEN ROWS OF THIS SEAT. 4 by the template 'for every input the law returns true; each argument reads behind the call as it read before'; 0 by the template 'total and deterministic' (their statements: YtnjojnnapdhijaaTotals.lean).
  GIVEN WITH THE SEED: the statements are not yours to turn. If you find one false, say at which input.
  Laid BY PROGRAM, IN A SANDBOX (cutbox-rows.mjs): the forced cells as the released guide's own fill.sh prints them over the translation e40d6afde007efb0… (all of the seat's roots in one cut). By AI agents, Wed Nov 11 2026. No macro, syntax, notation, axiom, sorry.
-/
import Derived.Test.YtnjojnnapdhijaaChecked
import GoSem.Claim
import GoSem.ClaimJoined
import GoSem.ClaimMapViews
import Derived.JoinedTies
import Derived.KernelRfl
namespace Go.Proofs.Ytnjojnnapdhijaa
/- THE CELL 'sum', in the pinned program and in every row, IS THE sha256 OF THE DUMP (.gsa) THAT YtnjojnnapdhijaaProg.lean LOADS. Nothing in Lean hashes anything: it is a label: what it is worth is what the hold of that sum in a sandbox is worth. -/
noncomputable def Try.pinned : Pinned := { name := "ytnjojnnapdhijaa", sum := "e40d6afde007efb05d317b836d52d46ee51e13f495ade314c4e6d9461bb75876", checked := Try.checked }
namespace Rows
def none {H : Type} : Left H := { results := [], args := [] }

/-- 'laws.FnCodeFaults': WHATEVER THE INPUT: true; the input reads as it did. -/
def fnCodeFaultsSpec : ChangeSpec := { name := "fnCodeFaults", fn := fun _ => fun
  | [d] => { results := [.lit (.bool true)], args := [d] }
  | _ => none }
def fnCodeFaultsRow : OpenClaim := { program := "ytnjojnnapdhijaa", sum := "e40d6afde007efb05d317b836d52d46ee51e13f495ade314c4e6d9461bb75876", func := "loop.example/g00931/laws.FnCodeFaults", spec := "fnCodeFaults", unfollowed := true, recurses := true, apart := false }
def FnCodeFaultsSaid : Prop := fnCodeFaultsRow.holds Try.pinned (OpenSpec.ofChange fnCodeFaultsSpec)

/-- ITS FALSE NEIGHBOUR: 'it returns false'. Refute it at one input. -/
def fnCodeFaultsWrong : ChangeSpec := { name := "fnCodeFaults", fn := fun _ => fun
  | [d] => { results := [.lit (.bool false)], args := [d] }
  | _ => none }
def FnCodeFaultsWrongFalsely : Prop := fnCodeFaultsRow.holds Try.pinned (OpenSpec.ofChange fnCodeFaultsWrong)

/-- 'laws.FnCodeForms': WHATEVER THE INPUT: true; the input reads as it did. -/
def fnCodeFormsSpec : ChangeSpec := { name := "fnCodeForms", fn := fun _ => fun
  | [d] => { results := [.lit (.bool true)], args := [d] }
  | _ => none }
def fnCodeFormsRow : OpenClaim := { program := "ytnjojnnapdhijaa", sum := "e40d6afde007efb05d317b836d52d46ee51e13f495ade314c4e6d9461bb75876", func := "loop.example/g00931/laws.FnCodeForms", spec := "fnCodeForms", unfollowed := true, recurses := true, apart := false }
def FnCodeFormsSaid : Prop := fnCodeFormsRow.holds Try.pinned (OpenSpec.ofChange fnCodeFormsSpec)

/-- ITS FALSE NEIGHBOUR: 'it returns false'. Refute it at one input. -/
def fnCodeFormsWrong : ChangeSpec := { name := "fnCodeForms", fn := fun _ => fun
  | [d] => { results := [.lit (.bool false)], args := [d] }
  | _ => none }
def FnCodeFormsWrongFalsely : Prop := fnCodeFormsRow.holds Try.pinned (OpenSpec.ofChange fnCodeFormsWrong)

/-- 'laws.FnOwnCrossings': WHATEVER THE INPUT: true; the input reads as it did. -/
def fnOwnCrossingsSpec : ChangeSpec := { name := "fnOwnCrossings", fn := fun _ => fun
  | [d] => { results := [.lit (.bool true)], args := [d] }
  | _ => none }
def fnOwnCrossingsRow : OpenClaim := { program := "ytnjojnnapdhijaa", sum := "e40d6afde007efb05d317b836d52d46ee51e13f495ade314c4e6d9461bb75876", func := "loop.example/g00931/laws.FnOwnCrossings", spec := "fnOwnCrossings", recurses := true, apart := false }
def FnOwnCrossingsSaid : Prop := fnOwnCrossingsRow.holds Try.pinned (OpenSpec.ofChange fnOwnCrossingsSpec)

/-- ITS FALSE NEIGHBOUR: 'it returns false'. Refute it at one input. -/
def fnOwnCrossingsWrong : ChangeSpec := { name := "fnOwnCrossings", fn := fun _ => fun
  | [d] => { results := [.lit (.bool false)], args := [d] }
  | _ => none }
def FnOwnCrossingsWrongFalsely : Prop := fnOwnCrossingsRow.holds Try.pinned (OpenSpec.ofChange fnOwnCrossingsWrong)

/-- 'laws.FnExactSortCurves': WHATEVER THE INPUT: true; the input reads as it did. -/
def fnExactSortCurvesSpec : ChangeSpec := { name := "fnExactSortCurves", fn := fun _ => fun
  | [d] => { results := [.lit (.bool true)], args := [d] }
  | _ => none }
def fnExactSortCurvesRow : OpenClaim := { program := "ytnjojnnapdhijaa", sum := "e40d6afde007efb05d317b836d52d46ee51e13f495ade314c4e6d9461bb75876", func := "loop.example/g00931/laws.FnExactSortCurves", spec := "fnExactSortCurves", unfollowed := true, recurses := true, apart := false }
def FnExactSortCurvesSaid : Prop := fnExactSortCurvesRow.holds Try.pinned (OpenSpec.ofChange fnExactSortCurvesSpec)

/-- ITS FALSE NEIGHBOUR: 'it returns false'. Refute it at one input. -/
def fnExactSortCurvesWrong : ChangeSpec := { name := "fnExactSortCurves", fn := fun _ => fun
  | [d] => { results := [.lit (.bool false)], args := [d] }
  | _ => none }
def FnExactSortCurvesWrongFalsely : Prop := fnExactSortCurvesRow.holds Try.pinned (OpenSpec.ofChange fnExactSortCurvesWrong)

/- THE SECOND FORM. 'bulk': how many values and letters a reading holds, each counted each time it is reached (what is shared counts as often as it is met; a slice's spare places count too). A statement '..UptoSaid' is the law's where the arguments, and the package variables that the reading takes, are together of bulk at most 1048576: NARROWER than '..Said'. Prove '..Said' where nothing that the law and all that it calls make is longer than what came in: it says more and counts as full. Else prove '..UptoSaid'. A law counts once. -/
mutual
def uptoBulk {H : Type} : DataW H → Nat
  | .lit (.string bytes) => bytes.length + 1
  | .lit _ => 1
  | .nil => 1
  | .ptr d => uptoBulk d + 1
  | .slice elems spare => uptoBulkAll elems + uptoBulkAll spare + 1
  | .agg parts => uptoBulkAll parts + 1
  | .iface _ d => uptoBulk d + 1
  | .map entries => uptoBulkEntries entries + 1
  | .held _ => 1
def uptoBulkAll {H : Type} : List (DataW H) → Nat
  | [] => 0
  | d :: r => uptoBulk d + uptoBulkAll r
def uptoBulkEntries {H : Type} : List (Lit × DataW H) → Nat
  | [] => 0
  | x :: r => uptoBulkEntry x + uptoBulkEntries r
def uptoBulkEntry {H : Type} : Lit × DataW H → Nat
  | (.string bytes, d) => bytes.length + uptoBulk d + 1
  | (_, d) => uptoBulk d + 1
 end
def uptoSmall : (H : Type) → List (DataW H) → Bool := fun _ ds => decide (uptoBulkAll ds ≤ 1048576)
def OpenSpec.upto (s : _root_.Go.ChangeSpec) : _root_.Go.OpenSpec := { _root_.Go.OpenSpec.ofChange s with cond := some uptoSmall }

/-- 'laws.FnCodeFaults', WHERE WHAT IT READS IS OF BULK AT MOST 1048576: true; the input reads as it did. -/
def fnCodeFaultsUptoRow : OpenClaim := { program := "ytnjojnnapdhijaa", sum := "e40d6afde007efb05d317b836d52d46ee51e13f495ade314c4e6d9461bb75876", func := "loop.example/g00931/laws.FnCodeFaults", spec := "fnCodeFaults", unfollowed := true, recurses := true, apart := false, narrowed := true }
def FnCodeFaultsUptoSaid : Prop := fnCodeFaultsUptoRow.holds Try.pinned (OpenSpec.upto fnCodeFaultsSpec)

/-- 'laws.FnCodeForms', WHERE WHAT IT READS IS OF BULK AT MOST 1048576: true; the input reads as it did. -/
def fnCodeFormsUptoRow : OpenClaim := { program := "ytnjojnnapdhijaa", sum := "e40d6afde007efb05d317b836d52d46ee51e13f495ade314c4e6d9461bb75876", func := "loop.example/g00931/laws.FnCodeForms", spec := "fnCodeForms", unfollowed := true, recurses := true, apart := false, narrowed := true }
def FnCodeFormsUptoSaid : Prop := fnCodeFormsUptoRow.holds Try.pinned (OpenSpec.upto fnCodeFormsSpec)

/-- 'laws.FnOwnCrossings', WHERE WHAT IT READS IS OF BULK AT MOST 1048576: true; the input reads as it did. -/
def fnOwnCrossingsUptoRow : OpenClaim := { program := "ytnjojnnapdhijaa", sum := "e40d6afde007efb05d317b836d52d46ee51e13f495ade314c4e6d9461bb75876", func := "loop.example/g00931/laws.FnOwnCrossings", spec := "fnOwnCrossings", recurses := true, apart := false, narrowed := true }
def FnOwnCrossingsUptoSaid : Prop := fnOwnCrossingsUptoRow.holds Try.pinned (OpenSpec.upto fnOwnCrossingsSpec)

/-- 'laws.FnExactSortCurves', WHERE WHAT IT READS IS OF BULK AT MOST 1048576: true; the input reads as it did. -/
def fnExactSortCurvesUptoRow : OpenClaim := { program := "ytnjojnnapdhijaa", sum := "e40d6afde007efb05d317b836d52d46ee51e13f495ade314c4e6d9461bb75876", func := "loop.example/g00931/laws.FnExactSortCurves", spec := "fnExactSortCurves", unfollowed := true, recurses := true, apart := false, narrowed := true }
def FnExactSortCurvesUptoSaid : Prop := fnExactSortCurvesUptoRow.holds Try.pinned (OpenSpec.upto fnExactSortCurvesSpec)

end Rows
end Go.Proofs.Ytnjojnnapdhijaa
