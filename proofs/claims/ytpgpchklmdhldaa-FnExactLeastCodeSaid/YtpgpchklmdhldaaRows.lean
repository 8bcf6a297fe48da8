/-
  No cell of these rows narrows 'for every input' (looked for: loops, veiled, ifaces, maps, wideKeys, modest, calm, conditions, laid).
  DERIVED. THE GIVEN ROWS OF THIS SEAT. 11 by the template 'for every input the law returns true; each argument reads behind the call as it read before'; 0 by the template 'total and deterministic' (their statements: YtpgpchklmdhldaaTotals.lean).
  GIVEN WITH THE SEED: the statements are not yours to turn. If you find one false, say at which input.
  Laid BY PROGRAM, IN A SANDBOX (cutbox-rows.mjs): the forced cells as the released guide's own fill.sh prints them over the translation ce42b4a09a39e60d… (all of the seat's roots in one cut). By AI agents, Wed Nov 11 2026. No macro, syntax, notation, axiom, sorry.
-/
import Derived.Test.YtpgpchklmdhldaaChecked
import GoSem.Claim
import GoSem.ClaimJoined
import GoSem.ClaimMapViews
import Derived.JoinedTies
import Derived.KernelRfl
namespace Go.Proofs.Ytpgpchklmdhldaa
/- THE CELL 'sum', in the pinned program and in every row, IS THE sha256 OF THE DUMP (.gsa) THAT YtpgpchklmdhldaaProg.lean LOADS. Nothing in Lean hashes anything: it is a label: what it is worth is what the hold of that sum in a sandbox is worth. -/
noncomputable def Try.pinned : Pinned := { name := "ytpgpchklmdhldaa", sum := "ce42b4a09a39e60d6149562c79df5851f2c0dbae7b6bb69b0548eb2dc6c7459e", checked := Try.checked }
namespace Rows
def none {H : Type} : Left H := { results := [], args := [] }

/-- 'laws.FnExactCodeFault': WHATEVER THE INPUT: true; the input reads as it did. -/
def fnExactCodeFaultSpec : ChangeSpec := { name := "fnExactCodeFault", fn := fun _ => fun
  | [d] => { results := [.lit (.bool true)], args := [d] }
  | _ => none }
def fnExactCodeFaultRow : OpenClaim := { program := "ytpgpchklmdhldaa", sum := "ce42b4a09a39e60d6149562c79df5851f2c0dbae7b6bb69b0548eb2dc6c7459e", func := "loop.example/g00931/laws.FnExactCodeFault", spec := "fnExactCodeFault", apart := false }
def FnExactCodeFaultSaid : Prop := fnExactCodeFaultRow.holds Try.pinned (OpenSpec.ofChange fnExactCodeFaultSpec)

/-- ITS FALSE NEIGHBOUR: 'it returns false'. Refute it at one input. -/
def fnExactCodeFaultWrong : ChangeSpec := { name := "fnExactCodeFault", fn := fun _ => fun
  | [d] => { results := [.lit (.bool false)], args := [d] }
  | _ => none }
def FnExactCodeFaultWrongFalsely : Prop := fnExactCodeFaultRow.holds Try.pinned (OpenSpec.ofChange fnExactCodeFaultWrong)

/-- 'laws.FnExactEvenlySpaced': WHATEVER THE INPUT: true; the input reads as it did. -/
def fnExactEvenlySpacedSpec : ChangeSpec := { name := "fnExactEvenlySpaced", fn := fun _ => fun
  | [d1, d2] => { results := [.lit (.bool true)], args := [d1, d2] }
  | _ => none }
def fnExactEvenlySpacedRow : OpenClaim := { program := "ytpgpchklmdhldaa", sum := "ce42b4a09a39e60d6149562c79df5851f2c0dbae7b6bb69b0548eb2dc6c7459e", func := "loop.example/g00931/laws.FnExactEvenlySpaced", spec := "fnExactEvenlySpaced", unfollowed := true, recurses := true, apart := false }
def FnExactEvenlySpacedSaid : Prop := fnExactEvenlySpacedRow.holds Try.pinned (OpenSpec.ofChange fnExactEvenlySpacedSpec)

/-- ITS FALSE NEIGHBOUR: 'it returns false'. Refute it at one input. -/
def fnExactEvenlySpacedWrong : ChangeSpec := { name := "fnExactEvenlySpaced", fn := fun _ => fun
  | [d1, d2] => { results := [.lit (.bool false)], args := [d1, d2] }
  | _ => none }
def FnExactEvenlySpacedWrongFalsely : Prop := fnExactEvenlySpacedRow.holds Try.pinned (OpenSpec.ofChange fnExactEvenlySpacedWrong)

/-- 'laws.FnExactMeetingsOf': WHATEVER THE INPUT: true; the input reads as it did. -/
def fnExactMeetingsOfSpec : ChangeSpec := { name := "fnExactMeetingsOf", fn := fun _ => fun
  | [d] => { results := [.lit (.bool true)], args := [d] }
  | _ => none }
def fnExactMeetingsOfRow : OpenClaim := { program := "ytpgpchklmdhldaa", sum := "ce42b4a09a39e60d6149562c79df5851f2c0dbae7b6bb69b0548eb2dc6c7459e", func := "loop.example/g00931/laws.FnExactMeetingsOf", spec := "fnExactMeetingsOf", apart := false }
def FnExactMeetingsOfSaid : Prop := fnExactMeetingsOfRow.holds Try.pinned (OpenSpec.ofChange fnExactMeetingsOfSpec)

/-- ITS FALSE NEIGHBOUR: 'it returns false'. Refute it at one input. -/
def fnExactMeetingsOfWrong : ChangeSpec := { name := "fnExactMeetingsOf", fn := fun _ => fun
  | [d] => { results := [.lit (.bool false)], args := [d] }
  | _ => none }
def FnExactMeetingsOfWrongFalsely : Prop := fnExactMeetingsOfRow.holds Try.pinned (OpenSpec.ofChange fnExactMeetingsOfWrong)

/-- 'laws.FnExactRenameCode': WHATEVER THE INPUT: true; the input reads as it did. -/
def fnExactRenameCodeSpec : ChangeSpec := { name := "fnExactRenameCode", fn := fun _ => fun
  | [d] => { results := [.lit (.bool true)], args := [d] }
  | _ => none }
def fnExactRenameCodeRow : OpenClaim := { program := "ytpgpchklmdhldaa", sum := "ce42b4a09a39e60d6149562c79df5851f2c0dbae7b6bb69b0548eb2dc6c7459e", func := "loop.example/g00931/laws.FnExactRenameCode", spec := "fnExactRenameCode", apart := false }
def FnExactRenameCodeSaid : Prop := fnExactRenameCodeRow.holds Try.pinned (OpenSpec.ofChange fnExactRenameCodeSpec)

/-- ITS FALSE NEIGHBOUR: 'it returns false'. Refute it at one input. -/
def fnExactRenameCodeWrong : ChangeSpec := { name := "fnExactRenameCode", fn := fun _ => fun
  | [d] => { results := [.lit (.bool false)], args := [d] }
  | _ => none }
def FnExactRenameCodeWrongFalsely : Prop := fnExactRenameCodeRow.holds Try.pinned (OpenSpec.ofChange fnExactRenameCodeWrong)

/-- 'laws.FnExactDropCurve': WHATEVER THE INPUT: true; the input reads as it did. -/
def fnExactDropCurveSpec : ChangeSpec := { name := "fnExactDropCurve", fn := fun _ => fun
  | [d1, d2] => { results := [.lit (.bool true)], args := [d1, d2] }
  | _ => none }
def fnExactDropCurveRow : OpenClaim := { program := "ytpgpchklmdhldaa", sum := "ce42b4a09a39e60d6149562c79df5851f2c0dbae7b6bb69b0548eb2dc6c7459e", func := "loop.example/g00931/laws.FnExactDropCurve", spec := "fnExactDropCurve", apart := false }
def FnExactDropCurveSaid : Prop := fnExactDropCurveRow.holds Try.pinned (OpenSpec.ofChange fnExactDropCurveSpec)

/-- ITS FALSE NEIGHBOUR: 'it returns false'. Refute it at one input. -/
def fnExactDropCurveWrong : ChangeSpec := { name := "fnExactDropCurve", fn := fun _ => fun
  | [d1, d2] => { results := [.lit (.bool false)], args := [d1, d2] }
  | _ => none }
def FnExactDropCurveWrongFalsely : Prop := fnExactDropCurveRow.holds Try.pinned (OpenSpec.ofChange fnExactDropCurveWrong)

/-- 'laws.FnExactLeastCode': WHATEVER THE INPUT: true; the input reads as it did. -/
def fnExactLeastCodeSpec : ChangeSpec := { name := "fnExactLeastCode", fn := fun _ => fun
  | [d] => { results := [.lit (.bool true)], args := [d] }
  | _ => none }
def fnExactLeastCodeRow : OpenClaim := { program := "ytpgpchklmdhldaa", sum := "ce42b4a09a39e60d6149562c79df5851f2c0dbae7b6bb69b0548eb2dc6c7459e", func := "loop.example/g00931/laws.FnExactLeastCode", spec := "fnExactLeastCode", apart := false }
def FnExactLeastCodeSaid : Prop := fnExactLeastCodeRow.holds Try.pinned (OpenSpec.ofChange fnExactLeastCodeSpec)

/-- ITS FALSE NEIGHBOUR: 'it returns false'. Refute it at one input. -/
def fnExactLeastCodeWrong : ChangeSpec := { name := "fnExactLeastCode", fn := fun _ => fun
  | [d] => { results := [.lit (.bool false)], args := [d] }
  | _ => none }
def FnExactLeastCodeWrongFalsely : Prop := fnExactLeastCodeRow.holds Try.pinned (OpenSpec.ofChange fnExactLeastCodeWrong)

/-- 'laws.FnExactSortCurves': WHATEVER THE INPUT: true; the input reads as it did. -/
def fnExactSortCurvesSpec : ChangeSpec := { name := "fnExactSortCurves", fn := fun _ => fun
  | [d] => { results := [.lit (.bool true)], args := [d] }
  | _ => none }
def fnExactSortCurvesRow : OpenClaim := { program := "ytpgpchklmdhldaa", sum := "ce42b4a09a39e60d6149562c79df5851f2c0dbae7b6bb69b0548eb2dc6c7459e", func := "loop.example/g00931/laws.FnExactSortCurves", spec := "fnExactSortCurves", unfollowed := true, recurses := true, apart := false }
def FnExactSortCurvesSaid : Prop := fnExactSortCurvesRow.holds Try.pinned (OpenSpec.ofChange fnExactSortCurvesSpec)

/-- ITS FALSE NEIGHBOUR: 'it returns false'. Refute it at one input. -/
def fnExactSortCurvesWrong : ChangeSpec := { name := "fnExactSortCurves", fn := fun _ => fun
  | [d] => { results := [.lit (.bool false)], args := [d] }
  | _ => none }
def FnExactSortCurvesWrongFalsely : Prop := fnExactSortCurvesRow.holds Try.pinned (OpenSpec.ofChange fnExactSortCurvesWrong)

/-- 'laws.FnExactOwnCrossings': WHATEVER THE INPUT: true; the input reads as it did. -/
def fnExactOwnCrossingsSpec : ChangeSpec := { name := "fnExactOwnCrossings", fn := fun _ => fun
  | [d1, d2] => { results := [.lit (.bool true)], args := [d1, d2] }
  | _ => none }
def fnExactOwnCrossingsRow : OpenClaim := { program := "ytpgpchklmdhldaa", sum := "ce42b4a09a39e60d6149562c79df5851f2c0dbae7b6bb69b0548eb2dc6c7459e", func := "loop.example/g00931/laws.FnExactOwnCrossings", spec := "fnExactOwnCrossings", recurses := true, apart := false }
def FnExactOwnCrossingsSaid : Prop := fnExactOwnCrossingsRow.holds Try.pinned (OpenSpec.ofChange fnExactOwnCrossingsSpec)

/-- ITS FALSE NEIGHBOUR: 'it returns false'. Refute it at one input. -/
def fnExactOwnCrossingsWrong : ChangeSpec := { name := "fnExactOwnCrossings", fn := fun _ => fun
  | [d1, d2] => { results := [.lit (.bool false)], args := [d1, d2] }
  | _ => none }
def FnExactOwnCrossingsWrongFalsely : Prop := fnExactOwnCrossingsRow.holds Try.pinned (OpenSpec.ofChange fnExactOwnCrossingsWrong)

/-- 'laws.FnCodeFaults': WHATEVER THE INPUT: true; the input reads as it did. -/
def fnCodeFaultsSpec : ChangeSpec := { name := "fnCodeFaults", fn := fun _ => fun
  | [d] => { results := [.lit (.bool true)], args := [d] }
  | _ => none }
def fnCodeFaultsRow : OpenClaim := { program := "ytpgpchklmdhldaa", sum := "ce42b4a09a39e60d6149562c79df5851f2c0dbae7b6bb69b0548eb2dc6c7459e", func := "loop.example/g00931/laws.FnCodeFaults", spec := "fnCodeFaults", unfollowed := true, recurses := true, apart := false }
def FnCodeFaultsSaid : Prop := fnCodeFaultsRow.holds Try.pinned (OpenSpec.ofChange fnCodeFaultsSpec)

/-- ITS FALSE NEIGHBOUR: 'it returns false'. Refute it at one input. -/
def fnCodeFaultsWrong : ChangeSpec := { name := "fnCodeFaults", fn := fun _ => fun
  | [d] => { results := [.lit (.bool false)], args := [d] }
  | _ => none }
def FnCodeFaultsWrongFalsely : Prop := fnCodeFaultsRow.holds Try.pinned (OpenSpec.ofChange fnCodeFaultsWrong)

/-- 'laws.FnCodeForms': WHATEVER THE INPUT: true; the input reads as it did. -/
def fnCodeFormsSpec : ChangeSpec := { name := "fnCodeForms", fn := fun _ => fun
  | [d] => { results := [.lit (.bool true)], args := [d] }
  | _ => none }
def fnCodeFormsRow : OpenClaim := { program := "ytpgpchklmdhldaa", sum := "ce42b4a09a39e60d6149562c79df5851f2c0dbae7b6bb69b0548eb2dc6c7459e", func := "loop.example/g00931/laws.FnCodeForms", spec := "fnCodeForms", unfollowed := true, recurses := true, apart := false }
def FnCodeFormsSaid : Prop := fnCodeFormsRow.holds Try.pinned (OpenSpec.ofChange fnCodeFormsSpec)

/-- ITS FALSE NEIGHBOUR: 'it returns false'. Refute it at one input. -/
def fnCodeFormsWrong : ChangeSpec := { name := "fnCodeForms", fn := fun _ => fun
  | [d] => { results := [.lit (.bool false)], args := [d] }
  | _ => none }
def FnCodeFormsWrongFalsely : Prop := fnCodeFormsRow.holds Try.pinned (OpenSpec.ofChange fnCodeFormsWrong)

/-- 'laws.FnOwnCrossings': WHATEVER THE INPUT: true; the input reads as it did. -/
def fnOwnCrossingsSpec : ChangeSpec := { name := "fnOwnCrossings", fn := fun _ => fun
  | [d] => { results := [.lit (.bool true)], args := [d] }
  | _ => none }
def fnOwnCrossingsRow : OpenClaim := { program := "ytpgpchklmdhldaa", sum := "ce42b4a09a39e60d6149562c79df5851f2c0dbae7b6bb69b0548eb2dc6c7459e", func := "loop.example/g00931/laws.FnOwnCrossings", spec := "fnOwnCrossings", recurses := true, apart := false }
def FnOwnCrossingsSaid : Prop := fnOwnCrossingsRow.holds Try.pinned (OpenSpec.ofChange fnOwnCrossingsSpec)

/-- ITS FALSE NEIGHBOUR: 'it returns false'. Refute it at one input. -/
def fnOwnCrossingsWrong : ChangeSpec := { name := "fnOwnCrossings", fn := fun _ => fun
  | [d] => { results := [.lit (.bool false)], args := [d] }
  | _ => none }
def FnOwnCrossingsWrongFalsely : Prop := fnOwnCrossingsRow.holds Try.pinned (OpenSpec.ofChange fnOwnCrossingsWrong)

/- THE SECOND FORM. 'bulk': how many values and letters a reading holds, each counted each time it is reached (what is shared counts as often as it is met; a slice's spare places count too). A statement '..UptoSaid' is the law's where the arguments, and the package variables that the reading takes, are together of bulk at most 1048576: NARROWER than '..Said'. Prove '..Said' where nothing that the law and all that it calls make is longer than what came in: it says more and counts as full. Else prove '..UptoSaid'. A law counts once. -/
mutual
def uptoBulk {H : Type} : DataW H → Nat
  | .lit (.string bytes) => bytes.length + 1
  | .lit _ => 1
  | .nil => 1
  | .ptr d => uptoBulk d + 1
  | .slice elems spare => uptoBulkAll elems + uptoBulkAll spare + 1
  | .agg parts => uptoBulkAll parts + 1
  | .iface _ d => uptoBulk d + 1
  | .map entries => uptoBulkEntries entries + 1
  | .held _ => 1
def uptoBulkAll {H : Type} : List (DataW H) → Nat
  | [] => 0
  | d :: r => uptoBulk d + uptoBulkAll r
def uptoBulkEntries {H : Type} : List (Lit × DataW H) → Nat
  | [] => 0
  | x :: r => uptoBulkEntry x + uptoBulkEntries r
def uptoBulkEntry {H : Type} : Lit × DataW H → Nat
  | (.string bytes, d) => bytes.length + uptoBulk d + 1
  | (_, d) => uptoBulk d + 1
 end
def uptoSmall : (H : Type) → List (DataW H) → Bool := fun _ ds => decide (uptoBulkAll ds ≤ 1048576)
def OpenSpec.upto (s : _root_.Go.ChangeSpec) : _root_.Go.OpenSpec := { _root_.Go.OpenSpec.ofChange s with cond := some uptoSmall }

/-- 'laws.FnExactCodeFault', WHERE WHAT IT READS IS OF BULK AT MOST 1048576: true; the input reads as it did. -/
def fnExactCodeFaultUptoRow : OpenClaim := { program := "ytpgpchklmdhldaa", sum := "ce42b4a09a39e60d6149562c79df5851f2c0dbae7b6bb69b0548eb2dc6c7459e", func := "loop.example/g00931/laws.FnExactCodeFault", spec := "fnExactCodeFault", apart := false, narrowed := true }
def FnExactCodeFaultUptoSaid : Prop := fnExactCodeFaultUptoRow.holds Try.pinned (OpenSpec.upto fnExactCodeFaultSpec)

/-- 'laws.FnExactEvenlySpaced', WHERE WHAT IT READS IS OF BULK AT MOST 1048576: true; the input reads as it did. -/
def fnExactEvenlySpacedUptoRow : OpenClaim := { program := "ytpgpchklmdhldaa", sum := "ce42b4a09a39e60d6149562c79df5851f2c0dbae7b6bb69b0548eb2dc6c7459e", func := "loop.example/g00931/laws.FnExactEvenlySpaced", spec := "fnExactEvenlySpaced", unfollowed := true, recurses := true, apart := false, narrowed := true }
def FnExactEvenlySpacedUptoSaid : Prop := fnExactEvenlySpacedUptoRow.holds Try.pinned (OpenSpec.upto fnExactEvenlySpacedSpec)

/-- 'laws.FnExactMeetingsOf', WHERE WHAT IT READS IS OF BULK AT MOST 1048576: true; the input reads as it did. -/
def fnExactMeetingsOfUptoRow : OpenClaim := { program := "ytpgpchklmdhldaa", sum := "ce42b4a09a39e60d6149562c79df5851f2c0dbae7b6bb69b0548eb2dc6c7459e", func := "loop.example/g00931/laws.FnExactMeetingsOf", spec := "fnExactMeetingsOf", apart := false, narrowed := true }
def FnExactMeetingsOfUptoSaid : Prop := fnExactMeetingsOfUptoRow.holds Try.pinned (OpenSpec.upto fnExactMeetingsOfSpec)

/-- 'laws.FnExactRenameCode', WHERE WHAT IT READS IS OF BULK AT MOST 1048576: true; the input reads as it did. -/
def fnExactRenameCodeUptoRow : OpenClaim := { program := "ytpgpchklmdhldaa", sum := "ce42b4a09a39e60d6149562c79df5851f2c0dbae7b6bb69b0548eb2dc6c7459e", func := "loop.example/g00931/laws.FnExactRenameCode", spec := "fnExactRenameCode", apart := false, narrowed := true }
def FnExactRenameCodeUptoSaid : Prop := fnExactRenameCodeUptoRow.holds Try.pinned (OpenSpec.upto fnExactRenameCodeSpec)

/-- 'laws.FnExactDropCurve', WHERE WHAT IT READS IS OF BULK AT MOST 1048576: true; the input reads as it did. -/
def fnExactDropCurveUptoRow : OpenClaim := { program := "ytpgpchklmdhldaa", sum := "ce42b4a09a39e60d6149562c79df5851f2c0dbae7b6bb69b0548eb2dc6c7459e", func := "loop.example/g00931/laws.FnExactDropCurve", spec := "fnExactDropCurve", apart := false, narrowed := true }
def FnExactDropCurveUptoSaid : Prop := fnExactDropCurveUptoRow.holds Try.pinned (OpenSpec.upto fnExactDropCurveSpec)

/-- 'laws.FnExactLeastCode', WHERE WHAT IT READS IS OF BULK AT MOST 1048576: true; the input reads as it did. -/
def fnExactLeastCodeUptoRow : OpenClaim := { program := "ytpgpchklmdhldaa", sum := "ce42b4a09a39e60d6149562c79df5851f2c0dbae7b6bb69b0548eb2dc6c7459e", func := "loop.example/g00931/laws.FnExactLeastCode", spec := "fnExactLeastCode", apart := false, narrowed := true }
def FnExactLeastCodeUptoSaid : Prop := fnExactLeastCodeUptoRow.holds Try.pinned (OpenSpec.upto fnExactLeastCodeSpec)

/-- 'laws.FnExactSortCurves', WHERE WHAT IT READS IS OF BULK AT MOST 1048576: true; the input reads as it did. -/
def fnExactSortCurvesUptoRow : OpenClaim := { program := "ytpgpchklmdhldaa", sum := "ce42b4a09a39e60d6149562c79df5851f2c0dbae7b6bb69b0548eb2dc6c7459e", func := "loop.example/g00931/laws.FnExactSortCurves", spec := "fnExactSortCurves", unfollowed := true, recurses := true, apart := false, narrowed := true }
def FnExactSortCurvesUptoSaid : Prop := fnExactSortCurvesUptoRow.holds Try.pinned (OpenSpec.upto fnExactSortCurvesSpec)

/-- 'laws.FnExactOwnCrossings', WHERE WHAT IT READS IS OF BULK AT MOST 1048576: true; the input reads as it did. -/
def fnExactOwnCrossingsUptoRow : OpenClaim := { program := "ytpgpchklmdhldaa", sum := "ce42b4a09a39e60d6149562c79df5851f2c0dbae7b6bb69b0548eb2dc6c7459e", func := "loop.example/g00931/laws.FnExactOwnCrossings", spec := "fnExactOwnCrossings", recurses := true, apart := false, narrowed := true }
def FnExactOwnCrossingsUptoSaid : Prop := fnExactOwnCrossingsUptoRow.holds Try.pinned (OpenSpec.upto fnExactOwnCrossingsSpec)

/-- 'laws.FnCodeFaults', WHERE WHAT IT READS IS OF BULK AT MOST 1048576: true; the input reads as it did. -/
def fnCodeFaultsUptoRow : OpenClaim := { program := "ytpgpchklmdhldaa", sum := "ce42b4a09a39e60d6149562c79df5851f2c0dbae7b6bb69b0548eb2dc6c7459e", func := "loop.example/g00931/laws.FnCodeFaults", spec := "fnCodeFaults", unfollowed := true, recurses := true, apart := false, narrowed := true }
def FnCodeFaultsUptoSaid : Prop := fnCodeFaultsUptoRow.holds Try.pinned (OpenSpec.upto fnCodeFaultsSpec)

/-- 'laws.FnCodeForms', WHERE WHAT IT READS IS OF BULK AT MOST 1048576: true; the input reads as it did. -/
def fnCodeFormsUptoRow : OpenClaim := { program := "ytpgpchklmdhldaa", sum := "ce42b4a09a39e60d6149562c79df5851f2c0dbae7b6bb69b0548eb2dc6c7459e", func := "loop.example/g00931/laws.FnCodeForms", spec := "fnCodeForms", unfollowed := true, recurses := true, apart := false, narrowed := true }
def FnCodeFormsUptoSaid : Prop := fnCodeFormsUptoRow.holds Try.pinned (OpenSpec.upto fnCodeFormsSpec)

/-- 'laws.FnOwnCrossings', WHERE WHAT IT READS IS OF BULK AT MOST 1048576: true; the input reads as it did. -/
def fnOwnCrossingsUptoRow : OpenClaim := { program := "ytpgpchklmdhldaa", sum := "ce42b4a09a39e60d6149562c79df5851f2c0dbae7b6bb69b0548eb2dc6c7459e", func := "loop.example/g00931/laws.FnOwnCrossings", spec := "fnOwnCrossings", recurses := true, apart := false, narrowed := true }
def FnOwnCrossingsUptoSaid : Prop := fnOwnCrossingsUptoRow.holds Try.pinned (OpenSpec.upto fnOwnCrossingsSpec)

end Rows
end Go.Proofs.Ytpgpchklmdhldaa
