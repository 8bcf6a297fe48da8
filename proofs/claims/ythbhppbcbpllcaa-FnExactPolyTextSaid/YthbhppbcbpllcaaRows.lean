/-
  No cell of these rows narrows 'for every input' (looked for: loops, veiled, ifaces, maps, wideKeys, modest, calm, conditions, laid).
  DERIVED. THE GIVEN ROWS OF THIS SEAT. 11 by the template 'for every input the law returns true; each argument reads behind the call as it read before'; 0 by the template 'total and deterministic' (their statements: YthbhppbcbpllcaaTotals.lean).
  GIVEN WITH THE SEED: the statements are not yours to turn. If you find one false, say at which input.
  Laid BY PROGRAM, IN A SANDBOX (cutbox-rows.mjs): the forced cells as the released guide's own fill.sh prints them over the translation 99f3b9b295c1bea5… (all of the seat's roots in one cut). By AI agents, Wed Nov 11 2026. No macro, syntax, notation, axiom, sorry.
-/
import Derived.Test.YthbhppbcbpllcaaChecked
import GoSem.Claim
import GoSem.ClaimJoined
import GoSem.ClaimMapViews
import Derived.JoinedTies
import Derived.KernelRfl
namespace Go.Proofs.Ythbhppbcbpllcaa
/- THE CELL 'sum', in the pinned program and in every row, IS THE sha256 OF THE DUMP (.gsa) THAT YthbhppbcbpllcaaProg.lean LOADS. Nothing in Lean hashes anything: it is a label: what it is worth is what the hold of that sum in a sandbox is worth. -/
noncomputable def Try.pinned : Pinned := { name := "ythbhppbcbpllcaa", sum := "99f3b9b295c1bea571901f67af03ed91af42ddb64b41316e4ff2f3f57b046e0f", checked := Try.checked }
namespace Rows
def none {H : Type} : Left H := { results := [], args := [] }

/-- 'laws.FnExactCodeFaultName': WHATEVER THE INPUT: true; the input reads as it did. -/
def fnExactCodeFaultNameSpec : ChangeSpec := { name := "fnExactCodeFaultName", fn := fun _ => fun
  | [d] => { results := [.lit (.bool true)], args := [d] }
  | _ => none }
def fnExactCodeFaultNameRow : OpenClaim := { program := "ythbhppbcbpllcaa", sum := "99f3b9b295c1bea571901f67af03ed91af42ddb64b41316e4ff2f3f57b046e0f", func := "loop.example/g00931/laws.FnExactCodeFaultName", spec := "fnExactCodeFaultName", apart := false }
def FnExactCodeFaultNameSaid : Prop := fnExactCodeFaultNameRow.holds Try.pinned (OpenSpec.ofChange fnExactCodeFaultNameSpec)

/-- ITS FALSE NEIGHBOUR: 'it returns false'. Refute it at one input. -/
def fnExactCodeFaultNameWrong : ChangeSpec := { name := "fnExactCodeFaultName", fn := fun _ => fun
  | [d] => { results := [.lit (.bool false)], args := [d] }
  | _ => none }
def FnExactCodeFaultNameWrongFalsely : Prop := fnExactCodeFaultNameRow.holds Try.pinned (OpenSpec.ofChange fnExactCodeFaultNameWrong)

/-- 'laws.FnExactSamePoly': WHATEVER THE INPUT: true; the input reads as it did. -/
def fnExactSamePolySpec : ChangeSpec := { name := "fnExactSamePoly", fn := fun _ => fun
  | [d1, d2] => { results := [.lit (.bool true)], args := [d1, d2] }
  | _ => none }
def fnExactSamePolyRow : OpenClaim := { program := "ythbhppbcbpllcaa", sum := "99f3b9b295c1bea571901f67af03ed91af42ddb64b41316e4ff2f3f57b046e0f", func := "loop.example/g00931/laws.FnExactSamePoly", spec := "fnExactSamePoly", apart := false }
def FnExactSamePolySaid : Prop := fnExactSamePolyRow.holds Try.pinned (OpenSpec.ofChange fnExactSamePolySpec)

/-- ITS FALSE NEIGHBOUR: 'it returns false'. Refute it at one input. -/
def fnExactSamePolyWrong : ChangeSpec := { name := "fnExactSamePoly", fn := fun _ => fun
  | [d1, d2] => { results := [.lit (.bool false)], args := [d1, d2] }
  | _ => none }
def FnExactSamePolyWrongFalsely : Prop := fnExactSamePolyRow.holds Try.pinned (OpenSpec.ofChange fnExactSamePolyWrong)

/-- 'laws.FnExactValidPoly': WHATEVER THE INPUT: true; the input reads as it did. -/
def fnExactValidPolySpec : ChangeSpec := { name := "fnExactValidPoly", fn := fun _ => fun
  | [d] => { results := [.lit (.bool true)], args := [d] }
  | _ => none }
def fnExactValidPolyRow : OpenClaim := { program := "ythbhppbcbpllcaa", sum := "99f3b9b295c1bea571901f67af03ed91af42ddb64b41316e4ff2f3f57b046e0f", func := "loop.example/g00931/laws.FnExactValidPoly", spec := "fnExactValidPoly", apart := false }
def FnExactValidPolySaid : Prop := fnExactValidPolyRow.holds Try.pinned (OpenSpec.ofChange fnExactValidPolySpec)

/-- ITS FALSE NEIGHBOUR: 'it returns false'. Refute it at one input. -/
def fnExactValidPolyWrong : ChangeSpec := { name := "fnExactValidPoly", fn := fun _ => fun
  | [d] => { results := [.lit (.bool false)], args := [d] }
  | _ => none }
def FnExactValidPolyWrongFalsely : Prop := fnExactValidPolyRow.holds Try.pinned (OpenSpec.ofChange fnExactValidPolyWrong)

/-- 'laws.FnExactPolySum': WHATEVER THE INPUT: true; the input reads as it did. -/
def fnExactPolySumSpec : ChangeSpec := { name := "fnExactPolySum", fn := fun _ => fun
  | [d] => { results := [.lit (.bool true)], args := [d] }
  | _ => none }
def fnExactPolySumRow : OpenClaim := { program := "ythbhppbcbpllcaa", sum := "99f3b9b295c1bea571901f67af03ed91af42ddb64b41316e4ff2f3f57b046e0f", func := "loop.example/g00931/laws.FnExactPolySum", spec := "fnExactPolySum", apart := false }
def FnExactPolySumSaid : Prop := fnExactPolySumRow.holds Try.pinned (OpenSpec.ofChange fnExactPolySumSpec)

/-- ITS FALSE NEIGHBOUR: 'it returns false'. Refute it at one input. -/
def fnExactPolySumWrong : ChangeSpec := { name := "fnExactPolySum", fn := fun _ => fun
  | [d] => { results := [.lit (.bool false)], args := [d] }
  | _ => none }
def FnExactPolySumWrongFalsely : Prop := fnExactPolySumRow.holds Try.pinned (OpenSpec.ofChange fnExactPolySumWrong)

/-- 'laws.FnExactInversePoly': WHATEVER THE INPUT: true; the input reads as it did. -/
def fnExactInversePolySpec : ChangeSpec := { name := "fnExactInversePoly", fn := fun _ => fun
  | [d] => { results := [.lit (.bool true)], args := [d] }
  | _ => none }
def fnExactInversePolyRow : OpenClaim := { program := "ythbhppbcbpllcaa", sum := "99f3b9b295c1bea571901f67af03ed91af42ddb64b41316e4ff2f3f57b046e0f", func := "loop.example/g00931/laws.FnExactInversePoly", spec := "fnExactInversePoly", apart := false }
def FnExactInversePolySaid : Prop := fnExactInversePolyRow.holds Try.pinned (OpenSpec.ofChange fnExactInversePolySpec)

/-- ITS FALSE NEIGHBOUR: 'it returns false'. Refute it at one input. -/
def fnExactInversePolyWrong : ChangeSpec := { name := "fnExactInversePoly", fn := fun _ => fun
  | [d] => { results := [.lit (.bool false)], args := [d] }
  | _ => none }
def FnExactInversePolyWrongFalsely : Prop := fnExactInversePolyRow.holds Try.pinned (OpenSpec.ofChange fnExactInversePolyWrong)

/-- 'laws.FnExactShiftPoly': WHATEVER THE INPUT: true; the input reads as it did. -/
def fnExactShiftPolySpec : ChangeSpec := { name := "fnExactShiftPoly", fn := fun _ => fun
  | [d1, d2, d3] => { results := [.lit (.bool true)], args := [d1, d2, d3] }
  | _ => none }
def fnExactShiftPolyRow : OpenClaim := { program := "ythbhppbcbpllcaa", sum := "99f3b9b295c1bea571901f67af03ed91af42ddb64b41316e4ff2f3f57b046e0f", func := "loop.example/g00931/laws.FnExactShiftPoly", spec := "fnExactShiftPoly", apart := false }
def FnExactShiftPolySaid : Prop := fnExactShiftPolyRow.holds Try.pinned (OpenSpec.ofChange fnExactShiftPolySpec)

/-- ITS FALSE NEIGHBOUR: 'it returns false'. Refute it at one input. -/
def fnExactShiftPolyWrong : ChangeSpec := { name := "fnExactShiftPoly", fn := fun _ => fun
  | [d1, d2, d3] => { results := [.lit (.bool false)], args := [d1, d2, d3] }
  | _ => none }
def FnExactShiftPolyWrongFalsely : Prop := fnExactShiftPolyRow.holds Try.pinned (OpenSpec.ofChange fnExactShiftPolyWrong)

/-- 'laws.FnExactPolyText': WHATEVER THE INPUT: true; the input reads as it did. -/
def fnExactPolyTextSpec : ChangeSpec := { name := "fnExactPolyText", fn := fun _ => fun
  | [d] => { results := [.lit (.bool true)], args := [d] }
  | _ => none }
def fnExactPolyTextRow : OpenClaim := { program := "ythbhppbcbpllcaa", sum := "99f3b9b295c1bea571901f67af03ed91af42ddb64b41316e4ff2f3f57b046e0f", func := "loop.example/g00931/laws.FnExactPolyText", spec := "fnExactPolyText", apart := false }
def FnExactPolyTextSaid : Prop := fnExactPolyTextRow.holds Try.pinned (OpenSpec.ofChange fnExactPolyTextSpec)

/-- ITS FALSE NEIGHBOUR: 'it returns false'. Refute it at one input. -/
def fnExactPolyTextWrong : ChangeSpec := { name := "fnExactPolyText", fn := fun _ => fun
  | [d] => { results := [.lit (.bool false)], args := [d] }
  | _ => none }
def FnExactPolyTextWrongFalsely : Prop := fnExactPolyTextRow.holds Try.pinned (OpenSpec.ofChange fnExactPolyTextWrong)

/-- 'laws.FnExactMulPolys': WHATEVER THE INPUT: true; the input reads as it did. -/
def fnExactMulPolysSpec : ChangeSpec := { name := "fnExactMulPolys", fn := fun _ => fun
  | [d1, d2] => { results := [.lit (.bool true)], args := [d1, d2] }
  | _ => none }
def fnExactMulPolysRow : OpenClaim := { program := "ythbhppbcbpllcaa", sum := "99f3b9b295c1bea571901f67af03ed91af42ddb64b41316e4ff2f3f57b046e0f", func := "loop.example/g00931/laws.FnExactMulPolys", spec := "fnExactMulPolys", apart := false }
def FnExactMulPolysSaid : Prop := fnExactMulPolysRow.holds Try.pinned (OpenSpec.ofChange fnExactMulPolysSpec)

/-- ITS FALSE NEIGHBOUR: 'it returns false'. Refute it at one input. -/
def fnExactMulPolysWrong : ChangeSpec := { name := "fnExactMulPolys", fn := fun _ => fun
  | [d1, d2] => { results := [.lit (.bool false)], args := [d1, d2] }
  | _ => none }
def FnExactMulPolysWrongFalsely : Prop := fnExactMulPolysRow.holds Try.pinned (OpenSpec.ofChange fnExactMulPolysWrong)

/-- 'laws.FnExactAddPolys': WHATEVER THE INPUT: true; the input reads as it did. -/
def fnExactAddPolysSpec : ChangeSpec := { name := "fnExactAddPolys", fn := fun _ => fun
  | [d1, d2] => { results := [.lit (.bool true)], args := [d1, d2] }
  | _ => none }
def fnExactAddPolysRow : OpenClaim := { program := "ythbhppbcbpllcaa", sum := "99f3b9b295c1bea571901f67af03ed91af42ddb64b41316e4ff2f3f57b046e0f", func := "loop.example/g00931/laws.FnExactAddPolys", spec := "fnExactAddPolys", apart := false }
def FnExactAddPolysSaid : Prop := fnExactAddPolysRow.holds Try.pinned (OpenSpec.ofChange fnExactAddPolysSpec)

/-- ITS FALSE NEIGHBOUR: 'it returns false'. Refute it at one input. -/
def fnExactAddPolysWrong : ChangeSpec := { name := "fnExactAddPolys", fn := fun _ => fun
  | [d1, d2] => { results := [.lit (.bool false)], args := [d1, d2] }
  | _ => none }
def FnExactAddPolysWrongFalsely : Prop := fnExactAddPolysRow.holds Try.pinned (OpenSpec.ofChange fnExactAddPolysWrong)

/-- 'laws.FnPolys': WHATEVER THE INPUT: true; the input reads as it did. -/
def fnPolysSpec : ChangeSpec := { name := "fnPolys", fn := fun _ => fun
  | [d] => { results := [.lit (.bool true)], args := [d] }
  | _ => none }
def fnPolysRow : OpenClaim := { program := "ythbhppbcbpllcaa", sum := "99f3b9b295c1bea571901f67af03ed91af42ddb64b41316e4ff2f3f57b046e0f", func := "loop.example/g00931/laws.FnPolys", spec := "fnPolys", apart := false }
def FnPolysSaid : Prop := fnPolysRow.holds Try.pinned (OpenSpec.ofChange fnPolysSpec)

/-- ITS FALSE NEIGHBOUR: 'it returns false'. Refute it at one input. -/
def fnPolysWrong : ChangeSpec := { name := "fnPolys", fn := fun _ => fun
  | [d] => { results := [.lit (.bool false)], args := [d] }
  | _ => none }
def FnPolysWrongFalsely : Prop := fnPolysRow.holds Try.pinned (OpenSpec.ofChange fnPolysWrong)

/-- 'laws.FnShifted': WHATEVER THE INPUT: true; the input reads as it did. -/
def fnShiftedSpec : ChangeSpec := { name := "fnShifted", fn := fun _ => fun
  | [d1, d2] => { results := [.lit (.bool true)], args := [d1, d2] }
  | _ => none }
def fnShiftedRow : OpenClaim := { program := "ythbhppbcbpllcaa", sum := "99f3b9b295c1bea571901f67af03ed91af42ddb64b41316e4ff2f3f57b046e0f", func := "loop.example/g00931/laws.FnShifted", spec := "fnShifted", apart := false }
def FnShiftedSaid : Prop := fnShiftedRow.holds Try.pinned (OpenSpec.ofChange fnShiftedSpec)

/-- ITS FALSE NEIGHBOUR: 'it returns false'. Refute it at one input. -/
def fnShiftedWrong : ChangeSpec := { name := "fnShifted", fn := fun _ => fun
  | [d1, d2] => { results := [.lit (.bool false)], args := [d1, d2] }
  | _ => none }
def FnShiftedWrongFalsely : Prop := fnShiftedRow.holds Try.pinned (OpenSpec.ofChange fnShiftedWrong)

/- THE SECOND FORM. 'bulk': how many values and letters a reading holds, each counted each time it is reached (what is shared counts as often as it is met; a slice's spare places count too). A statement '..UptoSaid' is the law's where the arguments, and the package variables that the reading takes, are together of bulk at most 1048576: NARROWER than '..Said'. Prove '..Said' where nothing that the law and all that it calls make is longer than what came in: it says more and counts as full. Else prove '..UptoSaid'. A law counts once. -/
mutual
def uptoBulk {H : Type} : DataW H → Nat
  | .lit (.string bytes) => bytes.length + 1
  | .lit _ => 1
  | .nil => 1
  | .ptr d => uptoBulk d + 1
  | .slice elems spare => uptoBulkAll elems + uptoBulkAll spare + 1
  | .agg parts => uptoBulkAll parts + 1
  | .iface _ d => uptoBulk d + 1
  | .map entries => uptoBulkEntries entries + 1
  | .held _ => 1
def uptoBulkAll {H : Type} : List (DataW H) → Nat
  | [] => 0
  | d :: r => uptoBulk d + uptoBulkAll r
def uptoBulkEntries {H : Type} : List (Lit × DataW H) → Nat
  | [] => 0
  | x :: r => uptoBulkEntry x + uptoBulkEntries r
def uptoBulkEntry {H : Type} : Lit × DataW H → Nat
  | (.string bytes, d) => bytes.length + uptoBulk d + 1
  | (_, d) => uptoBulk d + 1
 end
def uptoSmall : (H : Type) → List (DataW H) → Bool := fun _ ds => decide (uptoBulkAll ds ≤ 1048576)
def OpenSpec.upto (s : _root_.Go.ChangeSpec) : _root_.Go.OpenSpec := { _root_.Go.OpenSpec.ofChange s with cond := some uptoSmall }

/-- 'laws.FnExactCodeFaultName', WHERE WHAT IT READS IS OF BULK AT MOST 1048576: true; the input reads as it did. -/
def fnExactCodeFaultNameUptoRow : OpenClaim := { program := "ythbhppbcbpllcaa", sum := "99f3b9b295c1bea571901f67af03ed91af42ddb64b41316e4ff2f3f57b046e0f", func := "loop.example/g00931/laws.FnExactCodeFaultName", spec := "fnExactCodeFaultName", apart := false, narrowed := true }
def FnExactCodeFaultNameUptoSaid : Prop := fnExactCodeFaultNameUptoRow.holds Try.pinned (OpenSpec.upto fnExactCodeFaultNameSpec)

/-- 'laws.FnExactSamePoly', WHERE WHAT IT READS IS OF BULK AT MOST 1048576: true; the input reads as it did. -/
def fnExactSamePolyUptoRow : OpenClaim := { program := "ythbhppbcbpllcaa", sum := "99f3b9b295c1bea571901f67af03ed91af42ddb64b41316e4ff2f3f57b046e0f", func := "loop.example/g00931/laws.FnExactSamePoly", spec := "fnExactSamePoly", apart := false, narrowed := true }
def FnExactSamePolyUptoSaid : Prop := fnExactSamePolyUptoRow.holds Try.pinned (OpenSpec.upto fnExactSamePolySpec)

/-- 'laws.FnExactValidPoly', WHERE WHAT IT READS IS OF BULK AT MOST 1048576: true; the input reads as it did. -/
def fnExactValidPolyUptoRow : OpenClaim := { program := "ythbhppbcbpllcaa", sum := "99f3b9b295c1bea571901f67af03ed91af42ddb64b41316e4ff2f3f57b046e0f", func := "loop.example/g00931/laws.FnExactValidPoly", spec := "fnExactValidPoly", apart := false, narrowed := true }
def FnExactValidPolyUptoSaid : Prop := fnExactValidPolyUptoRow.holds Try.pinned (OpenSpec.upto fnExactValidPolySpec)

/-- 'laws.FnExactPolySum', WHERE WHAT IT READS IS OF BULK AT MOST 1048576: true; the input reads as it did. -/
def fnExactPolySumUptoRow : OpenClaim := { program := "ythbhppbcbpllcaa", sum := "99f3b9b295c1bea571901f67af03ed91af42ddb64b41316e4ff2f3f57b046e0f", func := "loop.example/g00931/laws.FnExactPolySum", spec := "fnExactPolySum", apart := false, narrowed := true }
def FnExactPolySumUptoSaid : Prop := fnExactPolySumUptoRow.holds Try.pinned (OpenSpec.upto fnExactPolySumSpec)

/-- 'laws.FnExactInversePoly', WHERE WHAT IT READS IS OF BULK AT MOST 1048576: true; the input reads as it did. -/
def fnExactInversePolyUptoRow : OpenClaim := { program := "ythbhppbcbpllcaa", sum := "99f3b9b295c1bea571901f67af03ed91af42ddb64b41316e4ff2f3f57b046e0f", func := "loop.example/g00931/laws.FnExactInversePoly", spec := "fnExactInversePoly", apart := false, narrowed := true }
def FnExactInversePolyUptoSaid : Prop := fnExactInversePolyUptoRow.holds Try.pinned (OpenSpec.upto fnExactInversePolySpec)

/-- 'laws.FnExactShiftPoly', WHERE WHAT IT READS IS OF BULK AT MOST 1048576: true; the input reads as it did. -/
def fnExactShiftPolyUptoRow : OpenClaim := { program := "ythbhppbcbpllcaa", sum := "99f3b9b295c1bea571901f67af03ed91af42ddb64b41316e4ff2f3f57b046e0f", func := "loop.example/g00931/laws.FnExactShiftPoly", spec := "fnExactShiftPoly", apart := false, narrowed := true }
def FnExactShiftPolyUptoSaid : Prop := fnExactShiftPolyUptoRow.holds Try.pinned (OpenSpec.upto fnExactShiftPolySpec)

/-- 'laws.FnExactPolyText', WHERE WHAT IT READS IS OF BULK AT MOST 1048576: true; the input reads as it did. -/
def fnExactPolyTextUptoRow : OpenClaim := { program := "ythbhppbcbpllcaa", sum := "99f3b9b295c1bea571901f67af03ed91af42ddb64b41316e4ff2f3f57b046e0f", func := "loop.example/g00931/laws.FnExactPolyText", spec := "fnExactPolyText", apart := false, narrowed := true }
def FnExactPolyTextUptoSaid : Prop := fnExactPolyTextUptoRow.holds Try.pinned (OpenSpec.upto fnExactPolyTextSpec)

/-- 'laws.FnExactMulPolys', WHERE WHAT IT READS IS OF BULK AT MOST 1048576: true; the input reads as it did. -/
def fnExactMulPolysUptoRow : OpenClaim := { program := "ythbhppbcbpllcaa", sum := "99f3b9b295c1bea571901f67af03ed91af42ddb64b41316e4ff2f3f57b046e0f", func := "loop.example/g00931/laws.FnExactMulPolys", spec := "fnExactMulPolys", apart := false, narrowed := true }
def FnExactMulPolysUptoSaid : Prop := fnExactMulPolysUptoRow.holds Try.pinned (OpenSpec.upto fnExactMulPolysSpec)

/-- 'laws.FnExactAddPolys', WHERE WHAT IT READS IS OF BULK AT MOST 1048576: true; the input reads as it did. -/
def fnExactAddPolysUptoRow : OpenClaim := { program := "ythbhppbcbpllcaa", sum := "99f3b9b295c1bea571901f67af03ed91af42ddb64b41316e4ff2f3f57b046e0f", func := "loop.example/g00931/laws.FnExactAddPolys", spec := "fnExactAddPolys", apart := false, narrowed := true }
def FnExactAddPolysUptoSaid : Prop := fnExactAddPolysUptoRow.holds Try.pinned (OpenSpec.upto fnExactAddPolysSpec)

/-- 'laws.FnPolys', WHERE WHAT IT READS IS OF BULK AT MOST 1048576: true; the input reads as it did. -/
def fnPolysUptoRow : OpenClaim := { program := "ythbhppbcbpllcaa", sum := "99f3b9b295c1bea571901f67af03ed91af42ddb64b41316e4ff2f3f57b046e0f", func := "loop.example/g00931/laws.FnPolys", spec := "fnPolys", apart := false, narrowed := true }
def FnPolysUptoSaid : Prop := fnPolysUptoRow.holds Try.pinned (OpenSpec.upto fnPolysSpec)

/-- 'laws.FnShifted', WHERE WHAT IT READS IS OF BULK AT MOST 1048576: true; the input reads as it did. -/
def fnShiftedUptoRow : OpenClaim := { program := "ythbhppbcbpllcaa", sum := "99f3b9b295c1bea571901f67af03ed91af42ddb64b41316e4ff2f3f57b046e0f", func := "loop.example/g00931/laws.FnShifted", spec := "fnShifted", apart := false, narrowed := true }
def FnShiftedUptoSaid : Prop := fnShiftedUptoRow.holds Try.pinned (OpenSpec.upto fnShiftedSpec)

end Rows
end Go.Proofs.Ythbhppbcbpllcaa
