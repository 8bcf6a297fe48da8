/-
  No cell of these rows narrows 'for every input' (looked for: loops, veiled, ifaces, maps, wideKeys, modest, calm, conditions, laid).
  DERIVED. THE GIVEN ROWS OF THIS SEAT. 10 by the template 'for every input the law returns true; each argument reads behind the call as it read before'; 0 by the template 'total and deterministic' (their statements: YtenbjfkmfcbdiaaTotals.lean).
  GIVEN WITH THE SEED: the statements are not yours to turn. If you find one false, say at which input.
  Laid BY PROGRAM, IN A SANDBOX (cutbox-rows.mjs): the forced cells as the released guide's own fill.sh prints them over the translation 4e8c497e29b0c68c… (all of the seat's roots in one cut). By AI agents, Wed Nov 11 2026. No macro, syntax, notation, axiom, sorry.
-/
import Derived.Test.YtenbjfkmfcbdiaaChecked
import GoSem.Claim
import GoSem.ClaimJoined
import GoSem.ClaimMapViews
import Derived.JoinedTies
import Derived.KernelRfl
namespace Go.Proofs.Ytenbjfkmfcbdiaa
/- THE CELL 'sum', in the pinned program and in every row, IS THE sha256 OF THE DUMP (.gsa) THAT YtenbjfkmfcbdiaaProg.lean LOADS. Nothing in Lean hashes anything: it is a label: what it is worth is what the hold of that sum in a sandbox is worth. -/
noncomputable def Try.pinned : Pinned := { name := "ytenbjfkmfcbdiaa", sum := "4e8c497e29b0c68c823cd5aebe839f7ee6b14898ccde91bad54c5ba723731932", checked := Try.checked }
namespace Rows
def none {H : Type} : Left H := { results := [], args := [] }

/-- 'laws.FnExactMovesText': WHATEVER THE INPUT: true; the input reads as it did. -/
def fnExactMovesTextSpec : ChangeSpec := { name := "fnExactMovesText", fn := fun _ => fun
  | [d] => { results := [.lit (.bool true)], args := [d] }
  | _ => none }
def fnExactMovesTextRow : OpenClaim := { program := "ytenbjfkmfcbdiaa", sum := "4e8c497e29b0c68c823cd5aebe839f7ee6b14898ccde91bad54c5ba723731932", func := "loop.example/g00931/laws.FnExactMovesText", spec := "fnExactMovesText", apart := false }
def FnExactMovesTextSaid : Prop := fnExactMovesTextRow.holds Try.pinned (OpenSpec.ofChange fnExactMovesTextSpec)

/-- ITS FALSE NEIGHBOUR: 'it returns false'. Refute it at one input. -/
def fnExactMovesTextWrong : ChangeSpec := { name := "fnExactMovesText", fn := fun _ => fun
  | [d] => { results := [.lit (.bool false)], args := [d] }
  | _ => none }
def FnExactMovesTextWrongFalsely : Prop := fnExactMovesTextRow.holds Try.pinned (OpenSpec.ofChange fnExactMovesTextWrong)

/-- 'laws.FnExactLoopMoves': WHATEVER THE INPUT: true; the input reads as it did. -/
def fnExactLoopMovesSpec : ChangeSpec := { name := "fnExactLoopMoves", fn := fun _ => fun
  | [d] => { results := [.lit (.bool true)], args := [d] }
  | _ => none }
def fnExactLoopMovesRow : OpenClaim := { program := "ytenbjfkmfcbdiaa", sum := "4e8c497e29b0c68c823cd5aebe839f7ee6b14898ccde91bad54c5ba723731932", func := "loop.example/g00931/laws.FnExactLoopMoves", spec := "fnExactLoopMoves", apart := false }
def FnExactLoopMovesSaid : Prop := fnExactLoopMovesRow.holds Try.pinned (OpenSpec.ofChange fnExactLoopMovesSpec)

/-- ITS FALSE NEIGHBOUR: 'it returns false'. Refute it at one input. -/
def fnExactLoopMovesWrong : ChangeSpec := { name := "fnExactLoopMoves", fn := fun _ => fun
  | [d] => { results := [.lit (.bool false)], args := [d] }
  | _ => none }
def FnExactLoopMovesWrongFalsely : Prop := fnExactLoopMovesRow.holds Try.pinned (OpenSpec.ofChange fnExactLoopMovesWrong)

/-- 'laws.FnExactCanMove': WHATEVER THE INPUT: true; the input reads as it did. -/
def fnExactCanMoveSpec : ChangeSpec := { name := "fnExactCanMove", fn := fun _ => fun
  | [d1, d2] => { results := [.lit (.bool true)], args := [d1, d2] }
  | _ => none }
def fnExactCanMoveRow : OpenClaim := { program := "ytenbjfkmfcbdiaa", sum := "4e8c497e29b0c68c823cd5aebe839f7ee6b14898ccde91bad54c5ba723731932", func := "loop.example/g00931/laws.FnExactCanMove", spec := "fnExactCanMove", apart := false }
def FnExactCanMoveSaid : Prop := fnExactCanMoveRow.holds Try.pinned (OpenSpec.ofChange fnExactCanMoveSpec)

/-- ITS FALSE NEIGHBOUR: 'it returns false'. Refute it at one input. -/
def fnExactCanMoveWrong : ChangeSpec := { name := "fnExactCanMove", fn := fun _ => fun
  | [d1, d2] => { results := [.lit (.bool false)], args := [d1, d2] }
  | _ => none }
def FnExactCanMoveWrongFalsely : Prop := fnExactCanMoveRow.holds Try.pinned (OpenSpec.ofChange fnExactCanMoveWrong)

/-- 'laws.FnExactPairMoves': WHATEVER THE INPUT: true; the input reads as it did. -/
def fnExactPairMovesSpec : ChangeSpec := { name := "fnExactPairMoves", fn := fun _ => fun
  | [d] => { results := [.lit (.bool true)], args := [d] }
  | _ => none }
def fnExactPairMovesRow : OpenClaim := { program := "ytenbjfkmfcbdiaa", sum := "4e8c497e29b0c68c823cd5aebe839f7ee6b14898ccde91bad54c5ba723731932", func := "loop.example/g00931/laws.FnExactPairMoves", spec := "fnExactPairMoves", apart := false }
def FnExactPairMovesSaid : Prop := fnExactPairMovesRow.holds Try.pinned (OpenSpec.ofChange fnExactPairMovesSpec)

/-- ITS FALSE NEIGHBOUR: 'it returns false'. Refute it at one input. -/
def fnExactPairMovesWrong : ChangeSpec := { name := "fnExactPairMoves", fn := fun _ => fun
  | [d] => { results := [.lit (.bool false)], args := [d] }
  | _ => none }
def FnExactPairMovesWrongFalsely : Prop := fnExactPairMovesRow.holds Try.pinned (OpenSpec.ofChange fnExactPairMovesWrong)

/-- 'laws.FnExactIsReduced': WHATEVER THE INPUT: true; the input reads as it did. -/
def fnExactIsReducedSpec : ChangeSpec := { name := "fnExactIsReduced", fn := fun _ => fun
  | [d] => { results := [.lit (.bool true)], args := [d] }
  | _ => none }
def fnExactIsReducedRow : OpenClaim := { program := "ytenbjfkmfcbdiaa", sum := "4e8c497e29b0c68c823cd5aebe839f7ee6b14898ccde91bad54c5ba723731932", func := "loop.example/g00931/laws.FnExactIsReduced", spec := "fnExactIsReduced", apart := false }
def FnExactIsReducedSaid : Prop := fnExactIsReducedRow.holds Try.pinned (OpenSpec.ofChange fnExactIsReducedSpec)

/-- ITS FALSE NEIGHBOUR: 'it returns false'. Refute it at one input. -/
def fnExactIsReducedWrong : ChangeSpec := { name := "fnExactIsReduced", fn := fun _ => fun
  | [d] => { results := [.lit (.bool false)], args := [d] }
  | _ => none }
def FnExactIsReducedWrongFalsely : Prop := fnExactIsReducedRow.holds Try.pinned (OpenSpec.ofChange fnExactIsReducedWrong)

/-- 'laws.FnExactReadMoves': WHATEVER THE INPUT: true; the input reads as it did. -/
def fnExactReadMovesSpec : ChangeSpec := { name := "fnExactReadMoves", fn := fun _ => fun
  | [d] => { results := [.lit (.bool true)], args := [d] }
  | _ => none }
def fnExactReadMovesRow : OpenClaim := { program := "ytenbjfkmfcbdiaa", sum := "4e8c497e29b0c68c823cd5aebe839f7ee6b14898ccde91bad54c5ba723731932", func := "loop.example/g00931/laws.FnExactReadMoves", spec := "fnExactReadMoves", apart := false }
def FnExactReadMovesSaid : Prop := fnExactReadMovesRow.holds Try.pinned (OpenSpec.ofChange fnExactReadMovesSpec)

/-- ITS FALSE NEIGHBOUR: 'it returns false'. Refute it at one input. -/
def fnExactReadMovesWrong : ChangeSpec := { name := "fnExactReadMoves", fn := fun _ => fun
  | [d] => { results := [.lit (.bool false)], args := [d] }
  | _ => none }
def FnExactReadMovesWrongFalsely : Prop := fnExactReadMovesRow.holds Try.pinned (OpenSpec.ofChange fnExactReadMovesWrong)

/-- 'laws.FnExactApplyMove': WHATEVER THE INPUT: true; the input reads as it did. -/
def fnExactApplyMoveSpec : ChangeSpec := { name := "fnExactApplyMove", fn := fun _ => fun
  | [d1, d2] => { results := [.lit (.bool true)], args := [d1, d2] }
  | _ => none }
def fnExactApplyMoveRow : OpenClaim := { program := "ytenbjfkmfcbdiaa", sum := "4e8c497e29b0c68c823cd5aebe839f7ee6b14898ccde91bad54c5ba723731932", func := "loop.example/g00931/laws.FnExactApplyMove", spec := "fnExactApplyMove", apart := false }
def FnExactApplyMoveSaid : Prop := fnExactApplyMoveRow.holds Try.pinned (OpenSpec.ofChange fnExactApplyMoveSpec)

/-- ITS FALSE NEIGHBOUR: 'it returns false'. Refute it at one input. -/
def fnExactApplyMoveWrong : ChangeSpec := { name := "fnExactApplyMove", fn := fun _ => fun
  | [d1, d2] => { results := [.lit (.bool false)], args := [d1, d2] }
  | _ => none }
def FnExactApplyMoveWrongFalsely : Prop := fnExactApplyMoveRow.holds Try.pinned (OpenSpec.ofChange fnExactApplyMoveWrong)

/-- 'laws.FnExactReplayMoves': WHATEVER THE INPUT: true; the input reads as it did. -/
def fnExactReplayMovesSpec : ChangeSpec := { name := "fnExactReplayMoves", fn := fun _ => fun
  | [d1, d2] => { results := [.lit (.bool true)], args := [d1, d2] }
  | _ => none }
def fnExactReplayMovesRow : OpenClaim := { program := "ytenbjfkmfcbdiaa", sum := "4e8c497e29b0c68c823cd5aebe839f7ee6b14898ccde91bad54c5ba723731932", func := "loop.example/g00931/laws.FnExactReplayMoves", spec := "fnExactReplayMoves", apart := false }
def FnExactReplayMovesSaid : Prop := fnExactReplayMovesRow.holds Try.pinned (OpenSpec.ofChange fnExactReplayMovesSpec)

/-- ITS FALSE NEIGHBOUR: 'it returns false'. Refute it at one input. -/
def fnExactReplayMovesWrong : ChangeSpec := { name := "fnExactReplayMoves", fn := fun _ => fun
  | [d1, d2] => { results := [.lit (.bool false)], args := [d1, d2] }
  | _ => none }
def FnExactReplayMovesWrongFalsely : Prop := fnExactReplayMovesRow.holds Try.pinned (OpenSpec.ofChange fnExactReplayMovesWrong)

/-- 'laws.FnExactSimplifyCode': WHATEVER THE INPUT: true; the input reads as it did. -/
def fnExactSimplifyCodeSpec : ChangeSpec := { name := "fnExactSimplifyCode", fn := fun _ => fun
  | [d] => { results := [.lit (.bool true)], args := [d] }
  | _ => none }
def fnExactSimplifyCodeRow : OpenClaim := { program := "ytenbjfkmfcbdiaa", sum := "4e8c497e29b0c68c823cd5aebe839f7ee6b14898ccde91bad54c5ba723731932", func := "loop.example/g00931/laws.FnExactSimplifyCode", spec := "fnExactSimplifyCode", apart := false }
def FnExactSimplifyCodeSaid : Prop := fnExactSimplifyCodeRow.holds Try.pinned (OpenSpec.ofChange fnExactSimplifyCodeSpec)

/-- ITS FALSE NEIGHBOUR: 'it returns false'. Refute it at one input. -/
def fnExactSimplifyCodeWrong : ChangeSpec := { name := "fnExactSimplifyCode", fn := fun _ => fun
  | [d] => { results := [.lit (.bool false)], args := [d] }
  | _ => none }
def FnExactSimplifyCodeWrongFalsely : Prop := fnExactSimplifyCodeRow.holds Try.pinned (OpenSpec.ofChange fnExactSimplifyCodeWrong)

/-- 'laws.FnMoves': WHATEVER THE INPUT: true; the input reads as it did. -/
def fnMovesSpec : ChangeSpec := { name := "fnMoves", fn := fun _ => fun
  | [d] => { results := [.lit (.bool true)], args := [d] }
  | _ => none }
def fnMovesRow : OpenClaim := { program := "ytenbjfkmfcbdiaa", sum := "4e8c497e29b0c68c823cd5aebe839f7ee6b14898ccde91bad54c5ba723731932", func := "loop.example/g00931/laws.FnMoves", spec := "fnMoves", apart := false }
def FnMovesSaid : Prop := fnMovesRow.holds Try.pinned (OpenSpec.ofChange fnMovesSpec)

/-- ITS FALSE NEIGHBOUR: 'it returns false'. Refute it at one input. -/
def fnMovesWrong : ChangeSpec := { name := "fnMoves", fn := fun _ => fun
  | [d] => { results := [.lit (.bool false)], args := [d] }
  | _ => none }
def FnMovesWrongFalsely : Prop := fnMovesRow.holds Try.pinned (OpenSpec.ofChange fnMovesWrong)

/- THE SECOND FORM. 'bulk': how many values and letters a reading holds, each counted each time it is reached (what is shared counts as often as it is met; a slice's spare places count too). A statement '..UptoSaid' is the law's where the arguments, and the package variables that the reading takes, are together of bulk at most 1048576: NARROWER than '..Said'. Prove '..Said' where nothing that the law and all that it calls make is longer than what came in: it says more and counts as full. Else prove '..UptoSaid'. A law counts once. -/
mutual
def uptoBulk {H : Type} : DataW H → Nat
  | .lit (.string bytes) => bytes.length + 1
  | .lit _ => 1
  | .nil => 1
  | .ptr d => uptoBulk d + 1
  | .slice elems spare => uptoBulkAll elems + uptoBulkAll spare + 1
  | .agg parts => uptoBulkAll parts + 1
  | .iface _ d => uptoBulk d + 1
  | .map entries => uptoBulkEntries entries + 1
  | .held _ => 1
def uptoBulkAll {H : Type} : List (DataW H) → Nat
  | [] => 0
  | d :: r => uptoBulk d + uptoBulkAll r
def uptoBulkEntries {H : Type} : List (Lit × DataW H) → Nat
  | [] => 0
  | x :: r => uptoBulkEntry x + uptoBulkEntries r
def uptoBulkEntry {H : Type} : Lit × DataW H → Nat
  | (.string bytes, d) => bytes.length + uptoBulk d + 1
  | (_, d) => uptoBulk d + 1
 end
def uptoSmall : (H : Type) → List (DataW H) → Bool := fun _ ds => decide (uptoBulkAll ds ≤ 1048576)
def OpenSpec.upto (s : _root_.Go.ChangeSpec) : _root_.Go.OpenSpec := { _root_.Go.OpenSpec.ofChange s with cond := some uptoSmall }

/-- 'laws.FnExactMovesText', WHERE WHAT IT READS IS OF BULK AT MOST 1048576: true; the input reads as it did. -/
def fnExactMovesTextUptoRow : OpenClaim := { program := "ytenbjfkmfcbdiaa", sum := "4e8c497e29b0c68c823cd5aebe839f7ee6b14898ccde91bad54c5ba723731932", func := "loop.example/g00931/laws.FnExactMovesText", spec := "fnExactMovesText", apart := false, narrowed := true }
def FnExactMovesTextUptoSaid : Prop := fnExactMovesTextUptoRow.holds Try.pinned (OpenSpec.upto fnExactMovesTextSpec)

/-- 'laws.FnExactLoopMoves', WHERE WHAT IT READS IS OF BULK AT MOST 1048576: true; the input reads as it did. -/
def fnExactLoopMovesUptoRow : OpenClaim := { program := "ytenbjfkmfcbdiaa", sum := "4e8c497e29b0c68c823cd5aebe839f7ee6b14898ccde91bad54c5ba723731932", func := "loop.example/g00931/laws.FnExactLoopMoves", spec := "fnExactLoopMoves", apart := false, narrowed := true }
def FnExactLoopMovesUptoSaid : Prop := fnExactLoopMovesUptoRow.holds Try.pinned (OpenSpec.upto fnExactLoopMovesSpec)

/-- 'laws.FnExactCanMove', WHERE WHAT IT READS IS OF BULK AT MOST 1048576: true; the input reads as it did. -/
def fnExactCanMoveUptoRow : OpenClaim := { program := "ytenbjfkmfcbdiaa", sum := "4e8c497e29b0c68c823cd5aebe839f7ee6b14898ccde91bad54c5ba723731932", func := "loop.example/g00931/laws.FnExactCanMove", spec := "fnExactCanMove", apart := false, narrowed := true }
def FnExactCanMoveUptoSaid : Prop := fnExactCanMoveUptoRow.holds Try.pinned (OpenSpec.upto fnExactCanMoveSpec)

/-- 'laws.FnExactPairMoves', WHERE WHAT IT READS IS OF BULK AT MOST 1048576: true; the input reads as it did. -/
def fnExactPairMovesUptoRow : OpenClaim := { program := "ytenbjfkmfcbdiaa", sum := "4e8c497e29b0c68c823cd5aebe839f7ee6b14898ccde91bad54c5ba723731932", func := "loop.example/g00931/laws.FnExactPairMoves", spec := "fnExactPairMoves", apart := false, narrowed := true }
def FnExactPairMovesUptoSaid : Prop := fnExactPairMovesUptoRow.holds Try.pinned (OpenSpec.upto fnExactPairMovesSpec)

/-- 'laws.FnExactIsReduced', WHERE WHAT IT READS IS OF BULK AT MOST 1048576: true; the input reads as it did. -/
def fnExactIsReducedUptoRow : OpenClaim := { program := "ytenbjfkmfcbdiaa", sum := "4e8c497e29b0c68c823cd5aebe839f7ee6b14898ccde91bad54c5ba723731932", func := "loop.example/g00931/laws.FnExactIsReduced", spec := "fnExactIsReduced", apart := false, narrowed := true }
def FnExactIsReducedUptoSaid : Prop := fnExactIsReducedUptoRow.holds Try.pinned (OpenSpec.upto fnExactIsReducedSpec)

/-- 'laws.FnExactReadMoves', WHERE WHAT IT READS IS OF BULK AT MOST 1048576: true; the input reads as it did. -/
def fnExactReadMovesUptoRow : OpenClaim := { program := "ytenbjfkmfcbdiaa", sum := "4e8c497e29b0c68c823cd5aebe839f7ee6b14898ccde91bad54c5ba723731932", func := "loop.example/g00931/laws.FnExactReadMoves", spec := "fnExactReadMoves", apart := false, narrowed := true }
def FnExactReadMovesUptoSaid : Prop := fnExactReadMovesUptoRow.holds Try.pinned (OpenSpec.upto fnExactReadMovesSpec)

/-- 'laws.FnExactApplyMove', WHERE WHAT IT READS IS OF BULK AT MOST 1048576: true; the input reads as it did. -/
def fnExactApplyMoveUptoRow : OpenClaim := { program := "ytenbjfkmfcbdiaa", sum := "4e8c497e29b0c68c823cd5aebe839f7ee6b14898ccde91bad54c5ba723731932", func := "loop.example/g00931/laws.FnExactApplyMove", spec := "fnExactApplyMove", apart := false, narrowed := true }
def FnExactApplyMoveUptoSaid : Prop := fnExactApplyMoveUptoRow.holds Try.pinned (OpenSpec.upto fnExactApplyMoveSpec)

/-- 'laws.FnExactReplayMoves', WHERE WHAT IT READS IS OF BULK AT MOST 1048576: true; the input reads as it did. -/
def fnExactReplayMovesUptoRow : OpenClaim := { program := "ytenbjfkmfcbdiaa", sum := "4e8c497e29b0c68c823cd5aebe839f7ee6b14898ccde91bad54c5ba723731932", func := "loop.example/g00931/laws.FnExactReplayMoves", spec := "fnExactReplayMoves", apart := false, narrowed := true }
def FnExactReplayMovesUptoSaid : Prop := fnExactReplayMovesUptoRow.holds Try.pinned (OpenSpec.upto fnExactReplayMovesSpec)

/-- 'laws.FnExactSimplifyCode', WHERE WHAT IT READS IS OF BULK AT MOST 1048576: true; the input reads as it did. -/
def fnExactSimplifyCodeUptoRow : OpenClaim := { program := "ytenbjfkmfcbdiaa", sum := "4e8c497e29b0c68c823cd5aebe839f7ee6b14898ccde91bad54c5ba723731932", func := "loop.example/g00931/laws.FnExactSimplifyCode", spec := "fnExactSimplifyCode", apart := false, narrowed := true }
def FnExactSimplifyCodeUptoSaid : Prop := fnExactSimplifyCodeUptoRow.holds Try.pinned (OpenSpec.upto fnExactSimplifyCodeSpec)

/-- 'laws.FnMoves', WHERE WHAT IT READS IS OF BULK AT MOST 1048576: true; the input reads as it did. -/
def fnMovesUptoRow : OpenClaim := { program := "ytenbjfkmfcbdiaa", sum := "4e8c497e29b0c68c823cd5aebe839f7ee6b14898ccde91bad54c5ba723731932", func := "loop.example/g00931/laws.FnMoves", spec := "fnMoves", apart := false, narrowed := true }
def FnMovesUptoSaid : Prop := fnMovesUptoRow.holds Try.pinned (OpenSpec.upto fnMovesSpec)

end Rows
end Go.Proofs.Ytenbjfkmfcbdiaa
