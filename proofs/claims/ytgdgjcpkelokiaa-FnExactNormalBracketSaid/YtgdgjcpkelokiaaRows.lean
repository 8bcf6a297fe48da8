/-
  No cell of these rows narrows 'for every input' (looked for: loops, veiled, ifaces, maps, wideKeys, modest, calm, conditions, laid).
  DERIVED. THE GIVEN ROWS OF THIS SEAT. 3 by the template 'for every input the law returns true; each argument reads behind the call as it read before'; 0 by the template 'total and deterministic' (their statements: YtgdgjcpkelokiaaTotals.lean).
  GIVEN WITH THE SEED: the statements are not yours to turn. If you find one false, say at which input.
  Laid BY PROGRAM, IN A SANDBOX (cutbox-rows.mjs): the forced cells as the released guide's own fill.sh prints them over the translation d9a9025f0cb079a1… (all of the seat's roots in one cut). By AI agents, Wed Nov 11 2026. No macro, syntax, notation, axiom, sorry.
-/
import Derived.Test.YtgdgjcpkelokiaaChecked
import GoSem.Claim
import GoSem.ClaimJoined
import GoSem.ClaimMapViews
import Derived.JoinedTies
import Derived.KernelRfl
namespace Go.Proofs.Ytgdgjcpkelokiaa
/- THE CELL 'sum', in the pinned program and in every row, IS THE sha256 OF THE DUMP (.gsa) THAT YtgdgjcpkelokiaaProg.lean LOADS. Nothing in Lean hashes anything: it is a label: what it is worth is what the hold of that sum in a sandbox is worth. -/
noncomputable def Try.pinned : Pinned := { name := "ytgdgjcpkelokiaa", sum := "d9a9025f0cb079a153dc0ccf3d84268f19e22340a177b1594fc5ea326843d4ff", checked := Try.checked }
namespace Rows
def none {H : Type} : Left H := { results := [], args := [] }

/-- 'laws.FnExactSmoothAt': WHATEVER THE INPUT: true; the input reads as it did. -/
def fnExactSmoothAtSpec : ChangeSpec := { name := "fnExactSmoothAt", fn := fun _ => fun
  | [d1, d2, d3] => { results := [.lit (.bool true)], args := [d1, d2, d3] }
  | _ => none }
def fnExactSmoothAtRow : OpenClaim := { program := "ytgdgjcpkelokiaa", sum := "d9a9025f0cb079a153dc0ccf3d84268f19e22340a177b1594fc5ea326843d4ff", func := "loop.example/g00931/laws.FnExactSmoothAt", spec := "fnExactSmoothAt", apart := false }
def FnExactSmoothAtSaid : Prop := fnExactSmoothAtRow.holds Try.pinned (OpenSpec.ofChange fnExactSmoothAtSpec)

/-- ITS FALSE NEIGHBOUR: 'it returns false'. Refute it at one input. -/
def fnExactSmoothAtWrong : ChangeSpec := { name := "fnExactSmoothAt", fn := fun _ => fun
  | [d1, d2, d3] => { results := [.lit (.bool false)], args := [d1, d2, d3] }
  | _ => none }
def FnExactSmoothAtWrongFalsely : Prop := fnExactSmoothAtRow.holds Try.pinned (OpenSpec.ofChange fnExactSmoothAtWrong)

/-- 'laws.FnExactBracketOf': WHATEVER THE INPUT: true; the input reads as it did. -/
def fnExactBracketOfSpec : ChangeSpec := { name := "fnExactBracketOf", fn := fun _ => fun
  | [d] => { results := [.lit (.bool true)], args := [d] }
  | _ => none }
def fnExactBracketOfRow : OpenClaim := { program := "ytgdgjcpkelokiaa", sum := "d9a9025f0cb079a153dc0ccf3d84268f19e22340a177b1594fc5ea326843d4ff", func := "loop.example/g00931/laws.FnExactBracketOf", spec := "fnExactBracketOf", apart := false }
def FnExactBracketOfSaid : Prop := fnExactBracketOfRow.holds Try.pinned (OpenSpec.ofChange fnExactBracketOfSpec)

/-- ITS FALSE NEIGHBOUR: 'it returns false'. Refute it at one input. -/
def fnExactBracketOfWrong : ChangeSpec := { name := "fnExactBracketOf", fn := fun _ => fun
  | [d] => { results := [.lit (.bool false)], args := [d] }
  | _ => none }
def FnExactBracketOfWrongFalsely : Prop := fnExactBracketOfRow.holds Try.pinned (OpenSpec.ofChange fnExactBracketOfWrong)

/-- 'laws.FnExactNormalBracket': WHATEVER THE INPUT: true; the input reads as it did. -/
def fnExactNormalBracketSpec : ChangeSpec := { name := "fnExactNormalBracket", fn := fun _ => fun
  | [d] => { results := [.lit (.bool true)], args := [d] }
  | _ => none }
def fnExactNormalBracketRow : OpenClaim := { program := "ytgdgjcpkelokiaa", sum := "d9a9025f0cb079a153dc0ccf3d84268f19e22340a177b1594fc5ea326843d4ff", func := "loop.example/g00931/laws.FnExactNormalBracket", spec := "fnExactNormalBracket", apart := false }
def FnExactNormalBracketSaid : Prop := fnExactNormalBracketRow.holds Try.pinned (OpenSpec.ofChange fnExactNormalBracketSpec)

/-- ITS FALSE NEIGHBOUR: 'it returns false'. Refute it at one input. -/
def fnExactNormalBracketWrong : ChangeSpec := { name := "fnExactNormalBracket", fn := fun _ => fun
  | [d] => { results := [.lit (.bool false)], args := [d] }
  | _ => none }
def FnExactNormalBracketWrongFalsely : Prop := fnExactNormalBracketRow.holds Try.pinned (OpenSpec.ofChange fnExactNormalBracketWrong)

/- THE SECOND FORM. 'bulk': how many values and letters a reading holds, each counted each time it is reached (what is shared counts as often as it is met; a slice's spare places count too). A statement '..UptoSaid' is the law's where the arguments, and the package variables that the reading takes, are together of bulk at most 1048576: NARROWER than '..Said'. Prove '..Said' where nothing that the law and all that it calls make is longer than what came in: it says more and counts as full. Else prove '..UptoSaid'. A law counts once. -/
mutual
def uptoBulk {H : Type} : DataW H → Nat
  | .lit (.string bytes) => bytes.length + 1
  | .lit _ => 1
  | .nil => 1
  | .ptr d => uptoBulk d + 1
  | .slice elems spare => uptoBulkAll elems + uptoBulkAll spare + 1
  | .agg parts => uptoBulkAll parts + 1
  | .iface _ d => uptoBulk d + 1
  | .map entries => uptoBulkEntries entries + 1
  | .held _ => 1
def uptoBulkAll {H : Type} : List (DataW H) → Nat
  | [] => 0
  | d :: r => uptoBulk d + uptoBulkAll r
def uptoBulkEntries {H : Type} : List (Lit × DataW H) → Nat
  | [] => 0
  | x :: r => uptoBulkEntry x + uptoBulkEntries r
def uptoBulkEntry {H : Type} : Lit × DataW H → Nat
  | (.string bytes, d) => bytes.length + uptoBulk d + 1
  | (_, d) => uptoBulk d + 1
 end
def uptoSmall : (H : Type) → List (DataW H) → Bool := fun _ ds => decide (uptoBulkAll ds ≤ 1048576)
def OpenSpec.upto (s : _root_.Go.ChangeSpec) : _root_.Go.OpenSpec := { _root_.Go.OpenSpec.ofChange s with cond := some uptoSmall }

/-- 'laws.FnExactSmoothAt', WHERE WHAT IT READS IS OF BULK AT MOST 1048576: true; the input reads as it did. -/
def fnExactSmoothAtUptoRow : OpenClaim := { program := "ytgdgjcpkelokiaa", sum := "d9a9025f0cb079a153dc0ccf3d84268f19e22340a177b1594fc5ea326843d4ff", func := "loop.example/g00931/laws.FnExactSmoothAt", spec := "fnExactSmoothAt", apart := false, narrowed := true }
def FnExactSmoothAtUptoSaid : Prop := fnExactSmoothAtUptoRow.holds Try.pinned (OpenSpec.upto fnExactSmoothAtSpec)

/-- 'laws.FnExactBracketOf', WHERE WHAT IT READS IS OF BULK AT MOST 1048576: true; the input reads as it did. -/
def fnExactBracketOfUptoRow : OpenClaim := { program := "ytgdgjcpkelokiaa", sum := "d9a9025f0cb079a153dc0ccf3d84268f19e22340a177b1594fc5ea326843d4ff", func := "loop.example/g00931/laws.FnExactBracketOf", spec := "fnExactBracketOf", apart := false, narrowed := true }
def FnExactBracketOfUptoSaid : Prop := fnExactBracketOfUptoRow.holds Try.pinned (OpenSpec.upto fnExactBracketOfSpec)

/-- 'laws.FnExactNormalBracket', WHERE WHAT IT READS IS OF BULK AT MOST 1048576: true; the input reads as it did. -/
def fnExactNormalBracketUptoRow : OpenClaim := { program := "ytgdgjcpkelokiaa", sum := "d9a9025f0cb079a153dc0ccf3d84268f19e22340a177b1594fc5ea326843d4ff", func := "loop.example/g00931/laws.FnExactNormalBracket", spec := "fnExactNormalBracket", apart := false, narrowed := true }
def FnExactNormalBracketUptoSaid : Prop := fnExactNormalBracketUptoRow.holds Try.pinned (OpenSpec.upto fnExactNormalBracketSpec)

end Rows
end Go.Proofs.Ytgdgjcpkelokiaa
