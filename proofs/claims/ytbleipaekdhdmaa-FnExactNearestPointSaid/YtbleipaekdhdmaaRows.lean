/-
  No cell of these rows narrows 'for every input' (looked for: loops, veiled, ifaces, maps, wideKeys, modest, calm, conditions, laid).
  DERIVED. THE GIVEN ROWS OF THIS SEAT. 7 by the template 'for every input the law returns true; each argument reads behind the call as it read before'; 0 by the template 'total and deterministic' (their statements: YtbleipaekdhdmaaTotals.lean).
  GIVEN WITH THE SEED: the statements are not yours to turn. If you find one false, say at which input.
  Laid BY PROGRAM, IN A SANDBOX (cutbox-rows.mjs): the forced cells as the released guide's own fill.sh prints them over the translation 1621397a9c155aaa… (all of the seat's roots in one cut). By AI agents, Wed Nov 11 2026. No macro, syntax, notation, axiom, sorry.
-/
import Derived.Test.YtbleipaekdhdmaaChecked
import GoSem.Claim
import GoSem.ClaimJoined
import GoSem.ClaimMapViews
import Derived.JoinedTies
import Derived.KernelRfl
namespace Go.Proofs.Ytbleipaekdhdmaa
/- THE CELL 'sum', in the pinned program and in every row, IS THE sha256 OF THE DUMP (.gsa) THAT YtbleipaekdhdmaaProg.lean LOADS. Nothing in Lean hashes anything: it is a label: what it is worth is what the hold of that sum in a sandbox is worth. -/
noncomputable def Try.pinned : Pinned := { name := "ytbleipaekdhdmaa", sum := "1621397a9c155aaae388a57b6de43576973809a5577153f1a06fb45526bd6b5f", checked := Try.checked }
namespace Rows
def none {H : Type} : Left H := { results := [], args := [] }

/-- 'laws.FnExactValidStroke': WHATEVER THE INPUT: true; the input reads as it did. -/
def fnExactValidStrokeSpec : ChangeSpec := { name := "fnExactValidStroke", fn := fun _ => fun
  | [d] => { results := [.lit (.bool true)], args := [d] }
  | _ => none }
def fnExactValidStrokeRow : OpenClaim := { program := "ytbleipaekdhdmaa", sum := "1621397a9c155aaae388a57b6de43576973809a5577153f1a06fb45526bd6b5f", func := "loop.example/g00931/laws.FnExactValidStroke", spec := "fnExactValidStroke", unfollowed := true, recurses := true, apart := false }
def FnExactValidStrokeSaid : Prop := fnExactValidStrokeRow.holds Try.pinned (OpenSpec.ofChange fnExactValidStrokeSpec)

/-- ITS FALSE NEIGHBOUR: 'it returns false'. Refute it at one input. -/
def fnExactValidStrokeWrong : ChangeSpec := { name := "fnExactValidStroke", fn := fun _ => fun
  | [d] => { results := [.lit (.bool false)], args := [d] }
  | _ => none }
def FnExactValidStrokeWrongFalsely : Prop := fnExactValidStrokeRow.holds Try.pinned (OpenSpec.ofChange fnExactValidStrokeWrong)

/-- 'laws.FnExactStrokeBox': WHATEVER THE INPUT: true; the input reads as it did. -/
def fnExactStrokeBoxSpec : ChangeSpec := { name := "fnExactStrokeBox", fn := fun _ => fun
  | [d] => { results := [.lit (.bool true)], args := [d] }
  | _ => none }
def fnExactStrokeBoxRow : OpenClaim := { program := "ytbleipaekdhdmaa", sum := "1621397a9c155aaae388a57b6de43576973809a5577153f1a06fb45526bd6b5f", func := "loop.example/g00931/laws.FnExactStrokeBox", spec := "fnExactStrokeBox", unfollowed := true, recurses := true, apart := false }
def FnExactStrokeBoxSaid : Prop := fnExactStrokeBoxRow.holds Try.pinned (OpenSpec.ofChange fnExactStrokeBoxSpec)

/-- ITS FALSE NEIGHBOUR: 'it returns false'. Refute it at one input. -/
def fnExactStrokeBoxWrong : ChangeSpec := { name := "fnExactStrokeBox", fn := fun _ => fun
  | [d] => { results := [.lit (.bool false)], args := [d] }
  | _ => none }
def FnExactStrokeBoxWrongFalsely : Prop := fnExactStrokeBoxRow.holds Try.pinned (OpenSpec.ofChange fnExactStrokeBoxWrong)

/-- 'laws.FnExactSmoothStroke': WHATEVER THE INPUT: true; the input reads as it did. -/
def fnExactSmoothStrokeSpec : ChangeSpec := { name := "fnExactSmoothStroke", fn := fun _ => fun
  | [d] => { results := [.lit (.bool true)], args := [d] }
  | _ => none }
def fnExactSmoothStrokeRow : OpenClaim := { program := "ytbleipaekdhdmaa", sum := "1621397a9c155aaae388a57b6de43576973809a5577153f1a06fb45526bd6b5f", func := "loop.example/g00931/laws.FnExactSmoothStroke", spec := "fnExactSmoothStroke", unfollowed := true, recurses := true, apart := false }
def FnExactSmoothStrokeSaid : Prop := fnExactSmoothStrokeRow.holds Try.pinned (OpenSpec.ofChange fnExactSmoothStrokeSpec)

/-- ITS FALSE NEIGHBOUR: 'it returns false'. Refute it at one input. -/
def fnExactSmoothStrokeWrong : ChangeSpec := { name := "fnExactSmoothStroke", fn := fun _ => fun
  | [d] => { results := [.lit (.bool false)], args := [d] }
  | _ => none }
def FnExactSmoothStrokeWrongFalsely : Prop := fnExactSmoothStrokeRow.holds Try.pinned (OpenSpec.ofChange fnExactSmoothStrokeWrong)

/-- 'laws.FnExactThinStroke': WHATEVER THE INPUT: true; the input reads as it did. -/
def fnExactThinStrokeSpec : ChangeSpec := { name := "fnExactThinStroke", fn := fun _ => fun
  | [d1, d2] => { results := [.lit (.bool true)], args := [d1, d2] }
  | _ => none }
def fnExactThinStrokeRow : OpenClaim := { program := "ytbleipaekdhdmaa", sum := "1621397a9c155aaae388a57b6de43576973809a5577153f1a06fb45526bd6b5f", func := "loop.example/g00931/laws.FnExactThinStroke", spec := "fnExactThinStroke", unfollowed := true, recurses := true, apart := false }
def FnExactThinStrokeSaid : Prop := fnExactThinStrokeRow.holds Try.pinned (OpenSpec.ofChange fnExactThinStrokeSpec)

/-- ITS FALSE NEIGHBOUR: 'it returns false'. Refute it at one input. -/
def fnExactThinStrokeWrong : ChangeSpec := { name := "fnExactThinStroke", fn := fun _ => fun
  | [d1, d2] => { results := [.lit (.bool false)], args := [d1, d2] }
  | _ => none }
def FnExactThinStrokeWrongFalsely : Prop := fnExactThinStrokeRow.holds Try.pinned (OpenSpec.ofChange fnExactThinStrokeWrong)

/-- 'laws.FnExactStrokeText': WHATEVER THE INPUT: true; the input reads as it did. -/
def fnExactStrokeTextSpec : ChangeSpec := { name := "fnExactStrokeText", fn := fun _ => fun
  | [d] => { results := [.lit (.bool true)], args := [d] }
  | _ => none }
def fnExactStrokeTextRow : OpenClaim := { program := "ytbleipaekdhdmaa", sum := "1621397a9c155aaae388a57b6de43576973809a5577153f1a06fb45526bd6b5f", func := "loop.example/g00931/laws.FnExactStrokeText", spec := "fnExactStrokeText", unfollowed := true, recurses := true, apart := false }
def FnExactStrokeTextSaid : Prop := fnExactStrokeTextRow.holds Try.pinned (OpenSpec.ofChange fnExactStrokeTextSpec)

/-- ITS FALSE NEIGHBOUR: 'it returns false'. Refute it at one input. -/
def fnExactStrokeTextWrong : ChangeSpec := { name := "fnExactStrokeText", fn := fun _ => fun
  | [d] => { results := [.lit (.bool false)], args := [d] }
  | _ => none }
def FnExactStrokeTextWrongFalsely : Prop := fnExactStrokeTextRow.holds Try.pinned (OpenSpec.ofChange fnExactStrokeTextWrong)

/-- 'laws.FnExactStrokeKind': WHATEVER THE INPUT: true; the input reads as it did. -/
def fnExactStrokeKindSpec : ChangeSpec := { name := "fnExactStrokeKind", fn := fun _ => fun
  | [d1, d2] => { results := [.lit (.bool true)], args := [d1, d2] }
  | _ => none }
def fnExactStrokeKindRow : OpenClaim := { program := "ytbleipaekdhdmaa", sum := "1621397a9c155aaae388a57b6de43576973809a5577153f1a06fb45526bd6b5f", func := "loop.example/g00931/laws.FnExactStrokeKind", spec := "fnExactStrokeKind", unfollowed := true, recurses := true, apart := false }
def FnExactStrokeKindSaid : Prop := fnExactStrokeKindRow.holds Try.pinned (OpenSpec.ofChange fnExactStrokeKindSpec)

/-- ITS FALSE NEIGHBOUR: 'it returns false'. Refute it at one input. -/
def fnExactStrokeKindWrong : ChangeSpec := { name := "fnExactStrokeKind", fn := fun _ => fun
  | [d1, d2] => { results := [.lit (.bool false)], args := [d1, d2] }
  | _ => none }
def FnExactStrokeKindWrongFalsely : Prop := fnExactStrokeKindRow.holds Try.pinned (OpenSpec.ofChange fnExactStrokeKindWrong)

/-- 'laws.FnExactNearestPoint': WHATEVER THE INPUT: true; the input reads as it did. -/
def fnExactNearestPointSpec : ChangeSpec := { name := "fnExactNearestPoint", fn := fun _ => fun
  | [d1, d2, d3] => { results := [.lit (.bool true)], args := [d1, d2, d3] }
  | _ => none }
def fnExactNearestPointRow : OpenClaim := { program := "ytbleipaekdhdmaa", sum := "1621397a9c155aaae388a57b6de43576973809a5577153f1a06fb45526bd6b5f", func := "loop.example/g00931/laws.FnExactNearestPoint", spec := "fnExactNearestPoint", apart := false }
def FnExactNearestPointSaid : Prop := fnExactNearestPointRow.holds Try.pinned (OpenSpec.ofChange fnExactNearestPointSpec)

/-- ITS FALSE NEIGHBOUR: 'it returns false'. Refute it at one input. -/
def fnExactNearestPointWrong : ChangeSpec := { name := "fnExactNearestPoint", fn := fun _ => fun
  | [d1, d2, d3] => { results := [.lit (.bool false)], args := [d1, d2, d3] }
  | _ => none }
def FnExactNearestPointWrongFalsely : Prop := fnExactNearestPointRow.holds Try.pinned (OpenSpec.ofChange fnExactNearestPointWrong)

/- THE SECOND FORM. 'bulk': how many values and letters a reading holds, each counted each time it is reached (what is shared counts as often as it is met; a slice's spare places count too). A statement '..UptoSaid' is the law's where the arguments, and the package variables that the reading takes, are together of bulk at most 1048576: NARROWER than '..Said'. Prove '..Said' where nothing that the law and all that it calls make is longer than what came in: it says more and counts as full. Else prove '..UptoSaid'. A law counts once. -/
mutual
def uptoBulk {H : Type} : DataW H → Nat
  | .lit (.string bytes) => bytes.length + 1
  | .lit _ => 1
  | .nil => 1
  | .ptr d => uptoBulk d + 1
  | .slice elems spare => uptoBulkAll elems + uptoBulkAll spare + 1
  | .agg parts => uptoBulkAll parts + 1
  | .iface _ d => uptoBulk d + 1
  | .map entries => uptoBulkEntries entries + 1
  | .held _ => 1
def uptoBulkAll {H : Type} : List (DataW H) → Nat
  | [] => 0
  | d :: r => uptoBulk d + uptoBulkAll r
def uptoBulkEntries {H : Type} : List (Lit × DataW H) → Nat
  | [] => 0
  | x :: r => uptoBulkEntry x + uptoBulkEntries r
def uptoBulkEntry {H : Type} : Lit × DataW H → Nat
  | (.string bytes, d) => bytes.length + uptoBulk d + 1
  | (_, d) => uptoBulk d + 1
 end
def uptoSmall : (H : Type) → List (DataW H) → Bool := fun _ ds => decide (uptoBulkAll ds ≤ 1048576)
def OpenSpec.upto (s : _root_.Go.ChangeSpec) : _root_.Go.OpenSpec := { _root_.Go.OpenSpec.ofChange s with cond := some uptoSmall }

/-- 'laws.FnExactValidStroke', WHERE WHAT IT READS IS OF BULK AT MOST 1048576: true; the input reads as it did. -/
def fnExactValidStrokeUptoRow : OpenClaim := { program := "ytbleipaekdhdmaa", sum := "1621397a9c155aaae388a57b6de43576973809a5577153f1a06fb45526bd6b5f", func := "loop.example/g00931/laws.FnExactValidStroke", spec := "fnExactValidStroke", unfollowed := true, recurses := true, apart := false, narrowed := true }
def FnExactValidStrokeUptoSaid : Prop := fnExactValidStrokeUptoRow.holds Try.pinned (OpenSpec.upto fnExactValidStrokeSpec)

/-- 'laws.FnExactStrokeBox', WHERE WHAT IT READS IS OF BULK AT MOST 1048576: true; the input reads as it did. -/
def fnExactStrokeBoxUptoRow : OpenClaim := { program := "ytbleipaekdhdmaa", sum := "1621397a9c155aaae388a57b6de43576973809a5577153f1a06fb45526bd6b5f", func := "loop.example/g00931/laws.FnExactStrokeBox", spec := "fnExactStrokeBox", unfollowed := true, recurses := true, apart := false, narrowed := true }
def FnExactStrokeBoxUptoSaid : Prop := fnExactStrokeBoxUptoRow.holds Try.pinned (OpenSpec.upto fnExactStrokeBoxSpec)

/-- 'laws.FnExactSmoothStroke', WHERE WHAT IT READS IS OF BULK AT MOST 1048576: true; the input reads as it did. -/
def fnExactSmoothStrokeUptoRow : OpenClaim := { program := "ytbleipaekdhdmaa", sum := "1621397a9c155aaae388a57b6de43576973809a5577153f1a06fb45526bd6b5f", func := "loop.example/g00931/laws.FnExactSmoothStroke", spec := "fnExactSmoothStroke", unfollowed := true, recurses := true, apart := false, narrowed := true }
def FnExactSmoothStrokeUptoSaid : Prop := fnExactSmoothStrokeUptoRow.holds Try.pinned (OpenSpec.upto fnExactSmoothStrokeSpec)

/-- 'laws.FnExactThinStroke', WHERE WHAT IT READS IS OF BULK AT MOST 1048576: true; the input reads as it did. -/
def fnExactThinStrokeUptoRow : OpenClaim := { program := "ytbleipaekdhdmaa", sum := "1621397a9c155aaae388a57b6de43576973809a5577153f1a06fb45526bd6b5f", func := "loop.example/g00931/laws.FnExactThinStroke", spec := "fnExactThinStroke", unfollowed := true, recurses := true, apart := false, narrowed := true }
def FnExactThinStrokeUptoSaid : Prop := fnExactThinStrokeUptoRow.holds Try.pinned (OpenSpec.upto fnExactThinStrokeSpec)

/-- 'laws.FnExactStrokeText', WHERE WHAT IT READS IS OF BULK AT MOST 1048576: true; the input reads as it did. -/
def fnExactStrokeTextUptoRow : OpenClaim := { program := "ytbleipaekdhdmaa", sum := "1621397a9c155aaae388a57b6de43576973809a5577153f1a06fb45526bd6b5f", func := "loop.example/g00931/laws.FnExactStrokeText", spec := "fnExactStrokeText", unfollowed := true, recurses := true, apart := false, narrowed := true }
def FnExactStrokeTextUptoSaid : Prop := fnExactStrokeTextUptoRow.holds Try.pinned (OpenSpec.upto fnExactStrokeTextSpec)

/-- 'laws.FnExactStrokeKind', WHERE WHAT IT READS IS OF BULK AT MOST 1048576: true; the input reads as it did. -/
def fnExactStrokeKindUptoRow : OpenClaim := { program := "ytbleipaekdhdmaa", sum := "1621397a9c155aaae388a57b6de43576973809a5577153f1a06fb45526bd6b5f", func := "loop.example/g00931/laws.FnExactStrokeKind", spec := "fnExactStrokeKind", unfollowed := true, recurses := true, apart := false, narrowed := true }
def FnExactStrokeKindUptoSaid : Prop := fnExactStrokeKindUptoRow.holds Try.pinned (OpenSpec.upto fnExactStrokeKindSpec)

/-- 'laws.FnExactNearestPoint', WHERE WHAT IT READS IS OF BULK AT MOST 1048576: true; the input reads as it did. -/
def fnExactNearestPointUptoRow : OpenClaim := { program := "ytbleipaekdhdmaa", sum := "1621397a9c155aaae388a57b6de43576973809a5577153f1a06fb45526bd6b5f", func := "loop.example/g00931/laws.FnExactNearestPoint", spec := "fnExactNearestPoint", apart := false, narrowed := true }
def FnExactNearestPointUptoSaid : Prop := fnExactNearestPointUptoRow.holds Try.pinned (OpenSpec.upto fnExactNearestPointSpec)

end Rows
end Go.Proofs.Ytbleipaekdhdmaa
