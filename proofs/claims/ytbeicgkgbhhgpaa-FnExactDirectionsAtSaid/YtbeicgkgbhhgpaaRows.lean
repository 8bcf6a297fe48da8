/-
  No cell of these rows narrows 'for every input' (looked for: loops, veiled, ifaces, maps, wideKeys, modest, calm, conditions, laid).
  DERIVED. THE GIVEN ROWS OF THIS SEAT. 10 by the template 'for every input the law returns true; each argument reads behind the call as it read before'; 0 by the template 'total and deterministic' (their statements: YtbeicgkgbhhgpaaTotals.lean).
  GIVEN WITH THE SEED: the statements are not yours to turn. If you find one false, say at which input.
  Laid BY PROGRAM, IN A SANDBOX (cutbox-rows.mjs): the forced cells as the released guide's own fill.sh prints them over the translation 55a3039d48b6fc0b… (all of the seat's roots in one cut). By AI agents, Wed Nov 11 2026. No macro, syntax, notation, axiom, sorry.
-/
import Derived.Test.YtbeicgkgbhhgpaaChecked
import GoSem.Claim
import GoSem.ClaimJoined
import GoSem.ClaimMapViews
import Derived.JoinedTies
import Derived.KernelRfl
namespace Go.Proofs.Ytbeicgkgbhhgpaa
/- THE CELL 'sum', in the pinned program and in every row, IS THE sha256 OF THE DUMP (.gsa) THAT YtbeicgkgbhhgpaaProg.lean LOADS. Nothing in Lean hashes anything: it is a label: what it is worth is what the hold of that sum in a sandbox is worth. -/
noncomputable def Try.pinned : Pinned := { name := "ytbeicgkgbhhgpaa", sum := "55a3039d48b6fc0b480df21614780a9b7557b91815470c758358755d3c140381", checked := Try.checked }
namespace Rows
def none {H : Type} : Left H := { results := [], args := [] }

/-- 'laws.FnExactWritheOf': WHATEVER THE INPUT: true; the input reads as it did. -/
def fnExactWritheOfSpec : ChangeSpec := { name := "fnExactWritheOf", fn := fun _ => fun
  | [d] => { results := [.lit (.bool true)], args := [d] }
  | _ => none }
def fnExactWritheOfRow : OpenClaim := { program := "ytbeicgkgbhhgpaa", sum := "55a3039d48b6fc0b480df21614780a9b7557b91815470c758358755d3c140381", func := "loop.example/g00931/laws.FnExactWritheOf", spec := "fnExactWritheOf", apart := false }
def FnExactWritheOfSaid : Prop := fnExactWritheOfRow.holds Try.pinned (OpenSpec.ofChange fnExactWritheOfSpec)

/-- ITS FALSE NEIGHBOUR: 'it returns false'. Refute it at one input. -/
def fnExactWritheOfWrong : ChangeSpec := { name := "fnExactWritheOf", fn := fun _ => fun
  | [d] => { results := [.lit (.bool false)], args := [d] }
  | _ => none }
def FnExactWritheOfWrongFalsely : Prop := fnExactWritheOfRow.holds Try.pinned (OpenSpec.ofChange fnExactWritheOfWrong)

/-- 'laws.FnExactDirectionsAt': WHATEVER THE INPUT: true; the input reads as it did. -/
def fnExactDirectionsAtSpec : ChangeSpec := { name := "fnExactDirectionsAt", fn := fun _ => fun
  | [d1, d2] => { results := [.lit (.bool true)], args := [d1, d2] }
  | _ => none }
def fnExactDirectionsAtRow : OpenClaim := { program := "ytbeicgkgbhhgpaa", sum := "55a3039d48b6fc0b480df21614780a9b7557b91815470c758358755d3c140381", func := "loop.example/g00931/laws.FnExactDirectionsAt", spec := "fnExactDirectionsAt", apart := false }
def FnExactDirectionsAtSaid : Prop := fnExactDirectionsAtRow.holds Try.pinned (OpenSpec.ofChange fnExactDirectionsAtSpec)

/-- ITS FALSE NEIGHBOUR: 'it returns false'. Refute it at one input. -/
def fnExactDirectionsAtWrong : ChangeSpec := { name := "fnExactDirectionsAt", fn := fun _ => fun
  | [d1, d2] => { results := [.lit (.bool false)], args := [d1, d2] }
  | _ => none }
def FnExactDirectionsAtWrongFalsely : Prop := fnExactDirectionsAtRow.holds Try.pinned (OpenSpec.ofChange fnExactDirectionsAtWrong)

/-- 'laws.FnExactSignsOf': WHATEVER THE INPUT: true; the input reads as it did. -/
def fnExactSignsOfSpec : ChangeSpec := { name := "fnExactSignsOf", fn := fun _ => fun
  | [d] => { results := [.lit (.bool true)], args := [d] }
  | _ => none }
def fnExactSignsOfRow : OpenClaim := { program := "ytbeicgkgbhhgpaa", sum := "55a3039d48b6fc0b480df21614780a9b7557b91815470c758358755d3c140381", func := "loop.example/g00931/laws.FnExactSignsOf", spec := "fnExactSignsOf", apart := false }
def FnExactSignsOfSaid : Prop := fnExactSignsOfRow.holds Try.pinned (OpenSpec.ofChange fnExactSignsOfSpec)

/-- ITS FALSE NEIGHBOUR: 'it returns false'. Refute it at one input. -/
def fnExactSignsOfWrong : ChangeSpec := { name := "fnExactSignsOf", fn := fun _ => fun
  | [d] => { results := [.lit (.bool false)], args := [d] }
  | _ => none }
def FnExactSignsOfWrongFalsely : Prop := fnExactSignsOfRow.holds Try.pinned (OpenSpec.ofChange fnExactSignsOfWrong)

/-- 'laws.FnExactSignOf': WHATEVER THE INPUT: true; the input reads as it did. -/
def fnExactSignOfSpec : ChangeSpec := { name := "fnExactSignOf", fn := fun _ => fun
  | [d1, d2] => { results := [.lit (.bool true)], args := [d1, d2] }
  | _ => none }
def fnExactSignOfRow : OpenClaim := { program := "ytbeicgkgbhhgpaa", sum := "55a3039d48b6fc0b480df21614780a9b7557b91815470c758358755d3c140381", func := "loop.example/g00931/laws.FnExactSignOf", spec := "fnExactSignOf", apart := false }
def FnExactSignOfSaid : Prop := fnExactSignOfRow.holds Try.pinned (OpenSpec.ofChange fnExactSignOfSpec)

/-- ITS FALSE NEIGHBOUR: 'it returns false'. Refute it at one input. -/
def fnExactSignOfWrong : ChangeSpec := { name := "fnExactSignOf", fn := fun _ => fun
  | [d1, d2] => { results := [.lit (.bool false)], args := [d1, d2] }
  | _ => none }
def FnExactSignOfWrongFalsely : Prop := fnExactSignOfRow.holds Try.pinned (OpenSpec.ofChange fnExactSignOfWrong)

/-- 'laws.FnExactOwnWrithe': WHATEVER THE INPUT: true; the input reads as it did. -/
def fnExactOwnWritheSpec : ChangeSpec := { name := "fnExactOwnWrithe", fn := fun _ => fun
  | [d1, d2] => { results := [.lit (.bool true)], args := [d1, d2] }
  | _ => none }
def fnExactOwnWritheRow : OpenClaim := { program := "ytbeicgkgbhhgpaa", sum := "55a3039d48b6fc0b480df21614780a9b7557b91815470c758358755d3c140381", func := "loop.example/g00931/laws.FnExactOwnWrithe", spec := "fnExactOwnWrithe", apart := false }
def FnExactOwnWritheSaid : Prop := fnExactOwnWritheRow.holds Try.pinned (OpenSpec.ofChange fnExactOwnWritheSpec)

/-- ITS FALSE NEIGHBOUR: 'it returns false'. Refute it at one input. -/
def fnExactOwnWritheWrong : ChangeSpec := { name := "fnExactOwnWrithe", fn := fun _ => fun
  | [d1, d2] => { results := [.lit (.bool false)], args := [d1, d2] }
  | _ => none }
def FnExactOwnWritheWrongFalsely : Prop := fnExactOwnWritheRow.holds Try.pinned (OpenSpec.ofChange fnExactOwnWritheWrong)

/-- 'laws.FnExactTotalLinking': WHATEVER THE INPUT: true; the input reads as it did. -/
def fnExactTotalLinkingSpec : ChangeSpec := { name := "fnExactTotalLinking", fn := fun _ => fun
  | [d] => { results := [.lit (.bool true)], args := [d] }
  | _ => none }
def fnExactTotalLinkingRow : OpenClaim := { program := "ytbeicgkgbhhgpaa", sum := "55a3039d48b6fc0b480df21614780a9b7557b91815470c758358755d3c140381", func := "loop.example/g00931/laws.FnExactTotalLinking", spec := "fnExactTotalLinking", apart := false }
def FnExactTotalLinkingSaid : Prop := fnExactTotalLinkingRow.holds Try.pinned (OpenSpec.ofChange fnExactTotalLinkingSpec)

/-- ITS FALSE NEIGHBOUR: 'it returns false'. Refute it at one input. -/
def fnExactTotalLinkingWrong : ChangeSpec := { name := "fnExactTotalLinking", fn := fun _ => fun
  | [d] => { results := [.lit (.bool false)], args := [d] }
  | _ => none }
def FnExactTotalLinkingWrongFalsely : Prop := fnExactTotalLinkingRow.holds Try.pinned (OpenSpec.ofChange fnExactTotalLinkingWrong)

/-- 'laws.FnExactLinkingNumber': WHATEVER THE INPUT: true; the input reads as it did. -/
def fnExactLinkingNumberSpec : ChangeSpec := { name := "fnExactLinkingNumber", fn := fun _ => fun
  | [d1, d2, d3] => { results := [.lit (.bool true)], args := [d1, d2, d3] }
  | _ => none }
def fnExactLinkingNumberRow : OpenClaim := { program := "ytbeicgkgbhhgpaa", sum := "55a3039d48b6fc0b480df21614780a9b7557b91815470c758358755d3c140381", func := "loop.example/g00931/laws.FnExactLinkingNumber", spec := "fnExactLinkingNumber", apart := false }
def FnExactLinkingNumberSaid : Prop := fnExactLinkingNumberRow.holds Try.pinned (OpenSpec.ofChange fnExactLinkingNumberSpec)

/-- ITS FALSE NEIGHBOUR: 'it returns false'. Refute it at one input. -/
def fnExactLinkingNumberWrong : ChangeSpec := { name := "fnExactLinkingNumber", fn := fun _ => fun
  | [d1, d2, d3] => { results := [.lit (.bool false)], args := [d1, d2, d3] }
  | _ => none }
def FnExactLinkingNumberWrongFalsely : Prop := fnExactLinkingNumberRow.holds Try.pinned (OpenSpec.ofChange fnExactLinkingNumberWrong)

/-- 'laws.FnExactLinkingTable': WHATEVER THE INPUT: true; the input reads as it did. -/
def fnExactLinkingTableSpec : ChangeSpec := { name := "fnExactLinkingTable", fn := fun _ => fun
  | [d] => { results := [.lit (.bool true)], args := [d] }
  | _ => none }
def fnExactLinkingTableRow : OpenClaim := { program := "ytbeicgkgbhhgpaa", sum := "55a3039d48b6fc0b480df21614780a9b7557b91815470c758358755d3c140381", func := "loop.example/g00931/laws.FnExactLinkingTable", spec := "fnExactLinkingTable", apart := false }
def FnExactLinkingTableSaid : Prop := fnExactLinkingTableRow.holds Try.pinned (OpenSpec.ofChange fnExactLinkingTableSpec)

/-- ITS FALSE NEIGHBOUR: 'it returns false'. Refute it at one input. -/
def fnExactLinkingTableWrong : ChangeSpec := { name := "fnExactLinkingTable", fn := fun _ => fun
  | [d] => { results := [.lit (.bool false)], args := [d] }
  | _ => none }
def FnExactLinkingTableWrongFalsely : Prop := fnExactLinkingTableRow.holds Try.pinned (OpenSpec.ofChange fnExactLinkingTableWrong)

/-- 'laws.FnSigns': WHATEVER THE INPUT: true; the input reads as it did. -/
def fnSignsSpec : ChangeSpec := { name := "fnSigns", fn := fun _ => fun
  | [d] => { results := [.lit (.bool true)], args := [d] }
  | _ => none }
def fnSignsRow : OpenClaim := { program := "ytbeicgkgbhhgpaa", sum := "55a3039d48b6fc0b480df21614780a9b7557b91815470c758358755d3c140381", func := "loop.example/g00931/laws.FnSigns", spec := "fnSigns", apart := false }
def FnSignsSaid : Prop := fnSignsRow.holds Try.pinned (OpenSpec.ofChange fnSignsSpec)

/-- ITS FALSE NEIGHBOUR: 'it returns false'. Refute it at one input. -/
def fnSignsWrong : ChangeSpec := { name := "fnSigns", fn := fun _ => fun
  | [d] => { results := [.lit (.bool false)], args := [d] }
  | _ => none }
def FnSignsWrongFalsely : Prop := fnSignsRow.holds Try.pinned (OpenSpec.ofChange fnSignsWrong)

/-- 'laws.FnDirections': WHATEVER THE INPUT: true; the input reads as it did. -/
def fnDirectionsSpec : ChangeSpec := { name := "fnDirections", fn := fun _ => fun
  | [d1, d2] => { results := [.lit (.bool true)], args := [d1, d2] }
  | _ => none }
def fnDirectionsRow : OpenClaim := { program := "ytbeicgkgbhhgpaa", sum := "55a3039d48b6fc0b480df21614780a9b7557b91815470c758358755d3c140381", func := "loop.example/g00931/laws.FnDirections", spec := "fnDirections", apart := false }
def FnDirectionsSaid : Prop := fnDirectionsRow.holds Try.pinned (OpenSpec.ofChange fnDirectionsSpec)

/-- ITS FALSE NEIGHBOUR: 'it returns false'. Refute it at one input. -/
def fnDirectionsWrong : ChangeSpec := { name := "fnDirections", fn := fun _ => fun
  | [d1, d2] => { results := [.lit (.bool false)], args := [d1, d2] }
  | _ => none }
def FnDirectionsWrongFalsely : Prop := fnDirectionsRow.holds Try.pinned (OpenSpec.ofChange fnDirectionsWrong)

/- THE SECOND FORM. 'bulk': how many values and letters a reading holds, each counted each time it is reached (what is shared counts as often as it is met; a slice's spare places count too). A statement '..UptoSaid' is the law's where the arguments, and the package variables that the reading takes, are together of bulk at most 1048576: NARROWER than '..Said'. Prove '..Said' where nothing that the law and all that it calls make is longer than what came in: it says more and counts as full. Else prove '..UptoSaid'. A law counts once. -/
mutual
def uptoBulk {H : Type} : DataW H → Nat
  | .lit (.string bytes) => bytes.length + 1
  | .lit _ => 1
  | .nil => 1
  | .ptr d => uptoBulk d + 1
  | .slice elems spare => uptoBulkAll elems + uptoBulkAll spare + 1
  | .agg parts => uptoBulkAll parts + 1
  | .iface _ d => uptoBulk d + 1
  | .map entries => uptoBulkEntries entries + 1
  | .held _ => 1
def uptoBulkAll {H : Type} : List (DataW H) → Nat
  | [] => 0
  | d :: r => uptoBulk d + uptoBulkAll r
def uptoBulkEntries {H : Type} : List (Lit × DataW H) → Nat
  | [] => 0
  | x :: r => uptoBulkEntry x + uptoBulkEntries r
def uptoBulkEntry {H : Type} : Lit × DataW H → Nat
  | (.string bytes, d) => bytes.length + uptoBulk d + 1
  | (_, d) => uptoBulk d + 1
 end
def uptoSmall : (H : Type) → List (DataW H) → Bool := fun _ ds => decide (uptoBulkAll ds ≤ 1048576)
def OpenSpec.upto (s : _root_.Go.ChangeSpec) : _root_.Go.OpenSpec := { _root_.Go.OpenSpec.ofChange s with cond := some uptoSmall }

/-- 'laws.FnExactWritheOf', WHERE WHAT IT READS IS OF BULK AT MOST 1048576: true; the input reads as it did. -/
def fnExactWritheOfUptoRow : OpenClaim := { program := "ytbeicgkgbhhgpaa", sum := "55a3039d48b6fc0b480df21614780a9b7557b91815470c758358755d3c140381", func := "loop.example/g00931/laws.FnExactWritheOf", spec := "fnExactWritheOf", apart := false, narrowed := true }
def FnExactWritheOfUptoSaid : Prop := fnExactWritheOfUptoRow.holds Try.pinned (OpenSpec.upto fnExactWritheOfSpec)

/-- 'laws.FnExactDirectionsAt', WHERE WHAT IT READS IS OF BULK AT MOST 1048576: true; the input reads as it did. -/
def fnExactDirectionsAtUptoRow : OpenClaim := { program := "ytbeicgkgbhhgpaa", sum := "55a3039d48b6fc0b480df21614780a9b7557b91815470c758358755d3c140381", func := "loop.example/g00931/laws.FnExactDirectionsAt", spec := "fnExactDirectionsAt", apart := false, narrowed := true }
def FnExactDirectionsAtUptoSaid : Prop := fnExactDirectionsAtUptoRow.holds Try.pinned (OpenSpec.upto fnExactDirectionsAtSpec)

/-- 'laws.FnExactSignsOf', WHERE WHAT IT READS IS OF BULK AT MOST 1048576: true; the input reads as it did. -/
def fnExactSignsOfUptoRow : OpenClaim := { program := "ytbeicgkgbhhgpaa", sum := "55a3039d48b6fc0b480df21614780a9b7557b91815470c758358755d3c140381", func := "loop.example/g00931/laws.FnExactSignsOf", spec := "fnExactSignsOf", apart := false, narrowed := true }
def FnExactSignsOfUptoSaid : Prop := fnExactSignsOfUptoRow.holds Try.pinned (OpenSpec.upto fnExactSignsOfSpec)

/-- 'laws.FnExactSignOf', WHERE WHAT IT READS IS OF BULK AT MOST 1048576: true; the input reads as it did. -/
def fnExactSignOfUptoRow : OpenClaim := { program := "ytbeicgkgbhhgpaa", sum := "55a3039d48b6fc0b480df21614780a9b7557b91815470c758358755d3c140381", func := "loop.example/g00931/laws.FnExactSignOf", spec := "fnExactSignOf", apart := false, narrowed := true }
def FnExactSignOfUptoSaid : Prop := fnExactSignOfUptoRow.holds Try.pinned (OpenSpec.upto fnExactSignOfSpec)

/-- 'laws.FnExactOwnWrithe', WHERE WHAT IT READS IS OF BULK AT MOST 1048576: true; the input reads as it did. -/
def fnExactOwnWritheUptoRow : OpenClaim := { program := "ytbeicgkgbhhgpaa", sum := "55a3039d48b6fc0b480df21614780a9b7557b91815470c758358755d3c140381", func := "loop.example/g00931/laws.FnExactOwnWrithe", spec := "fnExactOwnWrithe", apart := false, narrowed := true }
def FnExactOwnWritheUptoSaid : Prop := fnExactOwnWritheUptoRow.holds Try.pinned (OpenSpec.upto fnExactOwnWritheSpec)

/-- 'laws.FnExactTotalLinking', WHERE WHAT IT READS IS OF BULK AT MOST 1048576: true; the input reads as it did. -/
def fnExactTotalLinkingUptoRow : OpenClaim := { program := "ytbeicgkgbhhgpaa", sum := "55a3039d48b6fc0b480df21614780a9b7557b91815470c758358755d3c140381", func := "loop.example/g00931/laws.FnExactTotalLinking", spec := "fnExactTotalLinking", apart := false, narrowed := true }
def FnExactTotalLinkingUptoSaid : Prop := fnExactTotalLinkingUptoRow.holds Try.pinned (OpenSpec.upto fnExactTotalLinkingSpec)

/-- 'laws.FnExactLinkingNumber', WHERE WHAT IT READS IS OF BULK AT MOST 1048576: true; the input reads as it did. -/
def fnExactLinkingNumberUptoRow : OpenClaim := { program := "ytbeicgkgbhhgpaa", sum := "55a3039d48b6fc0b480df21614780a9b7557b91815470c758358755d3c140381", func := "loop.example/g00931/laws.FnExactLinkingNumber", spec := "fnExactLinkingNumber", apart := false, narrowed := true }
def FnExactLinkingNumberUptoSaid : Prop := fnExactLinkingNumberUptoRow.holds Try.pinned (OpenSpec.upto fnExactLinkingNumberSpec)

/-- 'laws.FnExactLinkingTable', WHERE WHAT IT READS IS OF BULK AT MOST 1048576: true; the input reads as it did. -/
def fnExactLinkingTableUptoRow : OpenClaim := { program := "ytbeicgkgbhhgpaa", sum := "55a3039d48b6fc0b480df21614780a9b7557b91815470c758358755d3c140381", func := "loop.example/g00931/laws.FnExactLinkingTable", spec := "fnExactLinkingTable", apart := false, narrowed := true }
def FnExactLinkingTableUptoSaid : Prop := fnExactLinkingTableUptoRow.holds Try.pinned (OpenSpec.upto fnExactLinkingTableSpec)

/-- 'laws.FnSigns', WHERE WHAT IT READS IS OF BULK AT MOST 1048576: true; the input reads as it did. -/
def fnSignsUptoRow : OpenClaim := { program := "ytbeicgkgbhhgpaa", sum := "55a3039d48b6fc0b480df21614780a9b7557b91815470c758358755d3c140381", func := "loop.example/g00931/laws.FnSigns", spec := "fnSigns", apart := false, narrowed := true }
def FnSignsUptoSaid : Prop := fnSignsUptoRow.holds Try.pinned (OpenSpec.upto fnSignsSpec)

/-- 'laws.FnDirections', WHERE WHAT IT READS IS OF BULK AT MOST 1048576: true; the input reads as it did. -/
def fnDirectionsUptoRow : OpenClaim := { program := "ytbeicgkgbhhgpaa", sum := "55a3039d48b6fc0b480df21614780a9b7557b91815470c758358755d3c140381", func := "loop.example/g00931/laws.FnDirections", spec := "fnDirections", apart := false, narrowed := true }
def FnDirectionsUptoSaid : Prop := fnDirectionsUptoRow.holds Try.pinned (OpenSpec.upto fnDirectionsSpec)

end Rows
end Go.Proofs.Ytbeicgkgbhhgpaa
