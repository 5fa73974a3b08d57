/-
  No cell of these rows narrows 'for every input' (looked for: loops, veiled, ifaces, maps, wideKeys, modest, calm, conditions, laid).
  DERIVED. THE GIVEN ROWS OF THIS SEAT. 3 by the template 'for every input the law returns true; each argument reads behind the call as it read before'; 0 by the template 'total and deterministic' (their statements: YthackbfgkomkjaaGreatTotals.lean).
  GIVEN WITH THE SEED: the statements are not yours to turn. If you find one false, say at which input.
  Laid BY PROGRAM, IN A SANDBOX (cutbox-rows.mjs): the forced cells as the released guide's own fill.sh prints them over the translation 79ef9c5ef6f1c4bf… (all of the seat's roots in one cut). By AI agents, Wed Nov 11 2026. No macro, syntax, notation, axiom, sorry.
-/
import Derived.Test.YthackbfgkomkjaaGreatChecked
import GoSem.Claim
import GoSem.ClaimJoined
import GoSem.ClaimMapViews
import Derived.JoinedTies
import Derived.KernelRfl
namespace Go.Proofs.YthackbfgkomkjaaGreat
/- THE CELL 'sum', in the pinned program and in every row, IS THE sha256 OF THE DUMP (.gsa) THAT YthackbfgkomkjaaGreatProg.lean LOADS. Nothing in Lean hashes anything: it is a label: what it is worth is what the hold of that sum in a sandbox is worth. -/
noncomputable def Tryz.pinned : Pinned := { name := "ythackbfgkomkjaagreat", sum := "79ef9c5ef6f1c4bf82d928d64574a6440d15f45e2ffff1c01339239b023f6063", checked := Tryz.checked }
namespace Rows
def none {H : Type} : Left H := { results := [], args := [] }

/-- 'laws.FnExactGoTo': WHATEVER THE INPUT: true; the input reads as it did. -/
def fnExactGoToSpec : ChangeSpec := { name := "fnExactGoTo", fn := fun _ => fun
  | [d1, d2] => { results := [.lit (.bool true)], args := [d1, d2] }
  | _ => none }
def fnExactGoToRow : OpenClaim := { program := "ythackbfgkomkjaagreat", sum := "79ef9c5ef6f1c4bf82d928d64574a6440d15f45e2ffff1c01339239b023f6063", func := "loop.example/g01074/laws.FnExactGoTo", spec := "fnExactGoTo", unfollowed := true, recurses := true, apart := false }
def FnExactGoToSaid : Prop := fnExactGoToRow.holds Tryz.pinned (OpenSpec.ofChange fnExactGoToSpec)

/-- ITS FALSE NEIGHBOUR: 'it returns false'. Refute it at one input. -/
def fnExactGoToWrong : ChangeSpec := { name := "fnExactGoTo", fn := fun _ => fun
  | [d1, d2] => { results := [.lit (.bool false)], args := [d1, d2] }
  | _ => none }
def FnExactGoToWrongFalsely : Prop := fnExactGoToRow.holds Tryz.pinned (OpenSpec.ofChange fnExactGoToWrong)

/-- 'laws.FnExactStepBack': WHATEVER THE INPUT: true; the input reads as it did. -/
def fnExactStepBackSpec : ChangeSpec := { name := "fnExactStepBack", fn := fun _ => fun
  | [d1, d2] => { results := [.lit (.bool true)], args := [d1, d2] }
  | _ => none }
def fnExactStepBackRow : OpenClaim := { program := "ythackbfgkomkjaagreat", sum := "79ef9c5ef6f1c4bf82d928d64574a6440d15f45e2ffff1c01339239b023f6063", func := "loop.example/g01074/laws.FnExactStepBack", spec := "fnExactStepBack", unfollowed := true, recurses := true, apart := false }
def FnExactStepBackSaid : Prop := fnExactStepBackRow.holds Tryz.pinned (OpenSpec.ofChange fnExactStepBackSpec)

/-- ITS FALSE NEIGHBOUR: 'it returns false'. Refute it at one input. -/
def fnExactStepBackWrong : ChangeSpec := { name := "fnExactStepBack", fn := fun _ => fun
  | [d1, d2] => { results := [.lit (.bool false)], args := [d1, d2] }
  | _ => none }
def FnExactStepBackWrongFalsely : Prop := fnExactStepBackRow.holds Tryz.pinned (OpenSpec.ofChange fnExactStepBackWrong)

/-- 'laws.FnExactStepForward': WHATEVER THE INPUT: true; the input reads as it did. -/
def fnExactStepForwardSpec : ChangeSpec := { name := "fnExactStepForward", fn := fun _ => fun
  | [d1, d2] => { results := [.lit (.bool true)], args := [d1, d2] }
  | _ => none }
def fnExactStepForwardRow : OpenClaim := { program := "ythackbfgkomkjaagreat", sum := "79ef9c5ef6f1c4bf82d928d64574a6440d15f45e2ffff1c01339239b023f6063", func := "loop.example/g01074/laws.FnExactStepForward", spec := "fnExactStepForward", unfollowed := true, recurses := true, apart := false }
def FnExactStepForwardSaid : Prop := fnExactStepForwardRow.holds Tryz.pinned (OpenSpec.ofChange fnExactStepForwardSpec)

/-- ITS FALSE NEIGHBOUR: 'it returns false'. Refute it at one input. -/
def fnExactStepForwardWrong : ChangeSpec := { name := "fnExactStepForward", fn := fun _ => fun
  | [d1, d2] => { results := [.lit (.bool false)], args := [d1, d2] }
  | _ => none }
def FnExactStepForwardWrongFalsely : Prop := fnExactStepForwardRow.holds Tryz.pinned (OpenSpec.ofChange fnExactStepForwardWrong)

/- THE SECOND FORM. 'bulk': how many values and letters a reading holds, each counted each time it is reached (what is shared counts as often as it is met; a slice's spare places count too). A statement '..UptoSaid' is the law's where the arguments, and the package variables that the reading takes, are together of bulk at most 1048576: NARROWER than '..Said'. Prove '..Said' where nothing that the law and all that it calls make is longer than what came in: it says more and counts as full. Else prove '..UptoSaid'. A law counts once. -/
mutual
def uptoBulk {H : Type} : DataW H → Nat
  | .lit (.string bytes) => bytes.length + 1
  | .lit _ => 1
  | .nil => 1
  | .ptr d => uptoBulk d + 1
  | .slice elems spare => uptoBulkAll elems + uptoBulkAll spare + 1
  | .agg parts => uptoBulkAll parts + 1
  | .iface _ d => uptoBulk d + 1
  | .map entries => uptoBulkEntries entries + 1
  | .held _ => 1
def uptoBulkAll {H : Type} : List (DataW H) → Nat
  | [] => 0
  | d :: r => uptoBulk d + uptoBulkAll r
def uptoBulkEntries {H : Type} : List (Lit × DataW H) → Nat
  | [] => 0
  | x :: r => uptoBulkEntry x + uptoBulkEntries r
def uptoBulkEntry {H : Type} : Lit × DataW H → Nat
  | (.string bytes, d) => bytes.length + uptoBulk d + 1
  | (_, d) => uptoBulk d + 1
 end
def uptoSmall : (H : Type) → List (DataW H) → Bool := fun _ ds => decide (uptoBulkAll ds ≤ 1048576)
def OpenSpec.upto (s : _root_.Go.ChangeSpec) : _root_.Go.OpenSpec := { _root_.Go.OpenSpec.ofChange s with cond := some uptoSmall }

/-- 'laws.FnExactGoTo', WHERE WHAT IT READS IS OF BULK AT MOST 1048576: true; the input reads as it did. -/
def fnExactGoToUptoRow : OpenClaim := { program := "ythackbfgkomkjaagreat", sum := "79ef9c5ef6f1c4bf82d928d64574a6440d15f45e2ffff1c01339239b023f6063", func := "loop.example/g01074/laws.FnExactGoTo", spec := "fnExactGoTo", unfollowed := true, recurses := true, apart := false, narrowed := true }
def FnExactGoToUptoSaid : Prop := fnExactGoToUptoRow.holds Tryz.pinned (OpenSpec.upto fnExactGoToSpec)

/-- 'laws.FnExactStepBack', WHERE WHAT IT READS IS OF BULK AT MOST 1048576: true; the input reads as it did. -/
def fnExactStepBackUptoRow : OpenClaim := { program := "ythackbfgkomkjaagreat", sum := "79ef9c5ef6f1c4bf82d928d64574a6440d15f45e2ffff1c01339239b023f6063", func := "loop.example/g01074/laws.FnExactStepBack", spec := "fnExactStepBack", unfollowed := true, recurses := true, apart := false, narrowed := true }
def FnExactStepBackUptoSaid : Prop := fnExactStepBackUptoRow.holds Tryz.pinned (OpenSpec.upto fnExactStepBackSpec)

/-- 'laws.FnExactStepForward', WHERE WHAT IT READS IS OF BULK AT MOST 1048576: true; the input reads as it did. -/
def fnExactStepForwardUptoRow : OpenClaim := { program := "ythackbfgkomkjaagreat", sum := "79ef9c5ef6f1c4bf82d928d64574a6440d15f45e2ffff1c01339239b023f6063", func := "loop.example/g01074/laws.FnExactStepForward", spec := "fnExactStepForward", unfollowed := true, recurses := true, apart := false, narrowed := true }
def FnExactStepForwardUptoSaid : Prop := fnExactStepForwardUptoRow.holds Tryz.pinned (OpenSpec.upto fnExactStepForwardSpec)

end Rows
end Go.Proofs.YthackbfgkomkjaaGreat
