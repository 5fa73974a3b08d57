/-
  NARROWER THAN 'FOR EVERY INPUT', by the rows' own cells (each row's printed sentence says how): FnExactNeedValue: loops · FnExactStepNeed: loops · FnExactRunNeed: loops.
  DERIVED. THE GIVEN ROWS OF THIS SEAT. 3 by the template 'for every input the law returns true; each argument reads behind the call as it read before'; 0 by the template 'total and deterministic' (their statements: YtoajhcbnlebbeaaGreatTotals.lean).
  GIVEN WITH THE SEED: the statements are not yours to turn. If you find one false, say at which input.
  Laid BY PROGRAM, IN A SANDBOX (cutbox-rows.mjs): the forced cells as the released guide's own fill.sh prints them over the translation 93972675e15417e4… (all of the seat's roots in one cut). By AI agents, Wed Nov 11 2026. No macro, syntax, notation, axiom, sorry.
-/
import Derived.Test.YtoajhcbnlebbeaaGreatChecked
import GoSem.Claim
import GoSem.ClaimJoined
import GoSem.ClaimMapViews
import Derived.JoinedTies
import Derived.KernelRfl
namespace Go.Proofs.YtoajhcbnlebbeaaGreat
/- THE CELL 'sum', in the pinned program and in every row, IS THE sha256 OF THE DUMP (.gsa) THAT YtoajhcbnlebbeaaGreatProg.lean LOADS. Nothing in Lean hashes anything: it is a label: what it is worth is what the hold of that sum in a sandbox is worth. -/
noncomputable def Tryz.pinned : Pinned := { name := "ytoajhcbnlebbeaagreat", sum := "93972675e15417e423cdf7e8754323beb43ee725acfec76821c658413f021c99", checked := Tryz.checked }
namespace Rows
def none {H : Type} : Left H := { results := [], args := [] }

/-- 'laws.FnExactNeedValue': WHATEVER THE INPUT: true; the input reads as it did. -/
def fnExactNeedValueSpec : ChangeSpec := { name := "fnExactNeedValue", fn := fun _ => fun
  | [d1, d2, d3] => { results := [.lit (.bool true)], args := [d1, d2, d3] }
  | _ => none }
def fnExactNeedValueRow : OpenClaim := { program := "ytoajhcbnlebbeaagreat", sum := "93972675e15417e423cdf7e8754323beb43ee725acfec76821c658413f021c99", func := "loop.example/g01074/laws.FnExactNeedValue", spec := "fnExactNeedValue", unfollowed := true, recurses := true, loops := true, apart := false }
def FnExactNeedValueSaid : Prop := fnExactNeedValueRow.holds Tryz.pinned (OpenSpec.ofChange fnExactNeedValueSpec)

/-- ITS FALSE NEIGHBOUR: 'it returns false'. Refute it at one input. -/
def fnExactNeedValueWrong : ChangeSpec := { name := "fnExactNeedValue", fn := fun _ => fun
  | [d1, d2, d3] => { results := [.lit (.bool false)], args := [d1, d2, d3] }
  | _ => none }
def FnExactNeedValueWrongFalsely : Prop := fnExactNeedValueRow.holds Tryz.pinned (OpenSpec.ofChange fnExactNeedValueWrong)

/-- 'laws.FnExactStepNeed': WHATEVER THE INPUT: true; the input reads as it did. -/
def fnExactStepNeedSpec : ChangeSpec := { name := "fnExactStepNeed", fn := fun _ => fun
  | [d1, d2] => { results := [.lit (.bool true)], args := [d1, d2] }
  | _ => none }
def fnExactStepNeedRow : OpenClaim := { program := "ytoajhcbnlebbeaagreat", sum := "93972675e15417e423cdf7e8754323beb43ee725acfec76821c658413f021c99", func := "loop.example/g01074/laws.FnExactStepNeed", spec := "fnExactStepNeed", unfollowed := true, recurses := true, loops := true, apart := false }
def FnExactStepNeedSaid : Prop := fnExactStepNeedRow.holds Tryz.pinned (OpenSpec.ofChange fnExactStepNeedSpec)

/-- ITS FALSE NEIGHBOUR: 'it returns false'. Refute it at one input. -/
def fnExactStepNeedWrong : ChangeSpec := { name := "fnExactStepNeed", fn := fun _ => fun
  | [d1, d2] => { results := [.lit (.bool false)], args := [d1, d2] }
  | _ => none }
def FnExactStepNeedWrongFalsely : Prop := fnExactStepNeedRow.holds Tryz.pinned (OpenSpec.ofChange fnExactStepNeedWrong)

/-- 'laws.FnExactRunNeed': WHATEVER THE INPUT: true; the input reads as it did. -/
def fnExactRunNeedSpec : ChangeSpec := { name := "fnExactRunNeed", fn := fun _ => fun
  | [d1, d2, d3] => { results := [.lit (.bool true)], args := [d1, d2, d3] }
  | _ => none }
def fnExactRunNeedRow : OpenClaim := { program := "ytoajhcbnlebbeaagreat", sum := "93972675e15417e423cdf7e8754323beb43ee725acfec76821c658413f021c99", func := "loop.example/g01074/laws.FnExactRunNeed", spec := "fnExactRunNeed", unfollowed := true, recurses := true, loops := true, apart := false }
def FnExactRunNeedSaid : Prop := fnExactRunNeedRow.holds Tryz.pinned (OpenSpec.ofChange fnExactRunNeedSpec)

/-- ITS FALSE NEIGHBOUR: 'it returns false'. Refute it at one input. -/
def fnExactRunNeedWrong : ChangeSpec := { name := "fnExactRunNeed", fn := fun _ => fun
  | [d1, d2, d3] => { results := [.lit (.bool false)], args := [d1, d2, d3] }
  | _ => none }
def FnExactRunNeedWrongFalsely : Prop := fnExactRunNeedRow.holds Tryz.pinned (OpenSpec.ofChange fnExactRunNeedWrong)

/- THE SECOND FORM. 'bulk': how many values and letters a reading holds, each counted each time it is reached (what is shared counts as often as it is met; a slice's spare places count too). A statement '..UptoSaid' is the law's where the arguments, and the package variables that the reading takes, are together of bulk at most 1048576: NARROWER than '..Said'. Prove '..Said' where nothing that the law and all that it calls make is longer than what came in: it says more and counts as full. Else prove '..UptoSaid'. A law counts once. -/
mutual
def uptoBulk {H : Type} : DataW H → Nat
  | .lit (.string bytes) => bytes.length + 1
  | .lit _ => 1
  | .nil => 1
  | .ptr d => uptoBulk d + 1
  | .slice elems spare => uptoBulkAll elems + uptoBulkAll spare + 1
  | .agg parts => uptoBulkAll parts + 1
  | .iface _ d => uptoBulk d + 1
  | .map entries => uptoBulkEntries entries + 1
  | .held _ => 1
def uptoBulkAll {H : Type} : List (DataW H) → Nat
  | [] => 0
  | d :: r => uptoBulk d + uptoBulkAll r
def uptoBulkEntries {H : Type} : List (Lit × DataW H) → Nat
  | [] => 0
  | x :: r => uptoBulkEntry x + uptoBulkEntries r
def uptoBulkEntry {H : Type} : Lit × DataW H → Nat
  | (.string bytes, d) => bytes.length + uptoBulk d + 1
  | (_, d) => uptoBulk d + 1
 end
def uptoSmall : (H : Type) → List (DataW H) → Bool := fun _ ds => decide (uptoBulkAll ds ≤ 1048576)
def OpenSpec.upto (s : _root_.Go.ChangeSpec) : _root_.Go.OpenSpec := { _root_.Go.OpenSpec.ofChange s with cond := some uptoSmall }

/-- 'laws.FnExactNeedValue', WHERE WHAT IT READS IS OF BULK AT MOST 1048576: true; the input reads as it did. -/
def fnExactNeedValueUptoRow : OpenClaim := { program := "ytoajhcbnlebbeaagreat", sum := "93972675e15417e423cdf7e8754323beb43ee725acfec76821c658413f021c99", func := "loop.example/g01074/laws.FnExactNeedValue", spec := "fnExactNeedValue", unfollowed := true, recurses := true, loops := true, apart := false, narrowed := true }
def FnExactNeedValueUptoSaid : Prop := fnExactNeedValueUptoRow.holds Tryz.pinned (OpenSpec.upto fnExactNeedValueSpec)

/-- 'laws.FnExactStepNeed', WHERE WHAT IT READS IS OF BULK AT MOST 1048576: true; the input reads as it did. -/
def fnExactStepNeedUptoRow : OpenClaim := { program := "ytoajhcbnlebbeaagreat", sum := "93972675e15417e423cdf7e8754323beb43ee725acfec76821c658413f021c99", func := "loop.example/g01074/laws.FnExactStepNeed", spec := "fnExactStepNeed", unfollowed := true, recurses := true, loops := true, apart := false, narrowed := true }
def FnExactStepNeedUptoSaid : Prop := fnExactStepNeedUptoRow.holds Tryz.pinned (OpenSpec.upto fnExactStepNeedSpec)

/-- 'laws.FnExactRunNeed', WHERE WHAT IT READS IS OF BULK AT MOST 1048576: true; the input reads as it did. -/
def fnExactRunNeedUptoRow : OpenClaim := { program := "ytoajhcbnlebbeaagreat", sum := "93972675e15417e423cdf7e8754323beb43ee725acfec76821c658413f021c99", func := "loop.example/g01074/laws.FnExactRunNeed", spec := "fnExactRunNeed", unfollowed := true, recurses := true, loops := true, apart := false, narrowed := true }
def FnExactRunNeedUptoSaid : Prop := fnExactRunNeedUptoRow.holds Tryz.pinned (OpenSpec.upto fnExactRunNeedSpec)

end Rows
end Go.Proofs.YtoajhcbnlebbeaaGreat
