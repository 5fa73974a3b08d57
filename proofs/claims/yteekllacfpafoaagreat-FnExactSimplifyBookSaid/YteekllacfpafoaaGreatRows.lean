/-
  NARROWER THAN 'FOR EVERY INPUT', by the rows' own cells (each row's printed sentence says how): FnExactIsSimple: loops · FnExactSimplifyStep: loops · FnExactSimplifyBook: loops · FnExactSimplifyCore: loops.
  DERIVED. THE GIVEN ROWS OF THIS SEAT. 4 by the template 'for every input the law returns true; each argument reads behind the call as it read before'; 0 by the template 'total and deterministic' (their statements: YteekllacfpafoaaGreatTotals.lean).
  GIVEN WITH THE SEED: the statements are not yours to turn. If you find one false, say at which input.
  Laid BY PROGRAM, IN A SANDBOX (cutbox-rows.mjs): the forced cells as the released guide's own fill.sh prints them over the translation 915f8192d498a86d… (all of the seat's roots in one cut). By AI agents, Wed Nov 11 2026. No macro, syntax, notation, axiom, sorry.
-/
import Derived.Test.YteekllacfpafoaaGreatChecked
import GoSem.Claim
import GoSem.ClaimJoined
import GoSem.ClaimMapViews
import Derived.JoinedTies
import Derived.KernelRfl
namespace Go.Proofs.YteekllacfpafoaaGreat
/- THE CELL 'sum', in the pinned program and in every row, IS THE sha256 OF THE DUMP (.gsa) THAT YteekllacfpafoaaGreatProg.lean LOADS. Nothing in Lean hashes anything: it is a label: what it is worth is what the hold of that sum in a sandbox is worth. -/
noncomputable def Tryz.pinned : Pinned := { name := "yteekllacfpafoaagreat", sum := "915f8192d498a86de2f9ee28b0796f4d04f90a75f5610dbb22faeb26f7f1c213", checked := Tryz.checked }
namespace Rows
def none {H : Type} : Left H := { results := [], args := [] }

/-- 'laws.FnExactIsSimple': WHATEVER THE INPUT: true; the input reads as it did. -/
def fnExactIsSimpleSpec : ChangeSpec := { name := "fnExactIsSimple", fn := fun _ => fun
  | [d1, d2, d3] => { results := [.lit (.bool true)], args := [d1, d2, d3] }
  | _ => none }
def fnExactIsSimpleRow : OpenClaim := { program := "yteekllacfpafoaagreat", sum := "915f8192d498a86de2f9ee28b0796f4d04f90a75f5610dbb22faeb26f7f1c213", func := "loop.example/g01074/laws.FnExactIsSimple", spec := "fnExactIsSimple", unfollowed := true, recurses := true, loops := true, apart := false }
def FnExactIsSimpleSaid : Prop := fnExactIsSimpleRow.holds Tryz.pinned (OpenSpec.ofChange fnExactIsSimpleSpec)

/-- ITS FALSE NEIGHBOUR: 'it returns false'. Refute it at one input. -/
def fnExactIsSimpleWrong : ChangeSpec := { name := "fnExactIsSimple", fn := fun _ => fun
  | [d1, d2, d3] => { results := [.lit (.bool false)], args := [d1, d2, d3] }
  | _ => none }
def FnExactIsSimpleWrongFalsely : Prop := fnExactIsSimpleRow.holds Tryz.pinned (OpenSpec.ofChange fnExactIsSimpleWrong)

/-- 'laws.FnExactSimplifyStep': WHATEVER THE INPUT: true; the input reads as it did. -/
def fnExactSimplifyStepSpec : ChangeSpec := { name := "fnExactSimplifyStep", fn := fun _ => fun
  | [d1, d2, d3] => { results := [.lit (.bool true)], args := [d1, d2, d3] }
  | _ => none }
def fnExactSimplifyStepRow : OpenClaim := { program := "yteekllacfpafoaagreat", sum := "915f8192d498a86de2f9ee28b0796f4d04f90a75f5610dbb22faeb26f7f1c213", func := "loop.example/g01074/laws.FnExactSimplifyStep", spec := "fnExactSimplifyStep", unfollowed := true, recurses := true, loops := true, apart := false }
def FnExactSimplifyStepSaid : Prop := fnExactSimplifyStepRow.holds Tryz.pinned (OpenSpec.ofChange fnExactSimplifyStepSpec)

/-- ITS FALSE NEIGHBOUR: 'it returns false'. Refute it at one input. -/
def fnExactSimplifyStepWrong : ChangeSpec := { name := "fnExactSimplifyStep", fn := fun _ => fun
  | [d1, d2, d3] => { results := [.lit (.bool false)], args := [d1, d2, d3] }
  | _ => none }
def FnExactSimplifyStepWrongFalsely : Prop := fnExactSimplifyStepRow.holds Tryz.pinned (OpenSpec.ofChange fnExactSimplifyStepWrong)

/-- 'laws.FnExactSimplifyBook': WHATEVER THE INPUT: true; the input reads as it did. -/
def fnExactSimplifyBookSpec : ChangeSpec := { name := "fnExactSimplifyBook", fn := fun _ => fun
  | [d1, d2, d3] => { results := [.lit (.bool true)], args := [d1, d2, d3] }
  | _ => none }
def fnExactSimplifyBookRow : OpenClaim := { program := "yteekllacfpafoaagreat", sum := "915f8192d498a86de2f9ee28b0796f4d04f90a75f5610dbb22faeb26f7f1c213", func := "loop.example/g01074/laws.FnExactSimplifyBook", spec := "fnExactSimplifyBook", unfollowed := true, recurses := true, loops := true, apart := false }
def FnExactSimplifyBookSaid : Prop := fnExactSimplifyBookRow.holds Tryz.pinned (OpenSpec.ofChange fnExactSimplifyBookSpec)

/-- ITS FALSE NEIGHBOUR: 'it returns false'. Refute it at one input. -/
def fnExactSimplifyBookWrong : ChangeSpec := { name := "fnExactSimplifyBook", fn := fun _ => fun
  | [d1, d2, d3] => { results := [.lit (.bool false)], args := [d1, d2, d3] }
  | _ => none }
def FnExactSimplifyBookWrongFalsely : Prop := fnExactSimplifyBookRow.holds Tryz.pinned (OpenSpec.ofChange fnExactSimplifyBookWrong)

/-- 'laws.FnExactSimplifyCore': WHATEVER THE INPUT: true; the input reads as it did. -/
def fnExactSimplifyCoreSpec : ChangeSpec := { name := "fnExactSimplifyCore", fn := fun _ => fun
  | [d1, d2, d3, d4] => { results := [.lit (.bool true)], args := [d1, d2, d3, d4] }
  | _ => none }
def fnExactSimplifyCoreRow : OpenClaim := { program := "yteekllacfpafoaagreat", sum := "915f8192d498a86de2f9ee28b0796f4d04f90a75f5610dbb22faeb26f7f1c213", func := "loop.example/g01074/laws.FnExactSimplifyCore", spec := "fnExactSimplifyCore", unfollowed := true, recurses := true, loops := true, apart := false }
def FnExactSimplifyCoreSaid : Prop := fnExactSimplifyCoreRow.holds Tryz.pinned (OpenSpec.ofChange fnExactSimplifyCoreSpec)

/-- ITS FALSE NEIGHBOUR: 'it returns false'. Refute it at one input. -/
def fnExactSimplifyCoreWrong : ChangeSpec := { name := "fnExactSimplifyCore", fn := fun _ => fun
  | [d1, d2, d3, d4] => { results := [.lit (.bool false)], args := [d1, d2, d3, d4] }
  | _ => none }
def FnExactSimplifyCoreWrongFalsely : Prop := fnExactSimplifyCoreRow.holds Tryz.pinned (OpenSpec.ofChange fnExactSimplifyCoreWrong)

/- THE SECOND FORM. 'bulk': how many values and letters a reading holds, each counted each time it is reached (what is shared counts as often as it is met; a slice's spare places count too). A statement '..UptoSaid' is the law's where the arguments, and the package variables that the reading takes, are together of bulk at most 1048576: NARROWER than '..Said'. Prove '..Said' where nothing that the law and all that it calls make is longer than what came in: it says more and counts as full. Else prove '..UptoSaid'. A law counts once. -/
mutual
def uptoBulk {H : Type} : DataW H → Nat
  | .lit (.string bytes) => bytes.length + 1
  | .lit _ => 1
  | .nil => 1
  | .ptr d => uptoBulk d + 1
  | .slice elems spare => uptoBulkAll elems + uptoBulkAll spare + 1
  | .agg parts => uptoBulkAll parts + 1
  | .iface _ d => uptoBulk d + 1
  | .map entries => uptoBulkEntries entries + 1
  | .held _ => 1
def uptoBulkAll {H : Type} : List (DataW H) → Nat
  | [] => 0
  | d :: r => uptoBulk d + uptoBulkAll r
def uptoBulkEntries {H : Type} : List (Lit × DataW H) → Nat
  | [] => 0
  | x :: r => uptoBulkEntry x + uptoBulkEntries r
def uptoBulkEntry {H : Type} : Lit × DataW H → Nat
  | (.string bytes, d) => bytes.length + uptoBulk d + 1
  | (_, d) => uptoBulk d + 1
 end
def uptoSmall : (H : Type) → List (DataW H) → Bool := fun _ ds => decide (uptoBulkAll ds ≤ 1048576)
def OpenSpec.upto (s : _root_.Go.ChangeSpec) : _root_.Go.OpenSpec := { _root_.Go.OpenSpec.ofChange s with cond := some uptoSmall }

/-- 'laws.FnExactIsSimple', WHERE WHAT IT READS IS OF BULK AT MOST 1048576: true; the input reads as it did. -/
def fnExactIsSimpleUptoRow : OpenClaim := { program := "yteekllacfpafoaagreat", sum := "915f8192d498a86de2f9ee28b0796f4d04f90a75f5610dbb22faeb26f7f1c213", func := "loop.example/g01074/laws.FnExactIsSimple", spec := "fnExactIsSimple", unfollowed := true, recurses := true, loops := true, apart := false, narrowed := true }
def FnExactIsSimpleUptoSaid : Prop := fnExactIsSimpleUptoRow.holds Tryz.pinned (OpenSpec.upto fnExactIsSimpleSpec)

/-- 'laws.FnExactSimplifyStep', WHERE WHAT IT READS IS OF BULK AT MOST 1048576: true; the input reads as it did. -/
def fnExactSimplifyStepUptoRow : OpenClaim := { program := "yteekllacfpafoaagreat", sum := "915f8192d498a86de2f9ee28b0796f4d04f90a75f5610dbb22faeb26f7f1c213", func := "loop.example/g01074/laws.FnExactSimplifyStep", spec := "fnExactSimplifyStep", unfollowed := true, recurses := true, loops := true, apart := false, narrowed := true }
def FnExactSimplifyStepUptoSaid : Prop := fnExactSimplifyStepUptoRow.holds Tryz.pinned (OpenSpec.upto fnExactSimplifyStepSpec)

/-- 'laws.FnExactSimplifyBook', WHERE WHAT IT READS IS OF BULK AT MOST 1048576: true; the input reads as it did. -/
def fnExactSimplifyBookUptoRow : OpenClaim := { program := "yteekllacfpafoaagreat", sum := "915f8192d498a86de2f9ee28b0796f4d04f90a75f5610dbb22faeb26f7f1c213", func := "loop.example/g01074/laws.FnExactSimplifyBook", spec := "fnExactSimplifyBook", unfollowed := true, recurses := true, loops := true, apart := false, narrowed := true }
def FnExactSimplifyBookUptoSaid : Prop := fnExactSimplifyBookUptoRow.holds Tryz.pinned (OpenSpec.upto fnExactSimplifyBookSpec)

/-- 'laws.FnExactSimplifyCore', WHERE WHAT IT READS IS OF BULK AT MOST 1048576: true; the input reads as it did. -/
def fnExactSimplifyCoreUptoRow : OpenClaim := { program := "yteekllacfpafoaagreat", sum := "915f8192d498a86de2f9ee28b0796f4d04f90a75f5610dbb22faeb26f7f1c213", func := "loop.example/g01074/laws.FnExactSimplifyCore", spec := "fnExactSimplifyCore", unfollowed := true, recurses := true, loops := true, apart := false, narrowed := true }
def FnExactSimplifyCoreUptoSaid : Prop := fnExactSimplifyCoreUptoRow.holds Tryz.pinned (OpenSpec.upto fnExactSimplifyCoreSpec)

end Rows
end Go.Proofs.YteekllacfpafoaaGreat
