/-
  No cell of these rows narrows 'for every input' (looked for: loops, veiled, ifaces, maps, wideKeys, modest, calm, conditions, laid).
  DERIVED. THE GIVEN ROWS OF THIS SEAT. 4 by the template 'for every input the law returns true; each argument reads behind the call as it read before'; 0 by the template 'total and deterministic' (their statements: YtddahfmkcpnoaaaGreatTotals.lean).
  GIVEN WITH THE SEED: the statements are not yours to turn. If you find one false, say at which input.
  Laid BY PROGRAM, IN A SANDBOX (cutbox-rows.mjs): the forced cells as the released guide's own fill.sh prints them over the translation 89e9c7a69e0eebcc… (all of the seat's roots in one cut). By AI agents, Wed Nov 11 2026. No macro, syntax, notation, axiom, sorry.
-/
import Derived.Test.YtddahfmkcpnoaaaGreatChecked
import GoSem.Claim
import GoSem.ClaimJoined
import GoSem.ClaimMapViews
import Derived.JoinedTies
import Derived.KernelRfl
namespace Go.Proofs.YtddahfmkcpnoaaaGreat
/- THE CELL 'sum', in the pinned program and in every row, IS THE sha256 OF THE DUMP (.gsa) THAT YtddahfmkcpnoaaaGreatProg.lean LOADS. Nothing in Lean hashes anything: it is a label: what it is worth is what the hold of that sum in a sandbox is worth. -/
noncomputable def Tryz.pinned : Pinned := { name := "ytddahfmkcpnoaaagreat", sum := "89e9c7a69e0eebcc0f70dc6e0b1ac964c4b40db9013361553af86d3b489615e0", checked := Tryz.checked }
namespace Rows
def none {H : Type} : Left H := { results := [], args := [] }

/-- 'laws.FnExactNextInteraction': WHATEVER THE INPUT: true; the input reads as it did. -/
def fnExactNextInteractionSpec : ChangeSpec := { name := "fnExactNextInteraction", fn := fun _ => fun
  | [d] => { results := [.lit (.bool true)], args := [d] }
  | _ => none }
def fnExactNextInteractionRow : OpenClaim := { program := "ytddahfmkcpnoaaagreat", sum := "89e9c7a69e0eebcc0f70dc6e0b1ac964c4b40db9013361553af86d3b489615e0", func := "loop.example/g01074/laws.FnExactNextInteraction", spec := "fnExactNextInteraction", unfollowed := true, recurses := true, apart := false }
def FnExactNextInteractionSaid : Prop := fnExactNextInteractionRow.holds Tryz.pinned (OpenSpec.ofChange fnExactNextInteractionSpec)

/-- ITS FALSE NEIGHBOUR: 'it returns false'. Refute it at one input. -/
def fnExactNextInteractionWrong : ChangeSpec := { name := "fnExactNextInteraction", fn := fun _ => fun
  | [d] => { results := [.lit (.bool false)], args := [d] }
  | _ => none }
def FnExactNextInteractionWrongFalsely : Prop := fnExactNextInteractionRow.holds Tryz.pinned (OpenSpec.ofChange fnExactNextInteractionWrong)

/-- 'laws.FnExactMatchingBreak': WHATEVER THE INPUT: true; the input reads as it did. -/
def fnExactMatchingBreakSpec : ChangeSpec := { name := "fnExactMatchingBreak", fn := fun _ => fun
  | [d] => { results := [.lit (.bool true)], args := [d] }
  | _ => none }
def fnExactMatchingBreakRow : OpenClaim := { program := "ytddahfmkcpnoaaagreat", sum := "89e9c7a69e0eebcc0f70dc6e0b1ac964c4b40db9013361553af86d3b489615e0", func := "loop.example/g01074/laws.FnExactMatchingBreak", spec := "fnExactMatchingBreak", unfollowed := true, recurses := true, apart := false }
def FnExactMatchingBreakSaid : Prop := fnExactMatchingBreakRow.holds Tryz.pinned (OpenSpec.ofChange fnExactMatchingBreakSpec)

/-- ITS FALSE NEIGHBOUR: 'it returns false'. Refute it at one input. -/
def fnExactMatchingBreakWrong : ChangeSpec := { name := "fnExactMatchingBreak", fn := fun _ => fun
  | [d] => { results := [.lit (.bool false)], args := [d] }
  | _ => none }
def FnExactMatchingBreakWrongFalsely : Prop := fnExactMatchingBreakRow.holds Tryz.pinned (OpenSpec.ofChange fnExactMatchingBreakWrong)

/-- 'laws.FnExactAddBreak': WHATEVER THE INPUT: true; the input reads as it did. -/
def fnExactAddBreakSpec : ChangeSpec := { name := "fnExactAddBreak", fn := fun _ => fun
  | [d1, d2] => { results := [.lit (.bool true)], args := [d1, d2] }
  | _ => none }
def fnExactAddBreakRow : OpenClaim := { program := "ytddahfmkcpnoaaagreat", sum := "89e9c7a69e0eebcc0f70dc6e0b1ac964c4b40db9013361553af86d3b489615e0", func := "loop.example/g01074/laws.FnExactAddBreak", spec := "fnExactAddBreak", unfollowed := true, recurses := true, apart := false }
def FnExactAddBreakSaid : Prop := fnExactAddBreakRow.holds Tryz.pinned (OpenSpec.ofChange fnExactAddBreakSpec)

/-- ITS FALSE NEIGHBOUR: 'it returns false'. Refute it at one input. -/
def fnExactAddBreakWrong : ChangeSpec := { name := "fnExactAddBreak", fn := fun _ => fun
  | [d1, d2] => { results := [.lit (.bool false)], args := [d1, d2] }
  | _ => none }
def FnExactAddBreakWrongFalsely : Prop := fnExactAddBreakRow.holds Tryz.pinned (OpenSpec.ofChange fnExactAddBreakWrong)

/-- 'laws.FnExactRemoveBreak': WHATEVER THE INPUT: true; the input reads as it did. -/
def fnExactRemoveBreakSpec : ChangeSpec := { name := "fnExactRemoveBreak", fn := fun _ => fun
  | [d1, d2] => { results := [.lit (.bool true)], args := [d1, d2] }
  | _ => none }
def fnExactRemoveBreakRow : OpenClaim := { program := "ytddahfmkcpnoaaagreat", sum := "89e9c7a69e0eebcc0f70dc6e0b1ac964c4b40db9013361553af86d3b489615e0", func := "loop.example/g01074/laws.FnExactRemoveBreak", spec := "fnExactRemoveBreak", unfollowed := true, recurses := true, apart := false }
def FnExactRemoveBreakSaid : Prop := fnExactRemoveBreakRow.holds Tryz.pinned (OpenSpec.ofChange fnExactRemoveBreakSpec)

/-- ITS FALSE NEIGHBOUR: 'it returns false'. Refute it at one input. -/
def fnExactRemoveBreakWrong : ChangeSpec := { name := "fnExactRemoveBreak", fn := fun _ => fun
  | [d1, d2] => { results := [.lit (.bool false)], args := [d1, d2] }
  | _ => none }
def FnExactRemoveBreakWrongFalsely : Prop := fnExactRemoveBreakRow.holds Tryz.pinned (OpenSpec.ofChange fnExactRemoveBreakWrong)

/- THE SECOND FORM. 'bulk': how many values and letters a reading holds, each counted each time it is reached (what is shared counts as often as it is met; a slice's spare places count too). A statement '..UptoSaid' is the law's where the arguments, and the package variables that the reading takes, are together of bulk at most 1048576: NARROWER than '..Said'. Prove '..Said' where nothing that the law and all that it calls make is longer than what came in: it says more and counts as full. Else prove '..UptoSaid'. A law counts once. -/
mutual
def uptoBulk {H : Type} : DataW H → Nat
  | .lit (.string bytes) => bytes.length + 1
  | .lit _ => 1
  | .nil => 1
  | .ptr d => uptoBulk d + 1
  | .slice elems spare => uptoBulkAll elems + uptoBulkAll spare + 1
  | .agg parts => uptoBulkAll parts + 1
  | .iface _ d => uptoBulk d + 1
  | .map entries => uptoBulkEntries entries + 1
  | .held _ => 1
def uptoBulkAll {H : Type} : List (DataW H) → Nat
  | [] => 0
  | d :: r => uptoBulk d + uptoBulkAll r
def uptoBulkEntries {H : Type} : List (Lit × DataW H) → Nat
  | [] => 0
  | x :: r => uptoBulkEntry x + uptoBulkEntries r
def uptoBulkEntry {H : Type} : Lit × DataW H → Nat
  | (.string bytes, d) => bytes.length + uptoBulk d + 1
  | (_, d) => uptoBulk d + 1
 end
def uptoSmall : (H : Type) → List (DataW H) → Bool := fun _ ds => decide (uptoBulkAll ds ≤ 1048576)
def OpenSpec.upto (s : _root_.Go.ChangeSpec) : _root_.Go.OpenSpec := { _root_.Go.OpenSpec.ofChange s with cond := some uptoSmall }

/-- 'laws.FnExactNextInteraction', WHERE WHAT IT READS IS OF BULK AT MOST 1048576: true; the input reads as it did. -/
def fnExactNextInteractionUptoRow : OpenClaim := { program := "ytddahfmkcpnoaaagreat", sum := "89e9c7a69e0eebcc0f70dc6e0b1ac964c4b40db9013361553af86d3b489615e0", func := "loop.example/g01074/laws.FnExactNextInteraction", spec := "fnExactNextInteraction", unfollowed := true, recurses := true, apart := false, narrowed := true }
def FnExactNextInteractionUptoSaid : Prop := fnExactNextInteractionUptoRow.holds Tryz.pinned (OpenSpec.upto fnExactNextInteractionSpec)

/-- 'laws.FnExactMatchingBreak', WHERE WHAT IT READS IS OF BULK AT MOST 1048576: true; the input reads as it did. -/
def fnExactMatchingBreakUptoRow : OpenClaim := { program := "ytddahfmkcpnoaaagreat", sum := "89e9c7a69e0eebcc0f70dc6e0b1ac964c4b40db9013361553af86d3b489615e0", func := "loop.example/g01074/laws.FnExactMatchingBreak", spec := "fnExactMatchingBreak", unfollowed := true, recurses := true, apart := false, narrowed := true }
def FnExactMatchingBreakUptoSaid : Prop := fnExactMatchingBreakUptoRow.holds Tryz.pinned (OpenSpec.upto fnExactMatchingBreakSpec)

/-- 'laws.FnExactAddBreak', WHERE WHAT IT READS IS OF BULK AT MOST 1048576: true; the input reads as it did. -/
def fnExactAddBreakUptoRow : OpenClaim := { program := "ytddahfmkcpnoaaagreat", sum := "89e9c7a69e0eebcc0f70dc6e0b1ac964c4b40db9013361553af86d3b489615e0", func := "loop.example/g01074/laws.FnExactAddBreak", spec := "fnExactAddBreak", unfollowed := true, recurses := true, apart := false, narrowed := true }
def FnExactAddBreakUptoSaid : Prop := fnExactAddBreakUptoRow.holds Tryz.pinned (OpenSpec.upto fnExactAddBreakSpec)

/-- 'laws.FnExactRemoveBreak', WHERE WHAT IT READS IS OF BULK AT MOST 1048576: true; the input reads as it did. -/
def fnExactRemoveBreakUptoRow : OpenClaim := { program := "ytddahfmkcpnoaaagreat", sum := "89e9c7a69e0eebcc0f70dc6e0b1ac964c4b40db9013361553af86d3b489615e0", func := "loop.example/g01074/laws.FnExactRemoveBreak", spec := "fnExactRemoveBreak", unfollowed := true, recurses := true, apart := false, narrowed := true }
def FnExactRemoveBreakUptoSaid : Prop := fnExactRemoveBreakUptoRow.holds Tryz.pinned (OpenSpec.upto fnExactRemoveBreakSpec)

end Rows
end Go.Proofs.YtddahfmkcpnoaaaGreat
