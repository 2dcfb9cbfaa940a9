/-
  No cell of these rows narrows 'for every input' (looked for: loops, veiled, ifaces, maps, wideKeys, modest, calm, conditions, laid).
  DERIVED. THE GIVEN ROWS OF THIS SEAT. 11 by the template 'for every input the law returns true; each argument reads behind the call as it read before'; 0 by the template 'total and deterministic' (their statements: YtfklcfpkbnddfaaTotals.lean).
  GIVEN WITH THE SEED: the statements are not yours to turn. If you find one false, say at which input.
  Laid BY PROGRAM, IN A SANDBOX (cutbox-rows.mjs): the forced cells as the released guide's own fill.sh prints them over the translation aacf36bac4b88dbd… (all of the seat's roots in one cut). By AI agents, Wed Nov 11 2026. No macro, syntax, notation, axiom, sorry.
-/
import Derived.Test.YtfklcfpkbnddfaaChecked
import GoSem.Claim
import GoSem.ClaimJoined
import GoSem.ClaimMapViews
import Derived.JoinedTies
import Derived.KernelRfl
namespace Go.Proofs.Ytfklcfpkbnddfaa
/- THE CELL 'sum', in the pinned program and in every row, IS THE sha256 OF THE DUMP (.gsa) THAT YtfklcfpkbnddfaaProg.lean LOADS. Nothing in Lean hashes anything: it is a label: what it is worth is what the hold of that sum in a sandbox is worth. -/
noncomputable def Try.pinned : Pinned := { name := "ytfklcfpkbnddfaa", sum := "aacf36bac4b88dbde40e517fb15fc37bdf94a06d759567bc32102dfa14e413ec", checked := Try.checked }
namespace Rows
def none {H : Type} : Left H := { results := [], args := [] }

/-- 'weighbridgelaw.SpanSays': WHATEVER THE INPUT: true; the input reads as it did. -/
def spanSaysSpec : ChangeSpec := { name := "spanSays", fn := fun _ => fun
  | [d1, d2, d3, d4] => { results := [.lit (.bool true)], args := [d1, d2, d3, d4] }
  | _ => none }
def spanSaysRow : OpenClaim := { program := "ytfklcfpkbnddfaa", sum := "aacf36bac4b88dbde40e517fb15fc37bdf94a06d759567bc32102dfa14e413ec", func := "weighbridge/weighbridgelaw.SpanSays", spec := "spanSays", apart := false }
def SpanSaysSaid : Prop := spanSaysRow.holds Try.pinned (OpenSpec.ofChange spanSaysSpec)

/-- ITS FALSE NEIGHBOUR: 'it returns false'. Refute it at one input. -/
def spanSaysWrong : ChangeSpec := { name := "spanSays", fn := fun _ => fun
  | [d1, d2, d3, d4] => { results := [.lit (.bool false)], args := [d1, d2, d3, d4] }
  | _ => none }
def SpanSaysWrongFalsely : Prop := spanSaysRow.holds Try.pinned (OpenSpec.ofChange spanSaysWrong)

/-- 'weighbridgetop.TopSpan': WHATEVER THE INPUT: true; the input reads as it did. -/
def topSpanSpec : ChangeSpec := { name := "topSpan", fn := fun _ => fun
  | [d] => { results := [.lit (.bool true)], args := [d] }
  | _ => none }
def topSpanRow : OpenClaim := { program := "ytfklcfpkbnddfaa", sum := "aacf36bac4b88dbde40e517fb15fc37bdf94a06d759567bc32102dfa14e413ec", func := "weighbridge/weighbridgetop.TopSpan", spec := "topSpan", apart := false }
def TopSpanSaid : Prop := topSpanRow.holds Try.pinned (OpenSpec.ofChange topSpanSpec)

/-- ITS FALSE NEIGHBOUR: 'it returns false'. Refute it at one input. -/
def topSpanWrong : ChangeSpec := { name := "topSpan", fn := fun _ => fun
  | [d] => { results := [.lit (.bool false)], args := [d] }
  | _ => none }
def TopSpanWrongFalsely : Prop := topSpanRow.holds Try.pinned (OpenSpec.ofChange topSpanWrong)

/-- 'weighbridgetop.TopMeet': WHATEVER THE INPUT: true; the input reads as it did. -/
def topMeetSpec : ChangeSpec := { name := "topMeet", fn := fun _ => fun
  | [d1, d2, d3] => { results := [.lit (.bool true)], args := [d1, d2, d3] }
  | _ => none }
def topMeetRow : OpenClaim := { program := "ytfklcfpkbnddfaa", sum := "aacf36bac4b88dbde40e517fb15fc37bdf94a06d759567bc32102dfa14e413ec", func := "weighbridge/weighbridgetop.TopMeet", spec := "topMeet", apart := false }
def TopMeetSaid : Prop := topMeetRow.holds Try.pinned (OpenSpec.ofChange topMeetSpec)

/-- ITS FALSE NEIGHBOUR: 'it returns false'. Refute it at one input. -/
def topMeetWrong : ChangeSpec := { name := "topMeet", fn := fun _ => fun
  | [d1, d2, d3] => { results := [.lit (.bool false)], args := [d1, d2, d3] }
  | _ => none }
def TopMeetWrongFalsely : Prop := topMeetRow.holds Try.pinned (OpenSpec.ofChange topMeetWrong)

/-- 'weighbridgelaw.ElevatorSays': WHATEVER THE INPUT: true; the input reads as it did. -/
def elevatorSaysSpec : ChangeSpec := { name := "elevatorSays", fn := fun _ => fun
  | [d1, d2, d3] => { results := [.lit (.bool true)], args := [d1, d2, d3] }
  | _ => none }
def elevatorSaysRow : OpenClaim := { program := "ytfklcfpkbnddfaa", sum := "aacf36bac4b88dbde40e517fb15fc37bdf94a06d759567bc32102dfa14e413ec", func := "weighbridge/weighbridgelaw.ElevatorSays", spec := "elevatorSays", apart := false }
def ElevatorSaysSaid : Prop := elevatorSaysRow.holds Try.pinned (OpenSpec.ofChange elevatorSaysSpec)

/-- ITS FALSE NEIGHBOUR: 'it returns false'. Refute it at one input. -/
def elevatorSaysWrong : ChangeSpec := { name := "elevatorSays", fn := fun _ => fun
  | [d1, d2, d3] => { results := [.lit (.bool false)], args := [d1, d2, d3] }
  | _ => none }
def ElevatorSaysWrongFalsely : Prop := elevatorSaysRow.holds Try.pinned (OpenSpec.ofChange elevatorSaysWrong)

/-- 'weighbridgelaw.QueueSays': WHATEVER THE INPUT: true; the input reads as it did. -/
def queueSaysSpec : ChangeSpec := { name := "queueSays", fn := fun _ => fun
  | [d1, d2, d3, d4] => { results := [.lit (.bool true)], args := [d1, d2, d3, d4] }
  | _ => none }
def queueSaysRow : OpenClaim := { program := "ytfklcfpkbnddfaa", sum := "aacf36bac4b88dbde40e517fb15fc37bdf94a06d759567bc32102dfa14e413ec", func := "weighbridge/weighbridgelaw.QueueSays", spec := "queueSays", unfollowed := true, recurses := true, apart := false }
def QueueSaysSaid : Prop := queueSaysRow.holds Try.pinned (OpenSpec.ofChange queueSaysSpec)

/-- ITS FALSE NEIGHBOUR: 'it returns false'. Refute it at one input. -/
def queueSaysWrong : ChangeSpec := { name := "queueSays", fn := fun _ => fun
  | [d1, d2, d3, d4] => { results := [.lit (.bool false)], args := [d1, d2, d3, d4] }
  | _ => none }
def QueueSaysWrongFalsely : Prop := queueSaysRow.holds Try.pinned (OpenSpec.ofChange queueSaysWrong)

/-- 'weighbridgelaw.RequestSays': WHATEVER THE INPUT: true; the input reads as it did. -/
def requestSaysSpec : ChangeSpec := { name := "requestSays", fn := fun _ => fun
  | [d1, d2, d3, d4] => { results := [.lit (.bool true)], args := [d1, d2, d3, d4] }
  | _ => none }
def requestSaysRow : OpenClaim := { program := "ytfklcfpkbnddfaa", sum := "aacf36bac4b88dbde40e517fb15fc37bdf94a06d759567bc32102dfa14e413ec", func := "weighbridge/weighbridgelaw.RequestSays", spec := "requestSays", inPlace := ["internal/abi.NoEscape", "internal/bytealg.MakeNoZero"], unfollowed := true, recurses := true, apart := false }
def RequestSaysSaid : Prop := requestSaysRow.holds Try.pinned (OpenSpec.ofChange requestSaysSpec)

/-- ITS FALSE NEIGHBOUR: 'it returns false'. Refute it at one input. -/
def requestSaysWrong : ChangeSpec := { name := "requestSays", fn := fun _ => fun
  | [d1, d2, d3, d4] => { results := [.lit (.bool false)], args := [d1, d2, d3, d4] }
  | _ => none }
def RequestSaysWrongFalsely : Prop := requestSaysRow.holds Try.pinned (OpenSpec.ofChange requestSaysWrong)

/-- 'weighbridgetop.TopOld': WHATEVER THE INPUT: true; the input reads as it did. -/
def topOldSpec : ChangeSpec := { name := "topOld", fn := fun _ => fun
  | [d1, d2] => { results := [.lit (.bool true)], args := [d1, d2] }
  | _ => none }
def topOldRow : OpenClaim := { program := "ytfklcfpkbnddfaa", sum := "aacf36bac4b88dbde40e517fb15fc37bdf94a06d759567bc32102dfa14e413ec", func := "weighbridge/weighbridgetop.TopOld", spec := "topOld", apart := false }
def TopOldSaid : Prop := topOldRow.holds Try.pinned (OpenSpec.ofChange topOldSpec)

/-- ITS FALSE NEIGHBOUR: 'it returns false'. Refute it at one input. -/
def topOldWrong : ChangeSpec := { name := "topOld", fn := fun _ => fun
  | [d1, d2] => { results := [.lit (.bool false)], args := [d1, d2] }
  | _ => none }
def TopOldWrongFalsely : Prop := topOldRow.holds Try.pinned (OpenSpec.ofChange topOldWrong)

/-- 'weighbridgetop.TopMerge': WHATEVER THE INPUT: true; the input reads as it did. -/
def topMergeSpec : ChangeSpec := { name := "topMerge", fn := fun _ => fun
  | [d1, d2] => { results := [.lit (.bool true)], args := [d1, d2] }
  | _ => none }
def topMergeRow : OpenClaim := { program := "ytfklcfpkbnddfaa", sum := "aacf36bac4b88dbde40e517fb15fc37bdf94a06d759567bc32102dfa14e413ec", func := "weighbridge/weighbridgetop.TopMerge", spec := "topMerge", unfollowed := true, recurses := true, apart := false }
def TopMergeSaid : Prop := topMergeRow.holds Try.pinned (OpenSpec.ofChange topMergeSpec)

/-- ITS FALSE NEIGHBOUR: 'it returns false'. Refute it at one input. -/
def topMergeWrong : ChangeSpec := { name := "topMerge", fn := fun _ => fun
  | [d1, d2] => { results := [.lit (.bool false)], args := [d1, d2] }
  | _ => none }
def TopMergeWrongFalsely : Prop := topMergeRow.holds Try.pinned (OpenSpec.ofChange topMergeWrong)

/-- 'weighbridgetop.TopQueue': WHATEVER THE INPUT: true; the input reads as it did. -/
def topQueueSpec : ChangeSpec := { name := "topQueue", fn := fun _ => fun
  | [d1, d2] => { results := [.lit (.bool true)], args := [d1, d2] }
  | _ => none }
def topQueueRow : OpenClaim := { program := "ytfklcfpkbnddfaa", sum := "aacf36bac4b88dbde40e517fb15fc37bdf94a06d759567bc32102dfa14e413ec", func := "weighbridge/weighbridgetop.TopQueue", spec := "topQueue", unfollowed := true, recurses := true, apart := false }
def TopQueueSaid : Prop := topQueueRow.holds Try.pinned (OpenSpec.ofChange topQueueSpec)

/-- ITS FALSE NEIGHBOUR: 'it returns false'. Refute it at one input. -/
def topQueueWrong : ChangeSpec := { name := "topQueue", fn := fun _ => fun
  | [d1, d2] => { results := [.lit (.bool false)], args := [d1, d2] }
  | _ => none }
def TopQueueWrongFalsely : Prop := topQueueRow.holds Try.pinned (OpenSpec.ofChange topQueueWrong)

/-- 'weighbridgetop.TopElevator': WHATEVER THE INPUT: true; the input reads as it did. -/
def topElevatorSpec : ChangeSpec := { name := "topElevator", fn := fun _ => fun
  | [d1, d2] => { results := [.lit (.bool true)], args := [d1, d2] }
  | _ => none }
def topElevatorRow : OpenClaim := { program := "ytfklcfpkbnddfaa", sum := "aacf36bac4b88dbde40e517fb15fc37bdf94a06d759567bc32102dfa14e413ec", func := "weighbridge/weighbridgetop.TopElevator", spec := "topElevator", apart := false }
def TopElevatorSaid : Prop := topElevatorRow.holds Try.pinned (OpenSpec.ofChange topElevatorSpec)

/-- ITS FALSE NEIGHBOUR: 'it returns false'. Refute it at one input. -/
def topElevatorWrong : ChangeSpec := { name := "topElevator", fn := fun _ => fun
  | [d1, d2] => { results := [.lit (.bool false)], args := [d1, d2] }
  | _ => none }
def TopElevatorWrongFalsely : Prop := topElevatorRow.holds Try.pinned (OpenSpec.ofChange topElevatorWrong)

/-- 'weighbridgetop.TopFair': WHATEVER THE INPUT: true; the input reads as it did. -/
def topFairSpec : ChangeSpec := { name := "topFair", fn := fun _ => fun
  | [d1, d2, d3, d4] => { results := [.lit (.bool true)], args := [d1, d2, d3, d4] }
  | _ => none }
def topFairRow : OpenClaim := { program := "ytfklcfpkbnddfaa", sum := "aacf36bac4b88dbde40e517fb15fc37bdf94a06d759567bc32102dfa14e413ec", func := "weighbridge/weighbridgetop.TopFair", spec := "topFair", apart := false }
def TopFairSaid : Prop := topFairRow.holds Try.pinned (OpenSpec.ofChange topFairSpec)

/-- ITS FALSE NEIGHBOUR: 'it returns false'. Refute it at one input. -/
def topFairWrong : ChangeSpec := { name := "topFair", fn := fun _ => fun
  | [d1, d2, d3, d4] => { results := [.lit (.bool false)], args := [d1, d2, d3, d4] }
  | _ => none }
def TopFairWrongFalsely : Prop := topFairRow.holds Try.pinned (OpenSpec.ofChange topFairWrong)

/- THE SECOND FORM. 'bulk': how many values and letters a reading holds, each counted each time it is reached (what is shared counts as often as it is met; a slice's spare places count too). A statement '..UptoSaid' is the law's where the arguments, and the package variables that the reading takes, are together of bulk at most 1048576: NARROWER than '..Said'. Prove '..Said' where nothing that the law and all that it calls make is longer than what came in: it says more and counts as full. Else prove '..UptoSaid'. A law counts once. -/
mutual
def uptoBulk {H : Type} : DataW H → Nat
  | .lit (.string bytes) => bytes.length + 1
  | .lit _ => 1
  | .nil => 1
  | .ptr d => uptoBulk d + 1
  | .slice elems spare => uptoBulkAll elems + uptoBulkAll spare + 1
  | .agg parts => uptoBulkAll parts + 1
  | .iface _ d => uptoBulk d + 1
  | .map entries => uptoBulkEntries entries + 1
  | .held _ => 1
def uptoBulkAll {H : Type} : List (DataW H) → Nat
  | [] => 0
  | d :: r => uptoBulk d + uptoBulkAll r
def uptoBulkEntries {H : Type} : List (Lit × DataW H) → Nat
  | [] => 0
  | x :: r => uptoBulkEntry x + uptoBulkEntries r
def uptoBulkEntry {H : Type} : Lit × DataW H → Nat
  | (.string bytes, d) => bytes.length + uptoBulk d + 1
  | (_, d) => uptoBulk d + 1
 end
def uptoSmall : (H : Type) → List (DataW H) → Bool := fun _ ds => decide (uptoBulkAll ds ≤ 1048576)
def OpenSpec.upto (s : _root_.Go.ChangeSpec) : _root_.Go.OpenSpec := { _root_.Go.OpenSpec.ofChange s with cond := some uptoSmall }

/-- 'weighbridgelaw.SpanSays', WHERE WHAT IT READS IS OF BULK AT MOST 1048576: true; the input reads as it did. -/
def spanSaysUptoRow : OpenClaim := { program := "ytfklcfpkbnddfaa", sum := "aacf36bac4b88dbde40e517fb15fc37bdf94a06d759567bc32102dfa14e413ec", func := "weighbridge/weighbridgelaw.SpanSays", spec := "spanSays", apart := false, narrowed := true }
def SpanSaysUptoSaid : Prop := spanSaysUptoRow.holds Try.pinned (OpenSpec.upto spanSaysSpec)

/-- 'weighbridgetop.TopSpan', WHERE WHAT IT READS IS OF BULK AT MOST 1048576: true; the input reads as it did. -/
def topSpanUptoRow : OpenClaim := { program := "ytfklcfpkbnddfaa", sum := "aacf36bac4b88dbde40e517fb15fc37bdf94a06d759567bc32102dfa14e413ec", func := "weighbridge/weighbridgetop.TopSpan", spec := "topSpan", apart := false, narrowed := true }
def TopSpanUptoSaid : Prop := topSpanUptoRow.holds Try.pinned (OpenSpec.upto topSpanSpec)

/-- 'weighbridgetop.TopMeet', WHERE WHAT IT READS IS OF BULK AT MOST 1048576: true; the input reads as it did. -/
def topMeetUptoRow : OpenClaim := { program := "ytfklcfpkbnddfaa", sum := "aacf36bac4b88dbde40e517fb15fc37bdf94a06d759567bc32102dfa14e413ec", func := "weighbridge/weighbridgetop.TopMeet", spec := "topMeet", apart := false, narrowed := true }
def TopMeetUptoSaid : Prop := topMeetUptoRow.holds Try.pinned (OpenSpec.upto topMeetSpec)

/-- 'weighbridgelaw.ElevatorSays', WHERE WHAT IT READS IS OF BULK AT MOST 1048576: true; the input reads as it did. -/
def elevatorSaysUptoRow : OpenClaim := { program := "ytfklcfpkbnddfaa", sum := "aacf36bac4b88dbde40e517fb15fc37bdf94a06d759567bc32102dfa14e413ec", func := "weighbridge/weighbridgelaw.ElevatorSays", spec := "elevatorSays", apart := false, narrowed := true }
def ElevatorSaysUptoSaid : Prop := elevatorSaysUptoRow.holds Try.pinned (OpenSpec.upto elevatorSaysSpec)

/-- 'weighbridgelaw.QueueSays', WHERE WHAT IT READS IS OF BULK AT MOST 1048576: true; the input reads as it did. -/
def queueSaysUptoRow : OpenClaim := { program := "ytfklcfpkbnddfaa", sum := "aacf36bac4b88dbde40e517fb15fc37bdf94a06d759567bc32102dfa14e413ec", func := "weighbridge/weighbridgelaw.QueueSays", spec := "queueSays", unfollowed := true, recurses := true, apart := false, narrowed := true }
def QueueSaysUptoSaid : Prop := queueSaysUptoRow.holds Try.pinned (OpenSpec.upto queueSaysSpec)

/-- 'weighbridgelaw.RequestSays', WHERE WHAT IT READS IS OF BULK AT MOST 1048576: true; the input reads as it did. -/
def requestSaysUptoRow : OpenClaim := { program := "ytfklcfpkbnddfaa", sum := "aacf36bac4b88dbde40e517fb15fc37bdf94a06d759567bc32102dfa14e413ec", func := "weighbridge/weighbridgelaw.RequestSays", spec := "requestSays", inPlace := ["internal/abi.NoEscape", "internal/bytealg.MakeNoZero"], unfollowed := true, recurses := true, apart := false, narrowed := true }
def RequestSaysUptoSaid : Prop := requestSaysUptoRow.holds Try.pinned (OpenSpec.upto requestSaysSpec)

/-- 'weighbridgetop.TopOld', WHERE WHAT IT READS IS OF BULK AT MOST 1048576: true; the input reads as it did. -/
def topOldUptoRow : OpenClaim := { program := "ytfklcfpkbnddfaa", sum := "aacf36bac4b88dbde40e517fb15fc37bdf94a06d759567bc32102dfa14e413ec", func := "weighbridge/weighbridgetop.TopOld", spec := "topOld", apart := false, narrowed := true }
def TopOldUptoSaid : Prop := topOldUptoRow.holds Try.pinned (OpenSpec.upto topOldSpec)

/-- 'weighbridgetop.TopMerge', WHERE WHAT IT READS IS OF BULK AT MOST 1048576: true; the input reads as it did. -/
def topMergeUptoRow : OpenClaim := { program := "ytfklcfpkbnddfaa", sum := "aacf36bac4b88dbde40e517fb15fc37bdf94a06d759567bc32102dfa14e413ec", func := "weighbridge/weighbridgetop.TopMerge", spec := "topMerge", unfollowed := true, recurses := true, apart := false, narrowed := true }
def TopMergeUptoSaid : Prop := topMergeUptoRow.holds Try.pinned (OpenSpec.upto topMergeSpec)

/-- 'weighbridgetop.TopQueue', WHERE WHAT IT READS IS OF BULK AT MOST 1048576: true; the input reads as it did. -/
def topQueueUptoRow : OpenClaim := { program := "ytfklcfpkbnddfaa", sum := "aacf36bac4b88dbde40e517fb15fc37bdf94a06d759567bc32102dfa14e413ec", func := "weighbridge/weighbridgetop.TopQueue", spec := "topQueue", unfollowed := true, recurses := true, apart := false, narrowed := true }
def TopQueueUptoSaid : Prop := topQueueUptoRow.holds Try.pinned (OpenSpec.upto topQueueSpec)

/-- 'weighbridgetop.TopElevator', WHERE WHAT IT READS IS OF BULK AT MOST 1048576: true; the input reads as it did. -/
def topElevatorUptoRow : OpenClaim := { program := "ytfklcfpkbnddfaa", sum := "aacf36bac4b88dbde40e517fb15fc37bdf94a06d759567bc32102dfa14e413ec", func := "weighbridge/weighbridgetop.TopElevator", spec := "topElevator", apart := false, narrowed := true }
def TopElevatorUptoSaid : Prop := topElevatorUptoRow.holds Try.pinned (OpenSpec.upto topElevatorSpec)

/-- 'weighbridgetop.TopFair', WHERE WHAT IT READS IS OF BULK AT MOST 1048576: true; the input reads as it did. -/
def topFairUptoRow : OpenClaim := { program := "ytfklcfpkbnddfaa", sum := "aacf36bac4b88dbde40e517fb15fc37bdf94a06d759567bc32102dfa14e413ec", func := "weighbridge/weighbridgetop.TopFair", spec := "topFair", apart := false, narrowed := true }
def TopFairUptoSaid : Prop := topFairUptoRow.holds Try.pinned (OpenSpec.upto topFairSpec)

end Rows
end Go.Proofs.Ytfklcfpkbnddfaa
