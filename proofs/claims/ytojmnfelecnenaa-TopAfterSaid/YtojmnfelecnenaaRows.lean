/-
  No cell of these rows narrows 'for every input' (looked for: loops, veiled, ifaces, maps, wideKeys, modest, calm, conditions, laid).
  DERIVED. THE GIVEN ROWS OF THIS SEAT. 11 by the template 'for every input the law returns true; each argument reads behind the call as it read before'; 0 by the template 'total and deterministic' (their statements: YtojmnfelecnenaaTotals.lean).
  GIVEN WITH THE SEED: the statements are not yours to turn. If you find one false, say at which input.
  Laid BY PROGRAM, IN A SANDBOX (cutbox-rows.mjs): the forced cells as the released guide's own fill.sh prints them over the translation 76450d287cac3237… (all of the seat's roots in one cut). By AI agents, Wed Nov 11 2026. No macro, syntax, notation, axiom, sorry.
-/
import Derived.Test.YtojmnfelecnenaaChecked
import GoSem.Claim
import GoSem.ClaimJoined
import GoSem.ClaimMapViews
import Derived.JoinedTies
import Derived.KernelRfl
namespace Go.Proofs.Ytojmnfelecnenaa
/- THE CELL 'sum', in the pinned program and in every row, IS THE sha256 OF THE DUMP (.gsa) THAT YtojmnfelecnenaaProg.lean LOADS. Nothing in Lean hashes anything: it is a label: what it is worth is what the hold of that sum in a sandbox is worth. -/
noncomputable def Try.pinned : Pinned := { name := "ytojmnfelecnenaa", sum := "76450d287cac32376f862bfcb65fd16f821cb70e70698ec643c7bbc3f3f470cc", checked := Try.checked }
namespace Rows
def none {H : Type} : Left H := { results := [], args := [] }

/-- 'weighbridgetop.TopHard': WHATEVER THE INPUT: true; the input reads as it did. -/
def topHardSpec : ChangeSpec := { name := "topHard", fn := fun _ => fun
  | [d] => { results := [.lit (.bool true)], args := [d] }
  | _ => none }
def topHardRow : OpenClaim := { program := "ytojmnfelecnenaa", sum := "76450d287cac32376f862bfcb65fd16f821cb70e70698ec643c7bbc3f3f470cc", func := "weighbridge/weighbridgetop.TopHard", spec := "topHard", inPlace := ["slices.overlaps[weighbridge/api.Buf]"], unfollowed := true, recurses := true, apart := false }
def TopHardSaid : Prop := topHardRow.holds Try.pinned (OpenSpec.ofChange topHardSpec)

/-- ITS FALSE NEIGHBOUR: 'it returns false'. Refute it at one input. -/
def topHardWrong : ChangeSpec := { name := "topHard", fn := fun _ => fun
  | [d] => { results := [.lit (.bool false)], args := [d] }
  | _ => none }
def TopHardWrongFalsely : Prop := topHardRow.holds Try.pinned (OpenSpec.ofChange topHardWrong)

/-- 'weighbridgetop.TopOne': WHATEVER THE INPUT: true; the input reads as it did. -/
def topOneSpec : ChangeSpec := { name := "topOne", fn := fun _ => fun
  | [d] => { results := [.lit (.bool true)], args := [d] }
  | _ => none }
def topOneRow : OpenClaim := { program := "ytojmnfelecnenaa", sum := "76450d287cac32376f862bfcb65fd16f821cb70e70698ec643c7bbc3f3f470cc", func := "weighbridge/weighbridgetop.TopOne", spec := "topOne", inPlace := ["slices.overlaps[weighbridge/api.Buf]"], unfollowed := true, recurses := true, apart := false }
def TopOneSaid : Prop := topOneRow.holds Try.pinned (OpenSpec.ofChange topOneSpec)

/-- ITS FALSE NEIGHBOUR: 'it returns false'. Refute it at one input. -/
def topOneWrong : ChangeSpec := { name := "topOne", fn := fun _ => fun
  | [d] => { results := [.lit (.bool false)], args := [d] }
  | _ => none }
def TopOneWrongFalsely : Prop := topOneRow.holds Try.pinned (OpenSpec.ofChange topOneWrong)

/-- 'weighbridgetop.TopRight': WHATEVER THE INPUT: true; the input reads as it did. -/
def topRightSpec : ChangeSpec := { name := "topRight", fn := fun _ => fun
  | [d] => { results := [.lit (.bool true)], args := [d] }
  | _ => none }
def topRightRow : OpenClaim := { program := "ytojmnfelecnenaa", sum := "76450d287cac32376f862bfcb65fd16f821cb70e70698ec643c7bbc3f3f470cc", func := "weighbridge/weighbridgetop.TopRight", spec := "topRight", inPlace := ["slices.overlaps[weighbridge/api.Buf]"], unfollowed := true, recurses := true, apart := false }
def TopRightSaid : Prop := topRightRow.holds Try.pinned (OpenSpec.ofChange topRightSpec)

/-- ITS FALSE NEIGHBOUR: 'it returns false'. Refute it at one input. -/
def topRightWrong : ChangeSpec := { name := "topRight", fn := fun _ => fun
  | [d] => { results := [.lit (.bool false)], args := [d] }
  | _ => none }
def TopRightWrongFalsely : Prop := topRightRow.holds Try.pinned (OpenSpec.ofChange topRightWrong)

/-- 'weighbridgetop.TopDead': WHATEVER THE INPUT: true; the input reads as it did. -/
def topDeadSpec : ChangeSpec := { name := "topDead", fn := fun _ => fun
  | [d1, d2] => { results := [.lit (.bool true)], args := [d1, d2] }
  | _ => none }
def topDeadRow : OpenClaim := { program := "ytojmnfelecnenaa", sum := "76450d287cac32376f862bfcb65fd16f821cb70e70698ec643c7bbc3f3f470cc", func := "weighbridge/weighbridgetop.TopDead", spec := "topDead", inPlace := ["slices.overlaps[weighbridge/api.Buf]"], unfollowed := true, recurses := true, apart := false }
def TopDeadSaid : Prop := topDeadRow.holds Try.pinned (OpenSpec.ofChange topDeadSpec)

/-- ITS FALSE NEIGHBOUR: 'it returns false'. Refute it at one input. -/
def topDeadWrong : ChangeSpec := { name := "topDead", fn := fun _ => fun
  | [d1, d2] => { results := [.lit (.bool false)], args := [d1, d2] }
  | _ => none }
def TopDeadWrongFalsely : Prop := topDeadRow.holds Try.pinned (OpenSpec.ofChange topDeadWrong)

/-- 'weighbridgetop.TopBusy': WHATEVER THE INPUT: true; the input reads as it did. -/
def topBusySpec : ChangeSpec := { name := "topBusy", fn := fun _ => fun
  | [d1, d2, d3] => { results := [.lit (.bool true)], args := [d1, d2, d3] }
  | _ => none }
def topBusyRow : OpenClaim := { program := "ytojmnfelecnenaa", sum := "76450d287cac32376f862bfcb65fd16f821cb70e70698ec643c7bbc3f3f470cc", func := "weighbridge/weighbridgetop.TopBusy", spec := "topBusy", inPlace := ["slices.overlaps[weighbridge/api.Buf]"], unfollowed := true, recurses := true, apart := false }
def TopBusySaid : Prop := topBusyRow.holds Try.pinned (OpenSpec.ofChange topBusySpec)

/-- ITS FALSE NEIGHBOUR: 'it returns false'. Refute it at one input. -/
def topBusyWrong : ChangeSpec := { name := "topBusy", fn := fun _ => fun
  | [d1, d2, d3] => { results := [.lit (.bool false)], args := [d1, d2, d3] }
  | _ => none }
def TopBusyWrongFalsely : Prop := topBusyRow.holds Try.pinned (OpenSpec.ofChange topBusyWrong)

/-- 'weighbridgetop.TopSync': WHATEVER THE INPUT: true; the input reads as it did. -/
def topSyncSpec : ChangeSpec := { name := "topSync", fn := fun _ => fun
  | [d1, d2] => { results := [.lit (.bool true)], args := [d1, d2] }
  | _ => none }
def topSyncRow : OpenClaim := { program := "ytojmnfelecnenaa", sum := "76450d287cac32376f862bfcb65fd16f821cb70e70698ec643c7bbc3f3f470cc", func := "weighbridge/weighbridgetop.TopSync", spec := "topSync", inPlace := ["slices.overlaps[weighbridge/api.Buf]"], unfollowed := true, recurses := true, apart := false }
def TopSyncSaid : Prop := topSyncRow.holds Try.pinned (OpenSpec.ofChange topSyncSpec)

/-- ITS FALSE NEIGHBOUR: 'it returns false'. Refute it at one input. -/
def topSyncWrong : ChangeSpec := { name := "topSync", fn := fun _ => fun
  | [d1, d2] => { results := [.lit (.bool false)], args := [d1, d2] }
  | _ => none }
def TopSyncWrongFalsely : Prop := topSyncRow.holds Try.pinned (OpenSpec.ofChange topSyncWrong)

/-- 'weighbridgetop.TopAfter': WHATEVER THE INPUT: true; the input reads as it did. -/
def topAfterSpec : ChangeSpec := { name := "topAfter", fn := fun _ => fun
  | [d1, d2] => { results := [.lit (.bool true)], args := [d1, d2] }
  | _ => none }
def topAfterRow : OpenClaim := { program := "ytojmnfelecnenaa", sum := "76450d287cac32376f862bfcb65fd16f821cb70e70698ec643c7bbc3f3f470cc", func := "weighbridge/weighbridgetop.TopAfter", spec := "topAfter", inPlace := ["slices.overlaps[weighbridge/api.Buf]"], unfollowed := true, recurses := true, apart := false }
def TopAfterSaid : Prop := topAfterRow.holds Try.pinned (OpenSpec.ofChange topAfterSpec)

/-- ITS FALSE NEIGHBOUR: 'it returns false'. Refute it at one input. -/
def topAfterWrong : ChangeSpec := { name := "topAfter", fn := fun _ => fun
  | [d1, d2] => { results := [.lit (.bool false)], args := [d1, d2] }
  | _ => none }
def TopAfterWrongFalsely : Prop := topAfterRow.holds Try.pinned (OpenSpec.ofChange topAfterWrong)

/-- 'weighbridgetop.TopEnabled': WHATEVER THE INPUT: true; the input reads as it did. -/
def topEnabledSpec : ChangeSpec := { name := "topEnabled", fn := fun _ => fun
  | [d] => { results := [.lit (.bool true)], args := [d] }
  | _ => none }
def topEnabledRow : OpenClaim := { program := "ytojmnfelecnenaa", sum := "76450d287cac32376f862bfcb65fd16f821cb70e70698ec643c7bbc3f3f470cc", func := "weighbridge/weighbridgetop.TopEnabled", spec := "topEnabled", inPlace := ["slices.overlaps[weighbridge/api.Buf]"], unfollowed := true, recurses := true, apart := false }
def TopEnabledSaid : Prop := topEnabledRow.holds Try.pinned (OpenSpec.ofChange topEnabledSpec)

/-- ITS FALSE NEIGHBOUR: 'it returns false'. Refute it at one input. -/
def topEnabledWrong : ChangeSpec := { name := "topEnabled", fn := fun _ => fun
  | [d] => { results := [.lit (.bool false)], args := [d] }
  | _ => none }
def TopEnabledWrongFalsely : Prop := topEnabledRow.holds Try.pinned (OpenSpec.ofChange topEnabledWrong)

/-- 'weighbridgetop.TopSoft': WHATEVER THE INPUT: true; the input reads as it did. -/
def topSoftSpec : ChangeSpec := { name := "topSoft", fn := fun _ => fun
  | [d] => { results := [.lit (.bool true)], args := [d] }
  | _ => none }
def topSoftRow : OpenClaim := { program := "ytojmnfelecnenaa", sum := "76450d287cac32376f862bfcb65fd16f821cb70e70698ec643c7bbc3f3f470cc", func := "weighbridge/weighbridgetop.TopSoft", spec := "topSoft", inPlace := ["slices.overlaps[weighbridge/api.Buf]"], unfollowed := true, recurses := true, apart := false }
def TopSoftSaid : Prop := topSoftRow.holds Try.pinned (OpenSpec.ofChange topSoftSpec)

/-- ITS FALSE NEIGHBOUR: 'it returns false'. Refute it at one input. -/
def topSoftWrong : ChangeSpec := { name := "topSoft", fn := fun _ => fun
  | [d] => { results := [.lit (.bool false)], args := [d] }
  | _ => none }
def TopSoftWrongFalsely : Prop := topSoftRow.holds Try.pinned (OpenSpec.ofChange topSoftWrong)

/-- 'weighbridgetop.TopGoesOn': WHATEVER THE INPUT: true; the input reads as it did. -/
def topGoesOnSpec : ChangeSpec := { name := "topGoesOn", fn := fun _ => fun
  | [d] => { results := [.lit (.bool true)], args := [d] }
  | _ => none }
def topGoesOnRow : OpenClaim := { program := "ytojmnfelecnenaa", sum := "76450d287cac32376f862bfcb65fd16f821cb70e70698ec643c7bbc3f3f470cc", func := "weighbridge/weighbridgetop.TopGoesOn", spec := "topGoesOn", inPlace := ["slices.overlaps[weighbridge/api.Buf]"], unfollowed := true, recurses := true, apart := false }
def TopGoesOnSaid : Prop := topGoesOnRow.holds Try.pinned (OpenSpec.ofChange topGoesOnSpec)

/-- ITS FALSE NEIGHBOUR: 'it returns false'. Refute it at one input. -/
def topGoesOnWrong : ChangeSpec := { name := "topGoesOn", fn := fun _ => fun
  | [d] => { results := [.lit (.bool false)], args := [d] }
  | _ => none }
def TopGoesOnWrongFalsely : Prop := topGoesOnRow.holds Try.pinned (OpenSpec.ofChange topGoesOnWrong)

/-- 'weighbridgetop.TopIdle': WHATEVER THE INPUT: true; the input reads as it did. -/
def topIdleSpec : ChangeSpec := { name := "topIdle", fn := fun _ => fun
  | [d] => { results := [.lit (.bool true)], args := [d] }
  | _ => none }
def topIdleRow : OpenClaim := { program := "ytojmnfelecnenaa", sum := "76450d287cac32376f862bfcb65fd16f821cb70e70698ec643c7bbc3f3f470cc", func := "weighbridge/weighbridgetop.TopIdle", spec := "topIdle", inPlace := ["slices.overlaps[weighbridge/api.Buf]"], unfollowed := true, recurses := true, apart := false }
def TopIdleSaid : Prop := topIdleRow.holds Try.pinned (OpenSpec.ofChange topIdleSpec)

/-- ITS FALSE NEIGHBOUR: 'it returns false'. Refute it at one input. -/
def topIdleWrong : ChangeSpec := { name := "topIdle", fn := fun _ => fun
  | [d] => { results := [.lit (.bool false)], args := [d] }
  | _ => none }
def TopIdleWrongFalsely : Prop := topIdleRow.holds Try.pinned (OpenSpec.ofChange topIdleWrong)

/- THE SECOND FORM. 'bulk': how many values and letters a reading holds, each counted each time it is reached (what is shared counts as often as it is met; a slice's spare places count too). A statement '..UptoSaid' is the law's where the arguments, and the package variables that the reading takes, are together of bulk at most 1048576: NARROWER than '..Said'. Prove '..Said' where nothing that the law and all that it calls make is longer than what came in: it says more and counts as full. Else prove '..UptoSaid'. A law counts once. -/
mutual
def uptoBulk {H : Type} : DataW H → Nat
  | .lit (.string bytes) => bytes.length + 1
  | .lit _ => 1
  | .nil => 1
  | .ptr d => uptoBulk d + 1
  | .slice elems spare => uptoBulkAll elems + uptoBulkAll spare + 1
  | .agg parts => uptoBulkAll parts + 1
  | .iface _ d => uptoBulk d + 1
  | .map entries => uptoBulkEntries entries + 1
  | .held _ => 1
def uptoBulkAll {H : Type} : List (DataW H) → Nat
  | [] => 0
  | d :: r => uptoBulk d + uptoBulkAll r
def uptoBulkEntries {H : Type} : List (Lit × DataW H) → Nat
  | [] => 0
  | x :: r => uptoBulkEntry x + uptoBulkEntries r
def uptoBulkEntry {H : Type} : Lit × DataW H → Nat
  | (.string bytes, d) => bytes.length + uptoBulk d + 1
  | (_, d) => uptoBulk d + 1
 end
def uptoSmall : (H : Type) → List (DataW H) → Bool := fun _ ds => decide (uptoBulkAll ds ≤ 1048576)
def OpenSpec.upto (s : _root_.Go.ChangeSpec) : _root_.Go.OpenSpec := { _root_.Go.OpenSpec.ofChange s with cond := some uptoSmall }

/-- 'weighbridgetop.TopHard', WHERE WHAT IT READS IS OF BULK AT MOST 1048576: true; the input reads as it did. -/
def topHardUptoRow : OpenClaim := { program := "ytojmnfelecnenaa", sum := "76450d287cac32376f862bfcb65fd16f821cb70e70698ec643c7bbc3f3f470cc", func := "weighbridge/weighbridgetop.TopHard", spec := "topHard", inPlace := ["slices.overlaps[weighbridge/api.Buf]"], unfollowed := true, recurses := true, apart := false, narrowed := true }
def TopHardUptoSaid : Prop := topHardUptoRow.holds Try.pinned (OpenSpec.upto topHardSpec)

/-- 'weighbridgetop.TopOne', WHERE WHAT IT READS IS OF BULK AT MOST 1048576: true; the input reads as it did. -/
def topOneUptoRow : OpenClaim := { program := "ytojmnfelecnenaa", sum := "76450d287cac32376f862bfcb65fd16f821cb70e70698ec643c7bbc3f3f470cc", func := "weighbridge/weighbridgetop.TopOne", spec := "topOne", inPlace := ["slices.overlaps[weighbridge/api.Buf]"], unfollowed := true, recurses := true, apart := false, narrowed := true }
def TopOneUptoSaid : Prop := topOneUptoRow.holds Try.pinned (OpenSpec.upto topOneSpec)

/-- 'weighbridgetop.TopRight', WHERE WHAT IT READS IS OF BULK AT MOST 1048576: true; the input reads as it did. -/
def topRightUptoRow : OpenClaim := { program := "ytojmnfelecnenaa", sum := "76450d287cac32376f862bfcb65fd16f821cb70e70698ec643c7bbc3f3f470cc", func := "weighbridge/weighbridgetop.TopRight", spec := "topRight", inPlace := ["slices.overlaps[weighbridge/api.Buf]"], unfollowed := true, recurses := true, apart := false, narrowed := true }
def TopRightUptoSaid : Prop := topRightUptoRow.holds Try.pinned (OpenSpec.upto topRightSpec)

/-- 'weighbridgetop.TopDead', WHERE WHAT IT READS IS OF BULK AT MOST 1048576: true; the input reads as it did. -/
def topDeadUptoRow : OpenClaim := { program := "ytojmnfelecnenaa", sum := "76450d287cac32376f862bfcb65fd16f821cb70e70698ec643c7bbc3f3f470cc", func := "weighbridge/weighbridgetop.TopDead", spec := "topDead", inPlace := ["slices.overlaps[weighbridge/api.Buf]"], unfollowed := true, recurses := true, apart := false, narrowed := true }
def TopDeadUptoSaid : Prop := topDeadUptoRow.holds Try.pinned (OpenSpec.upto topDeadSpec)

/-- 'weighbridgetop.TopBusy', WHERE WHAT IT READS IS OF BULK AT MOST 1048576: true; the input reads as it did. -/
def topBusyUptoRow : OpenClaim := { program := "ytojmnfelecnenaa", sum := "76450d287cac32376f862bfcb65fd16f821cb70e70698ec643c7bbc3f3f470cc", func := "weighbridge/weighbridgetop.TopBusy", spec := "topBusy", inPlace := ["slices.overlaps[weighbridge/api.Buf]"], unfollowed := true, recurses := true, apart := false, narrowed := true }
def TopBusyUptoSaid : Prop := topBusyUptoRow.holds Try.pinned (OpenSpec.upto topBusySpec)

/-- 'weighbridgetop.TopSync', WHERE WHAT IT READS IS OF BULK AT MOST 1048576: true; the input reads as it did. -/
def topSyncUptoRow : OpenClaim := { program := "ytojmnfelecnenaa", sum := "76450d287cac32376f862bfcb65fd16f821cb70e70698ec643c7bbc3f3f470cc", func := "weighbridge/weighbridgetop.TopSync", spec := "topSync", inPlace := ["slices.overlaps[weighbridge/api.Buf]"], unfollowed := true, recurses := true, apart := false, narrowed := true }
def TopSyncUptoSaid : Prop := topSyncUptoRow.holds Try.pinned (OpenSpec.upto topSyncSpec)

/-- 'weighbridgetop.TopAfter', WHERE WHAT IT READS IS OF BULK AT MOST 1048576: true; the input reads as it did. -/
def topAfterUptoRow : OpenClaim := { program := "ytojmnfelecnenaa", sum := "76450d287cac32376f862bfcb65fd16f821cb70e70698ec643c7bbc3f3f470cc", func := "weighbridge/weighbridgetop.TopAfter", spec := "topAfter", inPlace := ["slices.overlaps[weighbridge/api.Buf]"], unfollowed := true, recurses := true, apart := false, narrowed := true }
def TopAfterUptoSaid : Prop := topAfterUptoRow.holds Try.pinned (OpenSpec.upto topAfterSpec)

/-- 'weighbridgetop.TopEnabled', WHERE WHAT IT READS IS OF BULK AT MOST 1048576: true; the input reads as it did. -/
def topEnabledUptoRow : OpenClaim := { program := "ytojmnfelecnenaa", sum := "76450d287cac32376f862bfcb65fd16f821cb70e70698ec643c7bbc3f3f470cc", func := "weighbridge/weighbridgetop.TopEnabled", spec := "topEnabled", inPlace := ["slices.overlaps[weighbridge/api.Buf]"], unfollowed := true, recurses := true, apart := false, narrowed := true }
def TopEnabledUptoSaid : Prop := topEnabledUptoRow.holds Try.pinned (OpenSpec.upto topEnabledSpec)

/-- 'weighbridgetop.TopSoft', WHERE WHAT IT READS IS OF BULK AT MOST 1048576: true; the input reads as it did. -/
def topSoftUptoRow : OpenClaim := { program := "ytojmnfelecnenaa", sum := "76450d287cac32376f862bfcb65fd16f821cb70e70698ec643c7bbc3f3f470cc", func := "weighbridge/weighbridgetop.TopSoft", spec := "topSoft", inPlace := ["slices.overlaps[weighbridge/api.Buf]"], unfollowed := true, recurses := true, apart := false, narrowed := true }
def TopSoftUptoSaid : Prop := topSoftUptoRow.holds Try.pinned (OpenSpec.upto topSoftSpec)

/-- 'weighbridgetop.TopGoesOn', WHERE WHAT IT READS IS OF BULK AT MOST 1048576: true; the input reads as it did. -/
def topGoesOnUptoRow : OpenClaim := { program := "ytojmnfelecnenaa", sum := "76450d287cac32376f862bfcb65fd16f821cb70e70698ec643c7bbc3f3f470cc", func := "weighbridge/weighbridgetop.TopGoesOn", spec := "topGoesOn", inPlace := ["slices.overlaps[weighbridge/api.Buf]"], unfollowed := true, recurses := true, apart := false, narrowed := true }
def TopGoesOnUptoSaid : Prop := topGoesOnUptoRow.holds Try.pinned (OpenSpec.upto topGoesOnSpec)

/-- 'weighbridgetop.TopIdle', WHERE WHAT IT READS IS OF BULK AT MOST 1048576: true; the input reads as it did. -/
def topIdleUptoRow : OpenClaim := { program := "ytojmnfelecnenaa", sum := "76450d287cac32376f862bfcb65fd16f821cb70e70698ec643c7bbc3f3f470cc", func := "weighbridge/weighbridgetop.TopIdle", spec := "topIdle", inPlace := ["slices.overlaps[weighbridge/api.Buf]"], unfollowed := true, recurses := true, apart := false, narrowed := true }
def TopIdleUptoSaid : Prop := topIdleUptoRow.holds Try.pinned (OpenSpec.upto topIdleSpec)

end Rows
end Go.Proofs.Ytojmnfelecnenaa
