/-
  No cell of these rows narrows 'for every input' (looked for: loops, veiled, ifaces, maps, wideKeys, modest, calm, conditions, laid).
  DERIVED. THE GIVEN ROWS OF THIS SEAT. 10 by the template 'for every input the law returns true; each argument reads behind the call as it read before'; 0 by the template 'total and deterministic' (their statements: YtdhiepcglnbkbaaTotals.lean).
  GIVEN WITH THE SEED: the statements are not yours to turn. If you find one false, say at which input.
  Laid BY PROGRAM, IN A SANDBOX (cutbox-rows.mjs): the forced cells as the released guide's own fill.sh prints them over the translation a7d15aaf85dfc923… (all of the seat's roots in one cut). By AI agents, Wed Nov 11 2026. No macro, syntax, notation, axiom, sorry.
-/
import Derived.Test.YtdhiepcglnbkbaaChecked
import GoSem.Claim
import GoSem.ClaimJoined
import GoSem.ClaimMapViews
import Derived.JoinedTies
import Derived.KernelRfl
namespace Go.Proofs.Ytdhiepcglnbkbaa
/- THE CELL 'sum', in the pinned program and in every row, IS THE sha256 OF THE DUMP (.gsa) THAT YtdhiepcglnbkbaaProg.lean LOADS. Nothing in Lean hashes anything: it is a label: what it is worth is what the hold of that sum in a sandbox is worth. -/
noncomputable def Try.pinned : Pinned := { name := "ytdhiepcglnbkbaa", sum := "a7d15aaf85dfc9235818ad02d45148c29d8daec256dae4b8677653497fa85896", checked := Try.checked }
namespace Rows
def none {H : Type} : Left H := { results := [], args := [] }

/-- 'weighbridgelaw.DeviceSays': WHATEVER THE INPUT: true; the input reads as it did. -/
def deviceSaysSpec : ChangeSpec := { name := "deviceSays", fn := fun _ => fun
  | [d] => { results := [.lit (.bool true)], args := [d] }
  | _ => none }
def deviceSaysRow : OpenClaim := { program := "ytdhiepcglnbkbaa", sum := "a7d15aaf85dfc9235818ad02d45148c29d8daec256dae4b8677653497fa85896", func := "weighbridge/weighbridgelaw.DeviceSays", spec := "deviceSays", apart := false }
def DeviceSaysSaid : Prop := deviceSaysRow.holds Try.pinned (OpenSpec.ofChange deviceSaysSpec)

/-- ITS FALSE NEIGHBOUR: 'it returns false'. Refute it at one input. -/
def deviceSaysWrong : ChangeSpec := { name := "deviceSays", fn := fun _ => fun
  | [d] => { results := [.lit (.bool false)], args := [d] }
  | _ => none }
def DeviceSaysWrongFalsely : Prop := deviceSaysRow.holds Try.pinned (OpenSpec.ofChange deviceSaysWrong)

/-- 'weighbridgelaw.DriverSays': WHATEVER THE INPUT: true; the input reads as it did. -/
def driverSaysSpec : ChangeSpec := { name := "driverSays", fn := fun _ => fun
  | [d] => { results := [.lit (.bool true)], args := [d] }
  | _ => none }
def driverSaysRow : OpenClaim := { program := "ytdhiepcglnbkbaa", sum := "a7d15aaf85dfc9235818ad02d45148c29d8daec256dae4b8677653497fa85896", func := "weighbridge/weighbridgelaw.DriverSays", spec := "driverSays", apart := false }
def DriverSaysSaid : Prop := driverSaysRow.holds Try.pinned (OpenSpec.ofChange driverSaysSpec)

/-- ITS FALSE NEIGHBOUR: 'it returns false'. Refute it at one input. -/
def driverSaysWrong : ChangeSpec := { name := "driverSays", fn := fun _ => fun
  | [d] => { results := [.lit (.bool false)], args := [d] }
  | _ => none }
def DriverSaysWrongFalsely : Prop := driverSaysRow.holds Try.pinned (OpenSpec.ofChange driverSaysWrong)

/-- 'weighbridgelaw.CacheSays': WHATEVER THE INPUT: true; the input reads as it did. -/
def cacheSaysSpec : ChangeSpec := { name := "cacheSays", fn := fun _ => fun
  | [d1, d2, d3, d4] => { results := [.lit (.bool true)], args := [d1, d2, d3, d4] }
  | _ => none }
def cacheSaysRow : OpenClaim := { program := "ytdhiepcglnbkbaa", sum := "a7d15aaf85dfc9235818ad02d45148c29d8daec256dae4b8677653497fa85896", func := "weighbridge/weighbridgelaw.CacheSays", spec := "cacheSays", inPlace := ["slices.overlaps[weighbridge/api.Buf]"], unfollowed := true, recurses := true, apart := false }
def CacheSaysSaid : Prop := cacheSaysRow.holds Try.pinned (OpenSpec.ofChange cacheSaysSpec)

/-- ITS FALSE NEIGHBOUR: 'it returns false'. Refute it at one input. -/
def cacheSaysWrong : ChangeSpec := { name := "cacheSays", fn := fun _ => fun
  | [d1, d2, d3, d4] => { results := [.lit (.bool false)], args := [d1, d2, d3, d4] }
  | _ => none }
def CacheSaysWrongFalsely : Prop := cacheSaysRow.holds Try.pinned (OpenSpec.ofChange cacheSaysWrong)

/-- 'weighbridgetop.TopEnds': WHATEVER THE INPUT: true; the input reads as it did. -/
def topEndsSpec : ChangeSpec := { name := "topEnds", fn := fun _ => fun
  | [d1, d2] => { results := [.lit (.bool true)], args := [d1, d2] }
  | _ => none }
def topEndsRow : OpenClaim := { program := "ytdhiepcglnbkbaa", sum := "a7d15aaf85dfc9235818ad02d45148c29d8daec256dae4b8677653497fa85896", func := "weighbridge/weighbridgetop.TopEnds", spec := "topEnds", unfollowed := true, recurses := true, apart := false }
def TopEndsSaid : Prop := topEndsRow.holds Try.pinned (OpenSpec.ofChange topEndsSpec)

/-- ITS FALSE NEIGHBOUR: 'it returns false'. Refute it at one input. -/
def topEndsWrong : ChangeSpec := { name := "topEnds", fn := fun _ => fun
  | [d1, d2] => { results := [.lit (.bool false)], args := [d1, d2] }
  | _ => none }
def TopEndsWrongFalsely : Prop := topEndsRow.holds Try.pinned (OpenSpec.ofChange topEndsWrong)

/-- 'weighbridgetop.TopPart': WHATEVER THE INPUT: true; the input reads as it did. -/
def topPartSpec : ChangeSpec := { name := "topPart", fn := fun _ => fun
  | [d1, d2] => { results := [.lit (.bool true)], args := [d1, d2] }
  | _ => none }
def topPartRow : OpenClaim := { program := "ytdhiepcglnbkbaa", sum := "a7d15aaf85dfc9235818ad02d45148c29d8daec256dae4b8677653497fa85896", func := "weighbridge/weighbridgetop.TopPart", spec := "topPart", unfollowed := true, recurses := true, apart := false }
def TopPartSaid : Prop := topPartRow.holds Try.pinned (OpenSpec.ofChange topPartSpec)

/-- ITS FALSE NEIGHBOUR: 'it returns false'. Refute it at one input. -/
def topPartWrong : ChangeSpec := { name := "topPart", fn := fun _ => fun
  | [d1, d2] => { results := [.lit (.bool false)], args := [d1, d2] }
  | _ => none }
def TopPartWrongFalsely : Prop := topPartRow.holds Try.pinned (OpenSpec.ofChange topPartWrong)

/-- 'weighbridgetop.TopDevice': WHATEVER THE INPUT: true; the input reads as it did. -/
def topDeviceSpec : ChangeSpec := { name := "topDevice", fn := fun _ => fun
  | [d1, d2, d3] => { results := [.lit (.bool true)], args := [d1, d2, d3] }
  | _ => none }
def topDeviceRow : OpenClaim := { program := "ytdhiepcglnbkbaa", sum := "a7d15aaf85dfc9235818ad02d45148c29d8daec256dae4b8677653497fa85896", func := "weighbridge/weighbridgetop.TopDevice", spec := "topDevice", unfollowed := true, recurses := true, apart := false }
def TopDeviceSaid : Prop := topDeviceRow.holds Try.pinned (OpenSpec.ofChange topDeviceSpec)

/-- ITS FALSE NEIGHBOUR: 'it returns false'. Refute it at one input. -/
def topDeviceWrong : ChangeSpec := { name := "topDevice", fn := fun _ => fun
  | [d1, d2, d3] => { results := [.lit (.bool false)], args := [d1, d2, d3] }
  | _ => none }
def TopDeviceWrongFalsely : Prop := topDeviceRow.holds Try.pinned (OpenSpec.ofChange topDeviceWrong)

/-- 'weighbridgetop.TopTries': WHATEVER THE INPUT: true; the input reads as it did. -/
def topTriesSpec : ChangeSpec := { name := "topTries", fn := fun _ => fun
  | [d1, d2] => { results := [.lit (.bool true)], args := [d1, d2] }
  | _ => none }
def topTriesRow : OpenClaim := { program := "ytdhiepcglnbkbaa", sum := "a7d15aaf85dfc9235818ad02d45148c29d8daec256dae4b8677653497fa85896", func := "weighbridge/weighbridgetop.TopTries", spec := "topTries", unfollowed := true, recurses := true, apart := false }
def TopTriesSaid : Prop := topTriesRow.holds Try.pinned (OpenSpec.ofChange topTriesSpec)

/-- ITS FALSE NEIGHBOUR: 'it returns false'. Refute it at one input. -/
def topTriesWrong : ChangeSpec := { name := "topTries", fn := fun _ => fun
  | [d1, d2] => { results := [.lit (.bool false)], args := [d1, d2] }
  | _ => none }
def TopTriesWrongFalsely : Prop := topTriesRow.holds Try.pinned (OpenSpec.ofChange topTriesWrong)

/-- 'weighbridgetop.TopCache': WHATEVER THE INPUT: true; the input reads as it did. -/
def topCacheSpec : ChangeSpec := { name := "topCache", fn := fun _ => fun
  | [d1, d2, d3] => { results := [.lit (.bool true)], args := [d1, d2, d3] }
  | _ => none }
def topCacheRow : OpenClaim := { program := "ytdhiepcglnbkbaa", sum := "a7d15aaf85dfc9235818ad02d45148c29d8daec256dae4b8677653497fa85896", func := "weighbridge/weighbridgetop.TopCache", spec := "topCache", inPlace := ["slices.overlaps[weighbridge/api.Buf]"], unfollowed := true, recurses := true, apart := false }
def TopCacheSaid : Prop := topCacheRow.holds Try.pinned (OpenSpec.ofChange topCacheSpec)

/-- ITS FALSE NEIGHBOUR: 'it returns false'. Refute it at one input. -/
def topCacheWrong : ChangeSpec := { name := "topCache", fn := fun _ => fun
  | [d1, d2, d3] => { results := [.lit (.bool false)], args := [d1, d2, d3] }
  | _ => none }
def TopCacheWrongFalsely : Prop := topCacheRow.holds Try.pinned (OpenSpec.ofChange topCacheWrong)

/-- 'weighbridgetop.TopLately': WHATEVER THE INPUT: true; the input reads as it did. -/
def topLatelySpec : ChangeSpec := { name := "topLately", fn := fun _ => fun
  | [d1, d2] => { results := [.lit (.bool true)], args := [d1, d2] }
  | _ => none }
def topLatelyRow : OpenClaim := { program := "ytdhiepcglnbkbaa", sum := "a7d15aaf85dfc9235818ad02d45148c29d8daec256dae4b8677653497fa85896", func := "weighbridge/weighbridgetop.TopLately", spec := "topLately", inPlace := ["slices.overlaps[weighbridge/api.Buf]"], unfollowed := true, recurses := true, apart := false }
def TopLatelySaid : Prop := topLatelyRow.holds Try.pinned (OpenSpec.ofChange topLatelySpec)

/-- ITS FALSE NEIGHBOUR: 'it returns false'. Refute it at one input. -/
def topLatelyWrong : ChangeSpec := { name := "topLately", fn := fun _ => fun
  | [d1, d2] => { results := [.lit (.bool false)], args := [d1, d2] }
  | _ => none }
def TopLatelyWrongFalsely : Prop := topLatelyRow.holds Try.pinned (OpenSpec.ofChange topLatelyWrong)

/-- 'weighbridgetop.TopClean': WHATEVER THE INPUT: true; the input reads as it did. -/
def topCleanSpec : ChangeSpec := { name := "topClean", fn := fun _ => fun
  | [d1, d2, d3, d4] => { results := [.lit (.bool true)], args := [d1, d2, d3, d4] }
  | _ => none }
def topCleanRow : OpenClaim := { program := "ytdhiepcglnbkbaa", sum := "a7d15aaf85dfc9235818ad02d45148c29d8daec256dae4b8677653497fa85896", func := "weighbridge/weighbridgetop.TopClean", spec := "topClean", unfollowed := true, recurses := true, apart := false }
def TopCleanSaid : Prop := topCleanRow.holds Try.pinned (OpenSpec.ofChange topCleanSpec)

/-- ITS FALSE NEIGHBOUR: 'it returns false'. Refute it at one input. -/
def topCleanWrong : ChangeSpec := { name := "topClean", fn := fun _ => fun
  | [d1, d2, d3, d4] => { results := [.lit (.bool false)], args := [d1, d2, d3, d4] }
  | _ => none }
def TopCleanWrongFalsely : Prop := topCleanRow.holds Try.pinned (OpenSpec.ofChange topCleanWrong)

/- THE SECOND FORM. 'bulk': how many values and letters a reading holds, each counted each time it is reached (what is shared counts as often as it is met; a slice's spare places count too). A statement '..UptoSaid' is the law's where the arguments, and the package variables that the reading takes, are together of bulk at most 1048576: NARROWER than '..Said'. Prove '..Said' where nothing that the law and all that it calls make is longer than what came in: it says more and counts as full. Else prove '..UptoSaid'. A law counts once. -/
mutual
def uptoBulk {H : Type} : DataW H → Nat
  | .lit (.string bytes) => bytes.length + 1
  | .lit _ => 1
  | .nil => 1
  | .ptr d => uptoBulk d + 1
  | .slice elems spare => uptoBulkAll elems + uptoBulkAll spare + 1
  | .agg parts => uptoBulkAll parts + 1
  | .iface _ d => uptoBulk d + 1
  | .map entries => uptoBulkEntries entries + 1
  | .held _ => 1
def uptoBulkAll {H : Type} : List (DataW H) → Nat
  | [] => 0
  | d :: r => uptoBulk d + uptoBulkAll r
def uptoBulkEntries {H : Type} : List (Lit × DataW H) → Nat
  | [] => 0
  | x :: r => uptoBulkEntry x + uptoBulkEntries r
def uptoBulkEntry {H : Type} : Lit × DataW H → Nat
  | (.string bytes, d) => bytes.length + uptoBulk d + 1
  | (_, d) => uptoBulk d + 1
 end
def uptoSmall : (H : Type) → List (DataW H) → Bool := fun _ ds => decide (uptoBulkAll ds ≤ 1048576)
def OpenSpec.upto (s : _root_.Go.ChangeSpec) : _root_.Go.OpenSpec := { _root_.Go.OpenSpec.ofChange s with cond := some uptoSmall }

/-- 'weighbridgelaw.DeviceSays', WHERE WHAT IT READS IS OF BULK AT MOST 1048576: true; the input reads as it did. -/
def deviceSaysUptoRow : OpenClaim := { program := "ytdhiepcglnbkbaa", sum := "a7d15aaf85dfc9235818ad02d45148c29d8daec256dae4b8677653497fa85896", func := "weighbridge/weighbridgelaw.DeviceSays", spec := "deviceSays", apart := false, narrowed := true }
def DeviceSaysUptoSaid : Prop := deviceSaysUptoRow.holds Try.pinned (OpenSpec.upto deviceSaysSpec)

/-- 'weighbridgelaw.DriverSays', WHERE WHAT IT READS IS OF BULK AT MOST 1048576: true; the input reads as it did. -/
def driverSaysUptoRow : OpenClaim := { program := "ytdhiepcglnbkbaa", sum := "a7d15aaf85dfc9235818ad02d45148c29d8daec256dae4b8677653497fa85896", func := "weighbridge/weighbridgelaw.DriverSays", spec := "driverSays", apart := false, narrowed := true }
def DriverSaysUptoSaid : Prop := driverSaysUptoRow.holds Try.pinned (OpenSpec.upto driverSaysSpec)

/-- 'weighbridgelaw.CacheSays', WHERE WHAT IT READS IS OF BULK AT MOST 1048576: true; the input reads as it did. -/
def cacheSaysUptoRow : OpenClaim := { program := "ytdhiepcglnbkbaa", sum := "a7d15aaf85dfc9235818ad02d45148c29d8daec256dae4b8677653497fa85896", func := "weighbridge/weighbridgelaw.CacheSays", spec := "cacheSays", inPlace := ["slices.overlaps[weighbridge/api.Buf]"], unfollowed := true, recurses := true, apart := false, narrowed := true }
def CacheSaysUptoSaid : Prop := cacheSaysUptoRow.holds Try.pinned (OpenSpec.upto cacheSaysSpec)

/-- 'weighbridgetop.TopEnds', WHERE WHAT IT READS IS OF BULK AT MOST 1048576: true; the input reads as it did. -/
def topEndsUptoRow : OpenClaim := { program := "ytdhiepcglnbkbaa", sum := "a7d15aaf85dfc9235818ad02d45148c29d8daec256dae4b8677653497fa85896", func := "weighbridge/weighbridgetop.TopEnds", spec := "topEnds", unfollowed := true, recurses := true, apart := false, narrowed := true }
def TopEndsUptoSaid : Prop := topEndsUptoRow.holds Try.pinned (OpenSpec.upto topEndsSpec)

/-- 'weighbridgetop.TopPart', WHERE WHAT IT READS IS OF BULK AT MOST 1048576: true; the input reads as it did. -/
def topPartUptoRow : OpenClaim := { program := "ytdhiepcglnbkbaa", sum := "a7d15aaf85dfc9235818ad02d45148c29d8daec256dae4b8677653497fa85896", func := "weighbridge/weighbridgetop.TopPart", spec := "topPart", unfollowed := true, recurses := true, apart := false, narrowed := true }
def TopPartUptoSaid : Prop := topPartUptoRow.holds Try.pinned (OpenSpec.upto topPartSpec)

/-- 'weighbridgetop.TopDevice', WHERE WHAT IT READS IS OF BULK AT MOST 1048576: true; the input reads as it did. -/
def topDeviceUptoRow : OpenClaim := { program := "ytdhiepcglnbkbaa", sum := "a7d15aaf85dfc9235818ad02d45148c29d8daec256dae4b8677653497fa85896", func := "weighbridge/weighbridgetop.TopDevice", spec := "topDevice", unfollowed := true, recurses := true, apart := false, narrowed := true }
def TopDeviceUptoSaid : Prop := topDeviceUptoRow.holds Try.pinned (OpenSpec.upto topDeviceSpec)

/-- 'weighbridgetop.TopTries', WHERE WHAT IT READS IS OF BULK AT MOST 1048576: true; the input reads as it did. -/
def topTriesUptoRow : OpenClaim := { program := "ytdhiepcglnbkbaa", sum := "a7d15aaf85dfc9235818ad02d45148c29d8daec256dae4b8677653497fa85896", func := "weighbridge/weighbridgetop.TopTries", spec := "topTries", unfollowed := true, recurses := true, apart := false, narrowed := true }
def TopTriesUptoSaid : Prop := topTriesUptoRow.holds Try.pinned (OpenSpec.upto topTriesSpec)

/-- 'weighbridgetop.TopCache', WHERE WHAT IT READS IS OF BULK AT MOST 1048576: true; the input reads as it did. -/
def topCacheUptoRow : OpenClaim := { program := "ytdhiepcglnbkbaa", sum := "a7d15aaf85dfc9235818ad02d45148c29d8daec256dae4b8677653497fa85896", func := "weighbridge/weighbridgetop.TopCache", spec := "topCache", inPlace := ["slices.overlaps[weighbridge/api.Buf]"], unfollowed := true, recurses := true, apart := false, narrowed := true }
def TopCacheUptoSaid : Prop := topCacheUptoRow.holds Try.pinned (OpenSpec.upto topCacheSpec)

/-- 'weighbridgetop.TopLately', WHERE WHAT IT READS IS OF BULK AT MOST 1048576: true; the input reads as it did. -/
def topLatelyUptoRow : OpenClaim := { program := "ytdhiepcglnbkbaa", sum := "a7d15aaf85dfc9235818ad02d45148c29d8daec256dae4b8677653497fa85896", func := "weighbridge/weighbridgetop.TopLately", spec := "topLately", inPlace := ["slices.overlaps[weighbridge/api.Buf]"], unfollowed := true, recurses := true, apart := false, narrowed := true }
def TopLatelyUptoSaid : Prop := topLatelyUptoRow.holds Try.pinned (OpenSpec.upto topLatelySpec)

/-- 'weighbridgetop.TopClean', WHERE WHAT IT READS IS OF BULK AT MOST 1048576: true; the input reads as it did. -/
def topCleanUptoRow : OpenClaim := { program := "ytdhiepcglnbkbaa", sum := "a7d15aaf85dfc9235818ad02d45148c29d8daec256dae4b8677653497fa85896", func := "weighbridge/weighbridgetop.TopClean", spec := "topClean", unfollowed := true, recurses := true, apart := false, narrowed := true }
def TopCleanUptoSaid : Prop := topCleanUptoRow.holds Try.pinned (OpenSpec.upto topCleanSpec)

end Rows
end Go.Proofs.Ytdhiepcglnbkbaa
