/-
  No cell of these rows narrows 'for every input' (looked for: loops, veiled, ifaces, maps, wideKeys, modest, calm, conditions, laid).
  DERIVED. THE GIVEN ROWS OF THIS SEAT. 11 by the template 'for every input the law returns true; each argument reads behind the call as it read before'; 0 by the template 'total and deterministic' (their statements: YtmioakocnebceaaGreatTotals.lean).
  GIVEN WITH THE SEED: the statements are not yours to turn. If you find one false, say at which input.
  Laid BY PROGRAM, IN A SANDBOX (cutbox-rows.mjs): the forced cells as the released guide's own fill.sh prints them over the translation ff66c5523e456c62… (all of the seat's roots in one cut). By AI agents, Wed Nov 11 2026. No macro, syntax, notation, axiom, sorry.
-/
import Derived.Test.YtmioakocnebceaaGreatChecked
import GoSem.Claim
import GoSem.ClaimJoined
import GoSem.ClaimMapViews
import Derived.JoinedTies
import Derived.KernelRfl
namespace Go.Proofs.YtmioakocnebceaaGreat
/- THE CELL 'sum', in the pinned program and in every row, IS THE sha256 OF THE DUMP (.gsa) THAT YtmioakocnebceaaGreatProg.lean LOADS. Nothing in Lean hashes anything: it is a label: what it is worth is what the hold of that sum in a sandbox is worth. -/
noncomputable def Tryz.pinned : Pinned := { name := "ytmioakocnebceaagreat", sum := "ff66c5523e456c62318f7e42a203e928a023d2acab46445ee33b266ea8b5697d", checked := Tryz.checked }
namespace Rows
def none {H : Type} : Left H := { results := [], args := [] }

/-- 'tholepinlaw34.SegmentReads': WHATEVER THE INPUT: true; the input reads as it did. -/
def segmentReadsSpec : ChangeSpec := { name := "segmentReads", fn := fun _ => fun
  | [d] => { results := [.lit (.bool true)], args := [d] }
  | _ => none }
def segmentReadsRow : OpenClaim := { program := "ytmioakocnebceaagreat", sum := "ff66c5523e456c62318f7e42a203e928a023d2acab46445ee33b266ea8b5697d", func := "tholepin/tholepinlaw34.SegmentReads", spec := "segmentReads", unfollowed := true, recurses := true, apart := false }
def SegmentReadsSaid : Prop := segmentReadsRow.holds Tryz.pinned (OpenSpec.ofChange segmentReadsSpec)

/-- ITS FALSE NEIGHBOUR: 'it returns false'. Refute it at one input. -/
def segmentReadsWrong : ChangeSpec := { name := "segmentReads", fn := fun _ => fun
  | [d] => { results := [.lit (.bool false)], args := [d] }
  | _ => none }
def SegmentReadsWrongFalsely : Prop := segmentReadsRow.holds Tryz.pinned (OpenSpec.ofChange segmentReadsWrong)

/-- 'tholepinlaw39.FeedEvents': WHATEVER THE INPUT: true; the input reads as it did. -/
def feedEventsSpec : ChangeSpec := { name := "feedEvents", fn := fun _ => fun
  | [d] => { results := [.lit (.bool true)], args := [d] }
  | _ => none }
def feedEventsRow : OpenClaim := { program := "ytmioakocnebceaagreat", sum := "ff66c5523e456c62318f7e42a203e928a023d2acab46445ee33b266ea8b5697d", func := "tholepin/tholepinlaw39.FeedEvents", spec := "feedEvents", unfollowed := true, recurses := true, apart := false }
def FeedEventsSaid : Prop := feedEventsRow.holds Tryz.pinned (OpenSpec.ofChange feedEventsSpec)

/-- ITS FALSE NEIGHBOUR: 'it returns false'. Refute it at one input. -/
def feedEventsWrong : ChangeSpec := { name := "feedEvents", fn := fun _ => fun
  | [d] => { results := [.lit (.bool false)], args := [d] }
  | _ => none }
def FeedEventsWrongFalsely : Prop := feedEventsRow.holds Tryz.pinned (OpenSpec.ofChange feedEventsWrong)

/-- 'tholepinlaw39.FeedPieces': WHATEVER THE INPUT: true; the input reads as it did. -/
def feedPiecesSpec : ChangeSpec := { name := "feedPieces", fn := fun _ => fun
  | [d1, d2] => { results := [.lit (.bool true)], args := [d1, d2] }
  | _ => none }
def feedPiecesRow : OpenClaim := { program := "ytmioakocnebceaagreat", sum := "ff66c5523e456c62318f7e42a203e928a023d2acab46445ee33b266ea8b5697d", func := "tholepin/tholepinlaw39.FeedPieces", spec := "feedPieces", unfollowed := true, recurses := true, apart := false }
def FeedPiecesSaid : Prop := feedPiecesRow.holds Tryz.pinned (OpenSpec.ofChange feedPiecesSpec)

/-- ITS FALSE NEIGHBOUR: 'it returns false'. Refute it at one input. -/
def feedPiecesWrong : ChangeSpec := { name := "feedPieces", fn := fun _ => fun
  | [d1, d2] => { results := [.lit (.bool false)], args := [d1, d2] }
  | _ => none }
def FeedPiecesWrongFalsely : Prop := feedPiecesRow.holds Tryz.pinned (OpenSpec.ofChange feedPiecesWrong)

/-- 'tholepinlaw36.UpgradeReads': WHATEVER THE INPUT: true; the input reads as it did. -/
def upgradeReadsSpec : ChangeSpec := { name := "upgradeReads", fn := fun _ => fun
  | [d] => { results := [.lit (.bool true)], args := [d] }
  | _ => none }
def upgradeReadsRow : OpenClaim := { program := "ytmioakocnebceaagreat", sum := "ff66c5523e456c62318f7e42a203e928a023d2acab46445ee33b266ea8b5697d", func := "tholepin/tholepinlaw36.UpgradeReads", spec := "upgradeReads", unfollowed := true, recurses := true, apart := false }
def UpgradeReadsSaid : Prop := upgradeReadsRow.holds Tryz.pinned (OpenSpec.ofChange upgradeReadsSpec)

/-- ITS FALSE NEIGHBOUR: 'it returns false'. Refute it at one input. -/
def upgradeReadsWrong : ChangeSpec := { name := "upgradeReads", fn := fun _ => fun
  | [d] => { results := [.lit (.bool false)], args := [d] }
  | _ => none }
def UpgradeReadsWrongFalsely : Prop := upgradeReadsRow.holds Tryz.pinned (OpenSpec.ofChange upgradeReadsWrong)

/-- 'tholepinlaw36.UpgradeMigrates': WHATEVER THE INPUT: true; the input reads as it did. -/
def upgradeMigratesSpec : ChangeSpec := { name := "upgradeMigrates", fn := fun _ => fun
  | [d1, d2] => { results := [.lit (.bool true)], args := [d1, d2] }
  | _ => none }
def upgradeMigratesRow : OpenClaim := { program := "ytmioakocnebceaagreat", sum := "ff66c5523e456c62318f7e42a203e928a023d2acab46445ee33b266ea8b5697d", func := "tholepin/tholepinlaw36.UpgradeMigrates", spec := "upgradeMigrates", unfollowed := true, recurses := true, apart := false }
def UpgradeMigratesSaid : Prop := upgradeMigratesRow.holds Tryz.pinned (OpenSpec.ofChange upgradeMigratesSpec)

/-- ITS FALSE NEIGHBOUR: 'it returns false'. Refute it at one input. -/
def upgradeMigratesWrong : ChangeSpec := { name := "upgradeMigrates", fn := fun _ => fun
  | [d1, d2] => { results := [.lit (.bool false)], args := [d1, d2] }
  | _ => none }
def UpgradeMigratesWrongFalsely : Prop := upgradeMigratesRow.holds Tryz.pinned (OpenSpec.ofChange upgradeMigratesWrong)

/-- 'tholepinlaw37.LookupFinds': WHATEVER THE INPUT: true; the input reads as it did. -/
def lookupFindsSpec : ChangeSpec := { name := "lookupFinds", fn := fun _ => fun
  | [d1, d2] => { results := [.lit (.bool true)], args := [d1, d2] }
  | _ => none }
def lookupFindsRow : OpenClaim := { program := "ytmioakocnebceaagreat", sum := "ff66c5523e456c62318f7e42a203e928a023d2acab46445ee33b266ea8b5697d", func := "tholepin/tholepinlaw37.LookupFinds", spec := "lookupFinds", unfollowed := true, recurses := true, apart := false }
def LookupFindsSaid : Prop := lookupFindsRow.holds Tryz.pinned (OpenSpec.ofChange lookupFindsSpec)

/-- ITS FALSE NEIGHBOUR: 'it returns false'. Refute it at one input. -/
def lookupFindsWrong : ChangeSpec := { name := "lookupFinds", fn := fun _ => fun
  | [d1, d2] => { results := [.lit (.bool false)], args := [d1, d2] }
  | _ => none }
def LookupFindsWrongFalsely : Prop := lookupFindsRow.holds Tryz.pinned (OpenSpec.ofChange lookupFindsWrong)

/-- 'tholepinlaw37.LookupWhole': WHATEVER THE INPUT: true; the input reads as it did. -/
def lookupWholeSpec : ChangeSpec := { name := "lookupWhole", fn := fun _ => fun
  | [d1, d2] => { results := [.lit (.bool true)], args := [d1, d2] }
  | _ => none }
def lookupWholeRow : OpenClaim := { program := "ytmioakocnebceaagreat", sum := "ff66c5523e456c62318f7e42a203e928a023d2acab46445ee33b266ea8b5697d", func := "tholepin/tholepinlaw37.LookupWhole", spec := "lookupWhole", unfollowed := true, recurses := true, apart := false }
def LookupWholeSaid : Prop := lookupWholeRow.holds Tryz.pinned (OpenSpec.ofChange lookupWholeSpec)

/-- ITS FALSE NEIGHBOUR: 'it returns false'. Refute it at one input. -/
def lookupWholeWrong : ChangeSpec := { name := "lookupWhole", fn := fun _ => fun
  | [d1, d2] => { results := [.lit (.bool false)], args := [d1, d2] }
  | _ => none }
def LookupWholeWrongFalsely : Prop := lookupWholeRow.holds Tryz.pinned (OpenSpec.ofChange lookupWholeWrong)

/-- 'tholepinlaw37.LookupIndex': WHATEVER THE INPUT: true; the input reads as it did. -/
def lookupIndexSpec : ChangeSpec := { name := "lookupIndex", fn := fun _ => fun
  | [d] => { results := [.lit (.bool true)], args := [d] }
  | _ => none }
def lookupIndexRow : OpenClaim := { program := "ytmioakocnebceaagreat", sum := "ff66c5523e456c62318f7e42a203e928a023d2acab46445ee33b266ea8b5697d", func := "tholepin/tholepinlaw37.LookupIndex", spec := "lookupIndex", unfollowed := true, recurses := true, apart := false }
def LookupIndexSaid : Prop := lookupIndexRow.holds Tryz.pinned (OpenSpec.ofChange lookupIndexSpec)

/-- ITS FALSE NEIGHBOUR: 'it returns false'. Refute it at one input. -/
def lookupIndexWrong : ChangeSpec := { name := "lookupIndex", fn := fun _ => fun
  | [d] => { results := [.lit (.bool false)], args := [d] }
  | _ => none }
def LookupIndexWrongFalsely : Prop := lookupIndexRow.holds Tryz.pinned (OpenSpec.ofChange lookupIndexWrong)

/-- 'tholepinlaw37.LookupPart': WHATEVER THE INPUT: true; the input reads as it did. -/
def lookupPartSpec : ChangeSpec := { name := "lookupPart", fn := fun _ => fun
  | [d1, d2, d3] => { results := [.lit (.bool true)], args := [d1, d2, d3] }
  | _ => none }
def lookupPartRow : OpenClaim := { program := "ytmioakocnebceaagreat", sum := "ff66c5523e456c62318f7e42a203e928a023d2acab46445ee33b266ea8b5697d", func := "tholepin/tholepinlaw37.LookupPart", spec := "lookupPart", unfollowed := true, recurses := true, apart := false }
def LookupPartSaid : Prop := lookupPartRow.holds Tryz.pinned (OpenSpec.ofChange lookupPartSpec)

/-- ITS FALSE NEIGHBOUR: 'it returns false'. Refute it at one input. -/
def lookupPartWrong : ChangeSpec := { name := "lookupPart", fn := fun _ => fun
  | [d1, d2, d3] => { results := [.lit (.bool false)], args := [d1, d2, d3] }
  | _ => none }
def LookupPartWrongFalsely : Prop := lookupPartRow.holds Tryz.pinned (OpenSpec.ofChange lookupPartWrong)

/-- 'tholepinlaw37.LookupStreams': WHATEVER THE INPUT: true; the input reads as it did. -/
def lookupStreamsSpec : ChangeSpec := { name := "lookupStreams", fn := fun _ => fun
  | [d1, d2] => { results := [.lit (.bool true)], args := [d1, d2] }
  | _ => none }
def lookupStreamsRow : OpenClaim := { program := "ytmioakocnebceaagreat", sum := "ff66c5523e456c62318f7e42a203e928a023d2acab46445ee33b266ea8b5697d", func := "tholepin/tholepinlaw37.LookupStreams", spec := "lookupStreams", inPlace := ["slices.overlaps[tholepin/api.Link]"], unfollowed := true, recurses := true, apart := false }
def LookupStreamsSaid : Prop := lookupStreamsRow.holds Tryz.pinned (OpenSpec.ofChange lookupStreamsSpec)

/-- ITS FALSE NEIGHBOUR: 'it returns false'. Refute it at one input. -/
def lookupStreamsWrong : ChangeSpec := { name := "lookupStreams", fn := fun _ => fun
  | [d1, d2] => { results := [.lit (.bool false)], args := [d1, d2] }
  | _ => none }
def LookupStreamsWrongFalsely : Prop := lookupStreamsRow.holds Tryz.pinned (OpenSpec.ofChange lookupStreamsWrong)

/-- 'tholepintop.TopUpgrades': WHATEVER THE INPUT: true; the input reads as it did. -/
def topUpgradesSpec : ChangeSpec := { name := "topUpgrades", fn := fun _ => fun
  | [d1, d2] => { results := [.lit (.bool true)], args := [d1, d2] }
  | _ => none }
def topUpgradesRow : OpenClaim := { program := "ytmioakocnebceaagreat", sum := "ff66c5523e456c62318f7e42a203e928a023d2acab46445ee33b266ea8b5697d", func := "tholepin/tholepintop.TopUpgrades", spec := "topUpgrades", unfollowed := true, recurses := true, apart := false }
def TopUpgradesSaid : Prop := topUpgradesRow.holds Tryz.pinned (OpenSpec.ofChange topUpgradesSpec)

/-- ITS FALSE NEIGHBOUR: 'it returns false'. Refute it at one input. -/
def topUpgradesWrong : ChangeSpec := { name := "topUpgrades", fn := fun _ => fun
  | [d1, d2] => { results := [.lit (.bool false)], args := [d1, d2] }
  | _ => none }
def TopUpgradesWrongFalsely : Prop := topUpgradesRow.holds Tryz.pinned (OpenSpec.ofChange topUpgradesWrong)

/- THE SECOND FORM. 'bulk': how many values and letters a reading holds, each counted each time it is reached (what is shared counts as often as it is met; a slice's spare places count too). A statement '..UptoSaid' is the law's where the arguments, and the package variables that the reading takes, are together of bulk at most 1048576: NARROWER than '..Said'. Prove '..Said' where nothing that the law and all that it calls make is longer than what came in: it says more and counts as full. Else prove '..UptoSaid'. A law counts once. -/
mutual
def uptoBulk {H : Type} : DataW H → Nat
  | .lit (.string bytes) => bytes.length + 1
  | .lit _ => 1
  | .nil => 1
  | .ptr d => uptoBulk d + 1
  | .slice elems spare => uptoBulkAll elems + uptoBulkAll spare + 1
  | .agg parts => uptoBulkAll parts + 1
  | .iface _ d => uptoBulk d + 1
  | .map entries => uptoBulkEntries entries + 1
  | .held _ => 1
def uptoBulkAll {H : Type} : List (DataW H) → Nat
  | [] => 0
  | d :: r => uptoBulk d + uptoBulkAll r
def uptoBulkEntries {H : Type} : List (Lit × DataW H) → Nat
  | [] => 0
  | x :: r => uptoBulkEntry x + uptoBulkEntries r
def uptoBulkEntry {H : Type} : Lit × DataW H → Nat
  | (.string bytes, d) => bytes.length + uptoBulk d + 1
  | (_, d) => uptoBulk d + 1
 end
def uptoSmall : (H : Type) → List (DataW H) → Bool := fun _ ds => decide (uptoBulkAll ds ≤ 1048576)
def OpenSpec.upto (s : _root_.Go.ChangeSpec) : _root_.Go.OpenSpec := { _root_.Go.OpenSpec.ofChange s with cond := some uptoSmall }

/-- 'tholepinlaw34.SegmentReads', WHERE WHAT IT READS IS OF BULK AT MOST 1048576: true; the input reads as it did. -/
def segmentReadsUptoRow : OpenClaim := { program := "ytmioakocnebceaagreat", sum := "ff66c5523e456c62318f7e42a203e928a023d2acab46445ee33b266ea8b5697d", func := "tholepin/tholepinlaw34.SegmentReads", spec := "segmentReads", unfollowed := true, recurses := true, apart := false, narrowed := true }
def SegmentReadsUptoSaid : Prop := segmentReadsUptoRow.holds Tryz.pinned (OpenSpec.upto segmentReadsSpec)

/-- 'tholepinlaw39.FeedEvents', WHERE WHAT IT READS IS OF BULK AT MOST 1048576: true; the input reads as it did. -/
def feedEventsUptoRow : OpenClaim := { program := "ytmioakocnebceaagreat", sum := "ff66c5523e456c62318f7e42a203e928a023d2acab46445ee33b266ea8b5697d", func := "tholepin/tholepinlaw39.FeedEvents", spec := "feedEvents", unfollowed := true, recurses := true, apart := false, narrowed := true }
def FeedEventsUptoSaid : Prop := feedEventsUptoRow.holds Tryz.pinned (OpenSpec.upto feedEventsSpec)

/-- 'tholepinlaw39.FeedPieces', WHERE WHAT IT READS IS OF BULK AT MOST 1048576: true; the input reads as it did. -/
def feedPiecesUptoRow : OpenClaim := { program := "ytmioakocnebceaagreat", sum := "ff66c5523e456c62318f7e42a203e928a023d2acab46445ee33b266ea8b5697d", func := "tholepin/tholepinlaw39.FeedPieces", spec := "feedPieces", unfollowed := true, recurses := true, apart := false, narrowed := true }
def FeedPiecesUptoSaid : Prop := feedPiecesUptoRow.holds Tryz.pinned (OpenSpec.upto feedPiecesSpec)

/-- 'tholepinlaw36.UpgradeReads', WHERE WHAT IT READS IS OF BULK AT MOST 1048576: true; the input reads as it did. -/
def upgradeReadsUptoRow : OpenClaim := { program := "ytmioakocnebceaagreat", sum := "ff66c5523e456c62318f7e42a203e928a023d2acab46445ee33b266ea8b5697d", func := "tholepin/tholepinlaw36.UpgradeReads", spec := "upgradeReads", unfollowed := true, recurses := true, apart := false, narrowed := true }
def UpgradeReadsUptoSaid : Prop := upgradeReadsUptoRow.holds Tryz.pinned (OpenSpec.upto upgradeReadsSpec)

/-- 'tholepinlaw36.UpgradeMigrates', WHERE WHAT IT READS IS OF BULK AT MOST 1048576: true; the input reads as it did. -/
def upgradeMigratesUptoRow : OpenClaim := { program := "ytmioakocnebceaagreat", sum := "ff66c5523e456c62318f7e42a203e928a023d2acab46445ee33b266ea8b5697d", func := "tholepin/tholepinlaw36.UpgradeMigrates", spec := "upgradeMigrates", unfollowed := true, recurses := true, apart := false, narrowed := true }
def UpgradeMigratesUptoSaid : Prop := upgradeMigratesUptoRow.holds Tryz.pinned (OpenSpec.upto upgradeMigratesSpec)

/-- 'tholepinlaw37.LookupFinds', WHERE WHAT IT READS IS OF BULK AT MOST 1048576: true; the input reads as it did. -/
def lookupFindsUptoRow : OpenClaim := { program := "ytmioakocnebceaagreat", sum := "ff66c5523e456c62318f7e42a203e928a023d2acab46445ee33b266ea8b5697d", func := "tholepin/tholepinlaw37.LookupFinds", spec := "lookupFinds", unfollowed := true, recurses := true, apart := false, narrowed := true }
def LookupFindsUptoSaid : Prop := lookupFindsUptoRow.holds Tryz.pinned (OpenSpec.upto lookupFindsSpec)

/-- 'tholepinlaw37.LookupWhole', WHERE WHAT IT READS IS OF BULK AT MOST 1048576: true; the input reads as it did. -/
def lookupWholeUptoRow : OpenClaim := { program := "ytmioakocnebceaagreat", sum := "ff66c5523e456c62318f7e42a203e928a023d2acab46445ee33b266ea8b5697d", func := "tholepin/tholepinlaw37.LookupWhole", spec := "lookupWhole", unfollowed := true, recurses := true, apart := false, narrowed := true }
def LookupWholeUptoSaid : Prop := lookupWholeUptoRow.holds Tryz.pinned (OpenSpec.upto lookupWholeSpec)

/-- 'tholepinlaw37.LookupIndex', WHERE WHAT IT READS IS OF BULK AT MOST 1048576: true; the input reads as it did. -/
def lookupIndexUptoRow : OpenClaim := { program := "ytmioakocnebceaagreat", sum := "ff66c5523e456c62318f7e42a203e928a023d2acab46445ee33b266ea8b5697d", func := "tholepin/tholepinlaw37.LookupIndex", spec := "lookupIndex", unfollowed := true, recurses := true, apart := false, narrowed := true }
def LookupIndexUptoSaid : Prop := lookupIndexUptoRow.holds Tryz.pinned (OpenSpec.upto lookupIndexSpec)

/-- 'tholepinlaw37.LookupPart', WHERE WHAT IT READS IS OF BULK AT MOST 1048576: true; the input reads as it did. -/
def lookupPartUptoRow : OpenClaim := { program := "ytmioakocnebceaagreat", sum := "ff66c5523e456c62318f7e42a203e928a023d2acab46445ee33b266ea8b5697d", func := "tholepin/tholepinlaw37.LookupPart", spec := "lookupPart", unfollowed := true, recurses := true, apart := false, narrowed := true }
def LookupPartUptoSaid : Prop := lookupPartUptoRow.holds Tryz.pinned (OpenSpec.upto lookupPartSpec)

/-- 'tholepinlaw37.LookupStreams', WHERE WHAT IT READS IS OF BULK AT MOST 1048576: true; the input reads as it did. -/
def lookupStreamsUptoRow : OpenClaim := { program := "ytmioakocnebceaagreat", sum := "ff66c5523e456c62318f7e42a203e928a023d2acab46445ee33b266ea8b5697d", func := "tholepin/tholepinlaw37.LookupStreams", spec := "lookupStreams", inPlace := ["slices.overlaps[tholepin/api.Link]"], unfollowed := true, recurses := true, apart := false, narrowed := true }
def LookupStreamsUptoSaid : Prop := lookupStreamsUptoRow.holds Tryz.pinned (OpenSpec.upto lookupStreamsSpec)

/-- 'tholepintop.TopUpgrades', WHERE WHAT IT READS IS OF BULK AT MOST 1048576: true; the input reads as it did. -/
def topUpgradesUptoRow : OpenClaim := { program := "ytmioakocnebceaagreat", sum := "ff66c5523e456c62318f7e42a203e928a023d2acab46445ee33b266ea8b5697d", func := "tholepin/tholepintop.TopUpgrades", spec := "topUpgrades", unfollowed := true, recurses := true, apart := false, narrowed := true }
def TopUpgradesUptoSaid : Prop := topUpgradesUptoRow.holds Tryz.pinned (OpenSpec.upto topUpgradesSpec)

end Rows
end Go.Proofs.YtmioakocnebceaaGreat
