/-
  No cell of these rows narrows 'for every input' (looked for: loops, veiled, ifaces, maps, wideKeys, modest, calm, conditions, laid).
  DERIVED. THE GIVEN ROWS OF THIS SEAT. 11 by the template 'for every input the law returns true; each argument reads behind the call as it read before'; 0 by the template 'total and deterministic' (their statements: YtfddhafbhceoaaaGreatTotals.lean).
  GIVEN WITH THE SEED: the statements are not yours to turn. If you find one false, say at which input.
  Laid BY PROGRAM, IN A SANDBOX (cutbox-rows.mjs): the forced cells as the released guide's own fill.sh prints them over the translation 72da1b32f6735e09… (all of the seat's roots in one cut). By AI agents, Wed Nov 11 2026. No macro, syntax, notation, axiom, sorry.
-/
import Derived.Test.YtfddhafbhceoaaaGreatChecked
import GoSem.Claim
import GoSem.ClaimJoined
import GoSem.ClaimMapViews
import Derived.JoinedTies
import Derived.KernelRfl
namespace Go.Proofs.YtfddhafbhceoaaaGreat
/- THE CELL 'sum', in the pinned program and in every row, IS THE sha256 OF THE DUMP (.gsa) THAT YtfddhafbhceoaaaGreatProg.lean LOADS. Nothing in Lean hashes anything: it is a label: what it is worth is what the hold of that sum in a sandbox is worth. -/
noncomputable def Tryz.pinned : Pinned := { name := "ytfddhafbhceoaaagreat", sum := "72da1b32f6735e09a621e23a5096d4aaca12c4d269bc63c868ffc48081d39fdb", checked := Tryz.checked }
namespace Rows
def none {H : Type} : Left H := { results := [], args := [] }

/-- 'tholepinlaw38.PushEvents': WHATEVER THE INPUT: true; the input reads as it did. -/
def pushEventsSpec : ChangeSpec := { name := "pushEvents", fn := fun _ => fun
  | [d] => { results := [.lit (.bool true)], args := [d] }
  | _ => none }
def pushEventsRow : OpenClaim := { program := "ytfddhafbhceoaaagreat", sum := "72da1b32f6735e09a621e23a5096d4aaca12c4d269bc63c868ffc48081d39fdb", func := "tholepin/tholepinlaw38.PushEvents", spec := "pushEvents", unfollowed := true, recurses := true, apart := false }
def PushEventsSaid : Prop := pushEventsRow.holds Tryz.pinned (OpenSpec.ofChange pushEventsSpec)

/-- ITS FALSE NEIGHBOUR: 'it returns false'. Refute it at one input. -/
def pushEventsWrong : ChangeSpec := { name := "pushEvents", fn := fun _ => fun
  | [d] => { results := [.lit (.bool false)], args := [d] }
  | _ => none }
def PushEventsWrongFalsely : Prop := pushEventsRow.holds Tryz.pinned (OpenSpec.ofChange pushEventsWrong)

/-- 'tholepinlaw38.PushItems': WHATEVER THE INPUT: true; the input reads as it did. -/
def pushItemsSpec : ChangeSpec := { name := "pushItems", fn := fun _ => fun
  | [d1, d2] => { results := [.lit (.bool true)], args := [d1, d2] }
  | _ => none }
def pushItemsRow : OpenClaim := { program := "ytfddhafbhceoaaagreat", sum := "72da1b32f6735e09a621e23a5096d4aaca12c4d269bc63c868ffc48081d39fdb", func := "tholepin/tholepinlaw38.PushItems", spec := "pushItems", unfollowed := true, recurses := true, apart := false }
def PushItemsSaid : Prop := pushItemsRow.holds Tryz.pinned (OpenSpec.ofChange pushItemsSpec)

/-- ITS FALSE NEIGHBOUR: 'it returns false'. Refute it at one input. -/
def pushItemsWrong : ChangeSpec := { name := "pushItems", fn := fun _ => fun
  | [d1, d2] => { results := [.lit (.bool false)], args := [d1, d2] }
  | _ => none }
def PushItemsWrongFalsely : Prop := pushItemsRow.holds Tryz.pinned (OpenSpec.ofChange pushItemsWrong)

/-- 'tholepinlaw38.PushPieces': WHATEVER THE INPUT: true; the input reads as it did. -/
def pushPiecesSpec : ChangeSpec := { name := "pushPieces", fn := fun _ => fun
  | [d1, d2] => { results := [.lit (.bool true)], args := [d1, d2] }
  | _ => none }
def pushPiecesRow : OpenClaim := { program := "ytfddhafbhceoaaagreat", sum := "72da1b32f6735e09a621e23a5096d4aaca12c4d269bc63c868ffc48081d39fdb", func := "tholepin/tholepinlaw38.PushPieces", spec := "pushPieces", unfollowed := true, recurses := true, apart := false }
def PushPiecesSaid : Prop := pushPiecesRow.holds Tryz.pinned (OpenSpec.ofChange pushPiecesSpec)

/-- ITS FALSE NEIGHBOUR: 'it returns false'. Refute it at one input. -/
def pushPiecesWrong : ChangeSpec := { name := "pushPieces", fn := fun _ => fun
  | [d1, d2] => { results := [.lit (.bool false)], args := [d1, d2] }
  | _ => none }
def PushPiecesWrongFalsely : Prop := pushPiecesRow.holds Tryz.pinned (OpenSpec.ofChange pushPiecesWrong)

/-- 'tholepinlaw38.PushNone': WHATEVER THE INPUT: true; the input reads as it did. -/
def pushNoneSpec : ChangeSpec := { name := "pushNone", fn := fun _ => fun
  | [d] => { results := [.lit (.bool true)], args := [d] }
  | _ => none }
def pushNoneRow : OpenClaim := { program := "ytfddhafbhceoaaagreat", sum := "72da1b32f6735e09a621e23a5096d4aaca12c4d269bc63c868ffc48081d39fdb", func := "tholepin/tholepinlaw38.PushNone", spec := "pushNone", unfollowed := true, recurses := true, apart := false }
def PushNoneSaid : Prop := pushNoneRow.holds Tryz.pinned (OpenSpec.ofChange pushNoneSpec)

/-- ITS FALSE NEIGHBOUR: 'it returns false'. Refute it at one input. -/
def pushNoneWrong : ChangeSpec := { name := "pushNone", fn := fun _ => fun
  | [d] => { results := [.lit (.bool false)], args := [d] }
  | _ => none }
def PushNoneWrongFalsely : Prop := pushNoneRow.holds Tryz.pinned (OpenSpec.ofChange pushNoneWrong)

/-- 'tholepinlaw34.SegmentReads': WHATEVER THE INPUT: true; the input reads as it did. -/
def segmentReadsSpec : ChangeSpec := { name := "segmentReads", fn := fun _ => fun
  | [d] => { results := [.lit (.bool true)], args := [d] }
  | _ => none }
def segmentReadsRow : OpenClaim := { program := "ytfddhafbhceoaaagreat", sum := "72da1b32f6735e09a621e23a5096d4aaca12c4d269bc63c868ffc48081d39fdb", func := "tholepin/tholepinlaw34.SegmentReads", spec := "segmentReads", unfollowed := true, recurses := true, apart := false }
def SegmentReadsSaid : Prop := segmentReadsRow.holds Tryz.pinned (OpenSpec.ofChange segmentReadsSpec)

/-- ITS FALSE NEIGHBOUR: 'it returns false'. Refute it at one input. -/
def segmentReadsWrong : ChangeSpec := { name := "segmentReads", fn := fun _ => fun
  | [d] => { results := [.lit (.bool false)], args := [d] }
  | _ => none }
def SegmentReadsWrongFalsely : Prop := segmentReadsRow.holds Tryz.pinned (OpenSpec.ofChange segmentReadsWrong)

/-- 'tholepinlaw34.SegmentBack': WHATEVER THE INPUT: true; the input reads as it did. -/
def segmentBackSpec : ChangeSpec := { name := "segmentBack", fn := fun _ => fun
  | [d1, d2, d3] => { results := [.lit (.bool true)], args := [d1, d2, d3] }
  | _ => none }
def segmentBackRow : OpenClaim := { program := "ytfddhafbhceoaaagreat", sum := "72da1b32f6735e09a621e23a5096d4aaca12c4d269bc63c868ffc48081d39fdb", func := "tholepin/tholepinlaw34.SegmentBack", spec := "segmentBack", unfollowed := true, recurses := true, apart := false }
def SegmentBackSaid : Prop := segmentBackRow.holds Tryz.pinned (OpenSpec.ofChange segmentBackSpec)

/-- ITS FALSE NEIGHBOUR: 'it returns false'. Refute it at one input. -/
def segmentBackWrong : ChangeSpec := { name := "segmentBack", fn := fun _ => fun
  | [d1, d2, d3] => { results := [.lit (.bool false)], args := [d1, d2, d3] }
  | _ => none }
def SegmentBackWrongFalsely : Prop := segmentBackRow.holds Tryz.pinned (OpenSpec.ofChange segmentBackWrong)

/-- 'tholepinlaw34.SegmentOnce': WHATEVER THE INPUT: true; the input reads as it did. -/
def segmentOnceSpec : ChangeSpec := { name := "segmentOnce", fn := fun _ => fun
  | [d] => { results := [.lit (.bool true)], args := [d] }
  | _ => none }
def segmentOnceRow : OpenClaim := { program := "ytfddhafbhceoaaagreat", sum := "72da1b32f6735e09a621e23a5096d4aaca12c4d269bc63c868ffc48081d39fdb", func := "tholepin/tholepinlaw34.SegmentOnce", spec := "segmentOnce", unfollowed := true, recurses := true, apart := false }
def SegmentOnceSaid : Prop := segmentOnceRow.holds Tryz.pinned (OpenSpec.ofChange segmentOnceSpec)

/-- ITS FALSE NEIGHBOUR: 'it returns false'. Refute it at one input. -/
def segmentOnceWrong : ChangeSpec := { name := "segmentOnce", fn := fun _ => fun
  | [d] => { results := [.lit (.bool false)], args := [d] }
  | _ => none }
def SegmentOnceWrongFalsely : Prop := segmentOnceRow.holds Tryz.pinned (OpenSpec.ofChange segmentOnceWrong)

/-- 'tholepinlaw39.FeedEvents': WHATEVER THE INPUT: true; the input reads as it did. -/
def feedEventsSpec : ChangeSpec := { name := "feedEvents", fn := fun _ => fun
  | [d] => { results := [.lit (.bool true)], args := [d] }
  | _ => none }
def feedEventsRow : OpenClaim := { program := "ytfddhafbhceoaaagreat", sum := "72da1b32f6735e09a621e23a5096d4aaca12c4d269bc63c868ffc48081d39fdb", func := "tholepin/tholepinlaw39.FeedEvents", spec := "feedEvents", unfollowed := true, recurses := true, apart := false }
def FeedEventsSaid : Prop := feedEventsRow.holds Tryz.pinned (OpenSpec.ofChange feedEventsSpec)

/-- ITS FALSE NEIGHBOUR: 'it returns false'. Refute it at one input. -/
def feedEventsWrong : ChangeSpec := { name := "feedEvents", fn := fun _ => fun
  | [d] => { results := [.lit (.bool false)], args := [d] }
  | _ => none }
def FeedEventsWrongFalsely : Prop := feedEventsRow.holds Tryz.pinned (OpenSpec.ofChange feedEventsWrong)

/-- 'tholepinlaw39.FeedPieces': WHATEVER THE INPUT: true; the input reads as it did. -/
def feedPiecesSpec : ChangeSpec := { name := "feedPieces", fn := fun _ => fun
  | [d1, d2] => { results := [.lit (.bool true)], args := [d1, d2] }
  | _ => none }
def feedPiecesRow : OpenClaim := { program := "ytfddhafbhceoaaagreat", sum := "72da1b32f6735e09a621e23a5096d4aaca12c4d269bc63c868ffc48081d39fdb", func := "tholepin/tholepinlaw39.FeedPieces", spec := "feedPieces", unfollowed := true, recurses := true, apart := false }
def FeedPiecesSaid : Prop := feedPiecesRow.holds Tryz.pinned (OpenSpec.ofChange feedPiecesSpec)

/-- ITS FALSE NEIGHBOUR: 'it returns false'. Refute it at one input. -/
def feedPiecesWrong : ChangeSpec := { name := "feedPieces", fn := fun _ => fun
  | [d1, d2] => { results := [.lit (.bool false)], args := [d1, d2] }
  | _ => none }
def FeedPiecesWrongFalsely : Prop := feedPiecesRow.holds Tryz.pinned (OpenSpec.ofChange feedPiecesWrong)

/-- 'tholepinlaw39.FeedNone': WHATEVER THE INPUT: true; the input reads as it did. -/
def feedNoneSpec : ChangeSpec := { name := "feedNone", fn := fun _ => fun
  | [d1, d2] => { results := [.lit (.bool true)], args := [d1, d2] }
  | _ => none }
def feedNoneRow : OpenClaim := { program := "ytfddhafbhceoaaagreat", sum := "72da1b32f6735e09a621e23a5096d4aaca12c4d269bc63c868ffc48081d39fdb", func := "tholepin/tholepinlaw39.FeedNone", spec := "feedNone", unfollowed := true, recurses := true, apart := false }
def FeedNoneSaid : Prop := feedNoneRow.holds Tryz.pinned (OpenSpec.ofChange feedNoneSpec)

/-- ITS FALSE NEIGHBOUR: 'it returns false'. Refute it at one input. -/
def feedNoneWrong : ChangeSpec := { name := "feedNone", fn := fun _ => fun
  | [d1, d2] => { results := [.lit (.bool false)], args := [d1, d2] }
  | _ => none }
def FeedNoneWrongFalsely : Prop := feedNoneRow.holds Tryz.pinned (OpenSpec.ofChange feedNoneWrong)

/-- 'tholepinlaw39.FeedWhole': WHATEVER THE INPUT: true; the input reads as it did. -/
def feedWholeSpec : ChangeSpec := { name := "feedWhole", fn := fun _ => fun
  | [d] => { results := [.lit (.bool true)], args := [d] }
  | _ => none }
def feedWholeRow : OpenClaim := { program := "ytfddhafbhceoaaagreat", sum := "72da1b32f6735e09a621e23a5096d4aaca12c4d269bc63c868ffc48081d39fdb", func := "tholepin/tholepinlaw39.FeedWhole", spec := "feedWhole", unfollowed := true, recurses := true, apart := false }
def FeedWholeSaid : Prop := feedWholeRow.holds Tryz.pinned (OpenSpec.ofChange feedWholeSpec)

/-- ITS FALSE NEIGHBOUR: 'it returns false'. Refute it at one input. -/
def feedWholeWrong : ChangeSpec := { name := "feedWhole", fn := fun _ => fun
  | [d] => { results := [.lit (.bool false)], args := [d] }
  | _ => none }
def FeedWholeWrongFalsely : Prop := feedWholeRow.holds Tryz.pinned (OpenSpec.ofChange feedWholeWrong)

/- THE SECOND FORM. 'bulk': how many values and letters a reading holds, each counted each time it is reached (what is shared counts as often as it is met; a slice's spare places count too). A statement '..UptoSaid' is the law's where the arguments, and the package variables that the reading takes, are together of bulk at most 1048576: NARROWER than '..Said'. Prove '..Said' where nothing that the law and all that it calls make is longer than what came in: it says more and counts as full. Else prove '..UptoSaid'. A law counts once. -/
mutual
def uptoBulk {H : Type} : DataW H → Nat
  | .lit (.string bytes) => bytes.length + 1
  | .lit _ => 1
  | .nil => 1
  | .ptr d => uptoBulk d + 1
  | .slice elems spare => uptoBulkAll elems + uptoBulkAll spare + 1
  | .agg parts => uptoBulkAll parts + 1
  | .iface _ d => uptoBulk d + 1
  | .map entries => uptoBulkEntries entries + 1
  | .held _ => 1
def uptoBulkAll {H : Type} : List (DataW H) → Nat
  | [] => 0
  | d :: r => uptoBulk d + uptoBulkAll r
def uptoBulkEntries {H : Type} : List (Lit × DataW H) → Nat
  | [] => 0
  | x :: r => uptoBulkEntry x + uptoBulkEntries r
def uptoBulkEntry {H : Type} : Lit × DataW H → Nat
  | (.string bytes, d) => bytes.length + uptoBulk d + 1
  | (_, d) => uptoBulk d + 1
 end
def uptoSmall : (H : Type) → List (DataW H) → Bool := fun _ ds => decide (uptoBulkAll ds ≤ 1048576)
def OpenSpec.upto (s : _root_.Go.ChangeSpec) : _root_.Go.OpenSpec := { _root_.Go.OpenSpec.ofChange s with cond := some uptoSmall }

/-- 'tholepinlaw38.PushEvents', WHERE WHAT IT READS IS OF BULK AT MOST 1048576: true; the input reads as it did. -/
def pushEventsUptoRow : OpenClaim := { program := "ytfddhafbhceoaaagreat", sum := "72da1b32f6735e09a621e23a5096d4aaca12c4d269bc63c868ffc48081d39fdb", func := "tholepin/tholepinlaw38.PushEvents", spec := "pushEvents", unfollowed := true, recurses := true, apart := false, narrowed := true }
def PushEventsUptoSaid : Prop := pushEventsUptoRow.holds Tryz.pinned (OpenSpec.upto pushEventsSpec)

/-- 'tholepinlaw38.PushItems', WHERE WHAT IT READS IS OF BULK AT MOST 1048576: true; the input reads as it did. -/
def pushItemsUptoRow : OpenClaim := { program := "ytfddhafbhceoaaagreat", sum := "72da1b32f6735e09a621e23a5096d4aaca12c4d269bc63c868ffc48081d39fdb", func := "tholepin/tholepinlaw38.PushItems", spec := "pushItems", unfollowed := true, recurses := true, apart := false, narrowed := true }
def PushItemsUptoSaid : Prop := pushItemsUptoRow.holds Tryz.pinned (OpenSpec.upto pushItemsSpec)

/-- 'tholepinlaw38.PushPieces', WHERE WHAT IT READS IS OF BULK AT MOST 1048576: true; the input reads as it did. -/
def pushPiecesUptoRow : OpenClaim := { program := "ytfddhafbhceoaaagreat", sum := "72da1b32f6735e09a621e23a5096d4aaca12c4d269bc63c868ffc48081d39fdb", func := "tholepin/tholepinlaw38.PushPieces", spec := "pushPieces", unfollowed := true, recurses := true, apart := false, narrowed := true }
def PushPiecesUptoSaid : Prop := pushPiecesUptoRow.holds Tryz.pinned (OpenSpec.upto pushPiecesSpec)

/-- 'tholepinlaw38.PushNone', WHERE WHAT IT READS IS OF BULK AT MOST 1048576: true; the input reads as it did. -/
def pushNoneUptoRow : OpenClaim := { program := "ytfddhafbhceoaaagreat", sum := "72da1b32f6735e09a621e23a5096d4aaca12c4d269bc63c868ffc48081d39fdb", func := "tholepin/tholepinlaw38.PushNone", spec := "pushNone", unfollowed := true, recurses := true, apart := false, narrowed := true }
def PushNoneUptoSaid : Prop := pushNoneUptoRow.holds Tryz.pinned (OpenSpec.upto pushNoneSpec)

/-- 'tholepinlaw34.SegmentReads', WHERE WHAT IT READS IS OF BULK AT MOST 1048576: true; the input reads as it did. -/
def segmentReadsUptoRow : OpenClaim := { program := "ytfddhafbhceoaaagreat", sum := "72da1b32f6735e09a621e23a5096d4aaca12c4d269bc63c868ffc48081d39fdb", func := "tholepin/tholepinlaw34.SegmentReads", spec := "segmentReads", unfollowed := true, recurses := true, apart := false, narrowed := true }
def SegmentReadsUptoSaid : Prop := segmentReadsUptoRow.holds Tryz.pinned (OpenSpec.upto segmentReadsSpec)

/-- 'tholepinlaw34.SegmentBack', WHERE WHAT IT READS IS OF BULK AT MOST 1048576: true; the input reads as it did. -/
def segmentBackUptoRow : OpenClaim := { program := "ytfddhafbhceoaaagreat", sum := "72da1b32f6735e09a621e23a5096d4aaca12c4d269bc63c868ffc48081d39fdb", func := "tholepin/tholepinlaw34.SegmentBack", spec := "segmentBack", unfollowed := true, recurses := true, apart := false, narrowed := true }
def SegmentBackUptoSaid : Prop := segmentBackUptoRow.holds Tryz.pinned (OpenSpec.upto segmentBackSpec)

/-- 'tholepinlaw34.SegmentOnce', WHERE WHAT IT READS IS OF BULK AT MOST 1048576: true; the input reads as it did. -/
def segmentOnceUptoRow : OpenClaim := { program := "ytfddhafbhceoaaagreat", sum := "72da1b32f6735e09a621e23a5096d4aaca12c4d269bc63c868ffc48081d39fdb", func := "tholepin/tholepinlaw34.SegmentOnce", spec := "segmentOnce", unfollowed := true, recurses := true, apart := false, narrowed := true }
def SegmentOnceUptoSaid : Prop := segmentOnceUptoRow.holds Tryz.pinned (OpenSpec.upto segmentOnceSpec)

/-- 'tholepinlaw39.FeedEvents', WHERE WHAT IT READS IS OF BULK AT MOST 1048576: true; the input reads as it did. -/
def feedEventsUptoRow : OpenClaim := { program := "ytfddhafbhceoaaagreat", sum := "72da1b32f6735e09a621e23a5096d4aaca12c4d269bc63c868ffc48081d39fdb", func := "tholepin/tholepinlaw39.FeedEvents", spec := "feedEvents", unfollowed := true, recurses := true, apart := false, narrowed := true }
def FeedEventsUptoSaid : Prop := feedEventsUptoRow.holds Tryz.pinned (OpenSpec.upto feedEventsSpec)

/-- 'tholepinlaw39.FeedPieces', WHERE WHAT IT READS IS OF BULK AT MOST 1048576: true; the input reads as it did. -/
def feedPiecesUptoRow : OpenClaim := { program := "ytfddhafbhceoaaagreat", sum := "72da1b32f6735e09a621e23a5096d4aaca12c4d269bc63c868ffc48081d39fdb", func := "tholepin/tholepinlaw39.FeedPieces", spec := "feedPieces", unfollowed := true, recurses := true, apart := false, narrowed := true }
def FeedPiecesUptoSaid : Prop := feedPiecesUptoRow.holds Tryz.pinned (OpenSpec.upto feedPiecesSpec)

/-- 'tholepinlaw39.FeedNone', WHERE WHAT IT READS IS OF BULK AT MOST 1048576: true; the input reads as it did. -/
def feedNoneUptoRow : OpenClaim := { program := "ytfddhafbhceoaaagreat", sum := "72da1b32f6735e09a621e23a5096d4aaca12c4d269bc63c868ffc48081d39fdb", func := "tholepin/tholepinlaw39.FeedNone", spec := "feedNone", unfollowed := true, recurses := true, apart := false, narrowed := true }
def FeedNoneUptoSaid : Prop := feedNoneUptoRow.holds Tryz.pinned (OpenSpec.upto feedNoneSpec)

/-- 'tholepinlaw39.FeedWhole', WHERE WHAT IT READS IS OF BULK AT MOST 1048576: true; the input reads as it did. -/
def feedWholeUptoRow : OpenClaim := { program := "ytfddhafbhceoaaagreat", sum := "72da1b32f6735e09a621e23a5096d4aaca12c4d269bc63c868ffc48081d39fdb", func := "tholepin/tholepinlaw39.FeedWhole", spec := "feedWhole", unfollowed := true, recurses := true, apart := false, narrowed := true }
def FeedWholeUptoSaid : Prop := feedWholeUptoRow.holds Tryz.pinned (OpenSpec.upto feedWholeSpec)

end Rows
end Go.Proofs.YtfddhafbhceoaaaGreat
