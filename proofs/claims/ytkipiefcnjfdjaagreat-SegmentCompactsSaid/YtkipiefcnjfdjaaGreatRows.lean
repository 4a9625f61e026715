/-
  No cell of these rows narrows 'for every input' (looked for: loops, veiled, ifaces, maps, wideKeys, modest, calm, conditions, laid).
  DERIVED. THE GIVEN ROWS OF THIS SEAT. 12 by the template 'for every input the law returns true; each argument reads behind the call as it read before'; 0 by the template 'total and deterministic' (their statements: YtkipiefcnjfdjaaGreatTotals.lean).
  GIVEN WITH THE SEED: the statements are not yours to turn. If you find one false, say at which input.
  Laid BY PROGRAM, IN A SANDBOX (cutbox-rows.mjs): the forced cells as the released guide's own fill.sh prints them over the translation 4b7c2a4ecc4405b3… (all of the seat's roots in one cut). By AI agents, Wed Nov 11 2026. No macro, syntax, notation, axiom, sorry.
-/
import Derived.Test.YtkipiefcnjfdjaaGreatChecked
import GoSem.Claim
import GoSem.ClaimJoined
import GoSem.ClaimMapViews
import Derived.JoinedTies
import Derived.KernelRfl
namespace Go.Proofs.YtkipiefcnjfdjaaGreat
/- THE CELL 'sum', in the pinned program and in every row, IS THE sha256 OF THE DUMP (.gsa) THAT YtkipiefcnjfdjaaGreatProg.lean LOADS. Nothing in Lean hashes anything: it is a label: what it is worth is what the hold of that sum in a sandbox is worth. -/
noncomputable def Tryz.pinned : Pinned := { name := "ytkipiefcnjfdjaagreat", sum := "4b7c2a4ecc4405b3253e8b20ba3758b4b051a7142859c1080fc02c896d15ace8", checked := Tryz.checked }
namespace Rows
def none {H : Type} : Left H := { results := [], args := [] }

/-- 'tholepinlaw25.BatchWrites': WHATEVER THE INPUT: true; the input reads as it did. -/
def batchWritesSpec : ChangeSpec := { name := "batchWrites", fn := fun _ => fun
  | [d1, d2] => { results := [.lit (.bool true)], args := [d1, d2] }
  | _ => none }
def batchWritesRow : OpenClaim := { program := "ytkipiefcnjfdjaagreat", sum := "4b7c2a4ecc4405b3253e8b20ba3758b4b051a7142859c1080fc02c896d15ace8", func := "tholepin/tholepinlaw25.BatchWrites", spec := "batchWrites", unfollowed := true, recurses := true, apart := false }
def BatchWritesSaid : Prop := batchWritesRow.holds Tryz.pinned (OpenSpec.ofChange batchWritesSpec)

/-- ITS FALSE NEIGHBOUR: 'it returns false'. Refute it at one input. -/
def batchWritesWrong : ChangeSpec := { name := "batchWrites", fn := fun _ => fun
  | [d1, d2] => { results := [.lit (.bool false)], args := [d1, d2] }
  | _ => none }
def BatchWritesWrongFalsely : Prop := batchWritesRow.holds Tryz.pinned (OpenSpec.ofChange batchWritesWrong)

/-- 'tholepinlaw25.BatchReads': WHATEVER THE INPUT: true; the input reads as it did. -/
def batchReadsSpec : ChangeSpec := { name := "batchReads", fn := fun _ => fun
  | [d] => { results := [.lit (.bool true)], args := [d] }
  | _ => none }
def batchReadsRow : OpenClaim := { program := "ytkipiefcnjfdjaagreat", sum := "4b7c2a4ecc4405b3253e8b20ba3758b4b051a7142859c1080fc02c896d15ace8", func := "tholepin/tholepinlaw25.BatchReads", spec := "batchReads", unfollowed := true, recurses := true, apart := false }
def BatchReadsSaid : Prop := batchReadsRow.holds Tryz.pinned (OpenSpec.ofChange batchReadsSpec)

/-- ITS FALSE NEIGHBOUR: 'it returns false'. Refute it at one input. -/
def batchReadsWrong : ChangeSpec := { name := "batchReads", fn := fun _ => fun
  | [d] => { results := [.lit (.bool false)], args := [d] }
  | _ => none }
def BatchReadsWrongFalsely : Prop := batchReadsRow.holds Tryz.pinned (OpenSpec.ofChange batchReadsWrong)

/-- 'tholepinlaw25.BatchBack': WHATEVER THE INPUT: true; the input reads as it did. -/
def batchBackSpec : ChangeSpec := { name := "batchBack", fn := fun _ => fun
  | [d1, d2, d3] => { results := [.lit (.bool true)], args := [d1, d2, d3] }
  | _ => none }
def batchBackRow : OpenClaim := { program := "ytkipiefcnjfdjaagreat", sum := "4b7c2a4ecc4405b3253e8b20ba3758b4b051a7142859c1080fc02c896d15ace8", func := "tholepin/tholepinlaw25.BatchBack", spec := "batchBack", unfollowed := true, recurses := true, apart := false }
def BatchBackSaid : Prop := batchBackRow.holds Tryz.pinned (OpenSpec.ofChange batchBackSpec)

/-- ITS FALSE NEIGHBOUR: 'it returns false'. Refute it at one input. -/
def batchBackWrong : ChangeSpec := { name := "batchBack", fn := fun _ => fun
  | [d1, d2, d3] => { results := [.lit (.bool false)], args := [d1, d2, d3] }
  | _ => none }
def BatchBackWrongFalsely : Prop := batchBackRow.holds Tryz.pinned (OpenSpec.ofChange batchBackWrong)

/-- 'tholepinlaw25.BatchOnce': WHATEVER THE INPUT: true; the input reads as it did. -/
def batchOnceSpec : ChangeSpec := { name := "batchOnce", fn := fun _ => fun
  | [d] => { results := [.lit (.bool true)], args := [d] }
  | _ => none }
def batchOnceRow : OpenClaim := { program := "ytkipiefcnjfdjaagreat", sum := "4b7c2a4ecc4405b3253e8b20ba3758b4b051a7142859c1080fc02c896d15ace8", func := "tholepin/tholepinlaw25.BatchOnce", spec := "batchOnce", unfollowed := true, recurses := true, apart := false }
def BatchOnceSaid : Prop := batchOnceRow.holds Tryz.pinned (OpenSpec.ofChange batchOnceSpec)

/-- ITS FALSE NEIGHBOUR: 'it returns false'. Refute it at one input. -/
def batchOnceWrong : ChangeSpec := { name := "batchOnce", fn := fun _ => fun
  | [d] => { results := [.lit (.bool false)], args := [d] }
  | _ => none }
def BatchOnceWrongFalsely : Prop := batchOnceRow.holds Tryz.pinned (OpenSpec.ofChange batchOnceWrong)

/-- 'tholepinlaw34.SegmentAppends': WHATEVER THE INPUT: true; the input reads as it did. -/
def segmentAppendsSpec : ChangeSpec := { name := "segmentAppends", fn := fun _ => fun
  | [d1, d2] => { results := [.lit (.bool true)], args := [d1, d2] }
  | _ => none }
def segmentAppendsRow : OpenClaim := { program := "ytkipiefcnjfdjaagreat", sum := "4b7c2a4ecc4405b3253e8b20ba3758b4b051a7142859c1080fc02c896d15ace8", func := "tholepin/tholepinlaw34.SegmentAppends", spec := "segmentAppends", unfollowed := true, recurses := true, apart := false }
def SegmentAppendsSaid : Prop := segmentAppendsRow.holds Tryz.pinned (OpenSpec.ofChange segmentAppendsSpec)

/-- ITS FALSE NEIGHBOUR: 'it returns false'. Refute it at one input. -/
def segmentAppendsWrong : ChangeSpec := { name := "segmentAppends", fn := fun _ => fun
  | [d1, d2] => { results := [.lit (.bool false)], args := [d1, d2] }
  | _ => none }
def SegmentAppendsWrongFalsely : Prop := segmentAppendsRow.holds Tryz.pinned (OpenSpec.ofChange segmentAppendsWrong)

/-- 'tholepinlaw34.SegmentJoins': WHATEVER THE INPUT: true; the input reads as it did. -/
def segmentJoinsSpec : ChangeSpec := { name := "segmentJoins", fn := fun _ => fun
  | [d1, d2] => { results := [.lit (.bool true)], args := [d1, d2] }
  | _ => none }
def segmentJoinsRow : OpenClaim := { program := "ytkipiefcnjfdjaagreat", sum := "4b7c2a4ecc4405b3253e8b20ba3758b4b051a7142859c1080fc02c896d15ace8", func := "tholepin/tholepinlaw34.SegmentJoins", spec := "segmentJoins", unfollowed := true, recurses := true, apart := false }
def SegmentJoinsSaid : Prop := segmentJoinsRow.holds Tryz.pinned (OpenSpec.ofChange segmentJoinsSpec)

/-- ITS FALSE NEIGHBOUR: 'it returns false'. Refute it at one input. -/
def segmentJoinsWrong : ChangeSpec := { name := "segmentJoins", fn := fun _ => fun
  | [d1, d2] => { results := [.lit (.bool false)], args := [d1, d2] }
  | _ => none }
def SegmentJoinsWrongFalsely : Prop := segmentJoinsRow.holds Tryz.pinned (OpenSpec.ofChange segmentJoinsWrong)

/-- 'tholepinlaw34.SegmentCompacts': WHATEVER THE INPUT: true; the input reads as it did. -/
def segmentCompactsSpec : ChangeSpec := { name := "segmentCompacts", fn := fun _ => fun
  | [d] => { results := [.lit (.bool true)], args := [d] }
  | _ => none }
def segmentCompactsRow : OpenClaim := { program := "ytkipiefcnjfdjaagreat", sum := "4b7c2a4ecc4405b3253e8b20ba3758b4b051a7142859c1080fc02c896d15ace8", func := "tholepin/tholepinlaw34.SegmentCompacts", spec := "segmentCompacts", unfollowed := true, recurses := true, apart := false }
def SegmentCompactsSaid : Prop := segmentCompactsRow.holds Tryz.pinned (OpenSpec.ofChange segmentCompactsSpec)

/-- ITS FALSE NEIGHBOUR: 'it returns false'. Refute it at one input. -/
def segmentCompactsWrong : ChangeSpec := { name := "segmentCompacts", fn := fun _ => fun
  | [d] => { results := [.lit (.bool false)], args := [d] }
  | _ => none }
def SegmentCompactsWrongFalsely : Prop := segmentCompactsRow.holds Tryz.pinned (OpenSpec.ofChange segmentCompactsWrong)

/-- 'tholepinlaw34.SegmentFinds': WHATEVER THE INPUT: true; the input reads as it did. -/
def segmentFindsSpec : ChangeSpec := { name := "segmentFinds", fn := fun _ => fun
  | [d1, d2] => { results := [.lit (.bool true)], args := [d1, d2] }
  | _ => none }
def segmentFindsRow : OpenClaim := { program := "ytkipiefcnjfdjaagreat", sum := "4b7c2a4ecc4405b3253e8b20ba3758b4b051a7142859c1080fc02c896d15ace8", func := "tholepin/tholepinlaw34.SegmentFinds", spec := "segmentFinds", unfollowed := true, recurses := true, apart := false }
def SegmentFindsSaid : Prop := segmentFindsRow.holds Tryz.pinned (OpenSpec.ofChange segmentFindsSpec)

/-- ITS FALSE NEIGHBOUR: 'it returns false'. Refute it at one input. -/
def segmentFindsWrong : ChangeSpec := { name := "segmentFinds", fn := fun _ => fun
  | [d1, d2] => { results := [.lit (.bool false)], args := [d1, d2] }
  | _ => none }
def SegmentFindsWrongFalsely : Prop := segmentFindsRow.holds Tryz.pinned (OpenSpec.ofChange segmentFindsWrong)

/-- 'tholepinlaw34.SegmentWrites': WHATEVER THE INPUT: true; the input reads as it did. -/
def segmentWritesSpec : ChangeSpec := { name := "segmentWrites", fn := fun _ => fun
  | [d1, d2] => { results := [.lit (.bool true)], args := [d1, d2] }
  | _ => none }
def segmentWritesRow : OpenClaim := { program := "ytkipiefcnjfdjaagreat", sum := "4b7c2a4ecc4405b3253e8b20ba3758b4b051a7142859c1080fc02c896d15ace8", func := "tholepin/tholepinlaw34.SegmentWrites", spec := "segmentWrites", unfollowed := true, recurses := true, apart := false }
def SegmentWritesSaid : Prop := segmentWritesRow.holds Tryz.pinned (OpenSpec.ofChange segmentWritesSpec)

/-- ITS FALSE NEIGHBOUR: 'it returns false'. Refute it at one input. -/
def segmentWritesWrong : ChangeSpec := { name := "segmentWrites", fn := fun _ => fun
  | [d1, d2] => { results := [.lit (.bool false)], args := [d1, d2] }
  | _ => none }
def SegmentWritesWrongFalsely : Prop := segmentWritesRow.holds Tryz.pinned (OpenSpec.ofChange segmentWritesWrong)

/-- 'tholepinlaw34.SegmentReads': WHATEVER THE INPUT: true; the input reads as it did. -/
def segmentReadsSpec : ChangeSpec := { name := "segmentReads", fn := fun _ => fun
  | [d] => { results := [.lit (.bool true)], args := [d] }
  | _ => none }
def segmentReadsRow : OpenClaim := { program := "ytkipiefcnjfdjaagreat", sum := "4b7c2a4ecc4405b3253e8b20ba3758b4b051a7142859c1080fc02c896d15ace8", func := "tholepin/tholepinlaw34.SegmentReads", spec := "segmentReads", unfollowed := true, recurses := true, apart := false }
def SegmentReadsSaid : Prop := segmentReadsRow.holds Tryz.pinned (OpenSpec.ofChange segmentReadsSpec)

/-- ITS FALSE NEIGHBOUR: 'it returns false'. Refute it at one input. -/
def segmentReadsWrong : ChangeSpec := { name := "segmentReads", fn := fun _ => fun
  | [d] => { results := [.lit (.bool false)], args := [d] }
  | _ => none }
def SegmentReadsWrongFalsely : Prop := segmentReadsRow.holds Tryz.pinned (OpenSpec.ofChange segmentReadsWrong)

/-- 'tholepinlaw34.SegmentBack': WHATEVER THE INPUT: true; the input reads as it did. -/
def segmentBackSpec : ChangeSpec := { name := "segmentBack", fn := fun _ => fun
  | [d1, d2, d3] => { results := [.lit (.bool true)], args := [d1, d2, d3] }
  | _ => none }
def segmentBackRow : OpenClaim := { program := "ytkipiefcnjfdjaagreat", sum := "4b7c2a4ecc4405b3253e8b20ba3758b4b051a7142859c1080fc02c896d15ace8", func := "tholepin/tholepinlaw34.SegmentBack", spec := "segmentBack", unfollowed := true, recurses := true, apart := false }
def SegmentBackSaid : Prop := segmentBackRow.holds Tryz.pinned (OpenSpec.ofChange segmentBackSpec)

/-- ITS FALSE NEIGHBOUR: 'it returns false'. Refute it at one input. -/
def segmentBackWrong : ChangeSpec := { name := "segmentBack", fn := fun _ => fun
  | [d1, d2, d3] => { results := [.lit (.bool false)], args := [d1, d2, d3] }
  | _ => none }
def SegmentBackWrongFalsely : Prop := segmentBackRow.holds Tryz.pinned (OpenSpec.ofChange segmentBackWrong)

/-- 'tholepinlaw34.SegmentOnce': WHATEVER THE INPUT: true; the input reads as it did. -/
def segmentOnceSpec : ChangeSpec := { name := "segmentOnce", fn := fun _ => fun
  | [d] => { results := [.lit (.bool true)], args := [d] }
  | _ => none }
def segmentOnceRow : OpenClaim := { program := "ytkipiefcnjfdjaagreat", sum := "4b7c2a4ecc4405b3253e8b20ba3758b4b051a7142859c1080fc02c896d15ace8", func := "tholepin/tholepinlaw34.SegmentOnce", spec := "segmentOnce", unfollowed := true, recurses := true, apart := false }
def SegmentOnceSaid : Prop := segmentOnceRow.holds Tryz.pinned (OpenSpec.ofChange segmentOnceSpec)

/-- ITS FALSE NEIGHBOUR: 'it returns false'. Refute it at one input. -/
def segmentOnceWrong : ChangeSpec := { name := "segmentOnce", fn := fun _ => fun
  | [d] => { results := [.lit (.bool false)], args := [d] }
  | _ => none }
def SegmentOnceWrongFalsely : Prop := segmentOnceRow.holds Tryz.pinned (OpenSpec.ofChange segmentOnceWrong)

/- THE SECOND FORM. 'bulk': how many values and letters a reading holds, each counted each time it is reached (what is shared counts as often as it is met; a slice's spare places count too). A statement '..UptoSaid' is the law's where the arguments, and the package variables that the reading takes, are together of bulk at most 1048576: NARROWER than '..Said'. Prove '..Said' where nothing that the law and all that it calls make is longer than what came in: it says more and counts as full. Else prove '..UptoSaid'. A law counts once. -/
mutual
def uptoBulk {H : Type} : DataW H → Nat
  | .lit (.string bytes) => bytes.length + 1
  | .lit _ => 1
  | .nil => 1
  | .ptr d => uptoBulk d + 1
  | .slice elems spare => uptoBulkAll elems + uptoBulkAll spare + 1
  | .agg parts => uptoBulkAll parts + 1
  | .iface _ d => uptoBulk d + 1
  | .map entries => uptoBulkEntries entries + 1
  | .held _ => 1
def uptoBulkAll {H : Type} : List (DataW H) → Nat
  | [] => 0
  | d :: r => uptoBulk d + uptoBulkAll r
def uptoBulkEntries {H : Type} : List (Lit × DataW H) → Nat
  | [] => 0
  | x :: r => uptoBulkEntry x + uptoBulkEntries r
def uptoBulkEntry {H : Type} : Lit × DataW H → Nat
  | (.string bytes, d) => bytes.length + uptoBulk d + 1
  | (_, d) => uptoBulk d + 1
 end
def uptoSmall : (H : Type) → List (DataW H) → Bool := fun _ ds => decide (uptoBulkAll ds ≤ 1048576)
def OpenSpec.upto (s : _root_.Go.ChangeSpec) : _root_.Go.OpenSpec := { _root_.Go.OpenSpec.ofChange s with cond := some uptoSmall }

/-- 'tholepinlaw25.BatchWrites', WHERE WHAT IT READS IS OF BULK AT MOST 1048576: true; the input reads as it did. -/
def batchWritesUptoRow : OpenClaim := { program := "ytkipiefcnjfdjaagreat", sum := "4b7c2a4ecc4405b3253e8b20ba3758b4b051a7142859c1080fc02c896d15ace8", func := "tholepin/tholepinlaw25.BatchWrites", spec := "batchWrites", unfollowed := true, recurses := true, apart := false, narrowed := true }
def BatchWritesUptoSaid : Prop := batchWritesUptoRow.holds Tryz.pinned (OpenSpec.upto batchWritesSpec)

/-- 'tholepinlaw25.BatchReads', WHERE WHAT IT READS IS OF BULK AT MOST 1048576: true; the input reads as it did. -/
def batchReadsUptoRow : OpenClaim := { program := "ytkipiefcnjfdjaagreat", sum := "4b7c2a4ecc4405b3253e8b20ba3758b4b051a7142859c1080fc02c896d15ace8", func := "tholepin/tholepinlaw25.BatchReads", spec := "batchReads", unfollowed := true, recurses := true, apart := false, narrowed := true }
def BatchReadsUptoSaid : Prop := batchReadsUptoRow.holds Tryz.pinned (OpenSpec.upto batchReadsSpec)

/-- 'tholepinlaw25.BatchBack', WHERE WHAT IT READS IS OF BULK AT MOST 1048576: true; the input reads as it did. -/
def batchBackUptoRow : OpenClaim := { program := "ytkipiefcnjfdjaagreat", sum := "4b7c2a4ecc4405b3253e8b20ba3758b4b051a7142859c1080fc02c896d15ace8", func := "tholepin/tholepinlaw25.BatchBack", spec := "batchBack", unfollowed := true, recurses := true, apart := false, narrowed := true }
def BatchBackUptoSaid : Prop := batchBackUptoRow.holds Tryz.pinned (OpenSpec.upto batchBackSpec)

/-- 'tholepinlaw25.BatchOnce', WHERE WHAT IT READS IS OF BULK AT MOST 1048576: true; the input reads as it did. -/
def batchOnceUptoRow : OpenClaim := { program := "ytkipiefcnjfdjaagreat", sum := "4b7c2a4ecc4405b3253e8b20ba3758b4b051a7142859c1080fc02c896d15ace8", func := "tholepin/tholepinlaw25.BatchOnce", spec := "batchOnce", unfollowed := true, recurses := true, apart := false, narrowed := true }
def BatchOnceUptoSaid : Prop := batchOnceUptoRow.holds Tryz.pinned (OpenSpec.upto batchOnceSpec)

/-- 'tholepinlaw34.SegmentAppends', WHERE WHAT IT READS IS OF BULK AT MOST 1048576: true; the input reads as it did. -/
def segmentAppendsUptoRow : OpenClaim := { program := "ytkipiefcnjfdjaagreat", sum := "4b7c2a4ecc4405b3253e8b20ba3758b4b051a7142859c1080fc02c896d15ace8", func := "tholepin/tholepinlaw34.SegmentAppends", spec := "segmentAppends", unfollowed := true, recurses := true, apart := false, narrowed := true }
def SegmentAppendsUptoSaid : Prop := segmentAppendsUptoRow.holds Tryz.pinned (OpenSpec.upto segmentAppendsSpec)

/-- 'tholepinlaw34.SegmentJoins', WHERE WHAT IT READS IS OF BULK AT MOST 1048576: true; the input reads as it did. -/
def segmentJoinsUptoRow : OpenClaim := { program := "ytkipiefcnjfdjaagreat", sum := "4b7c2a4ecc4405b3253e8b20ba3758b4b051a7142859c1080fc02c896d15ace8", func := "tholepin/tholepinlaw34.SegmentJoins", spec := "segmentJoins", unfollowed := true, recurses := true, apart := false, narrowed := true }
def SegmentJoinsUptoSaid : Prop := segmentJoinsUptoRow.holds Tryz.pinned (OpenSpec.upto segmentJoinsSpec)

/-- 'tholepinlaw34.SegmentCompacts', WHERE WHAT IT READS IS OF BULK AT MOST 1048576: true; the input reads as it did. -/
def segmentCompactsUptoRow : OpenClaim := { program := "ytkipiefcnjfdjaagreat", sum := "4b7c2a4ecc4405b3253e8b20ba3758b4b051a7142859c1080fc02c896d15ace8", func := "tholepin/tholepinlaw34.SegmentCompacts", spec := "segmentCompacts", unfollowed := true, recurses := true, apart := false, narrowed := true }
def SegmentCompactsUptoSaid : Prop := segmentCompactsUptoRow.holds Tryz.pinned (OpenSpec.upto segmentCompactsSpec)

/-- 'tholepinlaw34.SegmentFinds', WHERE WHAT IT READS IS OF BULK AT MOST 1048576: true; the input reads as it did. -/
def segmentFindsUptoRow : OpenClaim := { program := "ytkipiefcnjfdjaagreat", sum := "4b7c2a4ecc4405b3253e8b20ba3758b4b051a7142859c1080fc02c896d15ace8", func := "tholepin/tholepinlaw34.SegmentFinds", spec := "segmentFinds", unfollowed := true, recurses := true, apart := false, narrowed := true }
def SegmentFindsUptoSaid : Prop := segmentFindsUptoRow.holds Tryz.pinned (OpenSpec.upto segmentFindsSpec)

/-- 'tholepinlaw34.SegmentWrites', WHERE WHAT IT READS IS OF BULK AT MOST 1048576: true; the input reads as it did. -/
def segmentWritesUptoRow : OpenClaim := { program := "ytkipiefcnjfdjaagreat", sum := "4b7c2a4ecc4405b3253e8b20ba3758b4b051a7142859c1080fc02c896d15ace8", func := "tholepin/tholepinlaw34.SegmentWrites", spec := "segmentWrites", unfollowed := true, recurses := true, apart := false, narrowed := true }
def SegmentWritesUptoSaid : Prop := segmentWritesUptoRow.holds Tryz.pinned (OpenSpec.upto segmentWritesSpec)

/-- 'tholepinlaw34.SegmentReads', WHERE WHAT IT READS IS OF BULK AT MOST 1048576: true; the input reads as it did. -/
def segmentReadsUptoRow : OpenClaim := { program := "ytkipiefcnjfdjaagreat", sum := "4b7c2a4ecc4405b3253e8b20ba3758b4b051a7142859c1080fc02c896d15ace8", func := "tholepin/tholepinlaw34.SegmentReads", spec := "segmentReads", unfollowed := true, recurses := true, apart := false, narrowed := true }
def SegmentReadsUptoSaid : Prop := segmentReadsUptoRow.holds Tryz.pinned (OpenSpec.upto segmentReadsSpec)

/-- 'tholepinlaw34.SegmentBack', WHERE WHAT IT READS IS OF BULK AT MOST 1048576: true; the input reads as it did. -/
def segmentBackUptoRow : OpenClaim := { program := "ytkipiefcnjfdjaagreat", sum := "4b7c2a4ecc4405b3253e8b20ba3758b4b051a7142859c1080fc02c896d15ace8", func := "tholepin/tholepinlaw34.SegmentBack", spec := "segmentBack", unfollowed := true, recurses := true, apart := false, narrowed := true }
def SegmentBackUptoSaid : Prop := segmentBackUptoRow.holds Tryz.pinned (OpenSpec.upto segmentBackSpec)

/-- 'tholepinlaw34.SegmentOnce', WHERE WHAT IT READS IS OF BULK AT MOST 1048576: true; the input reads as it did. -/
def segmentOnceUptoRow : OpenClaim := { program := "ytkipiefcnjfdjaagreat", sum := "4b7c2a4ecc4405b3253e8b20ba3758b4b051a7142859c1080fc02c896d15ace8", func := "tholepin/tholepinlaw34.SegmentOnce", spec := "segmentOnce", unfollowed := true, recurses := true, apart := false, narrowed := true }
def SegmentOnceUptoSaid : Prop := segmentOnceUptoRow.holds Tryz.pinned (OpenSpec.upto segmentOnceSpec)

end Rows
end Go.Proofs.YtkipiefcnjfdjaaGreat
