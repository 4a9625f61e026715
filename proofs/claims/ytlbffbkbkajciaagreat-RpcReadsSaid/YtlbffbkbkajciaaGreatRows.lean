/-
  No cell of these rows narrows 'for every input' (looked for: loops, veiled, ifaces, maps, wideKeys, modest, calm, conditions, laid).
  DERIVED. THE GIVEN ROWS OF THIS SEAT. 9 by the template 'for every input the law returns true; each argument reads behind the call as it read before'; 0 by the template 'total and deterministic' (their statements: YtlbffbkbkajciaaGreatTotals.lean).
  GIVEN WITH THE SEED: the statements are not yours to turn. If you find one false, say at which input.
  Laid BY PROGRAM, IN A SANDBOX (cutbox-rows.mjs): the forced cells as the released guide's own fill.sh prints them over the translation e391c03d0224cb49… (all of the seat's roots in one cut). By AI agents, Wed Nov 11 2026. No macro, syntax, notation, axiom, sorry.
-/
import Derived.Test.YtlbffbkbkajciaaGreatChecked
import GoSem.Claim
import GoSem.ClaimJoined
import GoSem.ClaimMapViews
import Derived.JoinedTies
import Derived.KernelRfl
namespace Go.Proofs.YtlbffbkbkajciaaGreat
/- THE CELL 'sum', in the pinned program and in every row, IS THE sha256 OF THE DUMP (.gsa) THAT YtlbffbkbkajciaaGreatProg.lean LOADS. Nothing in Lean hashes anything: it is a label: what it is worth is what the hold of that sum in a sandbox is worth. -/
noncomputable def Tryz.pinned : Pinned := { name := "ytlbffbkbkajciaagreat", sum := "e391c03d0224cb49bb5e707d05cea3574c430f24b6a5e9607d81537793e7a5c3", checked := Tryz.checked }
namespace Rows
def none {H : Type} : Left H := { results := [], args := [] }

/-- 'tholepinlaw28.BodyWrites': WHATEVER THE INPUT: true; the input reads as it did. -/
def bodyWritesSpec : ChangeSpec := { name := "bodyWrites", fn := fun _ => fun
  | [d1, d2] => { results := [.lit (.bool true)], args := [d1, d2] }
  | _ => none }
def bodyWritesRow : OpenClaim := { program := "ytlbffbkbkajciaagreat", sum := "e391c03d0224cb49bb5e707d05cea3574c430f24b6a5e9607d81537793e7a5c3", func := "tholepin/tholepinlaw28.BodyWrites", spec := "bodyWrites", unfollowed := true, recurses := true, apart := false }
def BodyWritesSaid : Prop := bodyWritesRow.holds Tryz.pinned (OpenSpec.ofChange bodyWritesSpec)

/-- ITS FALSE NEIGHBOUR: 'it returns false'. Refute it at one input. -/
def bodyWritesWrong : ChangeSpec := { name := "bodyWrites", fn := fun _ => fun
  | [d1, d2] => { results := [.lit (.bool false)], args := [d1, d2] }
  | _ => none }
def BodyWritesWrongFalsely : Prop := bodyWritesRow.holds Tryz.pinned (OpenSpec.ofChange bodyWritesWrong)

/-- 'tholepinlaw29.RpcWrites': WHATEVER THE INPUT: true; the input reads as it did. -/
def rpcWritesSpec : ChangeSpec := { name := "rpcWrites", fn := fun _ => fun
  | [d] => { results := [.lit (.bool true)], args := [d] }
  | _ => none }
def rpcWritesRow : OpenClaim := { program := "ytlbffbkbkajciaagreat", sum := "e391c03d0224cb49bb5e707d05cea3574c430f24b6a5e9607d81537793e7a5c3", func := "tholepin/tholepinlaw29.RpcWrites", spec := "rpcWrites", unfollowed := true, recurses := true, apart := false }
def RpcWritesSaid : Prop := rpcWritesRow.holds Tryz.pinned (OpenSpec.ofChange rpcWritesSpec)

/-- ITS FALSE NEIGHBOUR: 'it returns false'. Refute it at one input. -/
def rpcWritesWrong : ChangeSpec := { name := "rpcWrites", fn := fun _ => fun
  | [d] => { results := [.lit (.bool false)], args := [d] }
  | _ => none }
def RpcWritesWrongFalsely : Prop := rpcWritesRow.holds Tryz.pinned (OpenSpec.ofChange rpcWritesWrong)

/-- 'tholepinlaw28.BodyReads': WHATEVER THE INPUT: true; the input reads as it did. -/
def bodyReadsSpec : ChangeSpec := { name := "bodyReads", fn := fun _ => fun
  | [d1, d2] => { results := [.lit (.bool true)], args := [d1, d2] }
  | _ => none }
def bodyReadsRow : OpenClaim := { program := "ytlbffbkbkajciaagreat", sum := "e391c03d0224cb49bb5e707d05cea3574c430f24b6a5e9607d81537793e7a5c3", func := "tholepin/tholepinlaw28.BodyReads", spec := "bodyReads", unfollowed := true, recurses := true, apart := false }
def BodyReadsSaid : Prop := bodyReadsRow.holds Tryz.pinned (OpenSpec.ofChange bodyReadsSpec)

/-- ITS FALSE NEIGHBOUR: 'it returns false'. Refute it at one input. -/
def bodyReadsWrong : ChangeSpec := { name := "bodyReads", fn := fun _ => fun
  | [d1, d2] => { results := [.lit (.bool false)], args := [d1, d2] }
  | _ => none }
def BodyReadsWrongFalsely : Prop := bodyReadsRow.holds Tryz.pinned (OpenSpec.ofChange bodyReadsWrong)

/-- 'tholepinlaw28.BodyBack': WHATEVER THE INPUT: true; the input reads as it did. -/
def bodyBackSpec : ChangeSpec := { name := "bodyBack", fn := fun _ => fun
  | [d1, d2] => { results := [.lit (.bool true)], args := [d1, d2] }
  | _ => none }
def bodyBackRow : OpenClaim := { program := "ytlbffbkbkajciaagreat", sum := "e391c03d0224cb49bb5e707d05cea3574c430f24b6a5e9607d81537793e7a5c3", func := "tholepin/tholepinlaw28.BodyBack", spec := "bodyBack", unfollowed := true, recurses := true, apart := false }
def BodyBackSaid : Prop := bodyBackRow.holds Tryz.pinned (OpenSpec.ofChange bodyBackSpec)

/-- ITS FALSE NEIGHBOUR: 'it returns false'. Refute it at one input. -/
def bodyBackWrong : ChangeSpec := { name := "bodyBack", fn := fun _ => fun
  | [d1, d2] => { results := [.lit (.bool false)], args := [d1, d2] }
  | _ => none }
def BodyBackWrongFalsely : Prop := bodyBackRow.holds Tryz.pinned (OpenSpec.ofChange bodyBackWrong)

/-- 'tholepinlaw28.BodyOnce': WHATEVER THE INPUT: true; the input reads as it did. -/
def bodyOnceSpec : ChangeSpec := { name := "bodyOnce", fn := fun _ => fun
  | [d1, d2] => { results := [.lit (.bool true)], args := [d1, d2] }
  | _ => none }
def bodyOnceRow : OpenClaim := { program := "ytlbffbkbkajciaagreat", sum := "e391c03d0224cb49bb5e707d05cea3574c430f24b6a5e9607d81537793e7a5c3", func := "tholepin/tholepinlaw28.BodyOnce", spec := "bodyOnce", unfollowed := true, recurses := true, apart := false }
def BodyOnceSaid : Prop := bodyOnceRow.holds Tryz.pinned (OpenSpec.ofChange bodyOnceSpec)

/-- ITS FALSE NEIGHBOUR: 'it returns false'. Refute it at one input. -/
def bodyOnceWrong : ChangeSpec := { name := "bodyOnce", fn := fun _ => fun
  | [d1, d2] => { results := [.lit (.bool false)], args := [d1, d2] }
  | _ => none }
def BodyOnceWrongFalsely : Prop := bodyOnceRow.holds Tryz.pinned (OpenSpec.ofChange bodyOnceWrong)

/-- 'tholepinlaw29.RpcTells': WHATEVER THE INPUT: true; the input reads as it did. -/
def rpcTellsSpec : ChangeSpec := { name := "rpcTells", fn := fun _ => fun
  | [d1, d2, d3] => { results := [.lit (.bool true)], args := [d1, d2, d3] }
  | _ => none }
def rpcTellsRow : OpenClaim := { program := "ytlbffbkbkajciaagreat", sum := "e391c03d0224cb49bb5e707d05cea3574c430f24b6a5e9607d81537793e7a5c3", func := "tholepin/tholepinlaw29.RpcTells", spec := "rpcTells", unfollowed := true, recurses := true, apart := false }
def RpcTellsSaid : Prop := rpcTellsRow.holds Tryz.pinned (OpenSpec.ofChange rpcTellsSpec)

/-- ITS FALSE NEIGHBOUR: 'it returns false'. Refute it at one input. -/
def rpcTellsWrong : ChangeSpec := { name := "rpcTells", fn := fun _ => fun
  | [d1, d2, d3] => { results := [.lit (.bool false)], args := [d1, d2, d3] }
  | _ => none }
def RpcTellsWrongFalsely : Prop := rpcTellsRow.holds Tryz.pinned (OpenSpec.ofChange rpcTellsWrong)

/-- 'tholepinlaw29.RpcOnce': WHATEVER THE INPUT: true; the input reads as it did. -/
def rpcOnceSpec : ChangeSpec := { name := "rpcOnce", fn := fun _ => fun
  | [d] => { results := [.lit (.bool true)], args := [d] }
  | _ => none }
def rpcOnceRow : OpenClaim := { program := "ytlbffbkbkajciaagreat", sum := "e391c03d0224cb49bb5e707d05cea3574c430f24b6a5e9607d81537793e7a5c3", func := "tholepin/tholepinlaw29.RpcOnce", spec := "rpcOnce", unfollowed := true, recurses := true, apart := false }
def RpcOnceSaid : Prop := rpcOnceRow.holds Tryz.pinned (OpenSpec.ofChange rpcOnceSpec)

/-- ITS FALSE NEIGHBOUR: 'it returns false'. Refute it at one input. -/
def rpcOnceWrong : ChangeSpec := { name := "rpcOnce", fn := fun _ => fun
  | [d] => { results := [.lit (.bool false)], args := [d] }
  | _ => none }
def RpcOnceWrongFalsely : Prop := rpcOnceRow.holds Tryz.pinned (OpenSpec.ofChange rpcOnceWrong)

/-- 'tholepinlaw29.RpcReads': WHATEVER THE INPUT: true; the input reads as it did. -/
def rpcReadsSpec : ChangeSpec := { name := "rpcReads", fn := fun _ => fun
  | [d] => { results := [.lit (.bool true)], args := [d] }
  | _ => none }
def rpcReadsRow : OpenClaim := { program := "ytlbffbkbkajciaagreat", sum := "e391c03d0224cb49bb5e707d05cea3574c430f24b6a5e9607d81537793e7a5c3", func := "tholepin/tholepinlaw29.RpcReads", spec := "rpcReads", unfollowed := true, recurses := true, apart := false }
def RpcReadsSaid : Prop := rpcReadsRow.holds Tryz.pinned (OpenSpec.ofChange rpcReadsSpec)

/-- ITS FALSE NEIGHBOUR: 'it returns false'. Refute it at one input. -/
def rpcReadsWrong : ChangeSpec := { name := "rpcReads", fn := fun _ => fun
  | [d] => { results := [.lit (.bool false)], args := [d] }
  | _ => none }
def RpcReadsWrongFalsely : Prop := rpcReadsRow.holds Tryz.pinned (OpenSpec.ofChange rpcReadsWrong)

/-- 'tholepinlaw29.RpcBack': WHATEVER THE INPUT: true; the input reads as it did. -/
def rpcBackSpec : ChangeSpec := { name := "rpcBack", fn := fun _ => fun
  | [d1, d2] => { results := [.lit (.bool true)], args := [d1, d2] }
  | _ => none }
def rpcBackRow : OpenClaim := { program := "ytlbffbkbkajciaagreat", sum := "e391c03d0224cb49bb5e707d05cea3574c430f24b6a5e9607d81537793e7a5c3", func := "tholepin/tholepinlaw29.RpcBack", spec := "rpcBack", unfollowed := true, recurses := true, apart := false }
def RpcBackSaid : Prop := rpcBackRow.holds Tryz.pinned (OpenSpec.ofChange rpcBackSpec)

/-- ITS FALSE NEIGHBOUR: 'it returns false'. Refute it at one input. -/
def rpcBackWrong : ChangeSpec := { name := "rpcBack", fn := fun _ => fun
  | [d1, d2] => { results := [.lit (.bool false)], args := [d1, d2] }
  | _ => none }
def RpcBackWrongFalsely : Prop := rpcBackRow.holds Tryz.pinned (OpenSpec.ofChange rpcBackWrong)

/- THE SECOND FORM. 'bulk': how many values and letters a reading holds, each counted each time it is reached (what is shared counts as often as it is met; a slice's spare places count too). A statement '..UptoSaid' is the law's where the arguments, and the package variables that the reading takes, are together of bulk at most 1048576: NARROWER than '..Said'. Prove '..Said' where nothing that the law and all that it calls make is longer than what came in: it says more and counts as full. Else prove '..UptoSaid'. A law counts once. -/
mutual
def uptoBulk {H : Type} : DataW H → Nat
  | .lit (.string bytes) => bytes.length + 1
  | .lit _ => 1
  | .nil => 1
  | .ptr d => uptoBulk d + 1
  | .slice elems spare => uptoBulkAll elems + uptoBulkAll spare + 1
  | .agg parts => uptoBulkAll parts + 1
  | .iface _ d => uptoBulk d + 1
  | .map entries => uptoBulkEntries entries + 1
  | .held _ => 1
def uptoBulkAll {H : Type} : List (DataW H) → Nat
  | [] => 0
  | d :: r => uptoBulk d + uptoBulkAll r
def uptoBulkEntries {H : Type} : List (Lit × DataW H) → Nat
  | [] => 0
  | x :: r => uptoBulkEntry x + uptoBulkEntries r
def uptoBulkEntry {H : Type} : Lit × DataW H → Nat
  | (.string bytes, d) => bytes.length + uptoBulk d + 1
  | (_, d) => uptoBulk d + 1
 end
def uptoSmall : (H : Type) → List (DataW H) → Bool := fun _ ds => decide (uptoBulkAll ds ≤ 1048576)
def OpenSpec.upto (s : _root_.Go.ChangeSpec) : _root_.Go.OpenSpec := { _root_.Go.OpenSpec.ofChange s with cond := some uptoSmall }

/-- 'tholepinlaw28.BodyWrites', WHERE WHAT IT READS IS OF BULK AT MOST 1048576: true; the input reads as it did. -/
def bodyWritesUptoRow : OpenClaim := { program := "ytlbffbkbkajciaagreat", sum := "e391c03d0224cb49bb5e707d05cea3574c430f24b6a5e9607d81537793e7a5c3", func := "tholepin/tholepinlaw28.BodyWrites", spec := "bodyWrites", unfollowed := true, recurses := true, apart := false, narrowed := true }
def BodyWritesUptoSaid : Prop := bodyWritesUptoRow.holds Tryz.pinned (OpenSpec.upto bodyWritesSpec)

/-- 'tholepinlaw29.RpcWrites', WHERE WHAT IT READS IS OF BULK AT MOST 1048576: true; the input reads as it did. -/
def rpcWritesUptoRow : OpenClaim := { program := "ytlbffbkbkajciaagreat", sum := "e391c03d0224cb49bb5e707d05cea3574c430f24b6a5e9607d81537793e7a5c3", func := "tholepin/tholepinlaw29.RpcWrites", spec := "rpcWrites", unfollowed := true, recurses := true, apart := false, narrowed := true }
def RpcWritesUptoSaid : Prop := rpcWritesUptoRow.holds Tryz.pinned (OpenSpec.upto rpcWritesSpec)

/-- 'tholepinlaw28.BodyReads', WHERE WHAT IT READS IS OF BULK AT MOST 1048576: true; the input reads as it did. -/
def bodyReadsUptoRow : OpenClaim := { program := "ytlbffbkbkajciaagreat", sum := "e391c03d0224cb49bb5e707d05cea3574c430f24b6a5e9607d81537793e7a5c3", func := "tholepin/tholepinlaw28.BodyReads", spec := "bodyReads", unfollowed := true, recurses := true, apart := false, narrowed := true }
def BodyReadsUptoSaid : Prop := bodyReadsUptoRow.holds Tryz.pinned (OpenSpec.upto bodyReadsSpec)

/-- 'tholepinlaw28.BodyBack', WHERE WHAT IT READS IS OF BULK AT MOST 1048576: true; the input reads as it did. -/
def bodyBackUptoRow : OpenClaim := { program := "ytlbffbkbkajciaagreat", sum := "e391c03d0224cb49bb5e707d05cea3574c430f24b6a5e9607d81537793e7a5c3", func := "tholepin/tholepinlaw28.BodyBack", spec := "bodyBack", unfollowed := true, recurses := true, apart := false, narrowed := true }
def BodyBackUptoSaid : Prop := bodyBackUptoRow.holds Tryz.pinned (OpenSpec.upto bodyBackSpec)

/-- 'tholepinlaw28.BodyOnce', WHERE WHAT IT READS IS OF BULK AT MOST 1048576: true; the input reads as it did. -/
def bodyOnceUptoRow : OpenClaim := { program := "ytlbffbkbkajciaagreat", sum := "e391c03d0224cb49bb5e707d05cea3574c430f24b6a5e9607d81537793e7a5c3", func := "tholepin/tholepinlaw28.BodyOnce", spec := "bodyOnce", unfollowed := true, recurses := true, apart := false, narrowed := true }
def BodyOnceUptoSaid : Prop := bodyOnceUptoRow.holds Tryz.pinned (OpenSpec.upto bodyOnceSpec)

/-- 'tholepinlaw29.RpcTells', WHERE WHAT IT READS IS OF BULK AT MOST 1048576: true; the input reads as it did. -/
def rpcTellsUptoRow : OpenClaim := { program := "ytlbffbkbkajciaagreat", sum := "e391c03d0224cb49bb5e707d05cea3574c430f24b6a5e9607d81537793e7a5c3", func := "tholepin/tholepinlaw29.RpcTells", spec := "rpcTells", unfollowed := true, recurses := true, apart := false, narrowed := true }
def RpcTellsUptoSaid : Prop := rpcTellsUptoRow.holds Tryz.pinned (OpenSpec.upto rpcTellsSpec)

/-- 'tholepinlaw29.RpcOnce', WHERE WHAT IT READS IS OF BULK AT MOST 1048576: true; the input reads as it did. -/
def rpcOnceUptoRow : OpenClaim := { program := "ytlbffbkbkajciaagreat", sum := "e391c03d0224cb49bb5e707d05cea3574c430f24b6a5e9607d81537793e7a5c3", func := "tholepin/tholepinlaw29.RpcOnce", spec := "rpcOnce", unfollowed := true, recurses := true, apart := false, narrowed := true }
def RpcOnceUptoSaid : Prop := rpcOnceUptoRow.holds Tryz.pinned (OpenSpec.upto rpcOnceSpec)

/-- 'tholepinlaw29.RpcReads', WHERE WHAT IT READS IS OF BULK AT MOST 1048576: true; the input reads as it did. -/
def rpcReadsUptoRow : OpenClaim := { program := "ytlbffbkbkajciaagreat", sum := "e391c03d0224cb49bb5e707d05cea3574c430f24b6a5e9607d81537793e7a5c3", func := "tholepin/tholepinlaw29.RpcReads", spec := "rpcReads", unfollowed := true, recurses := true, apart := false, narrowed := true }
def RpcReadsUptoSaid : Prop := rpcReadsUptoRow.holds Tryz.pinned (OpenSpec.upto rpcReadsSpec)

/-- 'tholepinlaw29.RpcBack', WHERE WHAT IT READS IS OF BULK AT MOST 1048576: true; the input reads as it did. -/
def rpcBackUptoRow : OpenClaim := { program := "ytlbffbkbkajciaagreat", sum := "e391c03d0224cb49bb5e707d05cea3574c430f24b6a5e9607d81537793e7a5c3", func := "tholepin/tholepinlaw29.RpcBack", spec := "rpcBack", unfollowed := true, recurses := true, apart := false, narrowed := true }
def RpcBackUptoSaid : Prop := rpcBackUptoRow.holds Tryz.pinned (OpenSpec.upto rpcBackSpec)

end Rows
end Go.Proofs.YtlbffbkbkajciaaGreat
