/-
  No cell of these rows narrows 'for every input' (looked for: loops, veiled, ifaces, maps, wideKeys, modest, calm, conditions, laid).
  DERIVED. THE GIVEN ROWS OF THIS SEAT. 3 by the template 'for every input the law returns true; each argument reads behind the call as it read before'; 0 by the template 'total and deterministic' (their statements: YtlbchenleimopaaTotals.lean).
  GIVEN WITH THE SEED: the statements are not yours to turn. If you find one false, say at which input.
  Laid BY PROGRAM, IN A SANDBOX (cutbox-rows.mjs): the forced cells as the released guide's own fill.sh prints them over the translation dc865097eea0981f… (all of the seat's roots in one cut). By AI agents, Wed Nov 11 2026. No macro, syntax, notation, axiom, sorry.
-/
import Derived.Test.YtlbchenleimopaaChecked
import GoSem.Claim
import GoSem.ClaimJoined
import GoSem.ClaimMapViews
import Derived.JoinedTies
import Derived.KernelRfl
namespace Go.Proofs.Ytlbchenleimopaa
/- THE CELL 'sum', in the pinned program and in every row, IS THE sha256 OF THE DUMP (.gsa) THAT YtlbchenleimopaaProg.lean LOADS. Nothing in Lean hashes anything: it is a label: what it is worth is what the hold of that sum in a sandbox is worth. -/
noncomputable def Try.pinned : Pinned := { name := "ytlbchenleimopaa", sum := "dc865097eea0981f9e686550bd5974d85fd4eff5df7750f3e24e65f554525557", checked := Try.checked }
namespace Rows
def none {H : Type} : Left H := { results := [], args := [] }

/-- 'tholepinlaw36.UpgradeOnes': WHATEVER THE INPUT: true; the input reads as it did. -/
def upgradeOnesSpec : ChangeSpec := { name := "upgradeOnes", fn := fun _ => fun
  | [d] => { results := [.lit (.bool true)], args := [d] }
  | _ => none }
def upgradeOnesRow : OpenClaim := { program := "ytlbchenleimopaa", sum := "dc865097eea0981f9e686550bd5974d85fd4eff5df7750f3e24e65f554525557", func := "tholepin/tholepinlaw36.UpgradeOnes", spec := "upgradeOnes", unfollowed := true, recurses := true, apart := false }
def UpgradeOnesSaid : Prop := upgradeOnesRow.holds Try.pinned (OpenSpec.ofChange upgradeOnesSpec)

/-- ITS FALSE NEIGHBOUR: 'it returns false'. Refute it at one input. -/
def upgradeOnesWrong : ChangeSpec := { name := "upgradeOnes", fn := fun _ => fun
  | [d] => { results := [.lit (.bool false)], args := [d] }
  | _ => none }
def UpgradeOnesWrongFalsely : Prop := upgradeOnesRow.holds Try.pinned (OpenSpec.ofChange upgradeOnesWrong)

/-- 'tholepinlaw36.UpgradeTwos': WHATEVER THE INPUT: true; the input reads as it did. -/
def upgradeTwosSpec : ChangeSpec := { name := "upgradeTwos", fn := fun _ => fun
  | [d] => { results := [.lit (.bool true)], args := [d] }
  | _ => none }
def upgradeTwosRow : OpenClaim := { program := "ytlbchenleimopaa", sum := "dc865097eea0981f9e686550bd5974d85fd4eff5df7750f3e24e65f554525557", func := "tholepin/tholepinlaw36.UpgradeTwos", spec := "upgradeTwos", unfollowed := true, recurses := true, apart := false }
def UpgradeTwosSaid : Prop := upgradeTwosRow.holds Try.pinned (OpenSpec.ofChange upgradeTwosSpec)

/-- ITS FALSE NEIGHBOUR: 'it returns false'. Refute it at one input. -/
def upgradeTwosWrong : ChangeSpec := { name := "upgradeTwos", fn := fun _ => fun
  | [d] => { results := [.lit (.bool false)], args := [d] }
  | _ => none }
def UpgradeTwosWrongFalsely : Prop := upgradeTwosRow.holds Try.pinned (OpenSpec.ofChange upgradeTwosWrong)

/-- 'tholepinlaw36.UpgradeDown': WHATEVER THE INPUT: true; the input reads as it did. -/
def upgradeDownSpec : ChangeSpec := { name := "upgradeDown", fn := fun _ => fun
  | [d] => { results := [.lit (.bool true)], args := [d] }
  | _ => none }
def upgradeDownRow : OpenClaim := { program := "ytlbchenleimopaa", sum := "dc865097eea0981f9e686550bd5974d85fd4eff5df7750f3e24e65f554525557", func := "tholepin/tholepinlaw36.UpgradeDown", spec := "upgradeDown", unfollowed := true, recurses := true, apart := false }
def UpgradeDownSaid : Prop := upgradeDownRow.holds Try.pinned (OpenSpec.ofChange upgradeDownSpec)

/-- ITS FALSE NEIGHBOUR: 'it returns false'. Refute it at one input. -/
def upgradeDownWrong : ChangeSpec := { name := "upgradeDown", fn := fun _ => fun
  | [d] => { results := [.lit (.bool false)], args := [d] }
  | _ => none }
def UpgradeDownWrongFalsely : Prop := upgradeDownRow.holds Try.pinned (OpenSpec.ofChange upgradeDownWrong)

/- THE SECOND FORM. 'bulk': how many values and letters a reading holds, each counted each time it is reached (what is shared counts as often as it is met; a slice's spare places count too). A statement '..UptoSaid' is the law's where the arguments, and the package variables that the reading takes, are together of bulk at most 1048576: NARROWER than '..Said'. Prove '..Said' where nothing that the law and all that it calls make is longer than what came in: it says more and counts as full. Else prove '..UptoSaid'. A law counts once. -/
mutual
def uptoBulk {H : Type} : DataW H → Nat
  | .lit (.string bytes) => bytes.length + 1
  | .lit _ => 1
  | .nil => 1
  | .ptr d => uptoBulk d + 1
  | .slice elems spare => uptoBulkAll elems + uptoBulkAll spare + 1
  | .agg parts => uptoBulkAll parts + 1
  | .iface _ d => uptoBulk d + 1
  | .map entries => uptoBulkEntries entries + 1
  | .held _ => 1
def uptoBulkAll {H : Type} : List (DataW H) → Nat
  | [] => 0
  | d :: r => uptoBulk d + uptoBulkAll r
def uptoBulkEntries {H : Type} : List (Lit × DataW H) → Nat
  | [] => 0
  | x :: r => uptoBulkEntry x + uptoBulkEntries r
def uptoBulkEntry {H : Type} : Lit × DataW H → Nat
  | (.string bytes, d) => bytes.length + uptoBulk d + 1
  | (_, d) => uptoBulk d + 1
 end
def uptoSmall : (H : Type) → List (DataW H) → Bool := fun _ ds => decide (uptoBulkAll ds ≤ 1048576)
def OpenSpec.upto (s : _root_.Go.ChangeSpec) : _root_.Go.OpenSpec := { _root_.Go.OpenSpec.ofChange s with cond := some uptoSmall }

/-- 'tholepinlaw36.UpgradeOnes', WHERE WHAT IT READS IS OF BULK AT MOST 1048576: true; the input reads as it did. -/
def upgradeOnesUptoRow : OpenClaim := { program := "ytlbchenleimopaa", sum := "dc865097eea0981f9e686550bd5974d85fd4eff5df7750f3e24e65f554525557", func := "tholepin/tholepinlaw36.UpgradeOnes", spec := "upgradeOnes", unfollowed := true, recurses := true, apart := false, narrowed := true }
def UpgradeOnesUptoSaid : Prop := upgradeOnesUptoRow.holds Try.pinned (OpenSpec.upto upgradeOnesSpec)

/-- 'tholepinlaw36.UpgradeTwos', WHERE WHAT IT READS IS OF BULK AT MOST 1048576: true; the input reads as it did. -/
def upgradeTwosUptoRow : OpenClaim := { program := "ytlbchenleimopaa", sum := "dc865097eea0981f9e686550bd5974d85fd4eff5df7750f3e24e65f554525557", func := "tholepin/tholepinlaw36.UpgradeTwos", spec := "upgradeTwos", unfollowed := true, recurses := true, apart := false, narrowed := true }
def UpgradeTwosUptoSaid : Prop := upgradeTwosUptoRow.holds Try.pinned (OpenSpec.upto upgradeTwosSpec)

/-- 'tholepinlaw36.UpgradeDown', WHERE WHAT IT READS IS OF BULK AT MOST 1048576: true; the input reads as it did. -/
def upgradeDownUptoRow : OpenClaim := { program := "ytlbchenleimopaa", sum := "dc865097eea0981f9e686550bd5974d85fd4eff5df7750f3e24e65f554525557", func := "tholepin/tholepinlaw36.UpgradeDown", spec := "upgradeDown", unfollowed := true, recurses := true, apart := false, narrowed := true }
def UpgradeDownUptoSaid : Prop := upgradeDownUptoRow.holds Try.pinned (OpenSpec.upto upgradeDownSpec)

end Rows
end Go.Proofs.Ytlbchenleimopaa
