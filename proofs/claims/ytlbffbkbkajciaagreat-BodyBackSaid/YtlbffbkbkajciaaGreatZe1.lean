/- Needed by bodyBack_walk, part 1: texts put together by shake.py; no condition. -/
import Derived.Test.YtlbffbkbkajciaaGreatZd12
import Derived.ProofKit
import Derived.OpenShut
import Derived.Deep.Slices
import Derived.Lib.SmallJoins
import Derived.WalkKit
import Derived.WalkLawsBesides
import Derived.WalkSpells
import Derived.Outline
import Derived.BigQuiet
import Derived.Deep.QuietTactic
import Derived.Test.YtlbffbkbkajciaaGreatRows
import Derived.Maps.AppendAt
import Derived.Deep.AppendLies
import Derived.RegionTactic
import Derived.BigRegion
import Derived.Deep.Cut
import Derived.Deep.RegionHeld3
import Derived.IntWalk
import Derived.Laws.IdiomStrings
import Derived.Laws.BytesArg
import Derived.StillTailTactics
import Derived.Maps.OwnOps
import Derived.Maps.Views
import Derived.Sort.QuietThIn
import Derived.Sort.BigQuietIn
import Derived.Sort.QuietTacIn
import Derived.RangeFuncNested
import Derived.RangeFuncBound
import Derived.RangeFuncCalls
import Derived.RangeFuncLeaves
import Derived.Shelf.Abstract
import Derived.Shelf.RegionOpen
import Derived.OwnWalkIn
import Derived.TacticsInMore
import Derived.LoopNIn
import Derived.LoopIn
import Derived.Maps.OwnIn
import Derived.StillTail
import Derived.OrdersHeld
import Derived.Deep.RegionHeld
import Derived.ScopeJumps
import Derived.WalkMore
import Derived.Lib.SlBytesConst
import Derived.Deep.CutRange
import Derived.Scope
import Derived.Deep.RegionLaw
import Derived.Laws.MakeOwn
import Derived.Test.YtlbffbkbkajciaaGreatProg
import Derived.Deep.WholeRow
import Derived.Laws.Bits64
namespace Go.Bs
open Go.RowKit
set_option linter.unusedVariables false

section
variable {P : Program}
/-- A struct's fields, each read. -/
theorem trod_fields {H : Type} {enc : TypeId × Value → H} {w : World} {fuel : Nat} {t : TypeId} {cs : List Value} {x : DataW H × List MemPlace} {fs : Array Field} (ht : P.underlying t = some (.struct fs)) (h : DataW.trod enc P w 0 (fun _ => true) true fuel t cs = some x) :
    cs.length = P.cellsOf t ∧ ∃ n, ∀ (i : Nat) (f : Field), fs[i]? = some f → ∃ y, DataW.trod enc P w 0 (fun _ => true) true n f.type ((cs.drop f.offset).take (P.cellsOf f.type)) = some y := by
  obtain ⟨xs, n, _, _, h1, h2, h3⟩ := DataW.trod_struct ht h
  refine ⟨h1, n, fun i f hf => ?_⟩
  have hi : i < fs.size := (Array.getElem?_eq_some_iff.1 hf).1
  rw [h3 i f hf, List.getElem?_eq_getElem (by omega)]
  exact ⟨_, rfl⟩
theorem pair_step {α β : Type} {A : Rp α} {B : Rp β} {S : Nat → Prop} {w : World} {cs : List Value} {o s o' : Nat} {x : α} {y : β} (ho : o + s = o') (h1 : A.r S w ((cs.drop o).take s) x) (h2 : B.r S w (cs.drop o') y) : (rPair A B).r S w (cs.drop o) (x, y) :=
  ⟨_, _, by subst ho; rw [← List.drop_drop, List.take_append_drop], h1, h2⟩
theorem last_step {β : Type} {B : Rp β} {S : Nat → Prop} {w : World} {cs : List Value} {o s : Nat} {y : β} (hl : cs.length = o + s) (h2 : B.r S w ((cs.drop o).take s) y) : B.r S w (cs.drop o) y := by
  rwa [List.take_of_length_le (by simp; omega)] at h2

end
end Go.Bs
namespace Go.Proofs.YtlbffbkbkajciaaGreat
open Go.RowKit Go.Bs
set_option linter.unusedVariables false
set_option linter.unusedSimpArgs false

theorem c_u64 : Tryz.prog.cellsOf 22 = 1 := by kernel_rfl
theorem c_bytes : Tryz.prog.cellsOf 25 = 1 := by kernel_rfl
theorem c_u64s : Tryz.prog.cellsOf 23 = 1 := by kernel_rfl
theorem c_links : Tryz.prog.cellsOf 24 = 1 := by kernel_rfl
theorem o_u64 : Opens Tryz.prog 22 (rInt .u64) := opens_int Tryz.underlying22
theorem o_u64s : Opens Tryz.prog 23 rU64s := opens_slice (sz := 1) Tryz.underlying23 (by kernel_rfl) (by decide) o_u64

theorem field_at {H : Type} {enc : TypeId × Value → H} {P : Program} {w : World} {cs : List Value} {n : Nat} {fs : Array Field} (h : ∀ (i : Nat) (f : Field), fs[i]? = some f → ∃ y, DataW.trod enc P w 0 (fun _ => true) true n f.type ((cs.drop f.offset).take (P.cellsOf f.type)) = some y)
    {α : Type} {A : Rp α} {t : TypeId} (hA : Opens P t A) (i : Nat) (f : Field) (o : Nat) (hf : fs[i]? = some f) (ht : f.type = t) (ho : f.offset = o) (hs : P.cellsOf t = 1) : ∃ x, A.r (· < w.heap.size) w ((cs.drop o).take 1) x := by
  obtain ⟨y, hy⟩ := h i f hf
  rw [ht, ho, hs] at hy
  exact hA enc w n _ _ hy

theorem o_link : Opens Tryz.prog 151 rLink := fun enc w fuel cs x h => by
  obtain ⟨hl, n, hf⟩ := trod_fields Tryz.underlying151 h
  have hl2 : cs.length = 2 := hl.trans (by kernel_rfl)
  obtain ⟨x0, r0⟩ := field_at hf o_u64 0 _ 0 rfl rfl rfl c_u64
  obtain ⟨x1, r1⟩ := field_at hf o_u64s 1 _ 1 rfl rfl rfl c_u64s
  exact ⟨⟨x0, x1⟩, by have h := pair_step (o := 0) (s := 1) (o' := 1) rfl r0 (last_step (s := 1) hl2 r1); rw [List.drop_zero] at h; exact h⟩
theorem o_links : Opens Tryz.prog 24 rLinks := opens_slice (sz := 2) Tryz.underlying24 (by kernel_rfl) (by decide) o_link
end Go.Proofs.YtlbffbkbkajciaaGreat
namespace Go.Proofs.YtlbffbkbkajciaaGreat
open Go.RowKit Go.Bs Go.Maps
set_option linter.unusedVariables false
set_option linter.unusedSimpArgs false

theorem Rs.take_pre {B D rest : List UInt8} {p : Nat} (h : B.drop p = D ++ rest) (hp : p ≤ B.length) : (⟨p, 0, 0⟩ : Rs).take B (D.length : Int) = (⟨p + D.length, 0, 0⟩, D) := by
  have hr := drop_room h hp
  unfold Rs.take Rs.skip
  rw [if_pos rfl, if_neg (by omega), if_neg (by dsimp only; omega)]
  simp [h]
theorem Rs.blob_pre {B D rest : List UInt8} {p : Nat} {m : Int} (hx : D.length < 18446744073709551616) (h : B.drop p = blobB D ++ rest) (hp : p ≤ B.length) (hm : (D.length : Int) ≤ m) : (⟨p, 0, 0⟩ : Rs).blob B m = (⟨p + (blobB D).length, 0, 0⟩, D) := by
  unfold blobB at h
  rw [List.append_assoc] at h
  have h2 := drop_more h
  have hr := drop_room h hp
  unfold Rs.blob
  rw [Rs.int_pre hx h hm]
  dsimp only
  rw [Rs.take_pre h2 (by omega)]
  simp [blobB, Nat.add_assoc]

theorem againL_take {b : List UInt8} {o : Nat} : ∀ (m p : Nat), p + m ≤ b.length → 1 ≤ o → o ≤ p → (∀ k, k < m → b[p + k]? = b[p + k - o]?) → againL o m (b.take p) = b.take (p + m)
  | 0, p, _, _, _, _ => rfl
  | m + 1, p, h, h1, h2, hs => by
    have h0 := hs 0 (by omega)
    have hb : b[p]? = some b[p] := by simp
    simp only [Nat.add_zero] at h0
    have e : b.take p ++ [(b.take p).getD ((b.take p).length - o) 0] = b.take (p + 1) := by
      rw [List.length_take, Nat.min_eq_left (by omega)]
      have : (b.take p).getD (p - o) 0 = b[p] := by
        have : (b.take p)[p - o]? = some b[p] := by rw [List.getElem?_take_of_lt (by omega), ← h0, hb]
        simp [List.getD, this]
      rw [this]
      rw [List.take_add_one, hb]; rfl
    simp only [againL]
    rw [e, againL_take m (p + 1) (by omega) h1 (by omega) (fun k hk => by
      have := hs (k + 1) (by omega)
      rw [show p + 1 + k = p + (k + 1) by omega]
      exact this)]
    rw [show p + 1 + m = p + (m + 1) by omega]

theorem exR_good {b B : List UInt8} {bound : Int} (hb : b.length ≤ 1048576) (hbd : (b.length : Int) ≤ bound) {f : Bool} {p : Nat} {ts : List Tok} (hg : Good b f p ts) : p ≤ b.length → ∀ q, q ≤ B.length → B.drop q = tokensB ts → exR B bound ⟨q, 0, 0⟩ (b.take p) = (⟨B.length, 0, 0⟩, b) := by
  induction hg with
  | nil =>
    intro _ q hq h
    have : B.length ≤ q := by simpa [tokensB] using h
    obtain rfl : q = B.length := by omega
    rw [exR_stop (by simp)]
    simp
  | @copy f p o m rest hp hbe hm hg ih =>
    intro _ q hq h
    rcases bestR_facts b p with h0 | ⟨o', m', he, h1, h2, h4, hml, _, _⟩
    · rw [hbe] at h0; simp at h0; omega
    · rw [hbe] at he
      simp only [Prod.mk.injEq] at he
      obtain ⟨rfl, rfl⟩ := he
      have hmb := mlen_le b p o
      have hre : reach p ≤ p ∧ reach p ≤ 65536 := by unfold reach; omega
      have ht : tokensB (⟨[], (o : Int), (m : Int)⟩ :: rest) = varB (2 * m - 7) ++ (varB (o - 1) ++ tokensB rest) := by
        simp only [tokensB, List.map_cons, List.flatten_cons]
        rw [tokB_copy o m h1, List.append_assoc]
      rw [ht] at h
      have hd1 := drop_more h
      have hr1 := drop_room h hq
      have hd2 := drop_more hd1
      have hr2 := drop_room hd1 (by omega)
      have hl1 := (varB_len (2 * m - 7)).2
      have hN := Rs.num_varB (by omega) h
      have hN2 := Rs.num_varB (p := q + (varB (2 * m - 7)).length) (by omega) hd1
      have hH : (⟨q, 0, 0⟩ : Rs).head B = (⟨q + (varB (2 * m - 7)).length, 0, 0⟩, true, m) := by
        unfold Rs.head
        rw [hN]
        dsimp only
        rw [if_pos rfl, if_pos (by omega), if_neg (by omega), show (2 * m - 7) / 2 + 4 = m by omega]
      have hO : (⟨q + (varB (2 * m - 7)).length, 0, 0⟩ : Rs).offset B = (⟨q + (varB (2 * m - 7)).length + (varB (o - 1)).length, 0, 0⟩, o) := by
        unfold Rs.offset
        rw [hN2]
        dsimp only
        rw [if_neg (by omega), if_pos rfl, show o - 1 + 1 = o by omega]
      have hlen : (b.take p).length = p := by simp; omega
      have hS : exStep B bound ⟨q, 0, 0⟩ (b.take p) = (⟨q + (varB (2 * m - 7)).length + (varB (o - 1)).length, 0, 0⟩, b.take (p + m)) := by
        unfold exStep
        rw [hH]
        dsimp only
        rw [hlen, if_neg (by omega), if_neg (by simp), hO]
        dsimp only
        rw [if_neg (by omega), if_pos rfl, againL_take m p (by omega) h1 (by omega) (fun k hk => (mlen_same (by omega)).2.2.2)]
      rw [exR_go ⟨hq, fun _ => rfl⟩ (by dsimp only; omega) rfl, hS]
      exact ih (by omega) _ (by omega) hd2
  | @run p q' rest hlt hle hno hg ih =>
    intro _ q hq h
    have hD : ((b.drop p).take (q' - p)).length = q' - p := by simp; omega
    generalize hDe : (b.drop p).take (q' - p) = D at *
    have ht : tokensB (⟨D, 0, 0⟩ :: rest) = varB (2 * D.length - 2) ++ (D ++ tokensB rest) := by
      simp only [tokensB, List.map_cons, List.flatten_cons]
      rw [tokB_run D (by omega) (by omega), List.append_assoc]
    rw [ht] at h
    have hd1 := drop_more h
    have hr1 := drop_room h hq
    have hd2 := drop_more hd1
    have hr2 := drop_room hd1 (by omega)
    have hl1 := (varB_len (2 * D.length - 2)).2
    have hN := Rs.num_varB (by omega) h
    have hH : (⟨q, 0, 0⟩ : Rs).head B = (⟨q + (varB (2 * D.length - 2)).length, 0, 0⟩, false, D.length) := by
      unfold Rs.head
      rw [hN]
      dsimp only
      rw [if_pos rfl, if_neg (by omega), if_neg (by omega), show (2 * D.length - 2) / 2 + 1 = D.length by omega]
    have hlen : (b.take p).length = p := by simp; omega
    have hS : exStep B bound ⟨q, 0, 0⟩ (b.take p) = (⟨q + (varB (2 * D.length - 2)).length + D.length, 0, 0⟩, b.take q') := by
      unfold exStep
      rw [hH]
      dsimp only
      rw [hlen, if_neg (by omega), if_pos rfl, Rs.take_pre hd1 (by omega)]
      rw [← hDe]
      refine Prod.ext rfl ?_
      dsimp only
      have : b.take q' = b.take p ++ (b.drop p).take (q' - p) := by
        rw [← List.take_append_drop p (b.take q'), List.take_take, Nat.min_eq_left (by omega), List.drop_take]
      exact this.symm
    rw [exR_go ⟨hq, fun _ => rfl⟩ (by dsimp only; omega) rfl, hS]
    exact ih (by omega) _ (by omega) hd2
/-- What is compressed is expanded to what it was. -/
theorem exB_press {b : List UInt8} {bound : Int} (hb : b.length ≤ 1048576) (hbd : (b.length : Int) ≤ bound) : exB (pressB b) bound = (b, 0, 0) := by
  have := exR_good (B := pressB b) hb hbd (good_toksR b) (by omega) 0 (by omega) rfl
  rw [exB_is]
  simp only [List.take_zero] at this
  rw [this, if_pos rfl]
/-- What is put is read. -/
theorem Rs.loose_block {B D rest : List UInt8} {p : Nat} {most : Int} (h : B.drop p = blockB D ++ rest) (hp : p ≤ B.length) (hD : D.length ≤ 1048576) (hm : (D.length : Int) ≤ most) :
    (⟨p, 0, 0⟩ : Rs).loose B most = (⟨p + (blockB D).length, 0, 0⟩, D, true) := by
  have htk : (B.drop p).take (blockB D).length = blockB D := by rw [h]; simp
  have h' := h
  unfold blockB at h
  rw [List.append_assoc] at h
  have hd1 := drop_more h
  have hr1 := drop_room h hp
  have hI := Rs.int_pre (m := min most 1048576) (by omega) h (by omega)
  unfold Rs.loose
  rw [hI]
  dsimp only
  cases hpk : packR D
  · rw [hpk] at hd1
    rw [if_neg (by simp)] at hd1
    have hd2 := drop_more (D := [0]) hd1
    have hr2 := drop_room (D := [0]) hd1 (by omega)
    simp only [List.length_cons, List.length_nil, Nat.zero_add] at hd2 hr2
    rw [Rs.byte_pre hd1 (by omega)]
    dsimp only
    rw [if_pos rfl, if_pos (by rfl), Rs.take_pre hd2 (by omega)]
    dsimp only
    rw [if_pos rfl]
    have hl : (blockB D).length = (varB D.length).length + (1 + D.length) := by simp [blockB, hpk]; omega
    rw [show p + (varB D.length).length + 1 + D.length = p + (blockB D).length by omega, show p + (blockB D).length - p = (blockB D).length by omega, htk]
    simp
  · have hpl : (blobB (pressB D)).length < D.length := of_decide_eq_true hpk
    have hpl2 := blobB_len (pressB D)
    rw [hpk] at hd1
    rw [if_pos rfl] at hd1
    have hd2 := drop_more (D := [1]) hd1
    have hr2 := drop_room (D := [1]) hd1 (by omega)
    simp only [List.length_cons, List.length_nil, Nat.zero_add] at hd2 hr2
    rw [Rs.byte_pre hd1 (by omega)]
    dsimp only
    rw [if_pos rfl, if_neg (by decide), if_pos (by rfl)]
    have hB := Rs.blob_pre (m := 1048576) (by omega) hd2 (by omega) (by omega)
    have hU : (⟨p + (varB D.length).length + 1, 0, 0⟩ : Rs).unp B D.length = (⟨p + (varB D.length).length + 1 + (blobB (pressB D)).length, 0, 0⟩, D) := by
      unfold Rs.unp
      rw [hB]
      dsimp only
      rw [exB_press hD (Int.le_refl _)]
      dsimp only
      rw [if_pos rfl, if_pos rfl, if_neg (by omega)]
    rw [hU]
    dsimp only
    rw [if_pos rfl]
    have hl : (blockB D).length = (varB D.length).length + (1 + (blobB (pressB D)).length) := by simp [blockB, hpk]; omega
    rw [show p + (varB D.length).length + 1 + (blobB (pressB D)).length = p + (blockB D).length by omega, show p + (blockB D).length - p = (blockB D).length by omega, htk]
    simp
end Go.Proofs.YtlbffbkbkajciaaGreat
namespace Go.Bs
open Go.RowKit
set_option linter.unusedVariables false

def rSeal : Rp Seal := rBy (fun s => (s.epoch, s.node, s.tail)) (rPair (rInt .u64) (rPair (rInt .u64) (rInt .u64)))
def rProjn : Rp Projn := rBy (fun p => (p.epoch, p.stripes)) (rPair (rInt .u64) rStripes)
def rMsg : Rp Msg := rBy (fun m => (m.kind, m.epoch, m.seq, m.pos, m.count, m.state, m.streams, m.links, m.data, m.sea, m.proj))
  (rPair (rInt .i64) (rPair (rInt .u64) (rPair (rInt .u64) (rPair (rInt .u64) (rPair (rInt .i64) (rPair (rInt .i64) (rPair rU64s (rPair rLinks (rPair rBytes (rPair rSeal rProjn))))))))))

section
variable {S : Nat → Prop} {w : World} {cs : List Value}
theorem seal_cells {x : Seal} (h : rSeal.r S w cs x) : cs = [.int .u64 x.epoch, .int .u64 x.node, .int .u64 x.tail] ∧ inU x.epoch ∧ inU x.node ∧ inU x.tail := by
  obtain ⟨c1, c2, rfl, ⟨rfl, h1⟩, c3, c4, rfl, ⟨rfl, h2⟩, rfl, h3⟩ := h
  exact ⟨rfl, bounds_u64 h1, bounds_u64 h2, bounds_u64 h3⟩
theorem projn_cells {x : Projn} (h : rProjn.r S w cs x) : ∃ a c, cs = [.int .u64 x.epoch, .slice a x.stripes.length c] ∧ inU x.epoch ∧ rStripes.r S w [.slice a x.stripes.length c] x.stripes := by
  obtain ⟨c1, c2, rfl, ⟨rfl, h1⟩, h3⟩ := h
  obtain ⟨a, c, rfl, h4, _⟩ := sl_form h3
  exact ⟨a, c, rfl, bounds_u64 h1, h4⟩
/-- A message's cells, the slices' places told. -/
def msgCells (m : Msg) (a1 : Option Addr) (c1 : Nat) (a2 : Option Addr) (c2 : Nat) (a3 : Option Addr) (c3 : Nat) (a4 : Option Addr) (c4 : Nat) : List Value :=
  [.int .i64 m.kind, .int .u64 m.epoch, .int .u64 m.seq, .int .u64 m.pos, .int .i64 m.count, .int .i64 m.state, .slice a1 m.streams.length c1, .slice a2 m.links.length c2, .slice a3 m.data.length c3,
   .int .u64 m.sea.epoch, .int .u64 m.sea.node, .int .u64 m.sea.tail, .int .u64 m.proj.epoch, .slice a4 m.proj.stripes.length c4]
theorem msg_cells {x : Msg} (h : rMsg.r S w cs x) : ∃ a1 c1 a2 c2 a3 c3 a4 c4, cs = msgCells x a1 c1 a2 c2 a3 c3 a4 c4 ∧ MsgIn S w x a1 c1 a2 c2 a3 c3 a4 c4 := by
  obtain ⟨_, _, rfl, ⟨rfl, h1⟩, _, _, rfl, ⟨rfl, h2⟩, _, _, rfl, ⟨rfl, h3⟩, _, _, rfl, ⟨rfl, h4⟩, _, _, rfl, ⟨rfl, h5⟩, _, _, rfl, ⟨rfl, h6⟩, _, _, rfl, h7, _, _, rfl, h8, _, _, rfl, h9, _, _, rfl, h10, h11⟩ := h
  obtain ⟨a1, c1, rfl, g1, _⟩ := sl_form h7
  obtain ⟨a2, c2, rfl, g2, _⟩ := sl_form h8
  obtain ⟨a3, c3, rfl, g3, _⟩ := sl_form h9
  obtain ⟨rfl, s1, s2, s3⟩ := seal_cells h10
  obtain ⟨a4, c4, rfl, p1, g4⟩ := projn_cells h11
  exact ⟨a1, c1, a2, c2, a3, c3, a4, c4, rfl, bounds_i64 h1, bounds_u64 h2, bounds_u64 h3, bounds_u64 h4, bounds_i64 h5, bounds_i64 h6, s1, s2, s3, p1, g1, g2, g3, g4⟩
end

/-! What is well-formed. -/
end Go.Bs
namespace Go.Proofs.YtlbffbkbkajciaaGreat
open Go.RowKit Go.Bs
set_option linter.unusedVariables false
set_option linter.unusedSimpArgs false

/-- More than K things, or one of the first K ones is too long. -/
def longG {α : Type} (K : Nat) (p : α → Bool) (l : List α) : Bool := decide (K < l.length) || (l.take K).any p
def longGAt {α : Type} (K : Nat) (p : α → Bool) (l : List α) (k : Nat) : Bool := decide (K < l.length) || ((l.take K).drop k).any p
theorem longG_no {α : Type} {K : Nat} {p : α → Bool} {l : List α} (h : longG K p l = false) : l.length ≤ K ∧ ∀ x ∈ l, p x = false := by
  simp only [longG, Bool.or_eq_false_iff, decide_eq_false_iff_not, List.any_eq_false] at h
  obtain ⟨h1, h2⟩ := h
  rw [List.take_of_length_le (by omega)] at h2
  exact ⟨by omega, fun x hx => by simpa using h2 x hx⟩
theorem longGAt_step {α : Type} (K : Nat) (p : α → Bool) (l : List α) (k : Nat) (h : k < l.length) (h2 : k < K) : longGAt K p l k = (p l[k] || longGAt K p l (k + 1)) := by
  unfold longGAt
  have e : (l.take K)[k]'(by simp; omega) = l[k] := by simp
  rw [List.drop_eq_getElem_cons (show k < (l.take K).length by simp; omega), List.any_cons, e]
  cases decide (K < l.length) <;> cases p l[k] <;> simp
theorem longGAt_end {α : Type} (K : Nat) (p : α → Bool) (l : List α) (k : Nat) (h : l.length ≤ k ∨ K ≤ k) : longGAt K p l k = decide (K < l.length) := by
  unfold longGAt
  rw [List.drop_of_length_le (by simp; omega)]
  simp

def long23 (l : List Link) : Bool := longG 50 (fun x => decide (50 < x.backs.length)) l
set_option maxRecDepth 100000 in
set_option maxHeartbeats 1600000 in
theorem law23_long (l : List Link) (a : Option Addr) (n c : Nat) (w : World) (hl : rLinks.r (· < w.heap.size) w [.slice a n c] l) :
    Calls Tryz.prog 58 #[.slice a n c] w fun r w' => r = .returned (.bool (long23 l)) ∧ Below w.heap.size w w' := by
  obtain ⟨rfl, hm, _, _⟩ := sl_len hl
  have HL := hid hl; clear hl
  go_enter Tryz.func58, Tryz.ntmps58
  go_wp2_with fail
  go_loop [3] (fun i => ∃ k : Nat, k ≤ l.length ∧ k ≤ 50 ∧ i = .int .i64 k ∧ Hid (long23 l = longGAt 50 (fun x => decide (50 < x.backs.length)) l k)) (fun i => l.length - (intOf i).toNat)
  case atStart => exact ⟨0, Nat.zero_le _, Nat.zero_le _, rfl, hid rfl⟩
  case round =>
    obtain ⟨k, hk, hk2, rfl, hf⟩ := hrel
    by_cases hlt : k < l.length
    · by_cases h450 : k < 50
      · obtain ⟨b, o, hA, hbb, a1, c1, X0, X1, _, _⟩ := link_at HL.out hlt
        subst hA
        have hst := hid (longGAt_step 50 (fun x => decide (50 < x.backs.length)) l k hlt h450)
        generalize l[k] = x at *
        generalize x.stream = xs at *
        generalize x.backs.length = n1 at *
        by_cases h3 : 50 < n1
        · have hff : Hid (long23 l = true) := hid (by rw [hf.out, hst.out]; simp [h3])
          have d3 : decide ((50 : Int) < (n1 : Int)) = true := by simp; omega
          clear h3
          go_wp2
          go_ret
          exact ⟨by rw [hff.out]; rfl, by (repeat (first | exact Below.refl _ _ | assumption | (refine below_alloc ?_ _) | (refine Below.setCell ?_ (by first | omega | (simp; done) | (simp; omega)) _) | (refine Below.drew ?_) | (refine below_drewN ?_ _) | (refine below_then (by assumption) ?_)))⟩
        · have hff : Hid (long23 l = longGAt 50 (fun x => decide (50 < x.backs.length)) l (k + 1)) := hid (by rw [hf.out, hst.out]; simp [h3])
          have d3 : decide ((50 : Int) < (n1 : Int)) = false := by simp; omega
          clear h3
          go_wp2
          go_round
          case rel => exact ⟨k + 1, by omega, by omega, by go_num, hff⟩
          case measure => simp [intOf]; omega
      · have hff : Hid (long23 l = decide ((50 : Int) < (l.length : Int))) := hid (by rw [hf.out, longGAt_end _ _ l k (.inr (by omega))]; simp only [decide_eq_decide]; omega)
        go_wp2
        go_ret
        exact ⟨by rw [hff.out]; rfl, by (repeat (first | exact Below.refl _ _ | assumption | (refine below_alloc ?_ _) | (refine Below.setCell ?_ (by first | omega | (simp; done) | (simp; omega)) _) | (refine Below.drew ?_) | (refine below_drewN ?_ _) | (refine below_then (by assumption) ?_)))⟩
    · have hff : Hid (long23 l = decide ((50 : Int) < (l.length : Int))) := hid (by rw [hf.out, longGAt_end _ _ l k (.inl (by omega))]; simp only [decide_eq_decide]; omega)
      go_wp2
      go_ret
      exact ⟨by rw [hff.out]; rfl, by (repeat (first | exact Below.refl _ _ | assumption | (refine below_alloc ?_ _) | (refine Below.setCell ?_ (by first | omega | (simp; done) | (simp; omega)) _) | (refine Below.drew ?_) | (refine below_drewN ?_ _) | (refine below_then (by assumption) ?_)))⟩

end Go.Proofs.YtlbffbkbkajciaaGreat
namespace Go.Proofs.YtlbffbkbkajciaaGreat
open Go.RowKit Go.Bs Go.Maps
set_option linter.unusedVariables false
set_option linter.unusedSimpArgs false

def long19 (l : List (List Int)) : Bool := longG 20 (fun x => decide (20 < x.length)) l
def long20 (l : List Stripe) : Bool := longG 70 (fun x => long19 x.sets) l
def long28 (m : Msg) : Bool := decide (50 < m.streams.length) || (long23 m.links || (decide (300 < m.data.length) || long20 m.proj.stripes))
structure Short (m : Msg) : Prop where
  streams : m.streams.length ≤ 50
  links : m.links.length ≤ 50
  backs : ∀ x ∈ m.links, x.backs.length ≤ 50
  data : m.data.length ≤ 300
  stripes : m.proj.stripes.length ≤ 70
  sets : ∀ s ∈ m.proj.stripes, s.sets.length ≤ 20 ∧ ∀ x ∈ s.sets, x.length ≤ 20
theorem long28_no {m : Msg} (h : long28 m = false) : Short m := by
  simp only [long28, Bool.or_eq_false_iff, decide_eq_false_iff_not] at h
  obtain ⟨h1, h2, h3, h4⟩ := h
  obtain ⟨l1, l2⟩ := longG_no h2
  obtain ⟨s1, s2⟩ := longG_no h4
  refine ⟨by omega, l1, fun x hx => by have := l2 x hx; simp only [decide_eq_false_iff_not] at this; omega, by omega, s1, fun s hs => ?_⟩
  obtain ⟨t1, t2⟩ := longG_no (s2 s hs)
  exact ⟨t1, fun x hx => by have := t2 x hx; simp only [decide_eq_false_iff_not] at this; omega⟩

set_option maxRecDepth 100000 in
set_option maxHeartbeats 3200000 in
theorem law19_long (lo hp : Int) (l : List (List Int)) (a : Option Addr) (n c : Nat) (w : World) (hl : rSets.r (· < w.heap.size) w [.slice a n c] l) :
    Calls Tryz.prog 144 #[.agg #[.int .u64 lo, .int .u64 hp, .slice a n c]] w fun r w' => r = .returned (.bool (long19 l)) ∧ Below w.heap.size w w' := by
  obtain ⟨rfl, hm, _, _⟩ := sl_len hl
  have hb0 : Below w.heap.size w (w.alloc (.cells #[.int .u64 lo, .int .u64 hp, .slice a l.length c] 155)) := by (repeat (first | exact Below.refl _ _ | assumption | (refine below_alloc ?_ _) | (refine Below.setCell ?_ (by first | omega | (simp; done) | (simp; omega)) _) | (refine Below.drew ?_) | (refine below_drewN ?_ _) | (refine below_then (by assumption) ?_)))
  have x2 : (w.alloc (.cells #[.int .u64 lo, .int .u64 hp, .slice a l.length c] 155)).cell? ⟨w.heap.size, 2, none⟩ = some (.slice a l.length c) := by simp
  go_enter Tryz.func144, Tryz.ntmps144
  go_wp2_with fail
  generalize w.alloc (.cells #[.int .u64 lo, .int .u64 hp, .slice a l.length c] 155) = w0 at *
  have HL := hid (lift hl hb0)
  clear hl
  go_loop [3] (fun i => ∃ k : Nat, k ≤ l.length ∧ k ≤ 20 ∧ i = .int .i64 k ∧ Hid (long19 l = longGAt 20 (fun x => decide (20 < x.length)) l k)) (fun i => l.length - (intOf i).toNat)
  case atStart => exact ⟨0, Nat.zero_le _, Nat.zero_le _, rfl, hid rfl⟩
  case round =>
    obtain ⟨k, hk, hk2, rfl, hf⟩ := hrel
    by_cases hlt : k < l.length
    · have i1 : (k : Int) < (l.length : Int) := by omega
      have e1 : decide ((k : Int) < (l.length : Int)) = true := decide_eq_true i1
      by_cases h20 : k < 20
      · have e2 : decide ((k : Int) < 20) = true := decide_eq_true (by omega)
        obtain ⟨b, o, hA, hbb, ak, ck, X0, _⟩ := set_at HL.out hlt
        subst hA
        have hst := hid (longGAt_step 20 (fun x => decide (20 < x.length)) l k hlt h20)
        generalize l[k] = x at *
        generalize x.length = n1 at *
        by_cases h3 : 20 < n1
        · have hff : Hid (long19 l = true) := hid (by rw [hf.out, hst.out]; simp [h3])
          have d3 : decide ((20 : Int) < (n1 : Int)) = true := decide_eq_true (by omega)
          clear h3
          go_wp2_with fail
          go_ret
          exact ⟨by rw [hff.out]; rfl, hb0⟩
        · have hff : Hid (long19 l = longGAt 20 (fun x => decide (20 < x.length)) l (k + 1)) := hid (by rw [hf.out, hst.out]; simp [h3])
          have d3 : decide ((20 : Int) < (n1 : Int)) = false := decide_eq_false (by omega)
          clear h3
          go_wp2_with fail
          go_round
          case rel => exact ⟨k + 1, by omega, by omega, by go_num, hff⟩
          case measure => (simp [intOf]; try omega)
      · have e2 : decide ((k : Int) < 20) = false := decide_eq_false (by omega)
        have hff : Hid (long19 l = decide ((20 : Int) < (l.length : Int))) := hid (by rw [hf.out, longGAt_end _ _ l k (.inr (by omega))]; simp only [decide_eq_decide]; omega)
        go_wp2_with fail
        go_ret
        exact ⟨by rw [hff.out]; rfl, hb0⟩
    · have e1 : decide ((k : Int) < (l.length : Int)) = false := decide_eq_false (by omega)
      have hff : Hid (long19 l = decide ((20 : Int) < (l.length : Int))) := hid (by rw [hf.out, longGAt_end _ _ l k (.inl (by omega))]; simp only [decide_eq_decide]; omega)
      go_wp2_with fail
      go_ret
      exact ⟨by rw [hff.out]; rfl, hb0⟩

set_option maxRecDepth 100000 in
set_option maxHeartbeats 3200000 in
theorem law20_long (ep : Int) (l : List Stripe) (a : Option Addr) (n c : Nat) (w : World) (hl : rStripes.r (· < w.heap.size) w [.slice a n c] l) :
    Calls Tryz.prog 59 #[.agg #[.int .u64 ep, .slice a n c]] w fun r w' => r = .returned (.bool (long20 l)) ∧ Below w.heap.size w w' := by
  obtain ⟨rfl, hm, _, _⟩ := sl_len hl
  have hb0 : Below w.heap.size w (w.alloc (.cells #[.int .u64 ep, .slice a l.length c] 30)) := by (repeat (first | exact Below.refl _ _ | assumption | (refine below_alloc ?_ _) | (refine Below.setCell ?_ (by first | omega | (simp; done) | (simp; omega)) _) | (refine Below.drew ?_) | (refine below_drewN ?_ _) | (refine below_then (by assumption) ?_)))
  have x1 : (w.alloc (.cells #[.int .u64 ep, .slice a l.length c] 30)).cell? ⟨w.heap.size, 1, none⟩ = some (.slice a l.length c) := by simp
  have hs0 : w.heap.size < (w.alloc (.cells #[.int .u64 ep, .slice a l.length c] 30)).heap.size := by simp
  go_enter Tryz.func59, Tryz.ntmps59
  go_wp2_with fail
  generalize w.alloc (.cells #[.int .u64 ep, .slice a l.length c] 30) = w0 at *
  have HL := hid (lift hl hb0)
  have HB0 := hid hb0
  clear hl hb0
  go_loopw [3] (fun i wr => ∃ k : Nat, k ≤ l.length ∧ k ≤ 70 ∧ i = .int .i64 k ∧ Hid (long20 l = longGAt 70 (fun x => long19 x.sets) l k) ∧ Below w0.heap.size w0 wr) (fun i _ => l.length - (intOf i).toNat)
  case atStart => exact ⟨0, Nat.zero_le _, Nat.zero_le _, rfl, hid rfl, Below.refl _ _⟩
  case round =>
    obtain ⟨k, hk, hk2, rfl, hf, hb⟩ := hrel
    have X1 := (hb.cell (p := ⟨w.heap.size, 1, none⟩) hs0).trans x1
    have HBE := hid (HB0.out.trans (hb.mono HB0.out.size))
    by_cases hlt : k < l.length
    · have i1 : (k : Int) < (l.length : Int) := by omega
      have e1 : decide ((k : Int) < (l.length : Int)) = true := decide_eq_true i1
      by_cases h20 : k < 70
      · have e2 : decide ((k : Int) < 70) = true := decide_eq_true (by omega)
        obtain ⟨b, o, hA, hbb, ak, ck, u0, u1, u2, _, _, xl⟩ := stripe_at (lift HL.out hb) hlt
        subst hA
        have hst := hid (longGAt_step 70 (fun x => long19 x.sets) l k hlt h20)
        have HC := hid (law19_long l[k].lo l[k].hi l[k].sets ak _ ck wr xl)
        have HB := hid hb
        clear xl hb
        generalize l[k] = x at *
        (try dsimp only at hst)
        cases h3 : long19 x.sets
        · have hff : Hid (long20 l = longGAt 70 (fun x => long19 x.sets) l (k + 1)) := hid (by rw [hf.out, hst.out, h3]; simp)
          rw [h3] at HC
          clear h3
          go_wp2_with fail
          refine HC.out.mono ?_
          rintro r w3 ⟨rfl, hb3⟩
          have hbe := below_then hb3 HB.out
          go_wp2_with fail
          go_roundw
          case rel => exact ⟨k + 1, by omega, by omega, by go_num, hff, hbe⟩
          case measure => (simp [intOf]; try omega)
        · have hff : Hid (long20 l = true) := hid (by rw [hf.out, hst.out, h3]; rfl)
          rw [h3] at HC
          clear h3
          go_wp2_with fail
          refine HC.out.mono ?_
          rintro r w3 ⟨rfl, hb3⟩
          have hbe := below_then hb3 HBE.out
          go_wp2_with fail
          go_ret
          exact ⟨by rw [hff.out]; rfl, hbe⟩
      · have e2 : decide ((k : Int) < 70) = false := decide_eq_false (by omega)
        have hff : Hid (long20 l = decide ((70 : Int) < (l.length : Int))) := hid (by rw [hf.out, longGAt_end _ _ l k (.inr (by omega))]; simp only [decide_eq_decide]; omega)
        clear hb
        go_wp2_with fail
        go_ret
        exact ⟨by rw [hff.out]; rfl, HBE.out⟩
    · have e1 : decide ((k : Int) < (l.length : Int)) = false := decide_eq_false (by omega)
      have hff : Hid (long20 l = decide ((70 : Int) < (l.length : Int))) := hid (by rw [hf.out, longGAt_end _ _ l k (.inl (by omega))]; simp only [decide_eq_decide]; omega)
      clear hb
      go_wp2_with fail
      go_ret
      exact ⟨by rw [hff.out]; rfl, HBE.out⟩

set_option maxRecDepth 100000 in
set_option maxHeartbeats 3200000 in
theorem law28_long (m : Msg) (a1 : Option Addr) (c1 : Nat) (a2 : Option Addr) (c2 : Nat) (a3 : Option Addr) (c3 : Nat) (a4 : Option Addr) (c4 : Nat) (w : World) (hm : MsgIn (· < w.heap.size) w m a1 c1 a2 c2 a3 c3 a4 c4) :
    Calls Tryz.prog 12 #[.agg #[.int .i64 m.kind, .int .u64 m.epoch, .int .u64 m.seq, .int .u64 m.pos, .int .i64 m.count, .int .i64 m.state, .slice a1 m.streams.length c1, .slice a2 m.links.length c2, .slice a3 m.data.length c3, .int .u64 m.sea.epoch, .int .u64 m.sea.node, .int .u64 m.sea.tail, .int .u64 m.proj.epoch, .slice a4 m.proj.stripes.length c4]] w fun r w' => r = .returned (.bool (long28 m)) ∧ Below w.heap.size w w' := by
  have H23 := hid (fun (W : World) (hW : Below w.heap.size w W) => law23_long m.links a2 _ c2 W (lift hm.links hW))
  have H20 := hid (fun (W : World) (hW : Below w.heap.size w W) => law20_long m.proj.epoch m.proj.stripes a4 _ c4 W (lift hm.stripes hW))
  have hl : long28 m = (decide (50 < m.streams.length) || (long23 m.links || (decide (300 < m.data.length) || long20 m.proj.stripes))) := rfl
  have HBX : Hid (Blk (w.alloc (.cells #[.int .i64 m.kind, .int .u64 m.epoch, .int .u64 m.seq, .int .u64 m.pos, .int .i64 m.count, .int .i64 m.state, .slice a1 m.streams.length c1, .slice a2 m.links.length c2, .slice a3 m.data.length c3, .int .u64 m.sea.epoch, .int .u64 m.sea.node, .int .u64 m.sea.tail, .int .u64 m.proj.epoch, .slice a4 m.proj.stripes.length c4] 32)) w.heap.size 32 #[.int .i64 m.kind, .int .u64 m.epoch, .int .u64 m.seq, .int .u64 m.pos, .int .i64 m.count, .int .i64 m.state, .slice a1 m.streams.length c1, .slice a2 m.links.length c2, .slice a3 m.data.length c3, .int .u64 m.sea.epoch, .int .u64 m.sea.node, .int .u64 m.sea.tail, .int .u64 m.proj.epoch, .slice a4 m.proj.stripes.length c4]) := hid (Blk.new w _ _)
  have hb0 : Below w.heap.size w (w.alloc (.cells #[.int .i64 m.kind, .int .u64 m.epoch, .int .u64 m.seq, .int .u64 m.pos, .int .i64 m.count, .int .i64 m.state, .slice a1 m.streams.length c1, .slice a2 m.links.length c2, .slice a3 m.data.length c3, .int .u64 m.sea.epoch, .int .u64 m.sea.node, .int .u64 m.sea.tail, .int .u64 m.proj.epoch, .slice a4 m.proj.stripes.length c4] 32)) := by (repeat (first | exact Below.refl _ _ | assumption | (refine below_alloc ?_ _) | (refine Below.setCell ?_ (by first | omega | (simp; done) | (simp; omega)) _) | (refine Below.drew ?_) | (refine below_drewN ?_ _) | (refine below_then (by assumption) ?_)))
  generalize long28 m = L at *
  clear hm
  by_cases h1 : 50 < m.streams.length
  · have d1 : decide ((50 : Int) < (m.streams.length : Int)) = true := decide_eq_true (by omega)
    have hff : Hid (L = true) := hid (by rw [hl, decide_eq_true h1]; rfl)
    clear hl h1
    go_enter Tryz.func12, Tryz.ntmps12
    go_wp2_with fail
    go_ret
    exact ⟨by rw [hff.out]; rfl, hb0⟩
  · have d1 : decide ((50 : Int) < (m.streams.length : Int)) = false := decide_eq_false (by omega)
    rw [decide_eq_false h1, Bool.false_or] at hl
    clear h1
    go_enter Tryz.func12, Tryz.ntmps12
    go_wp2_with fail
    generalize w.alloc (.cells #[.int .i64 m.kind, .int .u64 m.epoch, .int .u64 m.seq, .int .u64 m.pos, .int .i64 m.count, .int .i64 m.state, .slice a1 m.streams.length c1, .slice a2 m.links.length c2, .slice a3 m.data.length c3, .int .u64 m.sea.epoch, .int .u64 m.sea.node, .int .u64 m.sea.tail, .int .u64 m.proj.epoch, .slice a4 m.proj.stripes.length c4] 32) = w0 at *
    refine (H23.out _ hb0).mono ?_
    rintro r w1 ⟨rfl, hb1⟩
    have hb01 := below_then hb1 hb0
    cases h2 : long23 m.links
    · have X1 := hid (HBX.out.later hb1)
      have y8 : w1.cell? ⟨w.heap.size, 8, none⟩ = some (.slice a3 m.data.length c3) := X1.out.cell 8
      have y12 : w1.cell? ⟨w.heap.size, 12, none⟩ = some (.int .u64 m.proj.epoch) := X1.out.cell 12
      have y13 : w1.cell? ⟨w.heap.size, 13, none⟩ = some (.slice a4 m.proj.stripes.length c4) := X1.out.cell 13
      rw [h2, Bool.false_or] at hl
      clear h2
      by_cases h3 : 300 < m.data.length
      · have d3 : decide ((300 : Int) < (m.data.length : Int)) = true := decide_eq_true (by omega)
        have hff : Hid (L = true) := hid (by rw [hl, decide_eq_true h3]; rfl)
        clear hl h3
        go_wp2_with fail
        go_ret
        exact ⟨by rw [hff.out]; rfl, hb01⟩
      · have d3 : decide ((300 : Int) < (m.data.length : Int)) = false := decide_eq_false (by omega)
        have hff : Hid (L = long20 m.proj.stripes) := hid (by rw [hl, decide_eq_false h3]; rfl)
        clear hl h3
        go_wp2_with fail
        refine (H20.out _ hb01).mono ?_
        rintro r w2 ⟨rfl, hb2⟩
        have hbe := below_then hb2 hb01
        go_wp2_with fail
        go_ret
        exact ⟨by rw [hff.out]; rfl, hbe⟩
    · have hff : Hid (L = true) := hid (by rw [hl, h2]; rfl)
      clear hl h2
      go_wp2_with fail
      go_ret
      exact ⟨by rw [hff.out]; rfl, hb01⟩

end Go.Proofs.YtlbffbkbkajciaaGreat
namespace Go.Proofs.YtlbffbkbkajciaaGreat
open Go.RowKit Go.Bs Go.Maps
set_option linter.unusedVariables false
set_option linter.unusedSimpArgs false

theorem c_int : Tryz.prog.cellsOf 3 = 1 := by kernel_rfl
theorem c_seal : Tryz.prog.cellsOf 27 = 3 := by kernel_rfl
theorem c_sets : Tryz.prog.cellsOf 153 = 1 := by kernel_rfl
theorem c_stripes : Tryz.prog.cellsOf 28 = 1 := by kernel_rfl
theorem c_projn : Tryz.prog.cellsOf 30 = 2 := by kernel_rfl
theorem o_int : Opens Tryz.prog 3 (rInt .i64) := opens_int Tryz.underlying3
theorem o_sets : Opens Tryz.prog 153 rSets := opens_slice (sz := 1) Tryz.underlying153 (by kernel_rfl) (by decide) o_u64s
theorem field_atN {H : Type} {enc : TypeId × Value → H} {P : Program} {w : World} {cs : List Value} {n : Nat} {fs : Array Field} (h : ∀ (i : Nat) (f : Field), fs[i]? = some f → ∃ y, DataW.trod enc P w 0 (fun _ => true) true n f.type ((cs.drop f.offset).take (P.cellsOf f.type)) = some y)
    {α : Type} {A : Rp α} {t : TypeId} (hA : Opens P t A) (i : Nat) (f : Field) (o s : Nat) (hf : fs[i]? = some f) (ht : f.type = t) (ho : f.offset = o) (hs : P.cellsOf t = s) : ∃ x, A.r (· < w.heap.size) w ((cs.drop o).take s) x := by
  obtain ⟨y, hy⟩ := h i f hf
  rw [ht, ho, hs] at hy
  exact hA enc w n _ _ hy
theorem o_seal : Opens Tryz.prog 27 rSeal := fun enc w fuel cs x h => by
  obtain ⟨hl, n, hf⟩ := trod_fields Tryz.underlying27 h
  have hl2 : cs.length = 3 := hl.trans (by kernel_rfl)
  obtain ⟨x0, r0⟩ := field_at hf o_u64 0 _ 0 rfl rfl rfl c_u64
  obtain ⟨x1, r1⟩ := field_at hf o_u64 1 _ 1 rfl rfl rfl c_u64
  obtain ⟨x2, r2⟩ := field_at hf o_u64 2 _ 2 rfl rfl rfl c_u64
  exact ⟨⟨x0, x1, x2⟩, by have h := pair_step (o := 0) (s := 1) (o' := 1) rfl r0 (pair_step (o := 1) (s := 1) (o' := 2) rfl r1 (last_step (s := 1) hl2 r2)); rw [List.drop_zero] at h; exact h⟩
theorem o_stripe : Opens Tryz.prog 155 rStripe := fun enc w fuel cs x h => by
  obtain ⟨hl, n, hf⟩ := trod_fields Tryz.underlying155 h
  have hl2 : cs.length = 3 := hl.trans (by kernel_rfl)
  obtain ⟨x0, r0⟩ := field_at hf o_u64 0 _ 0 rfl rfl rfl c_u64
  obtain ⟨x1, r1⟩ := field_at hf o_u64 1 _ 1 rfl rfl rfl c_u64
  obtain ⟨x2, r2⟩ := field_at hf o_sets 2 _ 2 rfl rfl rfl c_sets
  exact ⟨⟨x0, x1, x2⟩, by have h := pair_step (o := 0) (s := 1) (o' := 1) rfl r0 (pair_step (o := 1) (s := 1) (o' := 2) rfl r1 (last_step (s := 1) hl2 r2)); rw [List.drop_zero] at h; exact h⟩
theorem o_stripes : Opens Tryz.prog 28 rStripes := opens_slice (sz := 3) Tryz.underlying28 (by kernel_rfl) (by decide) o_stripe
theorem o_projn : Opens Tryz.prog 30 rProjn := fun enc w fuel cs x h => by
  obtain ⟨hl, n, hf⟩ := trod_fields Tryz.underlying30 h
  have hl2 : cs.length = 2 := hl.trans (by kernel_rfl)
  obtain ⟨x0, r0⟩ := field_at hf o_u64 0 _ 0 rfl rfl rfl c_u64
  obtain ⟨x1, r1⟩ := field_at hf o_stripes 1 _ 1 rfl rfl rfl c_stripes
  exact ⟨⟨x0, x1⟩, by have h := pair_step (o := 0) (s := 1) (o' := 1) rfl r0 (last_step (s := 1) hl2 r1); rw [List.drop_zero] at h; exact h⟩
set_option maxRecDepth 100000 in
theorem o_msg : Opens Tryz.prog 32 rMsg := fun enc w fuel cs x h => by
  obtain ⟨hl, n, hf⟩ := trod_fields Tryz.underlying32 h
  have hl2 : cs.length = 14 := hl.trans (by kernel_rfl)
  obtain ⟨x0, r0⟩ := field_atN hf o_int 0 _ 0 1 rfl rfl rfl c_int
  obtain ⟨x1, r1⟩ := field_atN hf o_u64 1 _ 1 1 rfl rfl rfl c_u64
  obtain ⟨x2, r2⟩ := field_atN hf o_u64 2 _ 2 1 rfl rfl rfl c_u64
  obtain ⟨x3, r3⟩ := field_atN hf o_u64 3 _ 3 1 rfl rfl rfl c_u64
  obtain ⟨x4, r4⟩ := field_atN hf o_int 4 _ 4 1 rfl rfl rfl c_int
  obtain ⟨x5, r5⟩ := field_atN hf o_int 5 _ 5 1 rfl rfl rfl c_int
  obtain ⟨x6, r6⟩ := field_atN hf o_u64s 6 _ 6 1 rfl rfl rfl c_u64s
  obtain ⟨x7, r7⟩ := field_atN hf o_links 7 _ 7 1 rfl rfl rfl c_links
  obtain ⟨x8, r8⟩ := field_atN hf o_bytes 8 _ 8 1 rfl rfl rfl c_bytes
  obtain ⟨x9, r9⟩ := field_atN hf o_seal 9 _ 9 3 rfl rfl rfl c_seal
  obtain ⟨x10, r10⟩ := field_atN hf o_projn 10 _ 12 2 rfl rfl rfl c_projn
  exact ⟨⟨x0, x1, x2, x3, x4, x5, x6, x7, x8, x9, x10⟩, by have h := (pair_step (o := 0) (s := 1) (o' := 1) rfl r0 (pair_step (o := 1) (s := 1) (o' := 2) rfl r1 (pair_step (o := 2) (s := 1) (o' := 3) rfl r2 (pair_step (o := 3) (s := 1) (o' := 4) rfl r3 (pair_step (o := 4) (s := 1) (o' := 5) rfl r4 (pair_step (o := 5) (s := 1) (o' := 6) rfl r5 (pair_step (o := 6) (s := 1) (o' := 7) rfl r6 (pair_step (o := 7) (s := 1) (o' := 8) rfl r7 (pair_step (o := 8) (s := 1) (o' := 9) rfl r8 (pair_step (o := 9) (s := 3) (o' := 12) rfl r9 (last_step (o := 12) (s := 2) hl2 r10))))))))))); rw [List.drop_zero] at h; exact h⟩

set_option maxRecDepth 100000 in
theorem msg_arg {H : Type} (enc : TypeId × Value → H) (W : World) (base : Nat) (v0 : Value) (d0 : DataW H) (p0 : List MemPlace)
    (k0 : DataW.Trod enc Tryz.prog W 0 (fun _ => true) true 32 v0 d0 p0) (o0 : Value.okWide Tryz.prog W .any base 32 v0) :
    ∃ (m : Msg) (a1 : Option Addr) (c1 : Nat) (a2 : Option Addr) (c2 : Nat) (a3 : Option Addr) (c3 : Nat) (a4 : Option Addr) (c4 : Nat), v0 = .agg #[.int .i64 m.kind, .int .u64 m.epoch, .int .u64 m.seq, .int .u64 m.pos, .int .i64 m.count, .int .i64 m.state, .slice a1 m.streams.length c1, .slice a2 m.links.length c2, .slice a3 m.data.length c3, .int .u64 m.sea.epoch, .int .u64 m.sea.node, .int .u64 m.sea.tail, .int .u64 m.proj.epoch, .slice a4 m.proj.stripes.length c4] ∧ MsgIn (· < W.heap.size) W m a1 c1 a2 c2 a3 c3 a4 c4 := by
  obtain ⟨fuel, hf⟩ := k0
  obtain ⟨cs, rfl, hsz⟩ := Go.WideShapes.okWide_struct Tryz.underlying32 o0
  obtain ⟨u, hu⟩ := o_msg enc W fuel _ _ hf
  obtain ⟨a1, c1, a2, c2, a3, c3, a4, c4, hcs, hin⟩ := msg_cells hu
  have e : cs = (msgCells u a1 c1 a2 c2 a3 c3 a4 c4).toArray := by
    have := hcs
    simp only [Value.cells] at this
    exact Array.ext' this
  exact ⟨u, a1, c1, a2, c2, a3, c3, a4, c4, by rw [e]; rfl, hin⟩
end Go.Proofs.YtlbffbkbkajciaaGreat
namespace Go.Proofs.YtlbffbkbkajciaaGreat
open Go.RowKit Go.Bs Go.Maps
set_option linter.unusedVariables false
set_option linter.unusedSimpArgs false

theorem msg_nums {S : Nat → Prop} {w : World} {m : Msg} {a1 : Option Addr} {c1 : Nat} {a2 : Option Addr} {c2 : Nat} {a3 : Option Addr} {c3 : Nat} {a4 : Option Addr} {c4 : Nat} (h : MsgIn S w m a1 c1 a2 c2 a3 c3 a4 c4) : MsgN m := by
  refine ⟨h.pos, u64s_bounds h.streams, fun x hx => ?_, h.sealN.1, h.sealT.1, fun z hz x hx => ?_⟩
  · obtain ⟨i, hi, rfl⟩ := List.getElem_of_mem hx
    obtain ⟨b, o, hA, hbb, p1, q1, hc0, hc1, hst, hd⟩ := link_at h.links hi
    exact ⟨hst, fun y hy => (u64s_bounds hd y hy).1⟩
  · obtain ⟨i, hi, rfl⟩ := List.getElem_of_mem hz
    obtain ⟨b, o, hA, hbb, p1, q1, hc0, hc1, hc2, ub0, ub1, hd1⟩ := stripe_at h.stripes hi
    obtain ⟨j, hj, rfl⟩ := List.getElem_of_mem hx
    obtain ⟨b', o', hA', hbb', p2, q2, hc3, hd2⟩ := set_at hd1 hj
    exact u64s_bounds hd2
/-- What BodyBack says, plain. -/
theorem body_back {m : Msg} {R : List UInt8} {blk : List UInt8 → Rs → Rs × List UInt8 × Bool} (hN : MsgN m) (hr : msgR m = true)
    (hblk : ∀ (B : List UInt8) (q : Nat) (rest : List UInt8), q ≤ B.length → B.drop q = blockB m.data ++ rest → blk B ⟨q, 0, 0⟩ = (⟨q + (blockB m.data).length, 0, 0⟩, m.data, true)) :
    (⟨0, 0, 0⟩ : Rs).body (msgB m ++ R) (blk (msgB m ++ R)) m.kind = (⟨(msgB m).length, 0, 0⟩, ({ m with epoch := 0, seq := 0 } : Msg), true) := by
  have h := Rs.body_put (B := msgB m ++ R) (rest := R) (m := ({ m with epoch := 0, seq := 0 } : Msg)) (p := 0) (blk := blk (msgB m ++ R)) ⟨hN.pos, hN.streams, hN.links, hN.node, hN.tail, hN.proj⟩ hr rfl rfl (by rw [List.drop_zero]; rfl) (Nat.zero_le _) (fun q rest h1 h2 => hblk _ q rest h1 h2)
  rw [Nat.zero_add] at h
  exact h
theorem msgB_lenle {m : Msg} (h : msgR m = true) : (msgB m).length ≤ 1200000 := by
  have h1 := msgB_len h
  have h2 := (msgR_parts h).data
  omega

set_option maxRecDepth 100000 in
set_option maxHeartbeats 6400000 in
theorem bodyBack_c (m : Msg) (a1 : Option Addr) (a1' : Nat) (a2 : Option Addr) (a2' : Nat) (a3 : Option Addr) (a3' : Nat) (a4 : Option Addr) (a4' : Nat) (R : List UInt8) (ar : Option Addr) (nr cr : Nat) (w : World) (hm : MsgIn (· < w.heap.size) w m a1 a1' a2 a2' a3 a3' a4 a4') (hl : rBytes.r (· < w.heap.size) w [.slice ar nr cr] R) :
    Calls Tryz.prog 6 #[.agg #[.int .i64 m.kind, .int .u64 m.epoch, .int .u64 m.seq, .int .u64 m.pos, .int .i64 m.count, .int .i64 m.state, .slice a1 m.streams.length a1', .slice a2 m.links.length a2', .slice a3 m.data.length a3', .int .u64 m.sea.epoch, .int .u64 m.sea.node, .int .u64 m.sea.tail, .int .u64 m.proj.epoch, .slice a4 m.proj.stripes.length a4'], .slice ar nr cr] w fun r w' => r = .returned (.bool true) ∧ Below w.heap.size w w' := by
  obtain ⟨rfl, hmR, _, _⟩ := sl_len hl
  obtain ⟨i0, hi, hz0, hz1, hz2⟩ := info_parts info8
  have HM := hid hm
  have HR := hid hl
  have HNN := hid (msg_nums hm)
  have hb0 : Below w.heap.size w (w.alloc (.cells #[.int .i64 m.kind, .int .u64 m.epoch, .int .u64 m.seq, .int .u64 m.pos, .int .i64 m.count, .int .i64 m.state, .slice a1 m.streams.length a1', .slice a2 m.links.length a2', .slice a3 m.data.length a3', .int .u64 m.sea.epoch, .int .u64 m.sea.node, .int .u64 m.sea.tail, .int .u64 m.proj.epoch, .slice a4 m.proj.stripes.length a4'] 32)) := by (repeat (first | with_reducible exact Below.refl _ _ | with_reducible assumption | (with_reducible refine below_alloc ?_ _) | (with_reducible refine Below.setCell ?_ (by first | omega | (simp; done) | (simp; omega)) _) | (with_reducible refine Below.drew ?_) | (with_reducible refine below_drewN ?_ _) | (refine below_then (by with_reducible assumption) ?_)))
  have T0 : Blk (w.alloc (.cells #[.int .i64 m.kind, .int .u64 m.epoch, .int .u64 m.seq, .int .u64 m.pos, .int .i64 m.count, .int .i64 m.state, .slice a1 m.streams.length a1', .slice a2 m.links.length a2', .slice a3 m.data.length a3', .int .u64 m.sea.epoch, .int .u64 m.sea.node, .int .u64 m.sea.tail, .int .u64 m.proj.epoch, .slice a4 m.proj.stripes.length a4'] 32)) w.heap.size 32 #[.int .i64 m.kind, .int .u64 m.epoch, .int .u64 m.seq, .int .u64 m.pos, .int .i64 m.count, .int .i64 m.state, .slice a1 m.streams.length a1', .slice a2 m.links.length a2', .slice a3 m.data.length a3', .int .u64 m.sea.epoch, .int .u64 m.sea.node, .int .u64 m.sea.tail, .int .u64 m.proj.epoch, .slice a4 m.proj.stripes.length a4'] := Blk.newAt _ _ _ rfl
  have HLO := hid (law28_long m a1 a1' a2 a2' a3 a3' a4 a4' _ (MsgIn.lift hm hb0))
  have HB0 := hid hb0
  have HT0 := hid T0
  obtain ⟨mz0, mz1, mz2, mz3, mz4, mz5, mz6, mz7, mz8, mz9, mz10, mz11, mz12, mz13, _⟩ := mm_blk HT0.out
  clear hm hl hb0 T0
  cases hlm : long28 m
  · rw [hlm] at HLO
    have HSH := hid (long28_no hlm)
    have hd300 : m.data.length ≤ 300 := (long28_no hlm).data
    clear hlm
    by_cases h100 : R.length ≤ 100
    · have d0 : decide ((100 : Int) < (R.length : Int)) = false := decide_eq_false (by omega)
      cases hr : msgR m
      · have hmb : msgBytes m = ([], 3) := by unfold msgBytes; rw [if_neg (by rw [hr]; decide)]
        have HBY := hid (fun (V : World) (hV : Below w.heap.size w V) (hk : ∀ x ∈ m.links, x.backs.length ≤ 1000000) => (by have := body_bytes V m a1 a1' a2 a2' a3 a3' a4 a4' (MsgIn.lift HM.out hV) hk (by omega); rw [hmb] at this; exact this : Calls Tryz.prog 14 #[.agg #[.int .i64 m.kind, .int .u64 m.epoch, .int .u64 m.seq, .int .u64 m.pos, .int .i64 m.count, .int .i64 m.state, .slice a1 m.streams.length a1', .slice a2 m.links.length a2', .slice a3 m.data.length a3', .int .u64 m.sea.epoch, .int .u64 m.sea.node, .int .u64 m.sea.tail, .int .u64 m.proj.epoch, .slice a4 m.proj.stripes.length a4']] V fun r w' => ∃ v, r = .returned (.tuple #[v, .int .i64 3]) ∧ rBytes.r (fun q => V.heap.size ≤ q ∧ q < w'.heap.size) w' [v] [] ∧ Below V.heap.size V w'))
        have HLK := hid (fun x (hx : x ∈ m.links) => (by have := HSH.out.backs x hx; omega : x.backs.length ≤ 1000000))
        clear hr hmb
        go_enter Tryz.func6, Tryz.ntmps6
        go_wp2_with fail
        refine HLO.out.mono ?_
        rintro r w1 ⟨rfl, hb1⟩
        have T1 := HT0.out.later hb1
        have hbw1 := below_then hb1 HB0.out
        clear hb1
        obtain ⟨ma0, ma1, ma2, ma3, ma4, ma5, ma6, ma7, ma8, ma9, ma10, ma11, ma12, ma13, _⟩ := mm_blk T1
        go_wp2_with fail
        refine (HBY.out w1 hbw1 HLK.out).mono ?_
        rintro r w2 ⟨v2, rfl, hv2, hb2⟩
        have hbwX := below_then hb2 hbw1
        clear hv2
        go_wp2_with fail
        refine (live28 _).mono ?_
        rintro r w99 ⟨rfl, hb99⟩
        have hbe := below_then hb99 hbwX
        go_wp2
        go_ret
        exact ⟨rfl, hbe⟩
      · have hmb : msgBytes m = (msgB m, 0) := by unfold msgBytes; rw [if_pos hr]
        have hmd := msg_mild hr
        have HBY := hid (fun (V : World) (hV : Below w.heap.size w V) => (by have := body_bytes V m a1 a1' a2 a2' a3 a3' a4 a4' (MsgIn.lift HM.out hV) hmd.1 (by omega); rw [hmb] at this; exact this : Calls Tryz.prog 14 #[.agg #[.int .i64 m.kind, .int .u64 m.epoch, .int .u64 m.seq, .int .u64 m.pos, .int .i64 m.count, .int .i64 m.state, .slice a1 m.streams.length a1', .slice a2 m.links.length a2', .slice a3 m.data.length a3', .int .u64 m.sea.epoch, .int .u64 m.sea.node, .int .u64 m.sea.tail, .int .u64 m.proj.epoch, .slice a4 m.proj.stripes.length a4']] V fun r w' => ∃ v, r = .returned (.tuple #[v, .int .i64 0]) ∧ rBytes.r (fun q => V.heap.size ≤ q ∧ q < w'.heap.size) w' [v] (msgB m) ∧ Below V.heap.size V w'))
        have hS := body_back (R := R) (blk := blkS) HNN.out hr (fun B q rest h1 h2 => (by
          have := Rs.loose_block (most := 1048576) h2 h1 (by omega) (by omega)
          unfold blkS
          rw [this]
          rfl))
        have hL := body_back (R := R) (blk := blkL) HNN.out hr (fun B q rest h1 h2 => Rs.loose_block (most := 1048576) h2 h1 (by omega) (by omega))
        have hln := msgB_lenle hr
        clear hr hmb hmd
        generalize msgB m = SB at *
        have hBl : (SB ++ R).length ≤ 1000000000 := by rw [List.length_append]; omega
        have hS' := fun (V : World) (g : Nat) (a : Option Addr) (h : RdAt V g (SB ++ R) a ⟨0, 0, 0⟩) => bodyS V h hBl m.kind HM.out.kind hS
        have hL' := fun (V : World) (g : Nat) (a : Option Addr) (h : RdAt V g (SB ++ R) a ⟨0, 0, 0⟩) => bodyL V h hBl m.kind HM.out.kind hL
        dsimp only at hS' hL'
        have HS := hid hS'
        have HLL := hid hL'
        clear hS hL hS' hL'
        go_enter Tryz.func6, Tryz.ntmps6
        go_wp2_with fail
        refine HLO.out.mono ?_
        rintro r w1 ⟨rfl, hb1⟩
        have T1 := HT0.out.later hb1
        have hbw1 := below_then hb1 HB0.out
        clear hb1
        obtain ⟨ma0, ma1, ma2, ma3, ma4, ma5, ma6, ma7, ma8, ma9, ma10, ma11, ma12, ma13, _⟩ := mm_blk T1
        go_wp2_with fail
        refine (HBY.out w1 hbw1).mono ?_
        rintro r w2 ⟨v2, rfl, hv2, hb2⟩
        obtain ⟨a5, c5, hfv, _, _⟩ := sl_form hv2
        simp only [List.cons.injEq, and_true] at hfv
        subst hfv
        have hbw2 := below_then hb2 hbw1
        have T2 := T1.later hb2
        have HV2 := hid (rBytes.mono hv2 (S' := (· < w2.heap.size)) fun q hq => hq.2)
        have HB2 := hid hbw2
        have hzw := hbw2.size
        have hl2 := T2.lt
        clear ma0 ma1 ma2 ma3 ma4 ma5 ma6 ma7 ma8 ma9 ma10 ma11 ma12 ma13
        clear hv2 hb2 T1 hbw1
        have HONES := hid (byteCells_one SB)
        have HONER := hid (byteCells_one R)
        have HSS := hid (fun (W : World) (hW : Below w2.heap.size w2 W) => src_bytes (lift HV2.out hW))
        have HSR := hid (fun (W : World) (hW : Below w.heap.size w W) => src_bytes (lift HR.out hW))
        have HBR := hid (fun (W : World) (v : Value) (h : W.ownsRow w2.heap.size 5 1 v (SB.length + R.length) (byteCells SB ++ byteCells R)) => (by
          have e : byteCells SB ++ byteCells R = byteCells (SB ++ R) := by simp [byteCells]
          rw [e] at h
          exact own_bytes2 (l := SB ++ R) (by simp) h : rBytes.r (fun q => w2.heap.size ≤ q ∧ q < W.heap.size) W [v] (SB ++ R)))
        go_wp2_with (first | (at_builtin; go_loud (refine wpList_append_src rfl _ _ _ rfl w2.heap.size 5 i0 (.int .u8 0) 1 1 Tryz.underlying25 hi hz0 hz1 hz2 rfl (by decide) (.slice (some ⟨w2.heap.size, 0, none⟩) 0 0) 0 [] rfl (own_empty _ (by simp) rfl) a5 SB.length c5 (byteCells SB) rfl (HSS.out _ (by (repeat (first | with_reducible exact Below.refl _ _ | with_reducible assumption | (with_reducible refine below_alloc ?_ _) | (with_reducible refine Below.setCell ?_ (by first | omega | (simp; done) | (simp; omega)) _) | (with_reducible refine Below.drew ?_) | (with_reducible refine below_drewN ?_ _) | (refine below_then (by with_reducible assumption) ?_))))) HONES.out (by simp only [maxLen]; omega) (by omega) (by simp) ?_; intro v8 w8 hown8 hgrow8 hat8; rw [Nat.zero_add, List.nil_append] at hown8; obtain ⟨a8', c8', rfl⟩ := own_form hown8; have hb28 : Below w2.heap.size w2 w8 := (Below.grown (by (repeat (first | with_reducible exact Below.refl _ _ | with_reducible assumption | (with_reducible refine below_alloc ?_ _) | (with_reducible refine Below.setCell ?_ (by first | omega | (simp; done) | (simp; omega)) _) | (with_reducible refine Below.drew ?_) | (with_reducible refine below_drewN ?_ _) | (refine below_then (by with_reducible assumption) ?_)))) hgrow8 (by simp) (fun g e => by { have e' : some w2.heap.size = some g := e; injection e' with e'; omega })); have hs8 := hb28.size; have HO8 := hid hown8; have HB8 := hid hb28; clear hown8 hgrow8 hat8)) | (at_builtin; go_loud (refine wpList_append_src rfl _ _ _ rfl w2.heap.size 5 i0 (.int .u8 0) 1 1 Tryz.underlying25 hi hz0 hz1 hz2 rfl (by decide) (.slice a8' SB.length c8') SB.length (byteCells SB) rfl HO8.out ar R.length cr (byteCells R) rfl (HSR.out _ (below_then HB8.out HB2.out)) HONER.out (by simp only [maxLen]; omega) (by omega) hs8 ?_; intro v9 w9 hown9 hgrow9 hat9; have HB9v := hid (HBR.out w9 v9 hown9); obtain ⟨a9, c9, rfl⟩ := own_form hown9; have hb29 : Below w2.heap.size w2 w9 := (Below.grown HB8.out hgrow9 hs8 (fun g e => (HO8.out.lt g e).1)); have HB9 := hid hb29; clear hown9 hgrow9 hat9)))
        have T9 := T2.later HB9.out
        have hbw9 := below_then HB9.out HB2.out
        have HB9l := hid (rBytes.mono HB9v.out (S' := (· < w9.heap.size)) fun q hq => hq.2)
        refine (rd_new w9 (SB ++ R) a9 _ c9 HB9l.out).mono ?_
        rintro r w10 ⟨rfl, hrd1, hb10⟩
        have HCV := hid (lift HB9l.out hb10)
        go_wp2_with fail
        refine (rd_new w10 (SB ++ R) a9 _ c9 HCV.out).mono ?_
        rintro r w11 ⟨rfl, hrd2, hb11⟩
        have hrd1' := hrd1.later hb11
        have l1 := hrd1.blk.lt
        have l2 := hrd2.blk.lt
        have hcap : rBytes.r (fun q => w2.heap.size ≤ q ∧ q < w9.heap.size) w9 [.slice a9 (SB ++ R).length (SB ++ R).length] (SB ++ R) := by
          have h9 := HB9v.out
          rw [show SB.length + R.length = (SB ++ R).length by simp] at h9
          have := (cut_full h9 (n := (SB ++ R).length) (Nat.le_refl _)).2
          rwa [List.take_length] at this
        have HCP := hid hcap
        have HCAP := hid (rBytes.mono hcap (S' := (· < w9.heap.size)) fun q hq => hq.2)
        have hb911 := below_then hb11 hb10
        have T11 := (T9.later hb10).later hb11
        have hbw11 := below_then hb11 (below_then hb10 hbw9)
        have hl9 := T9.lt
        have hz10 := hb10.size
        have hz11 := hb11.size
        clear hrd1 hcap hb10 hb11 T9 T2 hbw9 HCV
        generalize SB ++ R = B at *
        obtain ⟨mb0, mb1, mb2, mb3, mb4, mb5, mb6, mb7, mb8, mb9, mb10, mb11, mb12, mb13, _⟩ := mm_blk T11
        go_wp2_with fail
        refine (HS.out w11 _ _ hrd1').mono ?_
        rintro r w12 ⟨x1, x1', x2, x2', x3, x3', x4, x4', rfl, hm12, hst12⟩
        have hs12 := hst12.size
        have hbw12 := hbw11.trans (hst12.below (by omega) (by omega))
        have hb912 : Below w9.heap.size w9 w12 := hb911.trans (hst12.below (by omega) (Nat.le_refl _))
        have X12 := hid (MsgIn.keepS hm12 (fun q hq => rfl) (fun q hq => (⟨by have := hq.1; omega, hq.2⟩ : w10.heap.size < q ∧ q < w12.heap.size)))
        have R1a := hst12.1.blk
        have ok1 := hst12.1.ok
        have R2a := hrd2.blk.tch hst12.2 (by omega)
        have T12 := T11.tch hst12.2 (by omega)
        clear mb0 mb1 mb2 mb3 mb4 mb5 mb6 mb7 mb8 mb9 mb10 mb11 mb12 mb13
        clear hrd1' hrd2 hm12 hst12 hbw11 hb911 T11
        have hbA : Below w12.heap.size w12 (w12.alloc (.cells #[.int .i64 m.kind, .int .u64 0, .int .u64 0, .int .u64 m.pos, .int .i64 m.count, .int .i64 m.state, .slice x1 m.streams.length x1', .slice x2 m.links.length x2', .slice x3 m.data.length x3', .int .u64 m.sea.epoch, .int .u64 m.sea.node, .int .u64 m.sea.tail, .int .u64 m.proj.epoch, .slice x4 m.proj.stripes.length x4'] 32)) := by (repeat (first | with_reducible exact Below.refl _ _ | with_reducible assumption | (with_reducible refine below_alloc ?_ _) | (with_reducible refine Below.setCell ?_ (by first | omega | (simp; done) | (simp; omega)) _) | (with_reducible refine Below.drew ?_) | (with_reducible refine below_drewN ?_ _) | (refine below_then (by with_reducible assumption) ?_)))
        have T10b : Blk (w12.alloc (.cells #[.int .i64 m.kind, .int .u64 0, .int .u64 0, .int .u64 m.pos, .int .i64 m.count, .int .i64 m.state, .slice x1 m.streams.length x1', .slice x2 m.links.length x2', .slice x3 m.data.length x3', .int .u64 m.sea.epoch, .int .u64 m.sea.node, .int .u64 m.sea.tail, .int .u64 m.proj.epoch, .slice x4 m.proj.stripes.length x4'] 32)) w12.heap.size 32 #[.int .i64 m.kind, .int .u64 0, .int .u64 0, .int .u64 m.pos, .int .i64 m.count, .int .i64 m.state, .slice x1 m.streams.length x1', .slice x2 m.links.length x2', .slice x3 m.data.length x3', .int .u64 m.sea.epoch, .int .u64 m.sea.node, .int .u64 m.sea.tail, .int .u64 m.proj.epoch, .slice x4 m.proj.stripes.length x4'] := Blk.newAt _ _ _ rfl
        have X13 := hid (MsgIn.keepS X12.out (fun q hq => hbA.block q hq.2) (fun q hq => (⟨hq.1, Nat.lt_of_lt_of_le hq.2 hbA.size⟩ : w10.heap.size < q ∧ q < ((w12.alloc (.cells #[.int .i64 m.kind, .int .u64 0, .int .u64 0, .int .u64 m.pos, .int .i64 m.count, .int .i64 m.state, .slice x1 m.streams.length x1', .slice x2 m.links.length x2', .slice x3 m.data.length x3', .int .u64 m.sea.epoch, .int .u64 m.sea.node, .int .u64 m.sea.tail, .int .u64 m.proj.epoch, .slice x4 m.proj.stripes.length x4'] 32))).heap.size)))
        have R1b := R1a.later hbA
        have R2b := R2a.later hbA
        have T13 := T12.later hbA
        have hbw13 := below_then hbA hbw12
        have hb913 := below_then hbA hb912
        have hz13 : w12.heap.size < ((w12.alloc (.cells #[.int .i64 m.kind, .int .u64 0, .int .u64 0, .int .u64 m.pos, .int .i64 m.count, .int .i64 m.state, .slice x1 m.streams.length x1', .slice x2 m.links.length x2', .slice x3 m.data.length x3', .int .u64 m.sea.epoch, .int .u64 m.sea.node, .int .u64 m.sea.tail, .int .u64 m.proj.epoch, .slice x4 m.proj.stripes.length x4'] 32))).heap.size := by simp
        obtain ⟨mb0, mb1, mb2, mb3, mb4, mb5, mb6, mb7, mb8, mb9, mb10, mb11, mb12, mb13, _⟩ := mm_blk T13
        clear hbA R1a R2a X12 hbw12 T12 hb912
        go_wp2_with fail
        generalize (w12.alloc (.cells #[.int .i64 m.kind, .int .u64 0, .int .u64 0, .int .u64 m.pos, .int .i64 m.count, .int .i64 m.state, .slice x1 m.streams.length x1', .slice x2 m.links.length x2', .slice x3 m.data.length x3', .int .u64 m.sea.epoch, .int .u64 m.sea.node, .int .u64 m.sea.tail, .int .u64 m.proj.epoch, .slice x4 m.proj.stripes.length x4'] 32)) = v13 at *
        refine (HLL.out v13 w10.heap.size _ (rd_anew2 R2b (Rp.below rBytes HCAP.out hb913) (by omega) ⟨Nat.zero_le _, fun _ => rfl⟩)).mono ?_
        rintro r w14 ⟨y1, y1', y2, y2', y3, y3', y4, y4', rfl, hm14, hst14⟩
        have hs14 := hst14.size
        have hbw14 : Below w.heap.size w w14 := hbw13.trans (hst14.below (by omega) (by omega))
        have hb914 : Below w9.heap.size w9 w14 := hb913.trans (hst14.below (by omega) (by omega))
        have X14 := hid (MsgIn.keepS X13.out (fun q hq => hst14.2.block q hq.2 (by have := hq.1; omega)) (fun q hq => (⟨by have := hq.1; omega, by have := hq.2; omega⟩ : w9.heap.size ≤ q ∧ q < w14.heap.size)))
        have Y14 := hid (MsgIn.keepS hm14 (fun q hq => rfl) (fun q hq => (⟨by have := hq.1; omega, hq.2⟩ : w9.heap.size ≤ q ∧ q < w14.heap.size)))
        have R1c := R1b.tch hst14.2 (by omega)
        have R2c := hst14.1.blk
        have ok2 := hst14.1.ok
        have T10c := T10b.tch hst14.2 (by omega)
        have T14 := T13.tch hst14.2 (by omega)
        clear mb0 mb1 mb2 mb3 mb4 mb5 mb6 mb7 mb8 mb9 mb10 mb11 mb12 mb13
        clear hm14 hst14 R1b R2b T10b X13 hbw13 T13 hb913
        have hbA : Below w14.heap.size w14 (w14.alloc (.cells #[.int .i64 m.kind, .int .u64 0, .int .u64 0, .int .u64 m.pos, .int .i64 m.count, .int .i64 m.state, .slice y1 m.streams.length y1', .slice y2 m.links.length y2', .slice y3 m.data.length y3', .int .u64 m.sea.epoch, .int .u64 m.sea.node, .int .u64 m.sea.tail, .int .u64 m.proj.epoch, .slice y4 m.proj.stripes.length y4'] 32)) := by (repeat (first | with_reducible exact Below.refl _ _ | with_reducible assumption | (with_reducible refine below_alloc ?_ _) | (with_reducible refine Below.setCell ?_ (by first | omega | (simp; done) | (simp; omega)) _) | (with_reducible refine Below.drew ?_) | (with_reducible refine below_drewN ?_ _) | (refine below_then (by with_reducible assumption) ?_)))
        have T11d : Blk (w14.alloc (.cells #[.int .i64 m.kind, .int .u64 0, .int .u64 0, .int .u64 m.pos, .int .i64 m.count, .int .i64 m.state, .slice y1 m.streams.length y1', .slice y2 m.links.length y2', .slice y3 m.data.length y3', .int .u64 m.sea.epoch, .int .u64 m.sea.node, .int .u64 m.sea.tail, .int .u64 m.proj.epoch, .slice y4 m.proj.stripes.length y4'] 32)) w14.heap.size 32 #[.int .i64 m.kind, .int .u64 0, .int .u64 0, .int .u64 m.pos, .int .i64 m.count, .int .i64 m.state, .slice y1 m.streams.length y1', .slice y2 m.links.length y2', .slice y3 m.data.length y3', .int .u64 m.sea.epoch, .int .u64 m.sea.node, .int .u64 m.sea.tail, .int .u64 m.proj.epoch, .slice y4 m.proj.stripes.length y4'] := Blk.newAt _ _ _ rfl
        have R1d := R1c.later hbA
        have R2d := R2c.later hbA
        have T10d := T10c.later hbA
        have T15 := T14.later hbA
        have X15 := hid (MsgIn.keepS X14.out (fun q hq => hbA.block q hq.2) (fun q hq => (⟨hq.1, Nat.lt_of_lt_of_le hq.2 hbA.size⟩ : w9.heap.size ≤ q ∧ q < ((w14.alloc (.cells #[.int .i64 m.kind, .int .u64 0, .int .u64 0, .int .u64 m.pos, .int .i64 m.count, .int .i64 m.state, .slice y1 m.streams.length y1', .slice y2 m.links.length y2', .slice y3 m.data.length y3', .int .u64 m.sea.epoch, .int .u64 m.sea.node, .int .u64 m.sea.tail, .int .u64 m.proj.epoch, .slice y4 m.proj.stripes.length y4'] 32))).heap.size)))
        have Y15 := hid (MsgIn.keepS Y14.out (fun q hq => hbA.block q hq.2) (fun q hq => (⟨hq.1, Nat.lt_of_lt_of_le hq.2 hbA.size⟩ : w9.heap.size ≤ q ∧ q < ((w14.alloc (.cells #[.int .i64 m.kind, .int .u64 0, .int .u64 0, .int .u64 m.pos, .int .i64 m.count, .int .i64 m.state, .slice y1 m.streams.length y1', .slice y2 m.links.length y2', .slice y3 m.data.length y3', .int .u64 m.sea.epoch, .int .u64 m.sea.node, .int .u64 m.sea.tail, .int .u64 m.proj.epoch, .slice y4 m.proj.stripes.length y4'] 32))).heap.size)))
        have hbw15 := below_then hbA hbw14
        have hb915 := below_then hbA hb914
        obtain ⟨mb0, mb1, mb2, mb3, mb4, mb5, mb6, mb7, mb8, mb9, mb10, mb11, mb12, mb13, _⟩ := mm_blk T15
        have mf1 := fr_blk T15 1
        have mf2 := fr_blk T15 2
        have lT15 := T15.lt
        have hz15 : w14.heap.size < ((w14.alloc (.cells #[.int .i64 m.kind, .int .u64 0, .int .u64 0, .int .u64 m.pos, .int .i64 m.count, .int .i64 m.state, .slice y1 m.streams.length y1', .slice y2 m.links.length y2', .slice y3 m.data.length y3', .int .u64 m.sea.epoch, .int .u64 m.sea.node, .int .u64 m.sea.tail, .int .u64 m.proj.epoch, .slice y4 m.proj.stripes.length y4'] 32))).heap.size := by simp
        clear hbA R1c R2c T10c T14 X14 Y14 hbw14 hb914
        go_upto_region 11 with (fail)
        generalize (w14.alloc (.cells #[.int .i64 m.kind, .int .u64 0, .int .u64 0, .int .u64 m.pos, .int .i64 m.count, .int .i64 m.state, .slice y1 m.streams.length y1', .slice y2 m.links.length y2', .slice y3 m.data.length y3', .int .u64 m.sea.epoch, .int .u64 m.sea.node, .int .u64 m.sea.tail, .int .u64 m.proj.epoch, .slice y4 m.proj.stripes.length y4'] 32)) = v15 at *
        have hW : Tch (· = w.heap.size) v15 ((v15.setCell ⟨w.heap.size, 1, none⟩ (.int .u64 0)).setCell ⟨w.heap.size, 2, none⟩ (.int .u64 0)) := ((Tch.refl (· = w.heap.size) v15).setCell (p := ⟨w.heap.size, 1, none⟩) (fun _ => rfl) _).setCell (p := ⟨w.heap.size, 2, none⟩) (fun _ => rfl) _
        have R1e := R1d.tch hW (by omega)
        have R2e := R2d.tch hW (by omega)
        have T10e := T10d.tch hW (by omega)
        have T11e := T11d.tch hW (by omega)
        have TMe : Blk ((v15.setCell ⟨w.heap.size, 1, none⟩ (.int .u64 0)).setCell ⟨w.heap.size, 2, none⟩ (.int .u64 0)) w.heap.size 32 #[.int .i64 m.kind, .int .u64 0, .int .u64 0, .int .u64 m.pos, .int .i64 m.count, .int .i64 m.state, .slice a1 m.streams.length a1', .slice a2 m.links.length a2', .slice a3 m.data.length a3', .int .u64 m.sea.epoch, .int .u64 m.sea.node, .int .u64 m.sea.tail, .int .u64 m.proj.epoch, .slice a4 m.proj.stripes.length a4'] := by
          have := (T15.set 1 (.int .u64 0)).set 2 (.int .u64 0)
          simp only [List.setIfInBounds_toArray, List.set_cons_zero, List.set_cons_succ] at this
          exact this
        have hzF := hW.size
        have X16 := hid (MsgIn.keepS X15.out (fun q hq => hW.block q hq.2 (by have := hq.1; omega)) (fun q hq => (by have := hq.2; omega : q < (((v15.setCell ⟨w.heap.size, 1, none⟩ (.int .u64 0)).setCell ⟨w.heap.size, 2, none⟩ (.int .u64 0))).heap.size)))
        have Y16 := hid (MsgIn.keepS Y15.out (fun q hq => hW.block q hq.2 (by have := hq.1; omega)) (fun q hq => (by have := hq.2; omega : q < (((v15.setCell ⟨w.heap.size, 1, none⟩ (.int .u64 0)).setCell ⟨w.heap.size, 2, none⟩ (.int .u64 0))).heap.size)))
        have hbw16 : Below w.heap.size w ((v15.setCell ⟨w.heap.size, 1, none⟩ (.int .u64 0)).setCell ⟨w.heap.size, 2, none⟩ (.int .u64 0)) := (hbw15.setCell (by dsimp only; omega) _).setCell (by dsimp only; omega) _
        have hb916 : Below w9.heap.size w9 v15 := hb915
        have HD16 := hid (rBytes.mono (rBytes.keep HCP.out (w' := ((v15.setCell ⟨w.heap.size, 1, none⟩ (.int .u64 0)).setCell ⟨w.heap.size, 2, none⟩ (.int .u64 0))) fun q hq => (hW.block q (by have := hb916.size; have := hq.2; omega) (by have := hq.1; omega)).trans (hb916.block q hq.2)) (S' := (· < w9.heap.size)) fun q hq => hq.2)
        clear mb0 mb1 mb2 mb3 mb4 mb5 mb6 mb7 mb8 mb9 mb10 mb11 mb12 mb13
        clear hW R1d R2d T10d T11d T15 X15 Y15 hbw15 hb915 hb916 mf1 mf2
        generalize ((v15.setCell ⟨w.heap.size, 1, none⟩ (.int .u64 0)).setCell ⟨w.heap.size, 2, none⟩ (.int .u64 0)) = v16 at *
        have HMZ := hid (⟨HM.out.kind, inU_zero, inU_zero, HM.out.pos, HM.out.count, HM.out.state, HM.out.sealE, HM.out.sealN, HM.out.sealT, HM.out.projE, HM.out.streams, HM.out.links, HM.out.data, HM.out.stripes⟩ : MsgIn (· < w.heap.size) w ({ m with epoch := 0, seq := 0 } : Msg) a1 a1' a2 a2' a3 a3' a4 a4')
        have HG := hid (fun (V : World) (g : Nat) (hV : RdAt V g B a9 ⟨SB.length, 0, 0⟩) => (by have := rd_good V hV; simp only [decide_true] at this; exact this : Calls Tryz.prog 44 #[.pointer (some ⟨g, 0, none⟩)] V fun r w' => r = .returned (.bool true) ∧ Below V.heap.size V w'))
        have HAT := hid (fun (V : World) (g : Nat) (hV : RdAt V g B a9 ⟨SB.length, 0, 0⟩) => rd_at V hV)
        have hA1 := rd_anew2 R1e HD16.out (Nat.le_refl _) ok1
        have hA2 := rd_anew2 R2e HD16.out (by omega) ok2
        have e1 : ((SB.length : Int) == (SB.length : Int)) = true := by simp
        clear R1e R2e HS HLL
        go_wp2_with fail
        refine (HG.out v16 _ hA1).mono ?_
        rintro r w17 ⟨rfl, hb17⟩
        have hA1f := hA1.later hb17
        have hA2f := hA2.later hb17
        have T10f := T10e.later hb17
        have T11f := T11e.later hb17
        have TMf := TMe.later hb17
        have X17 := hid (MsgIn.lift X16.out hb17)
        have Y17 := hid (MsgIn.lift Y16.out hb17)
        have hbw17 := below_then hb17 hbw16
        clear hA1 hA2 T10e T11e TMe X16 Y16 hbw16 hb17
        go_wp2_with fail
        refine (HG.out w17 _ hA2f).mono ?_
        rintro r w18 ⟨rfl, hb18⟩
        have hA1g := hA1f.later hb18
        have hA2g := hA2f.later hb18
        have T10g := T10f.later hb18
        have T11g := T11f.later hb18
        have TMg := TMf.later hb18
        have X18 := hid (MsgIn.lift X17.out hb18)
        have Y18 := hid (MsgIn.lift Y17.out hb18)
        have hbw18 := below_then hb18 hbw17
        clear hA1f hA2f T10f T11f TMf X17 Y17 hbw17 hb18
        have HA1 := hid (HAT.out w18 _ hA1g)
        have HA2 := hid (HAT.out w18 _ hA2g)
        clear hA1g hA2g
        go_wp2_with fail
        refine HA1.out.mono ?_
        rintro r w18' ⟨rfl, rfl⟩
        go_wp2_with fail
        refine HA2.out.mono ?_
        rintro r w18' ⟨rfl, rfl⟩
        obtain ⟨ma0, ma1, ma2, ma3, ma4, ma5, ma6, ma7, ma8, ma9, ma10, ma11, ma12, ma13, _⟩ := mm_blk T10g
        obtain ⟨mb0, mb1, mb2, mb3, mb4, mb5, mb6, mb7, mb8, mb9, mb10, mb11, mb12, mb13, _⟩ := mm_blk TMg
        go_wp2_with fail
        refine (msg_same ({ m with epoch := 0, seq := 0 } : Msg) w18 x1 x2 x3 x4 a1 a2 a3 a4 x1' x2' x3' x4' a1' a2' a3' a4' X18.out (MsgIn.lift HMZ.out hbw18)).mono ?_
        rintro r w19 ⟨rfl, hb19⟩
        have T11h := T11g.later hb19
        have TMh := TMg.later hb19
        have Y19 := hid (MsgIn.lift Y18.out hb19)
        have hbw19 := below_then hb19 hbw18
        clear ma0 ma1 ma2 ma3 ma4 ma5 ma6 ma7 ma8 ma9 ma10 ma11 ma12 ma13
        clear mb0 mb1 mb2 mb3 mb4 mb5 mb6 mb7 mb8 mb9 mb10 mb11 mb12 mb13
        clear T10g T11g TMg X18 Y18 hbw18 hb19
        obtain ⟨ma0, ma1, ma2, ma3, ma4, ma5, ma6, ma7, ma8, ma9, ma10, ma11, ma12, ma13, _⟩ := mm_blk T11h
        obtain ⟨mb0, mb1, mb2, mb3, mb4, mb5, mb6, mb7, mb8, mb9, mb10, mb11, mb12, mb13, _⟩ := mm_blk TMh
        go_wp2_with fail
        refine (msg_same ({ m with epoch := 0, seq := 0 } : Msg) w19 y1 y2 y3 y4 a1 a2 a3 a4 y1' y2' y3' y4' a1' a2' a3' a4' Y19.out (MsgIn.lift HMZ.out hbw19)).mono ?_
        rintro r w20 ⟨rfl, hb20⟩
        have hbwX := below_then hb20 hbw19
        go_wp2_with fail
        refine (live28 _).mono ?_
        rintro r w99 ⟨rfl, hb99⟩
        have hbe := below_then hb99 hbwX
        go_wp2
        go_ret
        exact ⟨rfl, hbe⟩
    · have d0 : decide ((100 : Int) < (R.length : Int)) = true := decide_eq_true (by omega)
      go_enter Tryz.func6, Tryz.ntmps6
      go_wp2_with fail
      refine HLO.out.mono ?_
      rintro r w1 ⟨rfl, hb1⟩
      have T1 := HT0.out.later hb1
      have hbw1 := below_then hb1 HB0.out
      clear hb1
      go_wp2_with fail
      have hbwX := hbw1
      refine (live28 _).mono ?_
      rintro r w99 ⟨rfl, hb99⟩
      have hbe := below_then hb99 hbwX
      go_wp2
      go_ret
      exact ⟨rfl, hbe⟩
  · rw [hlm] at HLO
    go_enter Tryz.func6, Tryz.ntmps6
    go_wp2_with fail
    refine HLO.out.mono ?_
    rintro r w1 ⟨rfl, hb1⟩
    have T1 := HT0.out.later hb1
    have hbw1 := below_then hb1 HB0.out
    clear hb1
    go_wp2_with fail
    have hbwX := hbw1
    refine (live28 _).mono ?_
    rintro r w99 ⟨rfl, hb99⟩
    have hbe := below_then hb99 hbwX
    go_wp2
    go_ret
    exact ⟨rfl, hbe⟩
set_option maxRecDepth 100000 in
theorem bodyBack_walk {H : Type} (enc : TypeId × Value → H) (W : World) (base : Nat) (v0 v1 : Value) (d0 d1 : DataW H) (p0 p1 : List MemPlace)
    (k0 : DataW.Trod enc Tryz.prog W 0 (fun _ => true) true 32 v0 d0 p0) (k1 : DataW.Trod enc Tryz.prog W 0 (fun _ => true) true 25 v1 d1 p1)
    (o0 : Value.okWide Tryz.prog W .any base 32 v0) (o1 : Value.okWide Tryz.prog W .any base 25 v1) :
    Calls Tryz.prog 6 #[v0, v1] W fun e w' => e = .returned (.bool true) ∧ Below W.heap.size W w' := by
  obtain ⟨m, a1, c1, a2, c2, a3, c3, a4, c4, rfl, hm⟩ := msg_arg enc W base v0 d0 p0 k0 o0
  obtain ⟨fuel, hf⟩ := k1
  obtain ⟨a, len, cap, rfl⟩ := Go.WideShapes.okWide_slice Tryz.underlying25 o1
  obtain ⟨b, hb⟩ := o_bytes enc W fuel _ _ hf
  exact bodyBack_c m a1 c1 a2 c2 a3 c3 a4 c4 b a len cap W hm hb
end Go.Proofs.YtlbffbkbkajciaaGreat
