/- Needed by batchBack_walk, part 1: texts put together by shake.py; no condition. -/
import Derived.Test.YtkipiefcnjfdjaaGreatP9
import Derived.ProofKit
import Derived.OpenShut
import Derived.Deep.Slices
import Derived.Lib.SmallJoins
import Derived.WalkKit
import Derived.WalkLawsBesides
import Derived.WalkSpells
import Derived.Outline
import Derived.BigQuiet
import Derived.Deep.QuietTactic
import Derived.Test.YtkipiefcnjfdjaaGreatRows
import Derived.Maps.AppendAt
import Derived.Deep.AppendLies
import Derived.Deep.Cut
import Derived.Deep.RegionHeld3
import Derived.IntWalk
import Derived.Laws.IdiomStrings
import Derived.Laws.BytesArg
import Derived.StillTailTactics
import Derived.Maps.OwnOps
import Derived.Maps.Views
import Derived.Sort.QuietThIn
import Derived.Sort.BigQuietIn
import Derived.Sort.QuietTacIn
import Derived.RangeFuncNested
import Derived.RangeFuncBound
import Derived.RangeFuncCalls
import Derived.RangeFuncLeaves
import Derived.Shelf.Abstract
import Derived.Shelf.RegionOpen
import Derived.OwnWalkIn
import Derived.TacticsInMore
import Derived.LoopNIn
import Derived.LoopIn
import Derived.Maps.OwnIn
import Derived.StillTail
import Derived.RegionTactic
import Derived.OrdersHeld
import Derived.Deep.RegionHeld
import Derived.ScopeJumps
import Derived.WalkMore
import Derived.BigRegion
import Derived.Lib.SlBytesConst
import Derived.Deep.RegionLaw
import Derived.Laws.Bits64
import Derived.Laws.MakeOwn
namespace Go.Bs
open Go.RowKit
set_option linter.unusedVariables false

section
variable {P : Program}
theorem opens_int {t : TypeId} {k : IntKind} (ht : P.underlying t = some (.int k)) : Opens P t (rInt k) := fun enc w fuel cs x h => by
  obtain ⟨n, rfl, _, hw⟩ := DataW.trod_int ht h
  exact ⟨n, rfl, hw⟩
/-- A struct's fields, each read. -/
theorem trod_fields {H : Type} {enc : TypeId × Value → H} {w : World} {fuel : Nat} {t : TypeId} {cs : List Value} {x : DataW H × List MemPlace} {fs : Array Field} (ht : P.underlying t = some (.struct fs)) (h : DataW.trod enc P w 0 (fun _ => true) true fuel t cs = some x) :
    cs.length = P.cellsOf t ∧ ∃ n, ∀ (i : Nat) (f : Field), fs[i]? = some f → ∃ y, DataW.trod enc P w 0 (fun _ => true) true n f.type ((cs.drop f.offset).take (P.cellsOf f.type)) = some y := by
  obtain ⟨xs, n, _, _, h1, h2, h3⟩ := DataW.trod_struct ht h
  refine ⟨h1, n, fun i f hf => ?_⟩
  have hi : i < fs.size := (Array.getElem?_eq_some_iff.1 hf).1
  rw [h3 i f hf, List.getElem?_eq_getElem (by omega)]
  exact ⟨_, rfl⟩
theorem pair_step {α β : Type} {A : Rp α} {B : Rp β} {S : Nat → Prop} {w : World} {cs : List Value} {o s o' : Nat} {x : α} {y : β} (ho : o + s = o') (h1 : A.r S w ((cs.drop o).take s) x) (h2 : B.r S w (cs.drop o') y) : (rPair A B).r S w (cs.drop o) (x, y) :=
  ⟨_, _, by subst ho; rw [← List.drop_drop, List.take_append_drop], h1, h2⟩
theorem last_step {β : Type} {B : Rp β} {S : Nat → Prop} {w : World} {cs : List Value} {o s : Nat} {y : β} (hl : cs.length = o + s) (h2 : B.r S w ((cs.drop o).take s) y) : B.r S w (cs.drop o) y := by
  rwa [List.take_of_length_le (by simp; omega)] at h2

end
end Go.Bs
namespace Go.Bs
open Go.RowKit
set_option linter.unusedVariables false

section
variable {S : Nat → Prop} {w : World} {cs : List Value}

theorem batch_cells {x : Batch} (h : rBatch.r S w cs x) : ∃ a c, cs = [.int .u64 x.epoch, .int .u64 x.base, .slice a x.entries.length c] ∧ (0 ≤ x.epoch ∧ x.epoch ≤ 18446744073709551615) ∧ (0 ≤ x.base ∧ x.base ≤ 18446744073709551615) ∧ rEntries.r S w [.slice a x.entries.length c] x.entries := by
  obtain ⟨c1, c2, rfl, ⟨rfl, hw⟩, d1, d2, rfl, ⟨rfl, hw2⟩, h2⟩ := h
  obtain ⟨a, c, rfl, h3, _⟩ := sl_form h2
  exact ⟨a, c, rfl, bounds_u64 hw, bounds_u64 hw2, h3⟩
end

/-! What is well-formed. -/
end Go.Bs
namespace Go.Proofs.YtkipiefcnjfdjaaGreat
open Go.RowKit Go.Bs
set_option linter.unusedVariables false
set_option linter.unusedSimpArgs false

theorem c_u64 : Tryz.prog.cellsOf 22 = 1 := by kernel_rfl
theorem c_bytes : Tryz.prog.cellsOf 28 = 1 := by kernel_rfl
theorem c_u64s : Tryz.prog.cellsOf 207 = 1 := by kernel_rfl
theorem c_links : Tryz.prog.cellsOf 73 = 1 := by kernel_rfl
theorem c_entries : Tryz.prog.cellsOf 23 = 1 := by kernel_rfl
theorem o_u64 : Opens Tryz.prog 22 (rInt .u64) := opens_int Tryz.underlying22
theorem o_u64s : Opens Tryz.prog 207 rU64s := opens_slice (sz := 1) Tryz.underlying207 (by kernel_rfl) (by decide) o_u64

theorem field_at {H : Type} {enc : TypeId × Value → H} {P : Program} {w : World} {cs : List Value} {n : Nat} {fs : Array Field} (h : ∀ (i : Nat) (f : Field), fs[i]? = some f → ∃ y, DataW.trod enc P w 0 (fun _ => true) true n f.type ((cs.drop f.offset).take (P.cellsOf f.type)) = some y)
    {α : Type} {A : Rp α} {t : TypeId} (hA : Opens P t A) (i : Nat) (f : Field) (o : Nat) (hf : fs[i]? = some f) (ht : f.type = t) (ho : f.offset = o) (hs : P.cellsOf t = 1) : ∃ x, A.r (· < w.heap.size) w ((cs.drop o).take 1) x := by
  obtain ⟨y, hy⟩ := h i f hf
  rw [ht, ho, hs] at hy
  exact hA enc w n _ _ hy

theorem o_link : Opens Tryz.prog 209 rLink := fun enc w fuel cs x h => by
  obtain ⟨hl, n, hf⟩ := trod_fields Tryz.underlying209 h
  have hl2 : cs.length = 2 := hl.trans (by kernel_rfl)
  obtain ⟨x0, r0⟩ := field_at hf o_u64 0 _ 0 rfl rfl rfl c_u64
  obtain ⟨x1, r1⟩ := field_at hf o_u64s 1 _ 1 rfl rfl rfl c_u64s
  exact ⟨⟨x0, x1⟩, by have h := pair_step (o := 0) (s := 1) (o' := 1) rfl r0 (last_step (s := 1) hl2 r1); rw [List.drop_zero] at h; exact h⟩
theorem o_links : Opens Tryz.prog 73 rLinks := opens_slice (sz := 2) Tryz.underlying73 (by kernel_rfl) (by decide) o_link
theorem o_entry : Opens Tryz.prog 75 rEntry := fun enc w fuel cs x h => by
  obtain ⟨hl, n, hf⟩ := trod_fields Tryz.underlying75 h
  have hl2 : cs.length = 2 := hl.trans (by kernel_rfl)
  obtain ⟨x0, r0⟩ := field_at hf o_links 0 _ 0 rfl rfl rfl c_links
  obtain ⟨x1, r1⟩ := field_at hf o_bytes 1 _ 1 rfl rfl rfl c_bytes
  exact ⟨⟨x0, x1⟩, by have h := pair_step (o := 0) (s := 1) (o' := 1) rfl r0 (last_step (s := 1) hl2 r1); rw [List.drop_zero] at h; exact h⟩
theorem o_entries : Opens Tryz.prog 23 rEntries := opens_slice (sz := 2) Tryz.underlying23 (by kernel_rfl) (by decide) o_entry
theorem o_batch : Opens Tryz.prog 25 rBatch := fun enc w fuel cs x h => by
  obtain ⟨hl, n, hf⟩ := trod_fields Tryz.underlying25 h
  have hl2 : cs.length = 3 := hl.trans (by kernel_rfl)
  obtain ⟨x0, r0⟩ := field_at hf o_u64 0 _ 0 rfl rfl rfl c_u64
  obtain ⟨x1, r1⟩ := field_at hf o_u64 1 _ 1 rfl rfl rfl c_u64
  obtain ⟨x2, r2⟩ := field_at hf o_entries 2 _ 2 rfl rfl rfl c_entries
  exact ⟨⟨x0, x1, x2⟩, by have h := pair_step (o := 0) (s := 1) (o' := 1) rfl r0 (pair_step (o := 1) (s := 1) (o' := 2) rfl r1 (last_step (s := 1) hl2 r2)); rw [List.drop_zero] at h; exact h⟩
end Go.Proofs.YtkipiefcnjfdjaaGreat
namespace Go.Proofs.YtkipiefcnjfdjaaGreat
open Go.RowKit Go.Bs Go.Maps
set_option linter.unusedVariables false
set_option linter.unusedSimpArgs false

theorem Rs.take_of_bad {B : List UInt8} {s : Rs} {n : Int} (h : s.k ≠ 0) : s.take B n = (s, []) := by unfold Rs.take; rw [Rs.skip_of_bad h]; simp
end Go.Proofs.YtkipiefcnjfdjaaGreat
namespace Go.Proofs.YtkipiefcnjfdjaaGreat
open Go.RowKit Go.Bs Go.Maps
set_option linter.unusedVariables false
set_option linter.unusedSimpArgs false

theorem Rs.take_pre {B D rest : List UInt8} {p : Nat} (h : B.drop p = D ++ rest) (hp : p ≤ B.length) : (⟨p, 0, 0⟩ : Rs).take B (D.length : Int) = (⟨p + D.length, 0, 0⟩, D) := by
  have hr := drop_room h hp
  unfold Rs.take Rs.skip
  rw [if_pos rfl, if_neg (by omega), if_neg (by dsimp only; omega)]
  simp [h]
theorem Rs.byte_pre {B rest : List UInt8} {p : Nat} {x : UInt8} (h : B.drop p = x :: rest) (hp : p ≤ B.length) : (⟨p, 0, 0⟩ : Rs).byte B = (⟨p + 1, 0, 0⟩, x) := by
  have hr := drop_room (D := [x]) h hp
  simp at hr
  have hx : B.getD p 0 = x := by
    have : (B.drop p)[0]? = some x := by rw [h]; rfl
    simp at this
    simp [List.getD, this]
  unfold Rs.byte Rs.skip
  rw [if_pos rfl, if_neg (by omega), if_neg (by dsimp only; omega)]
  dsimp only
  rw [if_pos rfl, hx]
  rfl
theorem Rs.blob_pre {B D rest : List UInt8} {p : Nat} {m : Int} (hx : D.length < 18446744073709551616) (h : B.drop p = blobB D ++ rest) (hp : p ≤ B.length) (hm : (D.length : Int) ≤ m) : (⟨p, 0, 0⟩ : Rs).blob B m = (⟨p + (blobB D).length, 0, 0⟩, D) := by
  unfold blobB at h
  rw [List.append_assoc] at h
  have h2 := drop_more h
  have hr := drop_room h hp
  unfold Rs.blob
  rw [Rs.int_pre hx h hm]
  dsimp only
  rw [Rs.take_pre h2 (by omega)]
  simp [blobB, Nat.add_assoc]

theorem againL_take {b : List UInt8} {o : Nat} : ∀ (m p : Nat), p + m ≤ b.length → 1 ≤ o → o ≤ p → (∀ k, k < m → b[p + k]? = b[p + k - o]?) → againL o m (b.take p) = b.take (p + m)
  | 0, p, _, _, _, _ => rfl
  | m + 1, p, h, h1, h2, hs => by
    have h0 := hs 0 (by omega)
    have hb : b[p]? = some b[p] := by simp
    simp only [Nat.add_zero] at h0
    have e : b.take p ++ [(b.take p).getD ((b.take p).length - o) 0] = b.take (p + 1) := by
      rw [List.length_take, Nat.min_eq_left (by omega)]
      have : (b.take p).getD (p - o) 0 = b[p] := by
        have : (b.take p)[p - o]? = some b[p] := by rw [List.getElem?_take_of_lt (by omega), ← h0, hb]
        simp [List.getD, this]
      rw [this]
      rw [List.take_add_one, hb]; rfl
    simp only [againL]
    rw [e, againL_take m (p + 1) (by omega) h1 (by omega) (fun k hk => by
      have := hs (k + 1) (by omega)
      rw [show p + 1 + k = p + (k + 1) by omega]
      exact this)]
    rw [show p + 1 + m = p + (m + 1) by omega]

theorem exR_good {b B : List UInt8} {bound : Int} (hb : b.length ≤ 1048576) (hbd : (b.length : Int) ≤ bound) {f : Bool} {p : Nat} {ts : List Tok} (hg : Good b f p ts) : p ≤ b.length → ∀ q, q ≤ B.length → B.drop q = tokensB ts → exR B bound ⟨q, 0, 0⟩ (b.take p) = (⟨B.length, 0, 0⟩, b) := by
  induction hg with
  | nil =>
    intro _ q hq h
    have : B.length ≤ q := by simpa [tokensB] using h
    obtain rfl : q = B.length := by omega
    rw [exR_stop (by simp)]
    simp
  | @copy f p o m rest hp hbe hm hg ih =>
    intro _ q hq h
    rcases bestR_facts b p with h0 | ⟨o', m', he, h1, h2, h4, hml, _, _⟩
    · rw [hbe] at h0; simp at h0; omega
    · rw [hbe] at he
      simp only [Prod.mk.injEq] at he
      obtain ⟨rfl, rfl⟩ := he
      have hmb := mlen_le b p o
      have hre : reach p ≤ p ∧ reach p ≤ 65536 := by unfold reach; omega
      have ht : tokensB (⟨[], (o : Int), (m : Int)⟩ :: rest) = varB (2 * m - 7) ++ (varB (o - 1) ++ tokensB rest) := by
        simp only [tokensB, List.map_cons, List.flatten_cons]
        rw [tokB_copy o m h1, List.append_assoc]
      rw [ht] at h
      have hd1 := drop_more h
      have hr1 := drop_room h hq
      have hd2 := drop_more hd1
      have hr2 := drop_room hd1 (by omega)
      have hl1 := (varB_len (2 * m - 7)).2
      have hN := Rs.num_varB (by omega) h
      have hN2 := Rs.num_varB (p := q + (varB (2 * m - 7)).length) (by omega) hd1
      have hH : (⟨q, 0, 0⟩ : Rs).head B = (⟨q + (varB (2 * m - 7)).length, 0, 0⟩, true, m) := by
        unfold Rs.head
        rw [hN]
        dsimp only
        rw [if_pos rfl, if_pos (by omega), if_neg (by omega), show (2 * m - 7) / 2 + 4 = m by omega]
      have hO : (⟨q + (varB (2 * m - 7)).length, 0, 0⟩ : Rs).offset B = (⟨q + (varB (2 * m - 7)).length + (varB (o - 1)).length, 0, 0⟩, o) := by
        unfold Rs.offset
        rw [hN2]
        dsimp only
        rw [if_neg (by omega), if_pos rfl, show o - 1 + 1 = o by omega]
      have hlen : (b.take p).length = p := by simp; omega
      have hS : exStep B bound ⟨q, 0, 0⟩ (b.take p) = (⟨q + (varB (2 * m - 7)).length + (varB (o - 1)).length, 0, 0⟩, b.take (p + m)) := by
        unfold exStep
        rw [hH]
        dsimp only
        rw [hlen, if_neg (by omega), if_neg (by simp), hO]
        dsimp only
        rw [if_neg (by omega), if_pos rfl, againL_take m p (by omega) h1 (by omega) (fun k hk => (mlen_same (by omega)).2.2.2)]
      rw [exR_go ⟨hq, fun _ => rfl⟩ (by dsimp only; omega) rfl, hS]
      exact ih (by omega) _ (by omega) hd2
  | @run p q' rest hlt hle hno hg ih =>
    intro _ q hq h
    have hD : ((b.drop p).take (q' - p)).length = q' - p := by simp; omega
    generalize hDe : (b.drop p).take (q' - p) = D at *
    have ht : tokensB (⟨D, 0, 0⟩ :: rest) = varB (2 * D.length - 2) ++ (D ++ tokensB rest) := by
      simp only [tokensB, List.map_cons, List.flatten_cons]
      rw [tokB_run D (by omega) (by omega), List.append_assoc]
    rw [ht] at h
    have hd1 := drop_more h
    have hr1 := drop_room h hq
    have hd2 := drop_more hd1
    have hr2 := drop_room hd1 (by omega)
    have hl1 := (varB_len (2 * D.length - 2)).2
    have hN := Rs.num_varB (by omega) h
    have hH : (⟨q, 0, 0⟩ : Rs).head B = (⟨q + (varB (2 * D.length - 2)).length, 0, 0⟩, false, D.length) := by
      unfold Rs.head
      rw [hN]
      dsimp only
      rw [if_pos rfl, if_neg (by omega), if_neg (by omega), show (2 * D.length - 2) / 2 + 1 = D.length by omega]
    have hlen : (b.take p).length = p := by simp; omega
    have hS : exStep B bound ⟨q, 0, 0⟩ (b.take p) = (⟨q + (varB (2 * D.length - 2)).length + D.length, 0, 0⟩, b.take q') := by
      unfold exStep
      rw [hH]
      dsimp only
      rw [hlen, if_neg (by omega), if_pos rfl, Rs.take_pre hd1 (by omega)]
      rw [← hDe]
      refine Prod.ext rfl ?_
      dsimp only
      have : b.take q' = b.take p ++ (b.drop p).take (q' - p) := by
        rw [← List.take_append_drop p (b.take q'), List.take_take, Nat.min_eq_left (by omega), List.drop_take]
      exact this.symm
    rw [exR_go ⟨hq, fun _ => rfl⟩ (by dsimp only; omega) rfl, hS]
    exact ih (by omega) _ (by omega) hd2
/-- What is compressed is expanded to what it was. -/
theorem exB_press {b : List UInt8} {bound : Int} (hb : b.length ≤ 1048576) (hbd : (b.length : Int) ≤ bound) : exB (pressB b) bound = (b, 0, 0) := by
  have := exR_good (B := pressB b) hb hbd (good_toksR b) (by omega) 0 (by omega) rfl
  rw [exB_is]
  simp only [List.take_zero] at this
  rw [this, if_pos rfl]
/-- What is put is read. -/
theorem Rs.loose_block {B D rest : List UInt8} {p : Nat} {most : Int} (h : B.drop p = blockB D ++ rest) (hp : p ≤ B.length) (hD : D.length ≤ 1048576) (hm : (D.length : Int) ≤ most) :
    (⟨p, 0, 0⟩ : Rs).loose B most = (⟨p + (blockB D).length, 0, 0⟩, D, true) := by
  have htk : (B.drop p).take (blockB D).length = blockB D := by rw [h]; simp
  have h' := h
  unfold blockB at h
  rw [List.append_assoc] at h
  have hd1 := drop_more h
  have hr1 := drop_room h hp
  have hI := Rs.int_pre (m := min most 1048576) (by omega) h (by omega)
  unfold Rs.loose
  rw [hI]
  dsimp only
  cases hpk : packR D
  · rw [hpk] at hd1
    rw [if_neg (by simp)] at hd1
    have hd2 := drop_more (D := [0]) hd1
    have hr2 := drop_room (D := [0]) hd1 (by omega)
    simp only [List.length_cons, List.length_nil, Nat.zero_add] at hd2 hr2
    rw [Rs.byte_pre hd1 (by omega)]
    dsimp only
    rw [if_pos rfl, if_pos (by rfl), Rs.take_pre hd2 (by omega)]
    dsimp only
    rw [if_pos rfl]
    have hl : (blockB D).length = (varB D.length).length + (1 + D.length) := by simp [blockB, hpk]; omega
    rw [show p + (varB D.length).length + 1 + D.length = p + (blockB D).length by omega, show p + (blockB D).length - p = (blockB D).length by omega, htk]
    simp
  · have hpl : (blobB (pressB D)).length < D.length := of_decide_eq_true hpk
    have hpl2 := blobB_len (pressB D)
    rw [hpk] at hd1
    rw [if_pos rfl] at hd1
    have hd2 := drop_more (D := [1]) hd1
    have hr2 := drop_room (D := [1]) hd1 (by omega)
    simp only [List.length_cons, List.length_nil, Nat.zero_add] at hd2 hr2
    rw [Rs.byte_pre hd1 (by omega)]
    dsimp only
    rw [if_pos rfl, if_neg (by decide), if_pos (by rfl)]
    have hB := Rs.blob_pre (m := 1048576) (by omega) hd2 (by omega) (by omega)
    have hU : (⟨p + (varB D.length).length + 1, 0, 0⟩ : Rs).unp B D.length = (⟨p + (varB D.length).length + 1 + (blobB (pressB D)).length, 0, 0⟩, D) := by
      unfold Rs.unp
      rw [hB]
      dsimp only
      rw [exB_press hD (Int.le_refl _)]
      dsimp only
      rw [if_pos rfl, if_pos rfl, if_neg (by omega)]
    rw [hU]
    dsimp only
    rw [if_pos rfl]
    have hl : (blockB D).length = (varB D.length).length + (1 + (blobB (pressB D)).length) := by simp [blockB, hpk]; omega
    rw [show p + (varB D.length).length + 1 + (blobB (pressB D)).length = p + (blockB D).length by omega, show p + (blockB D).length - p = (blockB D).length by omega, htk]
    simp
end Go.Proofs.YtkipiefcnjfdjaaGreat
namespace Go.Proofs.YtkipiefcnjfdjaaGreat
open Go.RowKit Go.Bs
set_option linter.unusedVariables false
set_option linter.unusedSimpArgs false
/-- Lists of links and bytes of no length out of all measure. -/
def Mild (x : Entry) : Prop := x.links.length ≤ 1000000000000 ∧ x.data.length ≤ 1000000000000 ∧ ∀ z ∈ x.links, z.backs.length ≤ 1000000000000

end Go.Proofs.YtkipiefcnjfdjaaGreat
namespace Go.Proofs.YtkipiefcnjfdjaaGreat
open Go.RowKit Go.Bs Go.Maps
set_option linter.unusedVariables false
set_option linter.unusedSimpArgs false

theorem i64_bounds {n : Int} (h : (Lit.int .i64 n).wf = true) : -9223372036854775808 ≤ n ∧ n ≤ 9223372036854775807 := by
  simp [Lit.wf, IntKind.min, IntKind.max, IntKind.signed, IntKind.bits] at h; omega
end Go.Proofs.YtkipiefcnjfdjaaGreat
namespace Go.Proofs.YtkipiefcnjfdjaaGreat
open Go.RowKit Go.Bs Go.Maps
set_option linter.unusedVariables false
set_option linter.unusedSimpArgs false

/-- Too short: the fault stands at the end. -/
structure Rs.sh (L : Nat) (s : Rs) : Prop where
  code : s.k = 1
  pl : s.f = L
theorem Rs.sh.sh_bad {L : Nat} {s : Rs} (h : s.sh L) : s.k ≠ 0 := by rw [h.code]; decide
/-- A beginning of a row, but not all of it. -/
def Part (D F : List UInt8) : Prop := ∃ E, E ≠ [] ∧ F = D ++ E
theorem part_app {D F G : List UInt8} (h : Part D (F ++ G)) : Part D F ∨ ∃ D2, D = F ++ D2 ∧ Part D2 G := by
  obtain ⟨E, hE, h⟩ := h
  rcases List.append_eq_append_iff.1 h with ⟨a, h1, h2⟩ | ⟨c, h1, h2⟩
  · exact .inr ⟨a, h1, E, hE, h2⟩
  · rcases c with _ | ⟨x, c⟩
    · exact .inr ⟨[], by simpa using h1.symm, E, hE, by simpa using h2.symm⟩
    · exact .inl ⟨x :: c, by simp, h1⟩
theorem part_nil {D : List UInt8} (h : Part D []) : False := by
  obtain ⟨E, hE, h⟩ := h
  have := congrArg List.length h
  rw [List.length_append, List.length_nil] at this
  exact hE (List.eq_nil_of_length_eq_zero (by omega))
theorem part_len {D F : List UInt8} (h : Part D F) : D.length < F.length := by
  obtain ⟨E, hE, rfl⟩ := h
  rcases E with _ | ⟨x, E⟩
  · exact absurd rfl hE
  · simp
theorem part_take {F : List UInt8} {n : Nat} (h : n < F.length) : Part (F.take n) F :=
  ⟨F.drop n, fun e => by have := congrArg List.length e; simp at this; omega, (List.take_append_drop n F).symm⟩
theorem vget_cont : ∀ (l : List UInt8) (i x : Nat), (∀ c ∈ l, 128 ≤ c.toNat) → i + l.length ≤ 9 → (vget i x l).2.2 = 1
  | [], i, x, _, _ => rfl
  | c :: l, i, x, h, hl => by
    have h1 := h c (by simp)
    simp at hl
    unfold vget
    rw [if_neg (by omega), if_neg (by omega), if_neg (by omega)]
    exact vget_cont l _ _ (fun d hd => h d (by simp [hd])) (by omega)
theorem varF_part : ∀ (f x : Nat) (D : List UInt8), Part D (varF f x) → (∀ c ∈ D, 128 ≤ c.toNat) ∧ D.length ≤ f
  | 0, x, D, h => by
    have := part_len h
    simp [varF] at this
    subst this
    simp
  | f + 1, x, D, h => by
    unfold varF at h
    by_cases hx : x < 128
    · rw [if_pos hx] at h
      have := part_len h
      simp at this
      subst this
      simp
    · rw [if_neg hx] at h
      rcases D with _ | ⟨c, D⟩
      · simp
      · obtain ⟨E, hE, h⟩ := h
        rw [List.cons_append] at h
        injection h with h1 h
        have := varF_part f (x / 128) D ⟨E, hE, h⟩
        refine ⟨fun d hd => ?_, by simp; exact this.2⟩
        rcases List.mem_cons.1 hd with rfl | hd
        · rw [← h1, UInt8.toNat_ofNat']
          omega
        · exact this.1 d hd
theorem Rs.num_sh {B D : List UInt8} {p x : Nat} (h : B.drop p = D) (hd : Part D (varB x)) : ((⟨p, 0, 0⟩ : Rs).num B).1.sh B.length := by
  have hv := varF_part 9 x D hd
  have := vget_cont D 0 0 hv.1 (by omega)
  unfold Rs.num
  rw [if_pos rfl]
  dsimp only
  rw [h]
  exact ⟨this, by rw [this]; rfl⟩
theorem Rs.int_sh {B D : List UInt8} {p x : Nat} {m : Int} (h : B.drop p = D) (hd : Part D (varB x)) : ((⟨p, 0, 0⟩ : Rs).int B m).1.sh B.length := by
  have hs := Rs.num_sh h hd
  have h0 := Rs.num_bad hs.sh_bad
  unfold Rs.int Rs.most
  rw [h0]
  split
  · rw [if_neg (by omega)]; exact hs
  · rw [Rs.fail_of_bad hs.sh_bad]; exact hs
theorem Rs.delta_of_bad {B : List UInt8} {s : Rs} {pos m : Int} (h : s.k ≠ 0) : s.delta B pos m = (s, []) := by
  unfold Rs.delta
  rw [Rs.int_of_bad h]
  rfl
theorem Rs.falls_sh {B : List UInt8} : ∀ (l : List Int) (below : Int) (p : Nat) (out : List Int) (D : List UInt8), fallsB below l = true → (∀ x ∈ l, 0 ≤ x) → below ≤ 18446744073709551615 → B.drop p = D → Part D (numsB (stepsL below l)) → p ≤ B.length →
    (Rs.falls B l.length ⟨p, 0, 0⟩ below out).1.sh B.length
  | [], below, p, out, D, _, _, _, _, hd, _ => (part_nil hd).elim
  | x :: l, below, p, out, D, hf, hx, hb, h, hd, hp => by
    simp only [fallsB, Bool.and_eq_true, decide_eq_true_eq] at hf
    have h0 := hx x (by simp)
    simp only [stepsL] at hd
    rw [numsB_cons] at hd
    simp only [List.length_cons, Rs.falls]
    rcases part_app hd with hd | ⟨D2, rfl, hgD2⟩
    · have hs := Rs.num_sh h hd
      rw [if_neg hs.sh_bad]
      exact hs
    · have hd := hgD2
      have hn : (below - x - 1).toNat < 18446744073709551616 := by omega
      have hN := Rs.num_varB hn h
      have hd' := drop_more h
      have hr := drop_room h hp
      rw [hN]
      dsimp only
      rw [if_pos rfl, toNat_cast (by omega), if_neg (by omega), show below - (below - x - 1) - 1 = x by omega]
      exact Rs.falls_sh l x _ _ D2 hf.2 (fun y hy => hx y (by simp [hy])) (by omega) hd' hd (by omega)
theorem Rs.delta_sh {B D : List UInt8} {l : List Int} {pos : Int} {p : Nat} {most : Int} (hf : fallsB pos l = true) (hx : ∀ x ∈ l, 0 ≤ x) (hb : pos ≤ 18446744073709551615) (h : B.drop p = D) (hd : Part D (deltaB pos l)) (hp : p ≤ B.length) (hm : (l.length : Int) ≤ most) (hl : l.length < 18446744073709551616) :
    ((⟨p, 0, 0⟩ : Rs).delta B pos most).1.sh B.length := by
  unfold deltaB at hd
  unfold Rs.delta
  rcases part_app hd with hd | ⟨D2, rfl, hgD2⟩
  · have hs := Rs.int_sh (m := most) h hd
    have hz : ((⟨p, 0, 0⟩ : Rs).int B most).2 = 0 := by
      have := Rs.num_sh h hd
      have h0 := Rs.num_bad this.sh_bad
      unfold Rs.int Rs.most
      rw [h0]
      split
      · rw [if_neg (by omega)]; exact h0
      · rfl
    rw [hz]
    exact hs
  · have hd := hgD2
    have hd' := drop_more h
    have hr := drop_room h hp
    rw [Rs.int_pre hl h hm]
    exact Rs.falls_sh l pos _ _ D2 hf hx hb hd' hd (by omega)
theorem Rs.linksF_sh {B : List UInt8} {pos : Int} (hpos : pos ≤ 18446744073709551615) : ∀ (l : List Link) (prev : Option Int) (p : Nat) (out : List Link) (D : List UInt8), (∀ x ∈ l, linkR pos x = true ∧ (0 ≤ x.stream ∧ x.stream ≤ 18446744073709551615) ∧ ∀ y ∈ x.backs, 0 ≤ y) → (∀ q, prev = some q → 0 ≤ q ∧ risesB (q :: l.map Link.stream) = true) → risesB (l.map Link.stream) = true → B.drop p = D → Part D (lnkF pos prev l) → p ≤ B.length →
    (Rs.linksF B pos l.length ⟨p, 0, 0⟩ prev out).1.sh B.length
  | [], prev, p, out, D, _, _, _, _, hd, _ => (part_nil hd).elim
  | x :: l, prev, p, out, D, hx, hq, hri, h, hd, hp => by
    obtain ⟨hr1, hs, hbk⟩ := hx x (by simp)
    simp only [linkR, Bool.and_eq_true, decide_eq_true_eq] at hr1
    have hnext : ∀ q, some x.stream = some q → 0 ≤ q ∧ risesB (q :: l.map Link.stream) = true := fun q e => by
      simp only [Option.some.injEq] at e
      subst e
      exact ⟨hs.1, hri⟩
    have hri2 : risesB (l.map Link.stream) = true := by
      simp only [List.map_cons] at hri
      cases hl : l.map Link.stream with
      | nil => rfl
      | cons y r => rw [hl] at hri; simp only [risesB, Bool.and_eq_true] at hri; exact hri.2
    have key : ∃ y : Int, 0 ≤ y ∧ y ≤ 18446744073709551615 ∧ lnkF pos prev (x :: l) = varB y.toNat ++ (deltaB pos x.backs ++ lnkF pos (some x.stream) l) ∧ (∀ D2, B.drop p = varB y.toNat ++ D2 → (⟨p, 0, 0⟩ : Rs).stream B prev = (⟨p + (varB y.toNat).length, 0, 0⟩, x.stream)) ∧ (Part D (varB y.toNat) → ((⟨p, 0, 0⟩ : Rs).stream B prev).1.sh B.length) := by
      cases prev with
      | none =>
        refine ⟨x.stream, hs.1, hs.2, by simp [lnkF], fun D2 h => ?_, fun hd => ?_⟩
        · unfold Rs.stream
          dsimp only
          rw [Rs.num_varB (by omega) h]
          dsimp only
          rw [toNat_cast hs.1]
        · exact Rs.num_sh h hd
      | some q =>
        obtain ⟨h0, hq1⟩ := hq q rfl
        simp only [List.map_cons, risesB, Bool.and_eq_true, decide_eq_true_eq] at hq1
        refine ⟨x.stream - q - 1, by omega, by omega, by simp [lnkF], fun D2 h => ?_, fun hd => ?_⟩
        · unfold Rs.stream
          dsimp only
          rw [Rs.num_varB (by omega) h]
          dsimp only
          rw [toNat_cast (by omega), if_neg (by omega)]
          refine Prod.ext rfl ?_
          dsimp only
          omega
        · have hs := Rs.num_sh h hd
          unfold Rs.stream
          dsimp only
          split
          · rw [Rs.fail_of_bad hs.sh_bad]; exact hs
          · exact hs
    obtain ⟨y, hy0, hy1, he, hst, hsh⟩ := key
    rw [he] at hd
    simp only [List.length_cons, Rs.linksF]
    rcases part_app hd with hd | ⟨D2, rfl, hgD2⟩
    · have hs := hsh hd
      rw [Rs.delta_of_bad hs.sh_bad]
      dsimp only
      rw [if_neg hs.sh_bad]
      exact hs
    · have hd := hgD2
      have hS := hst D2 h
      have hd' := drop_more h
      have hr := drop_room h hp
      rw [hS]
      dsimp only
      rcases part_app hd with hd | ⟨D3, rfl, hgD3⟩
      · have hs := Rs.delta_sh (most := 4) hr1.2 hbk hpos hd' hd (by omega) (by omega) (by omega)
        rw [if_neg hs.sh_bad]
        exact hs
      · have hd := hgD3
        have hD := Rs.delta_put (most := 4) hr1.2 hbk hpos hd' (by omega) (by omega) (by omega)
        have hd2 := drop_more hd'
        have hr2 := drop_room hd' (by omega)
        rw [hD]
        dsimp only
        rw [if_pos rfl]
        exact Rs.linksF_sh hpos l (some x.stream) _ _ D3 (fun z hz => hx z (by simp [hz])) hnext hri2 hd2 hd (by omega)
theorem Rs.int_sh0 {B D : List UInt8} {p x : Nat} {m : Int} (h : B.drop p = D) (hd : Part D (varB x)) : ((⟨p, 0, 0⟩ : Rs).int B m).2 = 0 := by
  have := Rs.num_sh h hd
  have h0 := Rs.num_bad this.sh_bad
  unfold Rs.int Rs.most
  rw [h0]
  split
  · rw [if_neg (by omega)]; exact h0
  · rfl
theorem Rs.links_sh {B D : List UInt8} {pos : Int} {l : List Link} {p : Nat} (hpos : pos ≤ 18446744073709551615) (hR : linksR pos l = true) (hx : ∀ x ∈ l, (0 ≤ x.stream ∧ x.stream ≤ 18446744073709551615) ∧ ∀ y ∈ x.backs, 0 ≤ y) (h : B.drop p = D) (hd : Part D (linksB pos l)) (hp : p ≤ B.length) :
    ((⟨p, 0, 0⟩ : Rs).links B pos).1.sh B.length := by
  simp only [linksR, Bool.and_eq_true, decide_eq_true_eq, List.all_eq_true] at hR
  unfold linksB at hd
  unfold Rs.links
  rcases part_app hd with hd | ⟨D2, rfl, hgD2⟩
  · rw [Rs.int_sh0 h hd]
    exact Rs.int_sh h hd
  · have hd := hgD2
    have hd' := drop_more h
    have hr := drop_room h hp
    rw [Rs.int_pre (by omega) h (by omega)]
    exact Rs.linksF_sh hpos l none _ _ D2 (fun x h => ⟨hR.2.2 x h, hx x h⟩) (fun q e => by cases e) hR.2.1 hd' hd (by omega)
theorem Rs.ehead_sh {B D : List UInt8} {pos most : Int} {e : Entry} {p : Nat} (hpos : pos ≤ 18446744073709551615) (hR : entryR pos e = true) (hx : entryN e) (h : B.drop p = D) (hd : Part D (headB pos e)) (hp : p ≤ B.length) (hm : (e.data.length : Int) ≤ most) :
    ((⟨p, 0, 0⟩ : Rs).ehead B pos most).1.sh B.length := by
  simp only [entryR, Bool.and_eq_true, decide_eq_true_eq] at hR
  unfold headB at hd
  unfold Rs.ehead
  rcases part_app hd with hd | ⟨D2, rfl, hgD2⟩
  · have hs := Rs.links_sh hpos hR.1 hx h hd hp
    rw [Rs.int_of_bad hs.sh_bad]
    dsimp only
    rw [if_neg hs.sh_bad]
    exact hs
  · have hd := hgD2
    have hd' := drop_more h
    have hr := drop_room h hp
    rw [Rs.links_put hpos hR.1 hx h hp]
    dsimp only
    have hs := Rs.int_sh (m := most) hd' hd
    rw [if_neg hs.sh_bad]
    exact hs
theorem Rs.heads_sh {B : List UInt8} : ∀ (l : List Entry) (pos left : Int) (p : Nat) (out : List (List Link × Nat)) (D : List UInt8), entriesR pos l = true → (∀ e ∈ l, entryN e) → pos + l.length ≤ 18446744073709551615 → (total l : Int) ≤ left → B.drop p = D → Part D (headsB pos l) → p ≤ B.length →
    (Rs.heads B l.length ⟨p, 0, 0⟩ pos left out).1.sh B.length
  | [], pos, left, p, out, D, _, _, _, _, _, hd, _ => (part_nil hd).elim
  | e :: l, pos, left, p, out, D, hR, hx, hpos, hlt, h, hd, hp => by
    simp only [entriesR, Bool.and_eq_true] at hR
    simp only [List.length_cons] at hpos
    have ht : total (e :: l) = e.data.length + total l := by simp [total]
    rw [ht] at hlt
    simp only [headsB] at hd
    simp only [List.length_cons, Rs.heads]
    rcases part_app hd with hd | ⟨D2, rfl, hgD2⟩
    · have hs := Rs.ehead_sh (most := left) (by omega) hR.1 (hx e (by simp)) h hd hp (by omega)
      rw [if_neg hs.sh_bad]
      exact hs
    · have hd := hgD2
      have hd' := drop_more h
      have hr := drop_room h hp
      have hE := Rs.ehead_put (most := left) (by omega) hR.1 (hx e (by simp)) h hp (by omega)
      rw [hE]
      dsimp only
      rw [if_pos rfl]
      exact Rs.heads_sh l (pos + 1) _ _ _ D2 hR.2 (fun z hz => hx z (by simp [hz])) (by omega) (by omega) hd' hd (by omega)
theorem Rs.po_of_bad {B : List UInt8} {s : Rs} (h : s.k ≠ 0) : s.po B = (s, 0) := by
  unfold Rs.po
  rw [Rs.num_of_bad h]
  dsimp only
  rw [if_neg h]
theorem Rs.ep_sh {B D : List UInt8} {p x : Nat} (h : B.drop p = D) (hd : Part D (varB x)) : ((⟨p, 0, 0⟩ : Rs).ep B).1.sh B.length := by
  have hs := Rs.num_sh h hd
  unfold Rs.ep
  rw [if_neg hs.sh_bad]
  exact hs
theorem Rs.po_sh {B D : List UInt8} {p x : Nat} (h : B.drop p = D) (hd : Part D (varB x)) : ((⟨p, 0, 0⟩ : Rs).po B).1.sh B.length := by
  have hs := Rs.num_sh h hd
  unfold Rs.po
  rw [if_neg hs.sh_bad]
  exact hs
theorem Rs.bfront_of {B : List UInt8} {s : Rs} {L : Nat} (h : (((s.ep B).1.po B).1.int B 16).1.sh L) : (s.bfront B).1.sh L := by
  unfold Rs.bfront
  dsimp only
  split
  · exact h
  · rw [Rs.fail_of_bad h.sh_bad]; exact h
theorem Rs.take_sh {B D F : List UInt8} {p : Nat} (h : B.drop p = D) (hd : Part D F) (hp : p ≤ B.length) : ((⟨p, 0, 0⟩ : Rs).take B (F.length : Int)).1.sh B.length := by
  have hl := part_len hd
  have hr := congrArg List.length h
  simp at hr
  unfold Rs.take Rs.skip
  rw [if_pos rfl, if_neg (by omega), if_pos (by dsimp only; omega)]
  exact ⟨rfl, rfl⟩
theorem Rs.byte_sh {B : List UInt8} {p : Nat} (h : B.drop p = []) (hp : p ≤ B.length) : ((⟨p, 0, 0⟩ : Rs).byte B).1.sh B.length := by
  have hr := congrArg List.length h
  simp at hr
  unfold Rs.byte Rs.skip
  rw [if_pos rfl, if_neg (by omega), if_pos (by dsimp only; omega)]
  exact ⟨rfl, rfl⟩
theorem Rs.blob_sh {B D F : List UInt8} {p : Nat} {m : Int} (hx : F.length < 18446744073709551616) (h : B.drop p = D) (hd : Part D (blobB F)) (hp : p ≤ B.length) (hm : (F.length : Int) ≤ m) : ((⟨p, 0, 0⟩ : Rs).blob B m).1.sh B.length := by
  unfold blobB at hd
  unfold Rs.blob
  rcases part_app hd with hd | ⟨D2, rfl, hgD2⟩
  · have hs := Rs.int_sh (m := m) h hd
    rw [Rs.take_of_bad hs.sh_bad]
    exact hs
  · have hd := hgD2
    have hd' := drop_more h
    have hr := drop_room h hp
    rw [Rs.int_pre hx h hm]
    exact Rs.take_sh hd' hd (by omega)
theorem Rs.loose_sh {B D F : List UInt8} {p : Nat} {most : Int} (h : B.drop p = D) (hd : Part D (blockB F)) (hp : p ≤ B.length) (hD : F.length ≤ 1048576) (hm : (F.length : Int) ≤ most) :
    ((⟨p, 0, 0⟩ : Rs).loose B most).1.sh B.length := by
  unfold blockB at hd
  unfold Rs.loose
  rcases part_app hd with hd | ⟨D2, rfl, hgD2⟩
  · have hs := Rs.int_sh (m := min most 1048576) h hd
    rw [Rs.byte_of_bad hs.sh_bad]
    dsimp only
    rw [if_neg hs.sh_bad]
    exact hs
  · have hd := hgD2
    have hd1 := drop_more h
    have hr1 := drop_room h hp
    rw [Rs.int_pre (m := min most 1048576) (by omega) h (by omega)]
    dsimp only
    rcases D2 with _ | ⟨c, D3⟩
    · have hs := Rs.byte_sh hd1 (by omega)
      rw [if_neg hs.sh_bad]
      exact hs
    · have hd2 := drop_more (D := [c]) (by simpa using hd1)
      have hr2 := drop_room (D := [c]) (rest := D3) (by simpa using hd1) (by omega)
      simp only [List.length_cons, List.length_nil, Nat.zero_add] at hd2 hr2
      rw [Rs.byte_pre hd1 (by omega)]
      dsimp only
      rw [if_pos rfl]
      obtain ⟨E, hE, he⟩ := hd
      cases hpk : packR F
      · rw [hpk] at he
        simp at he
        obtain ⟨rfl, he⟩ := he
        have hs := Rs.take_sh hd2 ⟨E, hE, he⟩ (by omega)
        rw [if_pos (by rfl), if_neg hs.sh_bad]
        exact hs
      · rw [hpk] at he
        simp at he
        obtain ⟨rfl, he⟩ := he
        have hpl : (blobB (pressB F)).length < F.length := of_decide_eq_true hpk
        have hpl2 := blobB_len (pressB F)
        have hs := Rs.blob_sh (m := 1048576) (by omega) hd2 ⟨E, hE, he⟩ (by omega) (by omega)
        have hu : ((⟨p + (varB F.length).length + 1, 0, 0⟩ : Rs).unp B F.length).1 = ((⟨p + (varB F.length).length + 1, 0, 0⟩ : Rs).blob B 1048576).1 := by
          unfold Rs.unp
          rw [if_neg hs.sh_bad]
        rw [if_neg (by decide), if_pos (by rfl), hu, if_neg hs.sh_bad]
        exact hs
theorem Rs.strict_sh {s : Rs × List UInt8 × Bool} {L : Nat} (h : s.1.sh L) : (Rs.strict s).1.sh L := by
  unfold Rs.strict
  rw [if_neg h.sh_bad]
  exact h
theorem Rs.bblock_sh {blk : Rs → Rs × List UInt8 × Bool} {h : Rs × List (List Link × Nat)} {L : Nat} (hs : (blk h.1).1.sh L) : (Rs.bblock blk h).1.sh L := by
  unfold Rs.bblock
  dsimp only
  split
  · exact hs
  · rw [Rs.fail_of_bad hs.sh_bad]; exact hs
/-- A beginning of a batch is too short. -/
theorem Rs.batch_sh {B D : List UInt8} {b : Batch} {p : Nat} {blk : Rs → Rs × List UInt8 × Bool} (hR : batchR b = true) (hN : batchN b) (h : B.drop p = D) (hd : Part D (batchB b)) (hp : p ≤ B.length)
    (hbad : ∀ s : Rs, s.k ≠ 0 → (blk s).1 = s) (hblk : ∀ q D', q ≤ B.length → B.drop q = D' → Part D' (blockB (joined b.entries)) → (blk ⟨q, 0, 0⟩).1.sh B.length) :
    (Rs.batch B blk ⟨p, 0, 0⟩).1.sh B.length := by
  obtain ⟨⟨e0, e1⟩, ⟨b0, b1⟩, hen⟩ := hN
  simp only [batchR, Bool.and_eq_true, decide_eq_true_eq] at hR
  obtain ⟨hep, hfit, htot, hent⟩ := hR
  have hfit' := hfit
  simp only [fitsR, decide_eq_true_eq] at hfit'
  unfold batchB aheadB at hd
  simp only [List.append_assoc] at hd
  have go : ((⟨p, 0, 0⟩ : Rs).bfront B).1.sh B.length → (Rs.batch B blk ⟨p, 0, 0⟩).1.sh B.length := fun hs => by
    unfold Rs.batch
    dsimp only
    rw [if_neg hs.sh_bad]
    exact hs
  rcases part_app hd with hd | ⟨D2, rfl, hgD2⟩
  · have hs := Rs.ep_sh h hd
    refine go (Rs.bfront_of ?_)
    rw [Rs.po_of_bad hs.sh_bad]
    dsimp only
    rw [Rs.int_of_bad hs.sh_bad]
    exact hs
  have hd := hgD2
  have hd1 := drop_more h
  have hr1 := drop_room h hp
  have hE : (⟨p, 0, 0⟩ : Rs).ep B = (⟨p + (varB b.epoch.toNat).length, 0, 0⟩, b.epoch.toNat) := by
    unfold Rs.ep
    rw [Rs.num_varB (by omega) h]
    dsimp only
    rw [if_pos rfl, toNat_cast e0, if_pos hep]
  rcases part_app hd with hd | ⟨D3, rfl, hgD3⟩
  · have hs := Rs.po_sh hd1 hd
    refine go (Rs.bfront_of ?_)
    rw [hE]
    dsimp only
    rw [Rs.int_of_bad hs.sh_bad]
    exact hs
  have hd := hgD3
  have hd2 := drop_more hd1
  have hr2 := drop_room hd1 (by omega)
  have hP : (⟨p + (varB b.epoch.toNat).length, 0, 0⟩ : Rs).po B = (⟨p + (varB b.epoch.toNat).length + (varB b.base.toNat).length, 0, 0⟩, b.base.toNat) := by
    unfold Rs.po
    rw [Rs.num_varB (by omega) hd1]
    dsimp only
    rw [if_pos rfl, toNat_cast b0, if_pos (by unfold poR; exact decide_eq_true (by omega))]
  rcases part_app hd with hd | ⟨D4, rfl, hgD4⟩
  · refine go (Rs.bfront_of ?_)
    rw [hE]
    dsimp only
    rw [hP]
    exact Rs.int_sh hd2 hd
  have hd := hgD4
  have hd3 := drop_more hd2
  have hr3 := drop_room hd2 (by omega)
  have hI := Rs.int_pre (m := 16) (by omega) hd2 (by omega)
  have hF : (⟨p, 0, 0⟩ : Rs).bfront B = (⟨p + (varB b.epoch.toNat).length + (varB b.base.toNat).length + (varB b.entries.length).length, 0, 0⟩, b.epoch.toNat, b.base.toNat, b.entries.length) := by
    unfold Rs.bfront
    rw [hE]
    dsimp only
    rw [hP]
    dsimp only
    rw [hI]
    dsimp only
    rw [toNat_cast b0, if_pos hfit]
  have fin : ∀ H, Rs.heads B b.entries.length ⟨p + (varB b.epoch.toNat).length + (varB b.base.toNat).length + (varB b.entries.length).length, 0, 0⟩ b.base 1048576 [] = H → (blk H.1).1.sh B.length → (Rs.batch B blk ⟨p, 0, 0⟩).1.sh B.length := fun H hH hs => by
    have hbb := Rs.bblock_sh hs
    unfold Rs.batch
    dsimp only
    rw [hF]
    dsimp only
    rw [if_pos rfl, toNat_cast b0, hH, if_neg hbb.sh_bad]
    exact hbb
  rcases part_app hd with hd | ⟨D5, rfl, hgD5⟩
  · have hs := Rs.heads_sh b.entries b.base 1048576 _ [] D4 hent hen (by omega) (by omega) hd3 hd (by omega)
    refine fin _ rfl ?_
    rw [hbad _ hs.sh_bad]
    exact hs
  have hd := hgD5
  have hd4 := drop_more hd3
  have hr4 := drop_room hd3 (by omega)
  have hH := Rs.heads_put b.entries b.base 1048576 _ [] hent hen (by omega) (by omega) hd3 (by omega)
  refine fin _ hH ?_
  exact hblk _ D5 (by omega) hd4 hd
end Go.Proofs.YtkipiefcnjfdjaaGreat
namespace Go.Proofs.YtkipiefcnjfdjaaGreat
open Go.RowKit Go.Bs
set_option linter.unusedVariables false
set_option linter.unusedSimpArgs false

/-- More than K things, or one of the first K ones is too long. -/
def longG {α : Type} (K : Nat) (p : α → Bool) (l : List α) : Bool := decide (K < l.length) || (l.take K).any p
def longGAt {α : Type} (K : Nat) (p : α → Bool) (l : List α) (k : Nat) : Bool := decide (K < l.length) || ((l.take K).drop k).any p
theorem longG_no {α : Type} {K : Nat} {p : α → Bool} {l : List α} (h : longG K p l = false) : l.length ≤ K ∧ ∀ x ∈ l, p x = false := by
  simp only [longG, Bool.or_eq_false_iff, decide_eq_false_iff_not, List.any_eq_false] at h
  obtain ⟨h1, h2⟩ := h
  rw [List.take_of_length_le (by omega)] at h2
  exact ⟨by omega, fun x hx => by simpa using h2 x hx⟩
theorem longGAt_step {α : Type} (K : Nat) (p : α → Bool) (l : List α) (k : Nat) (h : k < l.length) (h2 : k < K) : longGAt K p l k = (p l[k] || longGAt K p l (k + 1)) := by
  unfold longGAt
  have e : (l.take K)[k]'(by simp; omega) = l[k] := by simp
  rw [List.drop_eq_getElem_cons (show k < (l.take K).length by simp; omega), List.any_cons, e]
  cases decide (K < l.length) <;> cases p l[k] <;> simp
theorem longGAt_end {α : Type} (K : Nat) (p : α → Bool) (l : List α) (k : Nat) (h : l.length ≤ k ∨ K ≤ k) : longGAt K p l k = decide (K < l.length) := by
  unfold longGAt
  rw [List.drop_of_length_le (by simp; omega)]
  simp

def long23 (l : List Link) : Bool := longG 50 (fun x => decide (50 < x.backs.length)) l
def long24 (e : Entry) : Bool := long23 e.links || decide (500 < e.data.length)
def many24 (l : List Entry) : Bool := longG 30 long24 l
def long25 (l : List Entry) : Bool := many24 l || decide (300 < total (l.take 30))
set_option maxRecDepth 100000 in
set_option maxHeartbeats 1600000 in
theorem law23_long (l : List Link) (a : Option Addr) (n c : Nat) (w : World) (hl : rLinks.r (· < w.heap.size) w [.slice a n c] l) :
    Calls Tryz.prog 190 #[.slice a n c] w fun r w' => r = .returned (.bool (long23 l)) ∧ Below w.heap.size w w' := by
  obtain ⟨rfl, hm, _, _⟩ := sl_len hl
  have HL := hid hl; clear hl
  go_enter Tryz.func190, Tryz.ntmps190
  go_wp2_with fail
  go_loop [3] (fun i => ∃ k : Nat, k ≤ l.length ∧ k ≤ 50 ∧ i = .int .i64 k ∧ Hid (long23 l = longGAt 50 (fun x => decide (50 < x.backs.length)) l k)) (fun i => l.length - (intOf i).toNat)
  case atStart => exact ⟨0, Nat.zero_le _, Nat.zero_le _, rfl, hid rfl⟩
  case round =>
    obtain ⟨k, hk, hk2, rfl, hf⟩ := hrel
    by_cases hlt : k < l.length
    · by_cases h450 : k < 50
      · obtain ⟨b, o, hA, hbb, a1, c1, X0, X1, _, _⟩ := link_at HL.out hlt
        subst hA
        have hst := hid (longGAt_step 50 (fun x => decide (50 < x.backs.length)) l k hlt h450)
        generalize l[k] = x at *
        generalize x.stream = xs at *
        generalize x.backs.length = n1 at *
        by_cases h3 : 50 < n1
        · have hff : Hid (long23 l = true) := hid (by rw [hf.out, hst.out]; simp [h3])
          have d3 : decide ((50 : Int) < (n1 : Int)) = true := by simp; omega
          clear h3
          go_wp2
          go_ret
          exact ⟨by rw [hff.out]; rfl, by (repeat (first | exact Below.refl _ _ | assumption | (refine below_alloc ?_ _) | (refine Below.setCell ?_ (by first | omega | (simp; done) | (simp; omega)) _) | (refine Below.drew ?_) | (refine below_drewN ?_ _) | (refine below_then (by assumption) ?_)))⟩
        · have hff : Hid (long23 l = longGAt 50 (fun x => decide (50 < x.backs.length)) l (k + 1)) := hid (by rw [hf.out, hst.out]; simp [h3])
          have d3 : decide ((50 : Int) < (n1 : Int)) = false := by simp; omega
          clear h3
          go_wp2
          go_round
          case rel => exact ⟨k + 1, by omega, by omega, by go_num, hff⟩
          case measure => simp [intOf]; omega
      · have hff : Hid (long23 l = decide ((50 : Int) < (l.length : Int))) := hid (by rw [hf.out, longGAt_end _ _ l k (.inr (by omega))]; simp only [decide_eq_decide]; omega)
        go_wp2
        go_ret
        exact ⟨by rw [hff.out]; rfl, by (repeat (first | exact Below.refl _ _ | assumption | (refine below_alloc ?_ _) | (refine Below.setCell ?_ (by first | omega | (simp; done) | (simp; omega)) _) | (refine Below.drew ?_) | (refine below_drewN ?_ _) | (refine below_then (by assumption) ?_)))⟩
    · have hff : Hid (long23 l = decide ((50 : Int) < (l.length : Int))) := hid (by rw [hf.out, longGAt_end _ _ l k (.inl (by omega))]; simp only [decide_eq_decide]; omega)
      go_wp2
      go_ret
      exact ⟨by rw [hff.out]; rfl, by (repeat (first | exact Below.refl _ _ | assumption | (refine below_alloc ?_ _) | (refine Below.setCell ?_ (by first | omega | (simp; done) | (simp; omega)) _) | (refine Below.drew ?_) | (refine below_drewN ?_ _) | (refine below_then (by assumption) ?_)))⟩

set_option maxHeartbeats 800000 in
theorem law24_long (x : Entry) (a a' : Option Addr) (n c n' c' : Nat) (w : World) (hl : rLinks.r (· < w.heap.size) w [.slice a n c] x.links) (hd : rBytes.r (· < w.heap.size) w [.slice a' n' c'] x.data) :
    Calls Tryz.prog 128 #[.agg #[.slice a n c, .slice a' n' c']] w fun r w' => r = .returned (.bool (long24 x)) ∧ Below w.heap.size w w' := by
  obtain ⟨rfl, hm, _, _⟩ := sl_len hl
  obtain ⟨rfl, hm', _, _⟩ := sl_len hd
  have HL := hid hl; clear hl hd
  have HLL := hid (show long24 x = (long23 x.links || decide (500 < x.data.length)) from rfl)
  go_enter Tryz.func128, Tryz.ntmps128
  go_wp2_with fail
  refine (law23_long x.links _ _ _ _ (lift HL.out (by (repeat (first | exact Below.refl _ _ | assumption | (refine below_alloc ?_ _) | (refine Below.setCell ?_ (by first | omega | (simp; done) | (simp; omega)) _) | (refine Below.drew ?_) | (refine below_drewN ?_ _) | (refine below_then (by assumption) ?_)))))).mono ?_
  rintro r w1 ⟨rfl, hb1⟩
  cases h : long23 x.links
  · have hff : Hid (long24 x = decide ((500 : Int) < (x.data.length : Int))) := hid (by rw [HLL.out, h, Bool.false_or]; simp only [decide_eq_decide]; omega)
    clear h
    have c1 : w1.cell? ⟨w.heap.size, 1, none⟩ = some (.slice a' x.data.length c') := (Later.mk w1 hb1).cell (by go_simp)
    go_wp2
    go_ret
    exact ⟨by rw [hff.out]; rfl, by (repeat (first | exact Below.refl _ _ | assumption | (refine below_alloc ?_ _) | (refine Below.setCell ?_ (by first | omega | (simp; done) | (simp; omega)) _) | (refine Below.drew ?_) | (refine below_drewN ?_ _) | (refine below_then (by assumption) ?_)))⟩
  · have hff : Hid (long24 x = true) := hid (by rw [HLL.out, h]; rfl)
    clear h
    go_wp2
    go_ret
    exact ⟨by rw [hff.out]; rfl, by (repeat (first | exact Below.refl _ _ | assumption | (refine below_alloc ?_ _) | (refine Below.setCell ?_ (by first | omega | (simp; done) | (simp; omega)) _) | (refine Below.drew ?_) | (refine below_drewN ?_ _) | (refine below_then (by assumption) ?_)))⟩

set_option maxRecDepth 100000 in
set_option maxHeartbeats 1600000 in
theorem law24_many (l : List Entry) (a : Option Addr) (n c : Nat) (w : World) (hl : rEntries.r (· < w.heap.size) w [.slice a n c] l) :
    Calls Tryz.prog 68 #[.slice a n c] w fun r w' => r = .returned (.bool (many24 l)) ∧ Below w.heap.size w w' := by
  obtain ⟨rfl, hm, _, _⟩ := sl_len hl
  have HL := hid hl; clear hl
  go_enter Tryz.func68, Tryz.ntmps68
  go_wp2_with fail
  go_loopw [3] (fun i wr => ∃ k : Nat, k ≤ l.length ∧ k ≤ 30 ∧ i = .int .i64 k ∧ Hid (many24 l = longGAt 30 long24 l k) ∧ Below w.heap.size w wr) (fun i _ => l.length - (intOf i).toNat)
  case atStart => exact ⟨0, Nat.zero_le _, Nat.zero_le _, rfl, hid rfl, Below.refl _ _⟩
  case round =>
    obtain ⟨k, hk, hk2, rfl, hf, hb⟩ := hrel
    by_cases hlt : k < l.length
    · by_cases h450 : k < 30
      · obtain ⟨b, o, hA, hbb, a1, c1, a2, c2, X0, X1, hd1, hd2⟩ := entry_at (lift HL.out hb) hlt
        subst hA
        have hst := hid (longGAt_step 30 long24 l k hlt h450)
        have HD1 := hid hd1; have HD2 := hid hd2; clear hd1 hd2
        generalize l[k] = x at *
        go_wp2_with fail
        refine (law24_long x _ _ _ _ _ _ _ HD1.out HD2.out).mono ?_
        rintro r w1 ⟨rfl, hb1⟩
        have hb2 := below_then hb1 hb
        cases h3 : long24 x
        · have hff : Hid (many24 l = longGAt 30 long24 l (k + 1)) := hid (by rw [hf.out, hst.out, h3]; rfl)
          clear h3
          go_wp2
          go_roundw
          case rel => exact ⟨k + 1, by omega, by omega, by go_num, hff, hb2⟩
          case measure => simp [intOf]; omega
        · have hff : Hid (many24 l = true) := hid (by rw [hf.out, hst.out, h3]; rfl)
          clear h3
          go_wp2
          go_ret
          exact ⟨by rw [hff.out]; rfl, hb2⟩
      · have hff : Hid (many24 l = decide ((30 : Int) < (l.length : Int))) := hid (by rw [hf.out, longGAt_end _ _ l k (.inr (by omega))]; simp only [decide_eq_decide]; omega)
        go_wp2
        go_ret
        exact ⟨by rw [hff.out]; rfl, hb⟩
    · have hff : Hid (many24 l = decide ((30 : Int) < (l.length : Int))) := hid (by rw [hf.out, longGAt_end _ _ l k (.inl (by omega))]; simp only [decide_eq_decide]; omega)
      go_wp2
      go_ret
      exact ⟨by rw [hff.out]; rfl, hb⟩

theorem many24_no {l : List Entry} (h : many24 l = false) : l.length ≤ 30 ∧ ∀ x ∈ l, x.data.length ≤ 500 ∧ x.links.length ≤ 50 ∧ ∀ y ∈ x.links, y.backs.length ≤ 50 := by
  obtain ⟨h1, h2⟩ := longG_no h
  refine ⟨h1, fun x hx => ?_⟩
  have := h2 x hx
  simp only [long24, Bool.or_eq_false_iff, decide_eq_false_iff_not] at this
  obtain ⟨h3, h4⟩ := longG_no this.1
  exact ⟨by omega, h3, fun y hy => by have := h4 y hy; simpa using this⟩
theorem total_bound {l : List Entry} {k : Nat} (h : ∀ x ∈ l, x.data.length ≤ k) : total l ≤ k * l.length := by
  induction l with
  | nil => exact Nat.zero_le _
  | cons x l ih =>
    have h1 := ih fun y hy => h y (List.mem_cons_of_mem _ hy)
    have h2 := h x (List.mem_cons_self ..)
    simp only [total, List.map_cons, List.sum_cons, List.length_cons] at *
    rw [Nat.mul_succ]; omega

set_option maxRecDepth 100000 in
set_option maxHeartbeats 3200000 in
theorem law25_long (e b : Int) (l : List Entry) (a : Option Addr) (n c : Nat) (w : World) (hl : rEntries.r (· < w.heap.size) w [.slice a n c] l) :
    Calls Tryz.prog 15 #[.agg #[.int .u64 e, .int .u64 b, .slice a n c]] w fun r w' => r = .returned (.bool (long25 l)) ∧ Below w.heap.size w w' := by
  obtain ⟨rfl, hm, _, _⟩ := sl_len hl
  have HL := hid hl; clear hl
  have HLL := hid (show long25 l = (many24 l || decide (300 < total (l.take 30))) from rfl)
  cases hmn : many24 l
  · obtain ⟨g1, g2⟩ := many24_no hmn
    have ht := total_bound (k := 500) (fun x hx => (g2 x hx).1)
    have hff : Hid (long25 l = decide ((300 : Int) < ((total l : Nat) : Int))) := hid (by rw [HLL.out, hmn, Bool.false_or, List.take_of_length_le g1]; simp only [decide_eq_decide]; omega)
    have hM := fun W h => law24_many l a l.length c W h
    rw [hmn] at hM
    have HM := hid hM; clear hM hmn g2
    have HT := hid ht; clear ht
    go_enter Tryz.func15, Tryz.ntmps15
    go_wp2_with fail
    refine wp_world (fun W => Below w.heap.size w W ∧ w.heap.size < W.heap.size ∧ W.cell? ⟨w.heap.size, 2, none⟩ = some (.slice a l.length c)) ⟨by (repeat (first | exact Below.refl _ _ | assumption | (refine below_alloc ?_ _) | (refine Below.setCell ?_ (by first | omega | (simp; done) | (simp; omega)) _) | (refine Below.drew ?_) | (refine below_drewN ?_ _) | (refine below_then (by assumption) ?_))), by simp, by go_simp⟩ ?_
    intro W ⟨hbW, hzW, q2⟩
    go_loop [3, 4] (fun s i => ∃ k : Nat, k ≤ l.length ∧ i = .int .i64 k ∧ s = .int .i64 (total (l.take k) : Nat)) (fun _ i => l.length - (intOf i).toNat)
    case atStart => exact ⟨0, Nat.zero_le _, rfl, rfl⟩
    case round =>
      obtain ⟨k, hk, rfl, rfl⟩ := hrel
      by_cases hlt : k < l.length
      · obtain ⟨bb, o, hA, hbb, a1, c1, a2, c2, X0, X1, _, _⟩ := entry_at (lift HL.out hbW) hlt
        subst hA
        have hs := hid (total_step l k hlt)
        have h1 := total_take_le l (k + 1)
        rw [hs.out] at h1
        have h2 := HT.out
        have d3 : decide ((k : Int) < 30) = true := by simp; omega
        generalize l[k].links.length = n1 at *
        generalize l[k].data.length = n2 at *
        generalize total (l.take k) = t at *
        generalize total l = tt at *
        have h3 : t + n2 ≤ 15000 := by omega
        clear h1 h2
        go_wp2
        go_round
        case rel => exact ⟨k + 1, by omega, by go_num, by rw [hs.out]; simp only [Int.natCast_add]⟩
        case measure => simp [intOf]; omega
      · obtain rfl : k = l.length := by omega
        rw [List.take_length]
        go_wp2_with fail
        refine (HM.out _ (lift HL.out hbW)).mono ?_
        rintro r w1 ⟨rfl, hb1⟩
        go_wp2
        go_ret
        exact ⟨by rw [hff.out]; rfl, below_then hb1 hbW⟩
  · have hff : Hid (long25 l = true) := hid (by rw [HLL.out, hmn]; rfl)
    have hM := fun W h => law24_many l a l.length c W h
    rw [hmn] at hM
    have HM := hid hM; clear hM hmn
    go_enter Tryz.func15, Tryz.ntmps15
    go_wp2_with fail
    refine wp_world (fun W => Below w.heap.size w W ∧ w.heap.size < W.heap.size ∧ W.cell? ⟨w.heap.size, 2, none⟩ = some (.slice a l.length c)) ⟨by (repeat (first | exact Below.refl _ _ | assumption | (refine below_alloc ?_ _) | (refine Below.setCell ?_ (by first | omega | (simp; done) | (simp; omega)) _) | (refine Below.drew ?_) | (refine below_drewN ?_ _) | (refine below_then (by assumption) ?_))), by simp, by go_simp⟩ ?_
    intro W ⟨hbW, hzW, q2⟩
    go_loop [3, 4] (fun s i => ∃ (k : Nat) (m : Int), k ≤ l.length ∧ k ≤ 30 ∧ i = .int .i64 k ∧ s = .int .i64 m) (fun _ i => l.length - (intOf i).toNat)
    case atStart => exact ⟨0, 0, Nat.zero_le _, Nat.zero_le _, rfl, rfl⟩
    case round =>
      obtain ⟨k, m, hk, hk2, rfl, rfl⟩ := hrel
      by_cases hlt : k < l.length
      · by_cases h30 : k < 30
        · obtain ⟨bb, o, hA, hbb, a1, c1, a2, c2, X0, X1, _, _⟩ := entry_at (lift HL.out hbW) hlt
          subst hA
          generalize l[k].links.length = n1 at *
          generalize l[k].data.length = n2 at *
          go_wp2
          go_round
          case rel => exact ⟨k + 1, _, by omega, by omega, by go_num, rfl⟩
          case measure => simp [intOf]; omega
        · go_wp2_with fail
          refine (HM.out _ (lift HL.out hbW)).mono ?_
          rintro r w1 ⟨rfl, hb1⟩
          go_wp2
          go_ret
          exact ⟨by rw [hff.out]; rfl, below_then hb1 hbW⟩
      · go_wp2_with fail
        refine (HM.out _ (lift HL.out hbW)).mono ?_
        rintro r w1 ⟨rfl, hb1⟩
        go_wp2
        go_ret
        exact ⟨by rw [hff.out]; rfl, below_then hb1 hbW⟩

theorem long25_no {l : List Entry} (h : long25 l = false) : l.length ≤ 30 ∧ total l ≤ 300 ∧ ∀ x ∈ l, x.data.length ≤ 500 ∧ x.links.length ≤ 50 ∧ ∀ y ∈ x.links, y.backs.length ≤ 50 := by
  simp only [long25, Bool.or_eq_false_iff, decide_eq_false_iff_not] at h
  obtain ⟨h1, h2⟩ := many24_no h.1
  rw [List.take_of_length_le h1] at h
  exact ⟨h1, by omega, h2⟩

end Go.Proofs.YtkipiefcnjfdjaaGreat
namespace Go.Proofs.YtkipiefcnjfdjaaGreat
open Go.RowKit Go.Bs Go.Maps
set_option linter.unusedVariables false
set_option linter.unusedSimpArgs false

theorem long25_tame {l : List Entry} (h : long25 l = false) : TameE l ∧ (∀ z ∈ l, Mild z) ∧ total l ≤ 300 := by
  obtain ⟨h1, h2, h3⟩ := long25_no h
  exact ⟨⟨by omega, by omega, fun e he x hx => by have := (h3 e he).2.2 x hx; omega⟩, fun z hz => ⟨by have := (h3 z hz).2.1; omega, by have := (h3 z hz).1; omega, fun y hy => by have := (h3 z hz).2.2 y hy; omega⟩, h2⟩
theorem entries_bounds {S : Nat → Prop} {w : World} {a : Option Addr} {n c : Nat} {l : List Entry} (h : rEntries.r S w [.slice a n c] l) : ∀ e ∈ l, entryN e := by
  intro e he
  obtain ⟨i, hi, rfl⟩ := List.getElem_of_mem he
  obtain ⟨b, o, _, _, a1, c1, a2, c2, _, _, hl, _⟩ := entry_at h hi
  exact links_bounds hl
set_option maxRecDepth 100000 in
theorem batch_arg {H : Type} (enc : TypeId × Value → H) (W : World) (base : Nat) (v0 : Value) (d0 : DataW H) (p0 : List MemPlace)
    (k0 : DataW.Trod enc Tryz.prog W 0 (fun _ => true) true 25 v0 d0 p0) (o0 : Value.okWide Tryz.prog W .any base 25 v0) :
    ∃ (b : Batch) (a : Option Addr) (n c : Nat), v0 = .agg #[.int .u64 b.epoch, .int .u64 b.base, .slice a n c] ∧ rBatch.r (· < W.heap.size) W [.int .u64 b.epoch, .int .u64 b.base, .slice a n c] b := by
  obtain ⟨fuel, hf⟩ := k0
  obtain ⟨cs, rfl, hsz⟩ := Go.WideShapes.okWide_struct Tryz.underlying25 o0
  obtain ⟨u, hu⟩ := o_batch enc W fuel _ _ hf
  obtain ⟨a, c, hcs, h0, h1, hl⟩ := batch_cells hu
  have e : cs = #[.int .u64 u.epoch, .int .u64 u.base, .slice a u.entries.length c] := by
    have := hcs
    simp only [Value.cells] at this
    exact Array.ext' this
  exact ⟨u, a, _, c, by rw [e], by rw [← hcs]; exact hu⟩
end Go.Proofs.YtkipiefcnjfdjaaGreat
namespace Go.Proofs.YtkipiefcnjfdjaaGreat
open Go.RowKit Go.Bs Go.Maps
set_option linter.unusedVariables false
set_option linter.unusedSimpArgs false

/-- What is put is decoded. -/
theorem dec_put {b : Batch} (R : List UInt8) (hR : batchR b = true) (hN : batchN b) {blk : List UInt8 → Rs → Rs × List UInt8 × Bool}
    (hblk : ∀ (B rest : List UInt8) q, q ≤ B.length → B.drop q = blockB (joined b.entries) ++ rest → blk B ⟨q, 0, 0⟩ = (⟨q + (blockB (joined b.entries)).length, 0, 0⟩, joined b.entries, true)) :
    decB (batchB b ++ R) (blk (batchB b ++ R)) = if R = [] then (⟨(batchB b).length, 0, 0⟩, b, true) else (⟨(batchB b).length, 9, (batchB b).length⟩, noBatch, false) := by
  have h := Rs.batch_put (B := batchB b ++ R) (rest := R) (p := 0) (blk := blk (batchB b ++ R)) hR hN (by simp) (Nat.zero_le _) (fun q h1 h2 => hblk _ R q h1 h2)
  unfold decB
  rw [h]
  simp only [Nat.zero_add]
  by_cases hR0 : R = []
  · subst hR0
    simp only [List.append_nil, if_true]
    have : ((⟨(batchB b).length, 0, 0⟩ : Rs).fin (batchB b).length) = ⟨(batchB b).length, 0, 0⟩ := by unfold Rs.fin; rw [if_neg (by simp)]
    rw [this]
    simp
  · rw [if_neg hR0]
    have hl : 0 < R.length := List.length_pos_iff.2 hR0
    have : ((⟨(batchB b).length, 0, 0⟩ : Rs).fin (batchB b ++ R).length) = ⟨(batchB b).length, 9, (batchB b).length⟩ := by
      unfold Rs.fin
      rw [if_pos (by simp; exact hl)]
      simp [Rs.fail]
    rw [this]
    simp
theorem joined_small {b : Batch} (hR : batchR b = true) : (joined b.entries).length ≤ 1048576 := by
  simp only [batchR, Bool.and_eq_true, decide_eq_true_eq] at hR
  rw [joined_length]
  exact hR.2.2.1
theorem blkL_put {b : Batch} (hR : batchR b = true) (B rest : List UInt8) (q : Nat) (h1 : q ≤ B.length) (h2 : B.drop q = blockB (joined b.entries) ++ rest) : blkL B ⟨q, 0, 0⟩ = (⟨q + (blockB (joined b.entries)).length, 0, 0⟩, joined b.entries, true) := by
  have hj := joined_small hR
  exact Rs.loose_block h2 h1 hj (by omega)
theorem blkS_put {b : Batch} (hR : batchR b = true) (B rest : List UInt8) (q : Nat) (h1 : q ≤ B.length) (h2 : B.drop q = blockB (joined b.entries) ++ rest) : blkS B ⟨q, 0, 0⟩ = (⟨q + (blockB (joined b.entries)).length, 0, 0⟩, joined b.entries, true) := by
  have := blkL_put hR B rest q h1 h2
  unfold blkL at this
  unfold blkS
  rw [this]
  rfl
/-- A beginning of it is too short. -/
theorem dec_short {b : Batch} {cut : Nat} (hR : batchR b = true) (hN : batchN b) (hc : cut < (batchB b).length) : (decB ((batchB b).take cut) (blkS ((batchB b).take cut))).1.k = 1 ∧ (decB ((batchB b).take cut) (blkS ((batchB b).take cut))).1.f = cut ∧ (decB ((batchB b).take cut) (blkS ((batchB b).take cut))).2.1 = noBatch := by
  have hl : ((batchB b).take cut).length = cut := by simp; omega
  have hs := Rs.batch_sh (B := (batchB b).take cut) (p := 0) (blk := blkS ((batchB b).take cut)) hR hN (List.drop_zero) (part_take hc) (Nat.zero_le _) (fun s hk => by
    have : (blkS ((batchB b).take cut) s).1 = s := by
      unfold blkS
      rw [Rs.loose_of_bad hk]
      unfold Rs.strict
      rw [if_neg hk]
    exact this) (fun q D' h1 h2 h3 => Rs.strict_sh (Rs.loose_sh h2 h3 h1 (joined_small hR) (by have := joined_small hR; omega)))
  unfold decB
  have hk := hs.sh_bad
  have hf : ((Rs.batch ((batchB b).take cut) (blkS ((batchB b).take cut)) ⟨0, 0, 0⟩).1.fin ((batchB b).take cut).length) = (Rs.batch ((batchB b).take cut) (blkS ((batchB b).take cut)) ⟨0, 0, 0⟩).1 := fin_bad hk
  rw [hf]
  simp only [if_neg hk]
  exact ⟨hs.code, by rw [hs.pl, hl], trivial⟩

end Go.Proofs.YtkipiefcnjfdjaaGreat
