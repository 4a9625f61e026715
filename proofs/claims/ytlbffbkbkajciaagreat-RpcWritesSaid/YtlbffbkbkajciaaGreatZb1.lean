/- Needed by rpcWrites_walk, part 1: texts put together by shake.py; no condition. -/
import Derived.Test.YtlbffbkbkajciaaGreatZa10
import Derived.ProofKit
import Derived.OpenShut
import Derived.Deep.Slices
import Derived.Lib.SmallJoins
import Derived.WalkKit
import Derived.WalkLawsBesides
import Derived.WalkSpells
import Derived.Outline
import Derived.BigQuiet
import Derived.Deep.QuietTactic
import Derived.Maps.AppendAt
import Derived.Deep.AppendLies
import Derived.Deep.CutRange
import Derived.Scope
import Derived.Laws.IdiomStrings
import Derived.Laws.BytesArg
import Derived.Test.YtlbffbkbkajciaaGreatRows
import Derived.Lib.SlBytesConst
import Derived.StillTailTactics
import Derived.Maps.OwnOps
import Derived.Maps.Views
import Derived.Sort.QuietThIn
import Derived.Sort.BigQuietIn
import Derived.Sort.QuietTacIn
import Derived.RangeFuncNested
import Derived.RangeFuncBound
import Derived.RangeFuncCalls
import Derived.RangeFuncLeaves
import Derived.Shelf.Abstract
import Derived.Shelf.RegionOpen
import Derived.OwnWalkIn
import Derived.TacticsInMore
import Derived.LoopNIn
import Derived.LoopIn
import Derived.Maps.OwnIn
import Derived.StillTail
import Derived.RegionTactic
import Derived.OrdersHeld
import Derived.Deep.RegionHeld
import Derived.Deep.RegionLaw
import Derived.Deep.RegionHeld3
import Derived.Laws.MakeOwn
import Derived.Test.YtlbffbkbkajciaaGreatProg
import Derived.Deep.Cut
import Derived.Deep.WholeRow
import Derived.Laws.BitsAllLaws
import Derived.Lib.ConvBytes
import Derived.Laws.AppendOwn
import Derived.IntWalk
import Derived.ScopeJumps
import Derived.WalkMore
import Derived.BigRegion
import Derived.Laws.Bits64
namespace Go.Bs
open Go.RowKit
set_option linter.unusedVariables false

section
variable {S : Nat → Prop} {w : World} {cs : List Value}

end

/-! What is well-formed. -/
def fitsR (base : Int) (n : Nat) : Bool := decide (1 ≤ n ∧ n ≤ 16 ∧ base < 4611686018427387904 ∧ base + n ≤ 4611686018427387904)
end Go.Bs
namespace Go.Bs
open Go.RowKit
set_option linter.unusedVariables false

section
variable {F G : Nat → Prop} {w w' w'' : World}
theorem Tch.of_below {B : Nat} (h : Below B w w') : Tch (fun b => B ≤ b) w w' := ⟨h.os, h.tape, h.output, h.size, fun b hb hf => h.block b (by omega)⟩
end
end Go.Bs
namespace Go.Bs
def rpcR (m : Msg) : Bool := msgR m && epR m.epoch
end Go.Bs
namespace Go.Proofs.YtlbffbkbkajciaaGreat
open Go.RowKit Go.Bs Go.Maps
set_option linter.unusedVariables false
set_option linter.unusedSimpArgs false

def payB (m : Msg) : List UInt8 := [UInt8.ofNat m.kind.toNat] ++ varB m.epoch.toNat ++ varB m.seq.toNat ++ msgB m
def payBytes (m : Msg) : List UInt8 × Int := if rpcR m = true then (payB m, 0) else ([], 3)
theorem payB_len {m : Msg} (h : rpcR m = true) : (payB m).length ≤ 49021 + m.data.length := by
  simp only [rpcR, Bool.and_eq_true] at h
  have h1 := msgB_len h.1
  have h2 := (varB_len m.epoch.toNat).1
  have h3 := (varB_len m.seq.toNat).1
  unfold payB
  simp only [List.length_append, List.length_cons, List.length_nil]
  omega

set_option maxRecDepth 100000 in
set_option maxHeartbeats 6400000 in
theorem rpc_right (m : Msg) (a1 : Option Addr) (c1 : Nat) (a2 : Option Addr) (c2 : Nat) (a3 : Option Addr) (c3 : Nat) (a4 : Option Addr) (c4 : Nat) (w : World) (hm : MsgIn (· < w.heap.size) w m a1 c1 a2 c2 a3 c3 a4 c4) (hbk : ∀ x ∈ m.links, x.backs.length ≤ 1000000) :
    Calls Tryz.prog 30 #[.agg #[.int .i64 m.kind, .int .u64 m.epoch, .int .u64 m.seq, .int .u64 m.pos, .int .i64 m.count, .int .i64 m.state, .slice a1 m.streams.length c1, .slice a2 m.links.length c2, .slice a3 m.data.length c3, .int .u64 m.sea.epoch, .int .u64 m.sea.node, .int .u64 m.sea.tail, .int .u64 m.proj.epoch, .slice a4 m.proj.stripes.length c4]] w fun r w' => r = .returned (.bool (rpcR m)) ∧ Below w.heap.size w w' := by
  have HB := hid (fun (W : World) (hW : Below w.heap.size w W) => body_right m a1 c1 a2 c2 a3 c3 a4 c4 W (MsgIn.lift hm hW) (fun x hx => by have := hbk x hx; omega))
  have HE := hid (fun W : World => epoch_right m.epoch W)
  have hr : rpcR m = (msgR m && epR m.epoch) := rfl
  have HBX : Hid (Blk (w.alloc (.cells #[.int .i64 m.kind, .int .u64 m.epoch, .int .u64 m.seq, .int .u64 m.pos, .int .i64 m.count, .int .i64 m.state, .slice a1 m.streams.length c1, .slice a2 m.links.length c2, .slice a3 m.data.length c3, .int .u64 m.sea.epoch, .int .u64 m.sea.node, .int .u64 m.sea.tail, .int .u64 m.proj.epoch, .slice a4 m.proj.stripes.length c4] 32)) w.heap.size 32 #[.int .i64 m.kind, .int .u64 m.epoch, .int .u64 m.seq, .int .u64 m.pos, .int .i64 m.count, .int .i64 m.state, .slice a1 m.streams.length c1, .slice a2 m.links.length c2, .slice a3 m.data.length c3, .int .u64 m.sea.epoch, .int .u64 m.sea.node, .int .u64 m.sea.tail, .int .u64 m.proj.epoch, .slice a4 m.proj.stripes.length c4]) := hid (Blk.new w _ _)
  have hb0 : Below w.heap.size w (w.alloc (.cells #[.int .i64 m.kind, .int .u64 m.epoch, .int .u64 m.seq, .int .u64 m.pos, .int .i64 m.count, .int .i64 m.state, .slice a1 m.streams.length c1, .slice a2 m.links.length c2, .slice a3 m.data.length c3, .int .u64 m.sea.epoch, .int .u64 m.sea.node, .int .u64 m.sea.tail, .int .u64 m.proj.epoch, .slice a4 m.proj.stripes.length c4] 32)) := by (repeat (first | exact Below.refl _ _ | assumption | (refine below_alloc ?_ _) | (refine Below.setCell ?_ (by first | omega | (simp; done) | (simp; omega)) _) | (refine Below.drew ?_) | (refine below_drewN ?_ _) | (refine below_then (by assumption) ?_)))
  generalize rpcR m = R at *
  generalize msgR m = M at *
  generalize epR m.epoch = E at *
  clear hm
  go_enter Tryz.func30, Tryz.ntmps30
  go_wp2_with fail
  generalize (w.alloc (.cells #[.int .i64 m.kind, .int .u64 m.epoch, .int .u64 m.seq, .int .u64 m.pos, .int .i64 m.count, .int .i64 m.state, .slice a1 m.streams.length c1, .slice a2 m.links.length c2, .slice a3 m.data.length c3, .int .u64 m.sea.epoch, .int .u64 m.sea.node, .int .u64 m.sea.tail, .int .u64 m.proj.epoch, .slice a4 m.proj.stripes.length c4] 32)) = w0 at *
  refine (HB.out _ hb0).mono ?_
  rintro r w1 ⟨rfl, hb1⟩
  have hb01 := below_then hb1 hb0
  have y1 : w1.cell? ⟨w.heap.size, 1, none⟩ = some (.int .u64 m.epoch) := (HBX.out.later hb1).cell 1
  cases M
  · have hff : Hid (R = false) := hid (by rw [hr]; rfl)
    clear hr
    go_wp2_with fail
    go_ret
    exact ⟨by rw [hff.out]; rfl, hb01⟩
  · have hff : Hid (R = E) := hid (by rw [hr]; rfl)
    clear hr
    go_wp2_with fail
    refine (HE.out _).mono ?_
    rintro r w2 ⟨rfl, rfl⟩
    go_wp2_with fail
    go_ret
    exact ⟨by rw [hff.out]; rfl, hb01⟩

set_option maxRecDepth 100000 in
set_option maxHeartbeats 6400000 in
theorem ref29_right (m : Msg) (a1 : Option Addr) (c1 : Nat) (a2 : Option Addr) (c2 : Nat) (a3 : Option Addr) (c3 : Nat) (a4 : Option Addr) (c4 : Nat) (w : World) (hm : MsgIn (· < w.heap.size) w m a1 c1 a2 c2 a3 c3 a4 c4) :
    Calls Tryz.prog 31 #[.agg #[.int .i64 m.kind, .int .u64 m.epoch, .int .u64 m.seq, .int .u64 m.pos, .int .i64 m.count, .int .i64 m.state, .slice a1 m.streams.length c1, .slice a2 m.links.length c2, .slice a3 m.data.length c3, .int .u64 m.sea.epoch, .int .u64 m.sea.node, .int .u64 m.sea.tail, .int .u64 m.proj.epoch, .slice a4 m.proj.stripes.length c4]] w fun r w' => r = .returned (.bool (rpcR m)) ∧ Below w.heap.size w w' := by
  have HB := hid (fun (W : World) (hW : Below w.heap.size w W) => ref28_right m a1 c1 a2 c2 a3 c3 a4 c4 W (MsgIn.lift hm hW))
  have HE := hid (fun W : World => ref17_right m.epoch hm.epoch.1 W)
  have hr : rpcR m = (msgR m && epR m.epoch) := rfl
  have HBX : Hid (Blk (w.alloc (.cells #[.int .i64 m.kind, .int .u64 m.epoch, .int .u64 m.seq, .int .u64 m.pos, .int .i64 m.count, .int .i64 m.state, .slice a1 m.streams.length c1, .slice a2 m.links.length c2, .slice a3 m.data.length c3, .int .u64 m.sea.epoch, .int .u64 m.sea.node, .int .u64 m.sea.tail, .int .u64 m.proj.epoch, .slice a4 m.proj.stripes.length c4] 32)) w.heap.size 32 #[.int .i64 m.kind, .int .u64 m.epoch, .int .u64 m.seq, .int .u64 m.pos, .int .i64 m.count, .int .i64 m.state, .slice a1 m.streams.length c1, .slice a2 m.links.length c2, .slice a3 m.data.length c3, .int .u64 m.sea.epoch, .int .u64 m.sea.node, .int .u64 m.sea.tail, .int .u64 m.proj.epoch, .slice a4 m.proj.stripes.length c4]) := hid (Blk.new w _ _)
  have hb0 : Below w.heap.size w (w.alloc (.cells #[.int .i64 m.kind, .int .u64 m.epoch, .int .u64 m.seq, .int .u64 m.pos, .int .i64 m.count, .int .i64 m.state, .slice a1 m.streams.length c1, .slice a2 m.links.length c2, .slice a3 m.data.length c3, .int .u64 m.sea.epoch, .int .u64 m.sea.node, .int .u64 m.sea.tail, .int .u64 m.proj.epoch, .slice a4 m.proj.stripes.length c4] 32)) := by (repeat (first | exact Below.refl _ _ | assumption | (refine below_alloc ?_ _) | (refine Below.setCell ?_ (by first | omega | (simp; done) | (simp; omega)) _) | (refine Below.drew ?_) | (refine below_drewN ?_ _) | (refine below_then (by assumption) ?_)))
  generalize rpcR m = R at *
  generalize msgR m = M at *
  generalize epR m.epoch = E at *
  clear hm
  go_enter Tryz.func31, Tryz.ntmps31
  go_wp2_with fail
  generalize (w.alloc (.cells #[.int .i64 m.kind, .int .u64 m.epoch, .int .u64 m.seq, .int .u64 m.pos, .int .i64 m.count, .int .i64 m.state, .slice a1 m.streams.length c1, .slice a2 m.links.length c2, .slice a3 m.data.length c3, .int .u64 m.sea.epoch, .int .u64 m.sea.node, .int .u64 m.sea.tail, .int .u64 m.proj.epoch, .slice a4 m.proj.stripes.length c4] 32)) = w0 at *
  refine (HB.out _ hb0).mono ?_
  rintro r w1 ⟨rfl, hb1⟩
  have hb01 := below_then hb1 hb0
  have y1 : w1.cell? ⟨w.heap.size, 1, none⟩ = some (.int .u64 m.epoch) := (HBX.out.later hb1).cell 1
  cases M
  · have hff : Hid (R = false) := hid (by rw [hr]; rfl)
    clear hr
    go_wp2_with fail
    go_ret
    exact ⟨by rw [hff.out]; rfl, hb01⟩
  · have hff : Hid (R = E) := hid (by rw [hr]; rfl)
    clear hr
    go_wp2_with fail
    refine (HE.out _).mono ?_
    rintro r w2 ⟨rfl, rfl⟩
    go_wp2_with fail
    go_ret
    exact ⟨by rw [hff.out]; rfl, hb01⟩

theorem rp_laterM {α : Type} (A : Rp α) {lo : Nat} {w w' : World} {cs : List Value} {x : α} (h : A.r (fun q => lo ≤ q ∧ q < w.heap.size) w cs x) (hb : Below w.heap.size w w') : A.r (fun q => lo ≤ q ∧ q < w.heap.size) w' cs x :=
  A.keep h fun q hq => hb.block q hq.2
theorem varB_ep {e : Int} (h : 1 ≤ e ∧ e < 4611686018427387904) : (varB e.toNat).length ≤ 9 := by
  have key : ∀ f x, (varF f x).length ≤ f + 1 := by
    intro f
    induction f with
    | zero => intro x; simp [varF]
    | succ f ih => intro x; simp only [varF]; split <;> simp; exact ih _
  have he : varF 8 e.toNat = varF 9 e.toNat := varF_more 8 9 _ (by have : (128 : Nat) ^ 9 = 9223372036854775808 := by decide
                                                                   omega) (by omega)
  unfold varB
  rw [← he]
  exact key 8 _
theorem pen_fail0 (w : World) {g base most : Nat} {J : List UInt8} {a : Option Addr} {c : Nat} (h : PenAt w g base most J a c) :
    Calls Tryz.prog 60 #[.pointer (some ⟨g, 0, none⟩), .int .i64 0] w fun r w' => r = .returned (.tuple #[]) ∧ PenStep w g base most J a w' :=
  (pen_fail w h 0).mono fun r w' ⟨h1, h2, h3⟩ => ⟨h1, a, c, ⟨h2, own_keep h.own fun q hq => h3.block q (h.own.lt q hq).2 (fun e => h.ne (by rw [hq, e])), h.ne, h.lo, h.le, h.most, h.len⟩, h3.mono fun b _ e => .inl e, .inl rfl⟩

set_option maxRecDepth 100000 in
set_option maxHeartbeats 6400000 in
theorem rpc_payload (w : World) (m : Msg) (a1 : Option Addr) (c1 : Nat) (a2 : Option Addr) (c2 : Nat) (a3 : Option Addr) (c3 : Nat) (a4 : Option Addr) (c4 : Nat) (hd : MsgIn (· < w.heap.size) w m a1 c1 a2 c2 a3 c3 a4 c4) (hbk : ∀ x ∈ m.links, x.backs.length ≤ 1000000) (hln : m.data.length ≤ 10000000000) :
    Calls Tryz.prog 28 #[.agg #[.int .i64 m.kind, .int .u64 m.epoch, .int .u64 m.seq, .int .u64 m.pos, .int .i64 m.count, .int .i64 m.state, .slice a1 m.streams.length c1, .slice a2 m.links.length c2, .slice a3 m.data.length c3, .int .u64 m.sea.epoch, .int .u64 m.sea.node, .int .u64 m.sea.tail, .int .u64 m.proj.epoch, .slice a4 m.proj.stripes.length c4]] w fun r w' => ∃ v, r = .returned (.tuple #[v, .int .i64 (payBytes m).2]) ∧ rBytes.r (fun q => w.heap.size ≤ q ∧ q < w'.heap.size) w' [v] (payBytes m).1 ∧ Below w.heap.size w w' := by
  have HRT := hid (fun (W : World) (hW : Below w.heap.size w W) => rpc_right m a1 c1 a2 c2 a3 c3 a4 c4 W (MsgIn.lift hd hW) hbk)
  have HBX : Hid (Blk (w.alloc (.cells #[.int .i64 m.kind, .int .u64 m.epoch, .int .u64 m.seq, .int .u64 m.pos, .int .i64 m.count, .int .i64 m.state, .slice a1 m.streams.length c1, .slice a2 m.links.length c2, .slice a3 m.data.length c3, .int .u64 m.sea.epoch, .int .u64 m.sea.node, .int .u64 m.sea.tail, .int .u64 m.proj.epoch, .slice a4 m.proj.stripes.length c4] 32)) w.heap.size 32 #[.int .i64 m.kind, .int .u64 m.epoch, .int .u64 m.seq, .int .u64 m.pos, .int .i64 m.count, .int .i64 m.state, .slice a1 m.streams.length c1, .slice a2 m.links.length c2, .slice a3 m.data.length c3, .int .u64 m.sea.epoch, .int .u64 m.sea.node, .int .u64 m.sea.tail, .int .u64 m.proj.epoch, .slice a4 m.proj.stripes.length c4]) := hid (Blk.new w _ _)
  have hb0 : Below w.heap.size w (w.alloc (.cells #[.int .i64 m.kind, .int .u64 m.epoch, .int .u64 m.seq, .int .u64 m.pos, .int .i64 m.count, .int .i64 m.state, .slice a1 m.streams.length c1, .slice a2 m.links.length c2, .slice a3 m.data.length c3, .int .u64 m.sea.epoch, .int .u64 m.sea.node, .int .u64 m.sea.tail, .int .u64 m.proj.epoch, .slice a4 m.proj.stripes.length c4] 32)) := by (repeat (first | exact Below.refl _ _ | assumption | (refine below_alloc ?_ _) | (refine Below.setCell ?_ (by first | omega | (simp; done) | (simp; omega)) _) | (refine Below.drew ?_) | (refine below_drewN ?_ _) | (refine below_then (by assumption) ?_)))
  unfold payBytes
  cases hR : rpcR m
  · rw [if_neg (by simp)]
    rw [hR] at HRT
    clear hd hbk hln hR
    go_enter Tryz.func28, Tryz.ntmps28
    go_wp2_with fail
    generalize (w.alloc (.cells #[.int .i64 m.kind, .int .u64 m.epoch, .int .u64 m.seq, .int .u64 m.pos, .int .i64 m.count, .int .i64 m.state, .slice a1 m.streams.length c1, .slice a2 m.links.length c2, .slice a3 m.data.length c3, .int .u64 m.sea.epoch, .int .u64 m.sea.node, .int .u64 m.sea.tail, .int .u64 m.proj.epoch, .slice a4 m.proj.stripes.length c4] 32)) = w0 at *
    refine (HRT.out _ hb0).mono ?_
    rintro r w1 ⟨rfl, hb1⟩
    have hbe := below_then hb1 hb0
    go_wp2_with fail
    go_ret2
    exact ⟨_, rfl, empty_bytes2 rfl rfl (by omega), hbe⟩
  · rw [if_pos rfl]
    rw [hR] at HRT
    have hR' := hR
    simp only [rpcR, Bool.and_eq_true] at hR'
    obtain ⟨hm, hep⟩ := hR'
    have hk : 1 ≤ m.kind ∧ m.kind ≤ 14 := (msgR_parts hm).kind
    have HBY := hid (fun (W : World) (hW : Below w.heap.size w W) => body_bytes W m a1 c1 a2 c2 a3 c3 a4 c4 (MsgIn.lift hd hW) hbk hln)
    unfold msgBytes at HBY
    rw [hm] at HBY
    simp only [if_true] at HBY
    have hml := msgB_len hm
    have hvl := (varB_len m.epoch.toNat).1
    have hsl := (varB_len m.seq.toNat).1
    have he0 := hd.epoch
    have hs0 := hd.seq
    have hpb : payB m = [UInt8.ofNat m.kind.toNat] ++ varB m.epoch.toNat ++ varB m.seq.toNat ++ msgB m := rfl
    rw [hpb]
    generalize msgB m = K at *
    have hmo : (20 : Int) + (K.length : Int) = ((20 + K.length : Nat) : Int) := by omega
    have HN := hid (fun W : World => (by have := pen_new W (20 + K.length) (by omega); rw [← hmo] at this; exact this : Calls Tryz.prog 15 #[.int .i64 ((20 : Int) + (K.length : Int))] W fun r w' => r = .returned (.pointer (some ⟨W.heap.size, 0, none⟩)) ∧ PenAt w' W.heap.size W.heap.size (20 + K.length) [] none 0 ∧ Below W.heap.size W w'))
    have hKl : K.length ≤ 20000000000 := by omega
    have hkz : 0 ≤ m.kind := by omega
    have hky : m.kind ≤ 14 := hk.2
    have hkk : m.kind = ((UInt8.ofNat m.kind.toNat).toNat : Int) := by
      have := byte_small (x := m.kind.toNat) (by omega)
      rw [toNat_cast hkz] at this
      exact this
    have HLT := hid (fun W : World => (by have := lit_one W (UInt8.ofNat m.kind.toNat); rw [← hkk] at this; exact this : rBytes.r (· < (W.alloc (.cells #[.int .u8 m.kind] 5)).heap.size) (W.alloc (.cells #[.int .u8 m.kind] 5)) [.slice (some ⟨W.heap.size, 0, none⟩) 1 1] [UInt8.ofNat m.kind.toNat]))
    have HP1 := hid (fun (W : World) (g base : Nat) (h : PenAt W g base (20 + K.length) [] none 0) (ad : Option Addr) (hD : rBytes.r (· < W.heap.size) W [.slice ad 1 1] [UInt8.ofNat m.kind.toNat]) => pen_put W h [UInt8.ofNat m.kind.toNat] ad 1 1 hD (by simp; omega) (by simp))
    have HP2 := hid (fun (W : World) (g base : Nat) (a : Option Addr) (c : Nat) (h : PenAt W g base (20 + K.length) [UInt8.ofNat m.kind.toNat] a c) => (by have := epoch_put W h m.epoch.toNat (by rw [toNat_cast he0.1]; exact hep) (by simp; simp only [epR, decide_eq_true_eq] at hep; have := varB_ep hep; omega) (by simp; omega); rw [toNat_cast he0.1] at this; exact this : Calls Tryz.prog 111 #[.pointer (some ⟨g, 0, none⟩), .int .u64 m.epoch] W fun r w' => r = .returned (.tuple #[]) ∧ PenStep W g base (20 + K.length) ([UInt8.ofNat m.kind.toNat] ++ varB m.epoch.toNat) a w'))
    have HP3 := hid (fun (W : World) (g base : Nat) (a : Option Addr) (c : Nat) (h : PenAt W g base (20 + K.length) ([UInt8.ofNat m.kind.toNat] ++ varB m.epoch.toNat) a c) => (by have := varint_put W h m.seq.toNat (by have := hs0.2; omega) (by simp; simp only [epR, decide_eq_true_eq] at hep; have := varB_ep hep; omega) (by simp; omega); rw [toNat_cast hs0.1] at this; exact this : Calls Tryz.prog 66 #[.pointer (some ⟨g, 0, none⟩), .int .u64 m.seq] W fun r w' => r = .returned (.tuple #[]) ∧ PenStep W g base (20 + K.length) ([UInt8.ofNat m.kind.toNat] ++ varB m.epoch.toNat ++ varB m.seq.toNat) a w'))
    have HP4 := hid (fun (W : World) (g base : Nat) (a : Option Addr) (c : Nat) (h : PenAt W g base (20 + K.length) ([UInt8.ofNat m.kind.toNat] ++ varB m.epoch.toNat ++ varB m.seq.toNat) a c) (ad : Option Addr) (cd : Nat) (hD : rBytes.r (· < W.heap.size) W [.slice ad K.length cd] K) => pen_put W h K ad _ cd hD (by simp; simp only [epR, decide_eq_true_eq] at hep; have := varB_ep hep; omega) (by simp; omega))
    generalize [UInt8.ofNat m.kind.toNat] = KB at *
    generalize varB m.epoch.toNat = VE at *
    generalize varB m.seq.toNat = VS at *
    clear hd hbk hln hR hm hep hk hml hvl hsl hpb hmo he0 hs0 hkk
    go_enter Tryz.func28, Tryz.ntmps28
    go_wp2_with fail
    generalize (w.alloc (.cells #[.int .i64 m.kind, .int .u64 m.epoch, .int .u64 m.seq, .int .u64 m.pos, .int .i64 m.count, .int .i64 m.state, .slice a1 m.streams.length c1, .slice a2 m.links.length c2, .slice a3 m.data.length c3, .int .u64 m.sea.epoch, .int .u64 m.sea.node, .int .u64 m.sea.tail, .int .u64 m.proj.epoch, .slice a4 m.proj.stripes.length c4] 32)) = w0 at *
    refine (HRT.out _ hb0).mono ?_
    rintro r w1 ⟨rfl, hb1⟩
    have hbw1 := below_then hb1 hb0
    have B1 := HBX.out.later hb1
    have y0 : w1.cell? ⟨w.heap.size, 0, none⟩ = some (.int .i64 m.kind) := B1.cell 0
    have y1 : w1.cell? ⟨w.heap.size, 1, none⟩ = some (.int .u64 m.epoch) := B1.cell 1
    have y2 : w1.cell? ⟨w.heap.size, 2, none⟩ = some (.int .u64 m.seq) := B1.cell 2
    have y3 : w1.cell? ⟨w.heap.size, 3, none⟩ = some (.int .u64 m.pos) := B1.cell 3
    have y4 : w1.cell? ⟨w.heap.size, 4, none⟩ = some (.int .i64 m.count) := B1.cell 4
    have y5 : w1.cell? ⟨w.heap.size, 5, none⟩ = some (.int .i64 m.state) := B1.cell 5
    have y6 : w1.cell? ⟨w.heap.size, 6, none⟩ = some (.slice a1 m.streams.length c1) := B1.cell 6
    have y7 : w1.cell? ⟨w.heap.size, 7, none⟩ = some (.slice a2 m.links.length c2) := B1.cell 7
    have y8 : w1.cell? ⟨w.heap.size, 8, none⟩ = some (.slice a3 m.data.length c3) := B1.cell 8
    have y9 : w1.cell? ⟨w.heap.size, 9, none⟩ = some (.int .u64 m.sea.epoch) := B1.cell 9
    have y10 : w1.cell? ⟨w.heap.size, 10, none⟩ = some (.int .u64 m.sea.node) := B1.cell 10
    have y11 : w1.cell? ⟨w.heap.size, 11, none⟩ = some (.int .u64 m.sea.tail) := B1.cell 11
    have y12 : w1.cell? ⟨w.heap.size, 12, none⟩ = some (.int .u64 m.proj.epoch) := B1.cell 12
    have y13 : w1.cell? ⟨w.heap.size, 13, none⟩ = some (.slice a4 m.proj.stripes.length c4) := B1.cell 13
    go_wp2_with fail
    refine (HBY.out _ hbw1).mono ?_
    rintro r w2 ⟨v2, rfl, hr2, hb2⟩
    obtain ⟨e2, k2, hv2, hr2', _⟩ := sl_form hr2
    simp only [List.cons.injEq, and_true] at hv2
    subst hv2
    have HR2 := hid hr2'
    have hbw2 := below_then hb2 hbw1
    have B2 := B1.later hb2
    have hs1 := hbw1.size
    clear hr2 hr2' y0 y1 y2 y3 y4 y5 y6 y7 y8 y9 y10 y11 y12 y13 B1
    go_wp2_with fail
    refine (HN.out w2).mono ?_
    rintro r w3 ⟨rfl, hp3, hb3⟩
    have B3 := B2.later hb3
    have y0 : w3.cell? ⟨w.heap.size, 0, none⟩ = some (.int .i64 m.kind) := B3.cell 0
    have hbw3 := below_then hb3 hbw2
    have hlb := B2.lt
    have HB3 := hid B3
    have HP := hid hp3
    have HD3 := hid (rp_laterM rBytes HR2.out hb3)
    have hs2 := hbw2.size
    have hs3 := hb3.size
    have HAL := hid (below_alloc (Below.refl w3.heap.size w3) (.cells #[.int .u8 m.kind] 5))
    have HQ1 := hid (HP1.out _ _ _ (HP.out.later HAL.out) _ (HLT.out w3))
    clear hp3 B2 B3
    go_wp2_with fail
    refine HQ1.out.mono ?_
    rintro r w4 ⟨rfl, hst4⟩
    have hst4' := PenStep.later HAL.out hst4
    rw [List.nil_append] at hst4'
    obtain ⟨e4, k4, hp4, ht4, ha4⟩ := hst4'
    have B4 := HB3.out.tch ht4 (fun hf => by rcases penF_is.1 hf with e | e <;> first | omega | (simp at e))
    have y1 : w4.cell? ⟨w.heap.size, 1, none⟩ = some (.int .u64 m.epoch) := B4.cell 1
    have HD4 := hid (rBytes.keep HD3.out fun q hq => ht4.block q (by have := hq.2; omega) (fun hf => by have := hq.2; rcases penF_is.1 hf with e | e <;> first | omega | (simp at e)))
    have HN4 := hid (fun (q : Nat) (h1 : q < w2.heap.size) (hf : PenF w2.heap.size e4 q) => penF_old ha4 (show q < w3.heap.size by omega) (fun hf => by rcases penF_is.1 hf with e | e <;> first | omega | (simp at e)) hf)
    have HB4 := hid B4
    have HQ2 := hid (HP2.out _ _ _ _ _ hp4)
    have hs4 := ht4.size
    have HT4 := hid (And.intro ht4 ha4)
    clear hst4 hp4 ht4 ha4 B4 y0
    go_wp2_with fail
    refine HQ2.out.mono ?_
    rintro r w5 ⟨rfl, e5, k5, hp5, ht5, ha5⟩
    have B5 := HB4.out.tch ht5 (fun hf => HN4.out _ hlb hf)
    have y2 : w5.cell? ⟨w.heap.size, 2, none⟩ = some (.int .u64 m.seq) := B5.cell 2
    have HD5 := hid (rBytes.keep HD4.out fun q hq => ht5.block q (by have := hq.2; omega) (fun hf => HN4.out q hq.2 hf))
    have HN5 := hid (fun (q : Nat) (h1 : q < w2.heap.size) (hf : PenF w2.heap.size e5 q) => penF_old ha5 (show q < w4.heap.size by omega) (fun hf => HN4.out q h1 hf) hf)
    have HQ3 := hid (HP3.out _ _ _ _ _ hp5)
    have hs5 := ht5.size
    have HT5 := hid (And.intro ht5 ha5)
    clear hp5 ht5 ha5 B5 y1
    go_wp2_with fail
    refine HQ3.out.mono ?_
    rintro r w6 ⟨rfl, e6, k6, hp6, ht6, ha6⟩
    have HD6 := hid (rBytes.keep HD5.out fun q hq => ht6.block q (by have := hq.2; omega) (fun hf => HN5.out q hq.2 hf))
    have hs6 := ht6.size
    have HQ4 := hid (HP4.out _ _ _ _ _ hp6 e2 k2 (rBytes.mono HD6.out fun q hq => by have := hq.2; omega))
    have HT6 := hid (And.intro ht6 ha6)
    clear hp6 ht6 ha6 y2
    go_wp2_with fail
    refine HQ4.out.mono ?_
    rintro r w7 ⟨rfl, e7, k7, hp7, ht7, ha7⟩
    have HF := hid (pen_fail0 w7 hp7)
    have HT7 := hid (And.intro ht7 ha7)
    clear hp7 ht7 ha7
    go_wp2_with fail
    refine HF.out.mono ?_
    rintro r w8 ⟨rfl, hst8⟩
    have hst := PenStep.trans (J := KB) HT4.out.1 HT4.out.2 (PenStep.trans (J := KB) HT5.out.1 HT5.out.2 (PenStep.trans (J := KB) HT6.out.1 HT6.out.2 (PenStep.trans (J := KB) HT7.out.1 HT7.out.2 hst8)))
    have hbw8 : Below w.heap.size w w8 := hbw3.trans (HP.out.below (by omega) hbw3.size hst)
    obtain ⟨e8, k8, hp8, _, _⟩ := hst
    have HBB := hid (pen_bytes w8 hp8)
    have hs8 := hbw8.size
    clear hp8 hst8
    go_wp2_with fail
    refine HBB.out.mono ?_
    rintro r w9 ⟨v, rfl, hv, hb9⟩
    have hbe := below_then hb9 hbw8
    have HV := hid (rBytes.mono (S' := fun q => w.heap.size ≤ q ∧ q < w9.heap.size) hv fun q hq => ⟨by have := hq.1; omega, hq.2⟩)
    clear hv
    go_wp2_with fail
    go_ret2
    exact ⟨_, rfl, HV.out, hbe⟩
end Go.Proofs.YtlbffbkbkajciaaGreat
namespace Go.Bs
open Go.RowKit
set_option linter.unusedVariables false

/-- One digit shifts out. -/
def crcStep (c : Nat) : Nat := if c % 2 = 1 then (c / 2) ^^^ 2197175160 else c / 2
def crc4 (c : Nat) : Nat := crcStep (crcStep (crcStep (crcStep c)))
def crcByte (c : Nat) (x : UInt8) : Nat := crc4 (crc4 (c ^^^ x.toNat))
def crcAdd (c : Nat) (D : List UInt8) : Nat := D.foldl crcByte c
def crcSum (D : List UInt8) : Nat := 4294967295 - crcAdd 4294967295 D
theorem xor_lt32 {a b : Nat} (ha : a < 4294967296) (hb : b < 4294967296) : a ^^^ b < 4294967296 := Nat.xor_lt_two_pow (n := 32) ha hb
theorem crcStep_lt {c : Nat} (h : c < 4294967296) : crcStep c < 4294967296 := by
  unfold crcStep
  split
  · exact xor_lt32 (by omega) (by decide)
  · omega
theorem crc4_lt {c : Nat} (h : c < 4294967296) : crc4 c < 4294967296 := crcStep_lt (crcStep_lt (crcStep_lt (crcStep_lt h)))
theorem crcByte_lt {c : Nat} {x : UInt8} (h : c < 4294967296) : crcByte c x < 4294967296 := crc4_lt (crc4_lt (xor_lt32 h (by have := x.toNat_lt; omega)))
theorem crcAdd_lt : ∀ (D : List UInt8) {c : Nat}, c < 4294967296 → crcAdd c D < 4294967296
  | [], c, h => h
  | x :: D, c, h => crcAdd_lt D (crcByte_lt h)
theorem crcSum_lt (D : List UInt8) : crcSum D < 4294967296 := by unfold crcSum; omega
theorem xor_even (a d : Nat) : (a ^^^ 2 * d) % 2 = a % 2 := by
  have h := Nat.xor_mod_two_pow (a := a) (b := 2 * d) (n := 1)
  rw [Nat.pow_one, show 2 * d % 2 = 0 by omega, Nat.xor_zero] at h
  exact h
theorem crcStep_xor (a d : Nat) : crcStep (a ^^^ 2 * d) = crcStep a ^^^ d := by
  have h1 := xor_even a d
  have h2 : (a ^^^ 2 * d) / 2 = a / 2 ^^^ d := by rw [Nat.xor_div_two]; congr 1; omega
  unfold crcStep
  rw [h1, h2]
  split
  · rw [Nat.xor_assoc, Nat.xor_assoc, Nat.xor_comm d]
  · rfl
theorem crc4_xor (a h : Nat) : crc4 (a ^^^ 16 * h) = crc4 a ^^^ h := by
  unfold crc4
  rw [show 16 * h = 2 * (2 * (2 * (2 * h))) by omega, crcStep_xor, crcStep_xor, crcStep_xor, crcStep_xor]
theorem xor16 (h l : Nat) (hl : l < 16) : l ^^^ 16 * h = 16 * h + l := by
  have h1 : (l ^^^ 16 * h) / 2 = l / 2 ^^^ 8 * h := by rw [Nat.xor_div_two]; congr 1; omega
  have h2 : (l / 2 ^^^ 8 * h) / 2 = l / 4 ^^^ 4 * h := by rw [Nat.xor_div_two]; congr 1 <;> omega
  have h3 : (l / 4 ^^^ 4 * h) / 2 = l / 8 ^^^ 2 * h := by rw [Nat.xor_div_two]; congr 1 <;> omega
  have h4 : (l / 8 ^^^ 2 * h) / 2 = h := by
    rw [Nat.xor_div_two, show l / 8 / 2 = 0 by omega, show 2 * h / 2 = h by omega, Nat.zero_xor]
  have g1 : (l ^^^ 16 * h) % 2 = l % 2 := by rw [show 16 * h = 2 * (8 * h) by omega]; exact xor_even _ _
  have g2 : (l / 2 ^^^ 8 * h) % 2 = l / 2 % 2 := by rw [show 8 * h = 2 * (4 * h) by omega]; exact xor_even _ _
  have g3 : (l / 4 ^^^ 4 * h) % 2 = l / 4 % 2 := by rw [show 4 * h = 2 * (2 * h) by omega]; exact xor_even _ _
  have g4 : (l / 8 ^^^ 2 * h) % 2 = l / 8 % 2 := xor_even _ _
  omega
/-- What the table gives is what four steps make. -/
theorem crc4_look (c : Nat) : c / 16 ^^^ crc4 (c % 16) = crc4 c := by
  have h := crc4_xor (c % 16) (c / 16)
  rw [xor16 _ _ (by omega), show 16 * (c / 16) + c % 16 = c by omega] at h
  rw [h, Nat.xor_comm]

/-- The table's cells, so far. -/
def tabV (k : Nat) : Array Value := ((List.range 16).map fun j => Value.int .u32 ((if j < k then crc4 j else 0 : Nat) : Int)).toArray
theorem tabV_at (k j : Nat) (hj : j < 16) : (tabV k)[j]? = some (.int .u32 ((if j < k then crc4 j else 0 : Nat) : Int)) := by
  simp [tabV, hj]
theorem tabV_set (k : Nat) (hk : k < 16) : (tabV k).setIfInBounds k (.int .u32 (crc4 k : Int)) = tabV (k + 1) := by
  apply Array.ext_getElem?
  intro j
  rw [Array.getElem?_setIfInBounds]
  by_cases hj : j < 16
  · rw [tabV_at _ _ hj, tabV_at _ _ hj]
    by_cases e : k = j
    · subst e; simp [tabV, hk]
    · rw [if_neg e]
      congr 2
      by_cases h : j < k
      · rw [if_pos h, if_pos (by omega)]
      · rw [if_neg h, if_neg (by omega)]
  · have h1 : ∀ m, (tabV m)[j]? = none := fun m => by simp [tabV]; omega
    rw [h1, h1]
    split <;> simp [tabV]; omega
def iter4 : Nat → Nat → Nat
  | 0, c => c
  | n + 1, c => crcStep (iter4 n c)
theorem iter4_lt {c : Nat} (h : c < 4294967296) : ∀ n, iter4 n c < 4294967296
  | 0 => h
  | n + 1 => crcStep_lt (iter4_lt h n)
theorem and1_u32 {c : Nat} (h : c < 4294967296) : bits BinOp.and IntKind.u32 (c : Int) 1 = ((c % 2 : Nat) : Int) := by
  have := u32_and_nat c 1 h (by decide)
  rw [nat_mask1] at this
  exact this
theorem and15_u32 {c : Nat} (h : c < 4294967296) : bits BinOp.and IntKind.u32 (c : Int) 15 = ((c % 16 : Nat) : Int) := by
  have := u32_and_nat c 15 h (by decide)
  rw [nat_mask4] at this
  exact this
theorem poly_u32 {c : Nat} (h : c < 4294967296) : bits BinOp.xor IntKind.u32 ((c : Int) / 2) 2197175160 = ((c / 2 ^^^ 2197175160 : Nat) : Int) := by
  have := u32_xor_nat (c / 2) 2197175160 (by omega) (by decide)
  rw [← this]
  rfl
theorem not_u32 {c : Nat} (h : c < 4294967296) : bits BinOp.xor IntKind.u32 IntKind.u32.max (c : Int) = ((4294967295 - c : Nat) : Int) := by
  have e : IntKind.u32.max = ((4294967295 : Nat) : Int) := rfl
  rw [e, u32_xor_nat _ _ (by decide) h]
  have h1 : 4294967295 ^^^ c = 4294967295 - c := by
    have h2 := BitVec.toNat_not (x := BitVec.ofNat 32 c)
    rw [BitVec.not_def, BitVec.toNat_xor, BitVec.toNat_allOnes, BitVec.toNat_ofNat, Nat.mod_eq_of_lt (by omega)] at h2
    exact h2
  rw [h1]
end Go.Bs
namespace Go.Proofs.YtlbffbkbkajciaaGreat
open Go.RowKit Go.Bs Go.Maps
set_option linter.unusedVariables false
set_option linter.unusedSimpArgs false

theorem crc_step (c : Nat) (hc : c < 4294967296) (w : World) :
    Calls Tryz.prog 271 #[.int .u32 c] w fun r w' => r = .returned (.int .u32 (crcStep c)) ∧ w = w' := by
  by_cases h : c % 2 = 1
  · have d1 : (bits BinOp.and IntKind.u32 (c : Int) 1 == 1) = true := by rw [and1_u32 hc]; simp; omega
    have hff : Hid ((crcStep c : Int) = bits BinOp.xor IntKind.u32 ((c : Int) / 2) 2197175160) := hid (by rw [poly_u32 hc]; unfold crcStep; rw [if_pos h])
    clear h
    go_enter Tryz.func271, Tryz.ntmps271
    go_wp2
    go_ret
    exact ⟨by rw [hff.out]; rfl, rfl⟩
  · have d1 : (bits BinOp.and IntKind.u32 (c : Int) 1 == 1) = false := by rw [and1_u32 hc]; simp; omega
    have hff : Hid ((crcStep c : Int) = (c : Int) / 2) := hid (by unfold crcStep; rw [if_neg h]; rfl)
    clear h
    go_enter Tryz.func271, Tryz.ntmps271
    go_wp2
    go_ret
    exact ⟨by rw [hff.out]; rfl, rfl⟩
theorem crc_begin (w : World) : Calls Tryz.prog 230 #[] w fun r w' => r = .returned (.int .u32 4294967295) ∧ w = w' := by
  go_enter Tryz.func230, Tryz.ntmps230
  go_wp2
  go_ret
  exact ⟨rfl, rfl⟩
theorem crc_end (c : Nat) (hc : c < 4294967296) (w : World) :
    Calls Tryz.prog 228 #[.int .u32 c] w fun r w' => r = .returned (.int .u32 ((4294967295 - c : Nat) : Int)) ∧ w = w' := by
  have hff := hid (not_u32 hc)
  go_enter Tryz.func228, Tryz.ntmps228
  go_wp2
  go_ret
  exact ⟨by rw [← hff.out]; rfl, rfl⟩
end Go.Proofs.YtlbffbkbkajciaaGreat
namespace Go.Proofs.YtlbffbkbkajciaaGreat
open Go.RowKit Go.Bs Go.Maps
set_option linter.unusedVariables false
set_option linter.unusedSimpArgs false

theorem below_fill16 {w wo : World} {B g : Nat} (h : Below B w wo) (hg : B ≤ g) (v0 v1 v2 v3 v4 v5 v6 v7 v8 v9 v10 v11 v12 v13 v14 v15 : Value) : Below B w (((((((((((((((((wo).setCell ⟨g, 0, none⟩ v0).setCell ⟨g, 1, none⟩ v1).setCell ⟨g, 2, none⟩ v2).setCell ⟨g, 3, none⟩ v3).setCell ⟨g, 4, none⟩ v4).setCell ⟨g, 5, none⟩ v5).setCell ⟨g, 6, none⟩ v6).setCell ⟨g, 7, none⟩ v7).setCell ⟨g, 8, none⟩ v8).setCell ⟨g, 9, none⟩ v9).setCell ⟨g, 10, none⟩ v10).setCell ⟨g, 11, none⟩ v11).setCell ⟨g, 12, none⟩ v12).setCell ⟨g, 13, none⟩ v13).setCell ⟨g, 14, none⟩ v14).setCell ⟨g, 15, none⟩ v15) :=
  ((((((((((((((((h).setCell (p := ⟨g, 0, none⟩) hg v0).setCell (p := ⟨g, 1, none⟩) hg v1).setCell (p := ⟨g, 2, none⟩) hg v2).setCell (p := ⟨g, 3, none⟩) hg v3).setCell (p := ⟨g, 4, none⟩) hg v4).setCell (p := ⟨g, 5, none⟩) hg v5).setCell (p := ⟨g, 6, none⟩) hg v6).setCell (p := ⟨g, 7, none⟩) hg v7).setCell (p := ⟨g, 8, none⟩) hg v8).setCell (p := ⟨g, 9, none⟩) hg v9).setCell (p := ⟨g, 10, none⟩) hg v10).setCell (p := ⟨g, 11, none⟩) hg v11).setCell (p := ⟨g, 12, none⟩) hg v12).setCell (p := ⟨g, 13, none⟩) hg v13).setCell (p := ⟨g, 14, none⟩) hg v14).setCell (p := ⟨g, 15, none⟩) hg v15
theorem tabV16 : tabV 16 = #[.int .u32 (crc4 0 : Nat), .int .u32 (crc4 1 : Nat), .int .u32 (crc4 2 : Nat), .int .u32 (crc4 3 : Nat), .int .u32 (crc4 4 : Nat), .int .u32 (crc4 5 : Nat), .int .u32 (crc4 6 : Nat), .int .u32 (crc4 7 : Nat), .int .u32 (crc4 8 : Nat), .int .u32 (crc4 9 : Nat), .int .u32 (crc4 10 : Nat), .int .u32 (crc4 11 : Nat), .int .u32 (crc4 12 : Nat), .int .u32 (crc4 13 : Nat), .int .u32 (crc4 14 : Nat), .int .u32 (crc4 15 : Nat)] := rfl
set_option maxRecDepth 100000 in
set_option maxHeartbeats 1600000 in
theorem crc_table (w : World) :
    Calls Tryz.prog 254 #[] w fun r w' => r = .returned (.agg (tabV 16)) ∧ Below w.heap.size w w' := by
  go_enter Tryz.func254, Tryz.ntmps254
  go_wp2_with fail
  refine wp_world (fun W => Below w.heap.size w W ∧ W.heap.size = w.heap.size + 2 ∧ Blk W w.heap.size 240 (tabV 0) ∧ Blk W (w.heap.size + 1) 240 (tabV 0)) ⟨by (repeat (first | exact Below.refl _ _ | assumption | (refine below_alloc ?_ _) | (refine Below.setCell ?_ (by first | omega | (simp; done) | (simp; omega)) _) | (refine Below.drew ?_) | (refine below_drewN ?_ _) | (refine below_then (by assumption) ?_))), by simp, (Blk.new w _ _).alloc _, Blk.new1 w _ _ _⟩ ?_
  intro W ⟨hbW, hzW, q0, q1⟩
  have Q0 := hid q0; have Q1 := hid q1; have HZ := hid hzW
  clear q0 q1 hzW
  go_loopw [4] (fun i wr => ∃ k : Nat, k ≤ 16 ∧ i = .int .i64 k ∧ Tch (· = w.heap.size + 1) W wr ∧ Blk wr (w.heap.size + 1) 240 (tabV k)) (fun i _ => 16 - (intOf i).toNat)
  case atStart => exact ⟨0, by omega, rfl, Tch.refl _ _, Q1.out⟩
  case round =>
    obtain ⟨k, hk, rfl, ht, hB⟩ := hrel
    obtain ⟨wo, hwo⟩ : ∃ wo : World, wo = wr := ⟨_, rfl⟩
    subst hwo
    have HT := hid ht; have HB := hid hB
    clear ht hB
    by_cases hlt : k < 16
    · have i1 : (k : Int) < 16 := by omega
      have e1 : (k : Int) % 4294967296 = k := by omega
      go_wp2_with fail
      go_loopw [3, 9] (fun c j w' => ∃ n : Nat, n ≤ 4 ∧ j = .int .i64 n ∧ c = .int .u32 (iter4 n k : Nat) ∧ w' = wo) (fun _ j _ => 4 - (intOf j).toNat)
      case atStart => exact ⟨0, by omega, rfl, by simp [iter4, e1], rfl⟩
      case round =>
        obtain ⟨n, hn, rfl, rfl, rfl⟩ := hrel
        by_cases hl4 : n < 4
        · have i2 : (n : Int) < 4 := by omega
          have HS := hid (crc_step (iter4 n k) (iter4_lt (by omega) n) wr)
          go_wp2_with fail
          refine HS.out.mono ?_
          rintro r w1 ⟨rfl, rfl⟩
          go_wp2
          go_roundw
          case rel => exact ⟨n + 1, by omega, by go_num, rfl, trivial⟩
          case measure => simp [intOf]; omega
        · obtain rfl : n = 4 := by omega
          have hB2 : Blk (wr.setCell ⟨w.heap.size + 1, k, none⟩ (.int .u32 (iter4 4 k : Nat))) (w.heap.size + 1) 240 (tabV (k + 1)) := by
            rw [← tabV_set k hlt]; exact HB.out.set k _
          have c9 : wr.cell? ⟨w.heap.size + 1, k, none⟩ = some (.int .u32 ((if k < k then crc4 k else 0 : Nat) : Int)) := (HB.out.cell k).trans (tabV_at k k hlt)
          have f9 := HB.out.free k
          have HB2 := hid hB2
          have HT2 := hid (HT.out.setCell (p := ⟨w.heap.size + 1, k, none⟩) (fun _ => rfl) (.int .u32 (iter4 4 k : Nat)))
          clear hB2
          go_wp2
          go_roundw
          case rel => exact ⟨k + 1, by omega, by go_num, HT2.out, HB2.out⟩
          case measure => simp [intOf]; omega
    · obtain rfl : k = 16 := by omega
      obtain ⟨v0, v1, v2, v3, v4, v5, v6, v7, v8, v9, v10, v11, v12, v13, v14, v15, hv⟩ : ∃ v0 v1 v2 v3 v4 v5 v6 v7 v8 v9 v10 v11 v12 v13 v14 v15 : Nat, tabV 16 = #[Value.int .u32 (v0 : Int), Value.int .u32 (v1 : Int), Value.int .u32 (v2 : Int), Value.int .u32 (v3 : Int), Value.int .u32 (v4 : Int), Value.int .u32 (v5 : Int), Value.int .u32 (v6 : Int), Value.int .u32 (v7 : Int), Value.int .u32 (v8 : Int), Value.int .u32 (v9 : Int), Value.int .u32 (v10 : Int), Value.int .u32 (v11 : Int), Value.int .u32 (v12 : Int), Value.int .u32 (v13 : Int), Value.int .u32 (v14 : Int), Value.int .u32 (v15 : Int)] := ⟨_, _, _, _, _, _, _, _, _, _, _, _, _, _, _, _, tabV16⟩
      have hB9 := HB.out
      rw [hv] at hB9
      have HV := hid hv
      have hB0 : Blk wo w.heap.size 240 (tabV 0) := Q0.out.tch HT.out (by simp)
      have y0 : wo.cell? ⟨w.heap.size + 1, 0, none⟩ = some (.int .u32 (v0 : Int)) := hB9.cell 0
      have z0 : wo.cell? ⟨w.heap.size, 0, none⟩ = some (.int .u32 0) := (hB0.cell 0).trans (tabV_at 0 0 (by decide))
      have f0 := hB0.free 0
      have y1 : wo.cell? ⟨w.heap.size + 1, 1, none⟩ = some (.int .u32 (v1 : Int)) := hB9.cell 1
      have z1 : wo.cell? ⟨w.heap.size, 1, none⟩ = some (.int .u32 0) := (hB0.cell 1).trans (tabV_at 0 1 (by decide))
      have f1 := hB0.free 1
      have y2 : wo.cell? ⟨w.heap.size + 1, 2, none⟩ = some (.int .u32 (v2 : Int)) := hB9.cell 2
      have z2 : wo.cell? ⟨w.heap.size, 2, none⟩ = some (.int .u32 0) := (hB0.cell 2).trans (tabV_at 0 2 (by decide))
      have f2 := hB0.free 2
      have y3 : wo.cell? ⟨w.heap.size + 1, 3, none⟩ = some (.int .u32 (v3 : Int)) := hB9.cell 3
      have z3 : wo.cell? ⟨w.heap.size, 3, none⟩ = some (.int .u32 0) := (hB0.cell 3).trans (tabV_at 0 3 (by decide))
      have f3 := hB0.free 3
      have y4 : wo.cell? ⟨w.heap.size + 1, 4, none⟩ = some (.int .u32 (v4 : Int)) := hB9.cell 4
      have z4 : wo.cell? ⟨w.heap.size, 4, none⟩ = some (.int .u32 0) := (hB0.cell 4).trans (tabV_at 0 4 (by decide))
      have f4 := hB0.free 4
      have y5 : wo.cell? ⟨w.heap.size + 1, 5, none⟩ = some (.int .u32 (v5 : Int)) := hB9.cell 5
      have z5 : wo.cell? ⟨w.heap.size, 5, none⟩ = some (.int .u32 0) := (hB0.cell 5).trans (tabV_at 0 5 (by decide))
      have f5 := hB0.free 5
      have y6 : wo.cell? ⟨w.heap.size + 1, 6, none⟩ = some (.int .u32 (v6 : Int)) := hB9.cell 6
      have z6 : wo.cell? ⟨w.heap.size, 6, none⟩ = some (.int .u32 0) := (hB0.cell 6).trans (tabV_at 0 6 (by decide))
      have f6 := hB0.free 6
      have y7 : wo.cell? ⟨w.heap.size + 1, 7, none⟩ = some (.int .u32 (v7 : Int)) := hB9.cell 7
      have z7 : wo.cell? ⟨w.heap.size, 7, none⟩ = some (.int .u32 0) := (hB0.cell 7).trans (tabV_at 0 7 (by decide))
      have f7 := hB0.free 7
      have y8 : wo.cell? ⟨w.heap.size + 1, 8, none⟩ = some (.int .u32 (v8 : Int)) := hB9.cell 8
      have z8 : wo.cell? ⟨w.heap.size, 8, none⟩ = some (.int .u32 0) := (hB0.cell 8).trans (tabV_at 0 8 (by decide))
      have f8 := hB0.free 8
      have y9 : wo.cell? ⟨w.heap.size + 1, 9, none⟩ = some (.int .u32 (v9 : Int)) := hB9.cell 9
      have z9 : wo.cell? ⟨w.heap.size, 9, none⟩ = some (.int .u32 0) := (hB0.cell 9).trans (tabV_at 0 9 (by decide))
      have f9 := hB0.free 9
      have y10 : wo.cell? ⟨w.heap.size + 1, 10, none⟩ = some (.int .u32 (v10 : Int)) := hB9.cell 10
      have z10 : wo.cell? ⟨w.heap.size, 10, none⟩ = some (.int .u32 0) := (hB0.cell 10).trans (tabV_at 0 10 (by decide))
      have f10 := hB0.free 10
      have y11 : wo.cell? ⟨w.heap.size + 1, 11, none⟩ = some (.int .u32 (v11 : Int)) := hB9.cell 11
      have z11 : wo.cell? ⟨w.heap.size, 11, none⟩ = some (.int .u32 0) := (hB0.cell 11).trans (tabV_at 0 11 (by decide))
      have f11 := hB0.free 11
      have y12 : wo.cell? ⟨w.heap.size + 1, 12, none⟩ = some (.int .u32 (v12 : Int)) := hB9.cell 12
      have z12 : wo.cell? ⟨w.heap.size, 12, none⟩ = some (.int .u32 0) := (hB0.cell 12).trans (tabV_at 0 12 (by decide))
      have f12 := hB0.free 12
      have y13 : wo.cell? ⟨w.heap.size + 1, 13, none⟩ = some (.int .u32 (v13 : Int)) := hB9.cell 13
      have z13 : wo.cell? ⟨w.heap.size, 13, none⟩ = some (.int .u32 0) := (hB0.cell 13).trans (tabV_at 0 13 (by decide))
      have f13 := hB0.free 13
      have y14 : wo.cell? ⟨w.heap.size + 1, 14, none⟩ = some (.int .u32 (v14 : Int)) := hB9.cell 14
      have z14 : wo.cell? ⟨w.heap.size, 14, none⟩ = some (.int .u32 0) := (hB0.cell 14).trans (tabV_at 0 14 (by decide))
      have f14 := hB0.free 14
      have y15 : wo.cell? ⟨w.heap.size + 1, 15, none⟩ = some (.int .u32 (v15 : Int)) := hB9.cell 15
      have z15 : wo.cell? ⟨w.heap.size, 15, none⟩ = some (.int .u32 0) := (hB0.cell 15).trans (tabV_at 0 15 (by decide))
      have f15 := hB0.free 15
      clear hB9 hv HB
      clear hB0
      go_wp2
      refine bodyPost_ret (v := .agg #[Value.int .u32 (v0 : Int), Value.int .u32 (v1 : Int), Value.int .u32 (v2 : Int), Value.int .u32 (v3 : Int), Value.int .u32 (v4 : Int), Value.int .u32 (v5 : Int), Value.int .u32 (v6 : Int), Value.int .u32 (v7 : Int), Value.int .u32 (v8 : Int), Value.int .u32 (v9 : Int), Value.int .u32 (v10 : Int), Value.int .u32 (v11 : Int), Value.int .u32 (v12 : Int), Value.int .u32 (v13 : Int), Value.int .u32 (v14 : Int), Value.int .u32 (v15 : Int)]) (by simp [results, Tryz.results254, go_sem, z0, z1, z2, z3, z4, z5, z6, z7, z8, z9, z10, z11, z12, z13, z14, z15]) rfl ⟨by rw [HV.out], ?_⟩
      have hb2 : Below w.heap.size W wo := HT.out.to_below (by have := HZ.out; omega) (by intro b _ e; omega)
      have hb3 := hbW.trans hb2
      exact below_fill16 hb3 (Nat.le_refl _) (.int .u32 (v0 : Int)) (.int .u32 (v1 : Int)) (.int .u32 (v2 : Int)) (.int .u32 (v3 : Int)) (.int .u32 (v4 : Int)) (.int .u32 (v5 : Int)) (.int .u32 (v6 : Int)) (.int .u32 (v7 : Int)) (.int .u32 (v8 : Int)) (.int .u32 (v9 : Int)) (.int .u32 (v10 : Int)) (.int .u32 (v11 : Int)) (.int .u32 (v12 : Int)) (.int .u32 (v13 : Int)) (.int .u32 (v14 : Int)) (.int .u32 (v15 : Int))


end Go.Proofs.YtlbffbkbkajciaaGreat
namespace Go.Proofs.YtlbffbkbkajciaaGreat
open Go.RowKit Go.Bs Go.Maps
set_option linter.unusedVariables false
set_option linter.unusedSimpArgs false

theorem look_u32 {y : Nat} (h : y < 4294967296) : bits BinOp.xor IntKind.u32 ((y : Int) / 16) ((crc4 (y % 16) : Nat) : Int) = ((crc4 y : Nat) : Int) := by
  have := u32_xor_nat (y / 16) (crc4 (y % 16)) (by omega) (crc4_lt (by omega))
  rw [crc4_look] at this
  rw [← this]
  rfl
theorem into_u32 {c : Nat} (h : c < 4294967296) (x : UInt8) : bits BinOp.xor IntKind.u32 (c : Int) ((x.toNat : Int) % 4294967296) = ((c ^^^ x.toNat : Nat) : Int) := by
  have hx := x.toNat_lt
  rw [← u32_xor_nat c x.toNat h (by omega), show (x.toNat : Int) % 4294967296 = (x.toNat : Int) by omega]

set_option maxRecDepth 100000 in
set_option maxHeartbeats 1600000 in
theorem crc_add (c : Nat) (hc : c < 4294967296) (D : List UInt8) (ad : Option Addr) (nd cd : Nat) (w : World) (hD : rBytes.r (· < w.heap.size) w [.slice ad nd cd] D) :
    Calls Tryz.prog 229 #[.int .u32 c, .slice ad nd cd] w fun r w' => r = .returned (.int .u32 (crcAdd c D : Nat)) ∧ Below w.heap.size w w' := by
  obtain ⟨rfl, hm, _, _⟩ := sl_len hD
  have HD := hid hD; clear hD
  go_enter Tryz.func229, Tryz.ntmps229
  go_wp2_with fail
  refine (crc_table w).mono ?_
  rintro r w1 ⟨rfl, hb1⟩
  obtain ⟨v0, v1, v2, v3, v4, v5, v6, v7, v8, v9, v10, v11, v12, v13, v14, v15, hv⟩ : ∃ v0 v1 v2 v3 v4 v5 v6 v7 v8 v9 v10 v11 v12 v13 v14 v15 : Nat, tabV 16 = #[Value.int .u32 (v0 : Int), Value.int .u32 (v1 : Int), Value.int .u32 (v2 : Int), Value.int .u32 (v3 : Int), Value.int .u32 (v4 : Int), Value.int .u32 (v5 : Int), Value.int .u32 (v6 : Int), Value.int .u32 (v7 : Int), Value.int .u32 (v8 : Int), Value.int .u32 (v9 : Int), Value.int .u32 (v10 : Int), Value.int .u32 (v11 : Int), Value.int .u32 (v12 : Int), Value.int .u32 (v13 : Int), Value.int .u32 (v14 : Int), Value.int .u32 (v15 : Int)] := ⟨_, _, _, _, _, _, _, _, _, _, _, _, _, _, _, _, tabV16⟩
  rw [hv]
  have HV := hid hv
  clear hv
  go_wp2_with fail
  refine wp_world (fun W => Below w.heap.size w W ∧ w1.heap.size < W.heap.size ∧ Blk W w1.heap.size 240 (tabV 16)) ⟨by (repeat (first | with_reducible exact Below.refl _ _ | with_reducible assumption | (with_reducible refine below_alloc ?_ _) | (with_reducible refine Below.setCell ?_ (by first | omega | (simp; done) | (simp; omega)) _) | (with_reducible refine Below.drew ?_) | (with_reducible refine below_drewN ?_ _) | (refine below_then (by with_reducible assumption) ?_))), by simp, by rw [HV.out]; exact Blk.new w1 _ _⟩ ?_
  intro W ⟨hbW, hzW, hQ⟩
  have HQ := hid hQ; clear hQ
  go_wp2_with fail
  go_loopw [0, 11] (fun s i wr => ∃ (k d : Nat), k ≤ D.length ∧ i = .int .i64 k ∧ s = .int .u32 d ∧ d < 4294967296 ∧ Hid (crcAdd c D = crcAdd d (D.drop k)) ∧ wr = W) (fun _ i _ => D.length - (intOf i).toNat)
  case atStart => exact ⟨0, c, Nat.zero_le _, rfl, rfl, hc, hid rfl, rfl⟩
  case round =>
    obtain ⟨k, d, hk, rfl, rfl, hd, hf, rfl⟩ := hrel
    by_cases hlt : k < D.length
    · obtain ⟨b, o, hA, hbb, hx⟩ := byte_at (lift HD.out hbW) hlt
      subst hA
      have hst := hid (show crcAdd d (D.drop k) = crcAdd (crcByte d D[k]) (D.drop (k + 1)) by rw [List.drop_eq_getElem_cons hlt]; rfl)
      generalize D[k] = x at *
      have i1 : (k : Int) < (D.length : Int) := by omega
      have hb1 := hid (crcByte_lt (x := x) hd)
      have hcb := hid (show crcByte d x = crc4 (crc4 (d ^^^ x.toNat)) from rfl)
      have hy : d ^^^ x.toNat < 4294967296 := xor_lt32 hd (by have := x.toNat_lt; omega)
      have e1 := into_u32 hd x
      generalize d ^^^ x.toNat = y at *
      have hz : crc4 y < 4294967296 := crc4_lt hy
      have e2 := and15_u32 hy
      have e3 := look_u32 hy
      have m1 : ((y % 16 : Nat) : Int) < 16 := by omega
      have c1 : wr.cell? ⟨w1.heap.size, y % 16, none⟩ = some (.int .u32 (crc4 (y % 16) : Nat)) := by
        have h := (HQ.out.cell (y % 16)).trans (tabV_at 16 (y % 16) (by omega))
        rw [if_pos (by omega)] at h; exact h
      generalize crc4 (y % 16) = t1 at *
      generalize y % 16 = m at *
      generalize crc4 y = z at *
      have e4 := and15_u32 hz
      have e5 := look_u32 hz
      have m2 : ((z % 16 : Nat) : Int) < 16 := by omega
      have c2 : wr.cell? ⟨w1.heap.size, z % 16, none⟩ = some (.int .u32 (crc4 (z % 16) : Nat)) := by
        have h := (HQ.out.cell (z % 16)).trans (tabV_at 16 (z % 16) (by omega))
        rw [if_pos (by omega)] at h; exact h
      generalize crc4 (z % 16) = t2 at *
      generalize z % 16 = n at *
      generalize crc4 z = q at *
      go_wp2
      go_roundw
      case rel => exact ⟨k + 1, q, by omega, by go_num, rfl, by have := hb1.out; rw [hcb.out] at this; exact this, hid (by rw [hf.out, hst.out, hcb.out]), trivial⟩
      case measure => simp [intOf]; omega
    · obtain rfl : k = D.length := by omega
      have hff : Hid (crcAdd c D = d) := hid (by rw [hf.out, List.drop_length]; rfl)
      go_wp2
      go_ret
      exact ⟨by rw [hff.out]; rfl, hbW⟩

set_option maxRecDepth 100000 in
theorem crc_sum (D : List UInt8) (ad : Option Addr) (nd cd : Nat) (w : World) (hD : rBytes.r (· < w.heap.size) w [.slice ad nd cd] D) :
    Calls Tryz.prog 179 #[.slice ad nd cd] w fun r w' => r = .returned (.int .u32 (crcSum D : Nat)) ∧ Below w.heap.size w w' := by
  have HA := hid (crc_add 4294967295 (by decide) D ad nd cd w hD)
  have hlt := crcAdd_lt D (c := 4294967295) (by decide)
  have hff : Hid (crcSum D = 4294967295 - crcAdd 4294967295 D) := hid rfl
  generalize crcAdd 4294967295 D = s at *
  clear hD
  go_enter Tryz.func179, Tryz.ntmps179
  go_wp2_with fail
  refine (crc_begin w).mono ?_
  rintro r w1 ⟨rfl, rfl⟩
  go_wp2_with fail
  refine HA.out.mono ?_
  rintro r w2 ⟨rfl, hb2⟩
  go_wp2_with fail
  refine (crc_end s hlt w2).mono ?_
  rintro r w3 ⟨rfl, rfl⟩
  go_wp2
  go_ret
  exact ⟨by rw [hff.out]; rfl, hb2⟩
end Go.Proofs.YtlbffbkbkajciaaGreat
namespace Go.Bs
open Go.RowKit
def fixedB : Nat → Nat → List UInt8
  | 0, _ => []
  | n + 1, x => UInt8.ofNat (x % 256) :: fixedB n (x / 256)
theorem fixedB_len : ∀ (n x : Nat), (fixedB n x).length = n
  | 0, _ => rfl
  | n + 1, x => by simp [fixedB, fixedB_len n]
theorem fixedB_snoc : ∀ (n x : Nat), fixedB (n + 1) x = fixedB n x ++ [UInt8.ofNat (x / 256 ^ n % 256)]
  | 0, x => by simp [fixedB]
  | n + 1, x => by
    rw [fixedB, fixedB_snoc n (x / 256), fixedB, List.cons_append, Nat.div_div_eq_div_mul, Nat.pow_succ, Nat.mul_comm 256]
end Go.Bs
namespace Go.Proofs.YtlbffbkbkajciaaGreat
open Go.RowKit Go.Bs Go.Maps
set_option linter.unusedVariables false
set_option linter.unusedSimpArgs false

set_option maxRecDepth 100000 in
set_option maxHeartbeats 1600000 in
theorem pen_fixed (x : Nat) (hx : x < 18446744073709551616) (n : Nat) (hn : n ≤ 8) (w : World) :
    Calls Tryz.prog 227 #[.int .u64 x, .int .i64 n] w fun r w' => ∃ v, r = .returned v ∧ w'.ownsRow w.heap.size 5 1 v n (byteCells (fixedB n x)) ∧ Below w.heap.size w w' := by
  obtain ⟨i0, hi, hz0, hz1, hz2⟩ := info_parts info8
  have d1 : max (n : Int) 0 = n := by omega
  have d2 : min (n : Int) 8 = n := by omega
  have d3 : (if (n : Int) < 0 then (0 : Int) else n) = n := by rw [if_neg (by omega)]
  have d4 : (if (8 : Int) < n then (8 : Int) else n) = n := by rw [if_neg (by omega)]
  go_enter Tryz.func227, Tryz.ntmps227
  go_wp2_with fail
  go_loopw [0, 5, 9] (fun y o i wr => ∃ k : Nat, k ≤ n ∧ i = .int .i64 k ∧ y = .int .u64 (x / 256 ^ k : Nat) ∧ wr.ownsRow w.heap.size 5 1 o k (byteCells (fixedB k x)) ∧ Below w.heap.size w wr) (fun _ _ i _ => n - (intOf i).toNat)
  case atStart => exact ⟨0, Nat.zero_le _, rfl, by simp, ⟨rfl, .inl ⟨rfl, rfl⟩⟩, Below.refl _ _⟩
  case round =>
    obtain ⟨k, hk, rfl, rfl, hown, hb⟩ := hrel
    have hbs := hb.size
    obtain ⟨aJ, cJ, rfl⟩ := own_form hown
    have HO := hid hown
    clear hown
    by_cases hlt : k < n
    · have i1 : (k : Int) < (n : Int) := by omega
      have hy : x / 256 ^ k < 18446744073709551616 := Nat.lt_of_le_of_lt (Nat.div_le_self _ _) hx
      have hfin := hid (fixedB_snoc k x)
      have hdv : Hid (x / 256 ^ (k + 1) = x / 256 ^ k / 256) := hid (by rw [Nat.pow_succ, Nat.div_div_eq_div_mul])
      generalize x / 256 ^ k = y at *
      have hby : Hid ((y : Int) % 256 = ((UInt8.ofNat (y % 256)).toNat : Int)) := hid (by rw [← byte_small (by omega)]; omega)
      have e0 : (y : Int) % 256 % 256 = (y : Int) % 256 := by omega
      go_wp2_with (at_builtin; go_loud (refine wpList_append_src rfl _ _ _ rfl w.heap.size 5 i0 (.int .u8 0) 1 1 Tryz.underlying25 hi hz0 hz1 hz2 rfl (by decide) (.slice aJ k cJ) k (byteCells (fixedB k x)) rfl (own_below HO.out (by (repeat (first | with_reducible exact Below.refl _ _ | with_reducible assumption | (with_reducible refine below_alloc ?_ _) | (with_reducible refine Below.setCell ?_ (by first | omega | (simp; done) | (simp; omega)) _) | (with_reducible refine Below.drew ?_) | (with_reducible refine below_drewN ?_ _) | (refine below_then (by with_reducible assumption) ?_))))) (some ⟨wr.heap.size, 0, none⟩) 1 1 [.int .u8 ((y : Int) % 256)] rfl (src_new1 wr 5 _ rfl rfl rfl) (by intro u hu; simp at hu; subst hu; rfl) (by simp only [maxLen]; omega) (by omega) (by simp; omega) ?_; intro v' w1 hown1 hgrow1 hat1; have HG := hid hgrow1; have HO1 := hid hown1; clear hgrow1 hown1 hat1))
      have ho := HO1.out
      rw [hby.out, byteCells_snoc, ← hfin.out] at ho
      have hB : Below w.heap.size w w1 := Below.grown (by (repeat (first | with_reducible exact Below.refl _ _ | with_reducible assumption | (with_reducible refine below_alloc ?_ _) | (with_reducible refine Below.setCell ?_ (by first | omega | (simp; done) | (simp; omega)) _) | (with_reducible refine Below.drew ?_) | (with_reducible refine below_drewN ?_ _) | (refine below_then (by with_reducible assumption) ?_)))) HG.out (by simp; omega) (fun g e => (HO.out.lt g e).1)
      have HO2 := hid ho
      clear ho
      go_wp2_with fail
      go_roundw
      case rel => exact ⟨k + 1, by omega, by go_num, by rw [hdv.out]; go_num, HO2.out, hB⟩
      case measure => simp [intOf]; omega
    · obtain rfl : k = n := by omega
      go_wp2
      go_ret
      exact ⟨_, rfl, HO.out, hb⟩

set_option maxRecDepth 100000 in
theorem pen_wfixed (w : World) {g base most : Nat} {J : List UInt8} {a : Option Addr} {c : Nat} (h : PenAt w g base most J a c) (x : Nat) (hx : x < 18446744073709551616) (n : Nat) (hn : n ≤ 8) (hfit : J.length + n ≤ most) (hlen : J.length + n ≤ 100000000000000) :
    Calls Tryz.prog 178 #[.pointer (some ⟨g, 0, none⟩), .int .u64 x, .int .i64 n] w fun r w' => r = .returned (.tuple #[]) ∧ PenStep w g base most (J ++ fixedB n x) a w' := by
  have hl := fixedB_len n x
  have HF := hid (pen_fixed x hx n hn w)
  have HP := hid h
  clear h
  generalize fixedB n x = D at *
  go_enter Tryz.func178, Tryz.ntmps178
  go_wp2_with fail
  refine HF.out.mono ?_
  rintro r w1 ⟨v, rfl, ho, hb1⟩
  obtain ⟨a1, c1, rfl⟩ := own_form ho
  have HQ := hid (pen_put w1 (HP.out.later hb1) D a1 n c1 (own_bytes hl.symm ho) (by omega) (by omega))
  clear ho
  go_wp2_with fail
  refine HQ.out.mono ?_
  rintro r w2 ⟨rfl, hst⟩
  have HST := hid (PenStep.later hb1 hst)
  clear hst
  go_wp2
  first | go_end0 | refine bodyPost_ret (results_none rfl _ _ _) rfl ?_
  exact ⟨rfl, HST.out⟩
end Go.Proofs.YtlbffbkbkajciaaGreat
namespace Go.Proofs.YtlbffbkbkajciaaGreat
open Go.RowKit Go.Bs Go.Maps
set_option linter.unusedVariables false
set_option linter.unusedSimpArgs false

theorem OwnB.low {w : World} {b b' : Nat} {v : Value} {L : List UInt8} (h : OwnB w b v L) (hb : b' ≤ b) : OwnB w b' v L := by
  obtain ⟨h1, h2⟩ := h
  refine ⟨h1, ?_⟩
  rcases h2 with h2 | ⟨g, cap, cur, e1, e2, e3⟩
  · exact .inl h2
  · exact .inr ⟨g, cap, cur, e1, by omega, e3⟩
theorem OwnB.read {w : World} {b : Nat} {v : Value} {L : List UInt8} (h : OwnB w b v L) : rBytes.r (fun q => b ≤ q ∧ q < w.heap.size) w [v] L := own_bytes2 rfl h
theorem OwnB.form {w : World} {b : Nat} {v : Value} {L : List UInt8} (h : OwnB w b v L) : ∃ a c, v = .slice a L.length c := own_form h

set_option maxRecDepth 100000 in
set_option maxHeartbeats 1600000 in
theorem pen_bytes_own (w : World) {g base most : Nat} {J : List UInt8} {a : Option Addr} {c : Nat} (h : PenAt w g base most J a c) :
    Calls Tryz.prog 17 #[.pointer (some ⟨g, 0, none⟩)] w fun r w' => ∃ v, r = .returned (.tuple #[v, .int .i64 0]) ∧ OwnB w' w.heap.size v J ∧ Below w.heap.size w w' := by
  obtain ⟨i0, hi, hz0, hz1, hz2⟩ := info_parts info8
  have HC := hid (pen_code w h)
  have hB := own_bytes2 rfl h.own
  obtain ⟨_, hm, _, _⟩ := sl_len hB
  have HD := hid (rBytes.mono hB (S' := (· < w.heap.size)) fun q hq => hq.2)
  have HONE := hid (byteCells_one J)
  have c1 : w.cell? ⟨g, 1, none⟩ = some (.slice a J.length c) := h.blk.cell 1
  have hg1 := h.blk.lt
  have hle := h.le; have hmo := h.most; have hle14 := h.len
  clear h hB
  go_enter Tryz.func17, Tryz.ntmps17
  go_wp2_with fail
  refine HC.out.mono ?_
  rintro r w0 ⟨rfl, rfl⟩
  go_wp2_with (at_builtin; go_loud (refine wpList_append_src rfl _ _ _ rfl w.heap.size 5 i0 (.int .u8 0) 1 1 Tryz.underlying25 hi hz0 hz1 hz2 rfl (by decide) _ 0 [] rfl (own_empty _ (Nat.le_refl _) rfl) a J.length c (byteCells J) rfl (src_bytes (lift HD.out (by (repeat (first | exact Below.refl _ _ | assumption | (refine below_alloc ?_ _) | (refine Below.setCell ?_ (by first | omega | (simp; done) | (simp; omega)) _) | (refine Below.drew ?_) | (refine below_drewN ?_ _) | (refine below_then (by assumption) ?_)))))) HONE.out (by simp only [maxLen]; omega) (by omega) (by simp) ?_; intro v' w1 hown1 hgrow1 hat1; rw [Nat.zero_add, List.nil_append] at hown1; obtain ⟨a', c', rfl⟩ := own_form hown1; have HG := hid hgrow1; have HO := hid hown1; clear hgrow1 hown1 hat1))
  have hb1 : Below w.heap.size w w1 := Below.grown (by (repeat (first | exact Below.refl _ _ | assumption | (refine below_alloc ?_ _) | (refine Below.setCell ?_ (by first | omega | (simp; done) | (simp; omega)) _) | (refine Below.drew ?_) | (refine below_drewN ?_ _) | (refine below_then (by assumption) ?_)))) HG.out (by simp) (fun g e => by
    have e' : some w.heap.size = some g := e
    injection e' with e'
    omega)
  go_ret2
  exact ⟨_, rfl, HO.out, hb1⟩
end Go.Proofs.YtlbffbkbkajciaaGreat
namespace Go.Bs
open Go.RowKit
end Go.Bs
namespace Go.Proofs.YtlbffbkbkajciaaGreat
open Go.RowKit Go.Bs Go.Maps
set_option linter.unusedVariables false
set_option linter.unusedSimpArgs false

/-- A pen that was made in w1, with what it has written since. -/
def PenOk (w1 : World) (g most : Nat) (J : List UInt8) (w : World) : Prop := PenStep w1 g g most J none w
theorem PenOk.new {w : World} {g most : Nat} (h : PenAt w g g most [] none 0) : PenOk w g most [] w := PenStep.refl h
theorem PenOk.step {w1 w w' : World} {g most : Nat} {J J' : List UInt8} (h : PenOk w1 g most J w) (k : ∀ a c, PenAt w g g most J a c → PenStep w g g most J' a w') : PenOk w1 g most J' w' := by
  obtain ⟨a, c, h1, h2, h3⟩ := h
  exact PenStep.trans (J := J) h2 h3 (k a c h1)
theorem PenOk.at {w1 w : World} {g most : Nat} {J : List UInt8} (h : PenOk w1 g most J w) : ∃ a c, PenAt w g g most J a c ∧ (∀ {J' : List UInt8} {w' : World}, PenStep w g g most J' a w' → PenOk w1 g most J' w') ∧ (∀ q, q < w1.heap.size → q ≠ g → ¬ PenF g a q) := by
  obtain ⟨a, c, h1, h2, h3⟩ := h
  refine ⟨a, c, h1, fun k => PenStep.trans (J := J) h2 h3 k, fun q hq hn e => ?_⟩
  rw [penF_is] at e
  rcases e with e | e
  · exact hn e
  · rcases h3 with h3 | ⟨q', h3, h4⟩
    · rw [h3] at e; cases e
    · rw [h3] at e; have := Option.some.inj e; omega
theorem PenOk.later {w1 w w' : World} {g most : Nat} {J : List UInt8} (h : PenOk w1 g most J w) (hb : Below w.heap.size w w') : PenOk w1 g most J w' := by
  obtain ⟨a, c, h1, k, _⟩ := h.at
  exact k ⟨a, c, h1.later hb, Tch.of_later hb, .inl rfl⟩
theorem PenOk.tch {w1 w : World} {g most : Nat} {J : List UInt8} (h : PenOk w1 g most J w) : Tch (· = g) w1 w := by
  obtain ⟨a, c, h1, h2, h3⟩ := h
  refine h2.mono fun q _ e => ?_
  rw [penF_is] at e
  rcases e with e | e
  · exact e
  · cases e
theorem PenOk.blk {w1 w : World} {g most : Nat} {J : List UInt8} (h : PenOk w1 g most J w) {b : Nat} {t : TypeId} {cs : Array Value} (hB : Blk w1 b t cs) (hn : b ≠ g) : Blk w b t cs := hB.tch h.tch hn
theorem PenOk.below {w0 w1 w : World} {g most : Nat} {J : List UInt8} (h : PenOk w1 g most J w) (h0 : Below w0.heap.size w0 w1) (hg : w0.heap.size ≤ g) : Below w0.heap.size w0 w :=
  h0.trans (h.tch.to_below h0.size fun b _ e => by omega)

end Go.Proofs.YtlbffbkbkajciaaGreat
namespace Go.Bs
open Go.RowKit
end Go.Bs
namespace Go.Proofs.YtlbffbkbkajciaaGreat
open Go.RowKit Go.Bs Go.Maps
set_option linter.unusedVariables false
set_option linter.unusedSimpArgs false

/-- A payload's frame. -/
def frameB (p : List UInt8) : List UInt8 := blobB p ++ fixedB 4 (crcSum p)
theorem frameB_len (p : List UInt8) : (frameB p).length = (blobB p).length + 4 := by simp [frameB, fixedB_len]

theorem frame_size (n : Nat) (hn : n ≤ 100000000000000) (w : World) :
    Calls Tryz.prog 177 #[.int .i64 n] w fun r w' => r = .returned (.int .i64 ((varB n).length + n + 4 : Nat)) ∧ Below w.heap.size w w' := by
  have HS := hid (blob_size n hn w)
  have hl := varB_len n
  generalize (varB n).length = k at *
  go_enter Tryz.func177, Tryz.ntmps177
  go_wp2_with fail
  refine HS.out.mono ?_
  rintro r w1 ⟨rfl, hb1⟩
  go_wp2
  go_ret
  exact ⟨by first | rfl | simp, hb1⟩

set_option maxRecDepth 100000 in
set_option maxHeartbeats 1600000 in
theorem frame_put (w : World) {g base most : Nat} {J : List UInt8} {a : Option Addr} {c : Nat} (h : PenAt w g base most J a c) (D : List UInt8) (ad : Option Addr) (nd cd : Nat)
    (hD : rBytes.r (fun q => q < w.heap.size ∧ ¬ PenF g a q) w [.slice ad nd cd] D) (hm : D.length ≤ 2097152) (hfit : J.length + (frameB D).length ≤ most) (hlen : J.length + (frameB D).length ≤ 100000000000000) :
    Calls Tryz.prog 112 #[.pointer (some ⟨g, 0, none⟩), .slice ad nd cd] w fun r w' => r = .returned (.tuple #[]) ∧ PenStep w g base most (J ++ frameB D) a w' := by
  obtain ⟨rfl, _, _, _⟩ := sl_len hD
  rw [frameB_len] at hfit hlen
  have d1 : decide ((2097152 : Int) < (D.length : Int)) = false := decide_eq_false (by omega)
  have HB := hid (blob_put w h D ad _ cd hD (by omega) (by omega))
  have HC := hid (fun (W : World) h => crc_sum D ad D.length cd W h)
  have HL := crcSum_lt D
  have hb : Hid (frameB D = blobB D ++ fixedB 4 (crcSum D)) := hid rfl
  have HD := hid hD
  generalize frameB D = K at *
  generalize crcSum D = s at *
  generalize blobB D = E at *
  clear h hD
  go_enter Tryz.func112, Tryz.ntmps112
  go_wp2_with fail
  refine HB.out.mono ?_
  rintro r w3 ⟨rfl, a3, c3, p3, t3, h3⟩
  have hs3 := t3.size
  have HD3 := hid (rBytes.keep HD.out fun q hq => t3.block q hq.1 hq.2)
  have HST := hid (fun (J' : List UInt8) (W : World) (k : PenStep w3 g base most J' a3 W) => PenStep.trans (J := J ++ E) t3 h3 k)
  have P3 := hid p3
  clear p3 t3 h3
  go_wp2_with fail
  refine (HC.out w3 (rBytes.mono HD3.out fun q hq => by have := hq.1; omega)).mono ?_
  rintro r w4 ⟨rfl, hb4⟩
  have e1 : (s : Int) % 18446744073709551616 = s := by omega
  go_wp2_with fail
  refine (pen_wfixed w4 (P3.out.later hb4) s (by omega) 4 (by omega) (by simp; omega) (by simp; omega)).mono ?_
  rintro r w5 ⟨rfl, hs5⟩
  have hst := HST.out _ _ (PenStep.later hb4 hs5)
  rw [List.append_assoc, ← hb.out] at hst
  have HST2 := hid hst
  clear hst hs5
  go_wp2
  first | go_end0 | refine bodyPost_ret (results_none rfl _ _ _) rfl ?_
  exact ⟨rfl, HST2.out⟩

set_option maxRecDepth 100000 in
set_option maxHeartbeats 1600000 in
theorem frame_bytes (w : World) (D : List UInt8) (ad : Option Addr) (nd cd : Nat) (hD : rBytes.r (· < w.heap.size) w [.slice ad nd cd] D) (hm : D.length ≤ 2097152) :
    Calls Tryz.prog 110 #[.slice ad nd cd] w fun r w' => ∃ x, r = .returned (.tuple #[x, .int .i64 0]) ∧ OwnB w' w.heap.size x (frameB D) ∧ Below w.heap.size w w' := by
  obtain ⟨rfl, _, _, _⟩ := sl_len hD
  have HS := hid (frame_size D.length (by omega) w)
  have hvl := varB_len D.length
  have hl : (frameB D).length = (varB D.length).length + D.length + 4 := by rw [frameB_len, blobB_len]
  have HN := hid (fun W : World => pen_new W ((varB D.length).length + D.length + 4) (by omega))
  have HP := hid (fun (W : World) (g : Nat) (h : PenAt W g g ((varB D.length).length + D.length + 4) [] none 0) (h1 : rBytes.r (fun q => q < W.heap.size ∧ ¬ PenF g none q) W [.slice ad D.length cd] D) => frame_put W h D ad _ cd h1 hm (by simp; omega) (by simp; omega))
  have HD := hid hD
  generalize frameB D = K at *
  generalize (varB D.length).length + D.length + 4 = M at *
  clear hD
  go_enter Tryz.func110, Tryz.ntmps110
  go_wp2_with fail
  refine HS.out.mono ?_
  rintro r w1 ⟨rfl, hb1⟩
  go_wp2_with fail
  refine (HN.out w1).mono ?_
  rintro r w2 ⟨rfl, hp2, hb2⟩
  have hbw2 : Below w.heap.size w w2 := below_then hb2 hb1
  have hz1 := hb1.size
  have hz2 := hb2.size
  have HQ := hid (HP.out w2 _ hp2 (rBytes.mono (rBytes.keep HD.out fun q hq => hbw2.block q hq) fun q hq => ⟨by omega, by rw [penF_is]; rintro (e | e); omega; cases e⟩))
  clear hp2
  go_wp2_with fail
  refine HQ.out.mono ?_
  rintro r w3 ⟨rfl, hs3⟩
  have K3 : Hid (PenOk w2 w1.heap.size M K w3) := hid hs3
  clear hs3 HQ
  go_wp2_with fail
  obtain ⟨a7, b7, p7, k7, _⟩ := K3.out.at
  refine (pen_bytes_own w3 p7).mono ?_
  rintro r w8 ⟨x, rfl, hr, hb8⟩
  have hbw := K3.out.below hbw2 (by omega)
  have HR := hid hr
  clear hr k7 p7
  go_wp2
  go_ret2
  exact ⟨_, rfl, HR.out.low hbw.size, below_then hb8 hbw⟩
end Go.Proofs.YtlbffbkbkajciaaGreat
namespace Go.Bs
open Go.RowKit
set_option linter.unusedVariables false
structure MarkD where
  pos : Int
  count : Int
  at_ : Int
theorem i64_wf {n : Int} (h : -9223372036854775808 ≤ n ∧ n ≤ 9223372036854775807) : (Lit.int .i64 n).wf = true := by
  simp [Lit.wf, IntKind.min, IntKind.max, IntKind.signed, IntKind.bits]; omega
end Go.Bs
namespace Go.Proofs.YtlbffbkbkajciaaGreat
open Go.RowKit Go.Bs Go.Maps
set_option linter.unusedVariables false
set_option linter.unusedSimpArgs false

end Go.Proofs.YtlbffbkbkajciaaGreat
namespace Go.Bs
open Go.RowKit
set_option linter.unusedVariables false
end Go.Bs
namespace Go.Proofs.YtlbffbkbkajciaaGreat
open Go.RowKit Go.Bs Go.Maps
set_option linter.unusedVariables false
set_option linter.unusedSimpArgs false

theorem PenStep.at {w1 w : World} {g base most : Nat} {J : List UInt8} {a : Option Addr} (h : PenStep w1 g base most J a w) : ∃ a' c', PenAt w g base most J a' c' ∧ (∀ (J' : List UInt8) (w' : World), PenStep w g base most J' a' w' → PenStep w1 g base most J' a w') := by
  obtain ⟨a', c', h1, h2, h3⟩ := h
  exact ⟨a', c', h1, fun J' w' k => PenStep.trans (J := J) h2 h3 k⟩
theorem PenStep.blk {w1 w : World} {g base most : Nat} {J : List UInt8} {a : Option Addr} (h : PenStep w1 g base most J a w) {b : Nat} {t : TypeId} {cs : Array Value} (hB : Blk w1 b t cs) (hn : ¬ PenF g a b) : Blk w b t cs := by
  obtain ⟨a', c', h1, h2, h3⟩ := h
  exact hB.tch h2 hn
theorem PenStep.tch {w1 w : World} {g base most : Nat} {J : List UInt8} {a : Option Addr} (h : PenStep w1 g base most J a w) : Tch (PenF g a) w1 w := by
  obtain ⟨a', c', h1, h2, h3⟩ := h
  exact h2

end Go.Proofs.YtlbffbkbkajciaaGreat
namespace Go.Bs
open Go.RowKit
set_option linter.unusedVariables false
structure FootD where
  ep : Int
  n : Int
  en : Int
  first : Int
  fin : Int
  at_ : Int
  size : Int
def FootD.val (f : FootD) : Array Value := #[.int .u64 f.ep, .int .i64 f.n, .int .i64 f.en, .int .u64 f.first, .int .u64 f.fin, .int .i64 f.at_, .int .i64 f.size]
end Go.Bs
namespace Go.Proofs.YtlbffbkbkajciaaGreat
open Go.RowKit Go.Bs Go.Maps
set_option linter.unusedVariables false
set_option linter.unusedSimpArgs false

end Go.Proofs.YtlbffbkbkajciaaGreat
namespace Go.Proofs.YtlbffbkbkajciaaGreat
open Go.RowKit Go.Bs Go.Maps
set_option linter.unusedVariables false
set_option linter.unusedSimpArgs false

/-- A place, a code, and the fault's place. -/
structure Rs where
  p : Nat
  k : Int
  f : Int
def Rs.fail (s : Rs) (c at_ : Int) : Rs := if s.k = 0 then ⟨s.p, c, at_⟩ else s
def Rs.skip (L : Nat) (s : Rs) (n : Int) : Bool × Rs :=
  if s.k = 0 then (if n < 0 then (false, ⟨s.p, 17, s.p⟩) else if (L : Int) - s.p < n then (false, ⟨s.p, 1, L⟩) else (true, ⟨s.p + n.toNat, 0, 0⟩)) else (false, s)
def Rs.take (B : List UInt8) (s : Rs) (n : Int) : Rs × List UInt8 := ((s.skip B.length n).2, if (s.skip B.length n).1 then (B.drop s.p).take n.toNat else [])
def Rs.byte (B : List UInt8) (s : Rs) : Rs × UInt8 := ((s.skip B.length 1).2, if (s.skip B.length 1).1 then B.getD s.p 0 else 0)
/-- A sound one. -/
structure Rs.ok (s : Rs) (L : Nat) : Prop where
  le : s.p ≤ L
  zero : s.k = 0 → s.f = 0
/-- Block g is a reader of B's bytes, at s. -/
structure RdAt (w : World) (g : Nat) (B : List UInt8) (a : Option Addr) (s : Rs) : Prop where
  blk : Blk w g 117 #[.slice a B.length B.length, .int .i64 (s.p : Int), .int .i64 s.k, .int .i64 s.f]
  dat : rBytes.r (fun q => q < w.heap.size ∧ q ≠ g) w [.slice a B.length B.length] B
  ok : s.ok B.length
def RdStep (w : World) (g : Nat) (B : List UInt8) (a : Option Addr) (s' : Rs) (w' : World) : Prop := RdAt w' g B a s' ∧ Tch (· = g) w w'
section
variable {w w1 w2 : World} {g : Nat} {B : List UInt8} {a : Option Addr} {s s' : Rs}
theorem RdAt.later (h : RdAt w g B a s) (hb : Below w.heap.size w w1) : RdAt w1 g B a s :=
  ⟨h.blk.later hb, rBytes.mono (rBytes.keep h.dat fun q hq => hb.block q hq.1) fun q hq => ⟨Nat.lt_of_lt_of_le hq.1 hb.size, hq.2⟩, h.ok⟩
theorem RdAt.len (h : RdAt w g B a s) : B.length ≤ 9223372036854775807 := (sl_len h.dat).2.1
theorem RdStep.later (h : RdAt w g B a s) (hb : Below w.heap.size w w1) : RdStep w g B a s w1 := ⟨h.later hb, Tch.of_later hb⟩
theorem RdStep.refl (h : RdAt w g B a s) : RdStep w g B a s w := ⟨h, Tch.refl _ _⟩
theorem RdStep.trans (h : Tch (· = g) w w1) (k : RdStep w1 g B a s' w2) : RdStep w g B a s' w2 := ⟨k.1, h.trans k.2 fun _ _ h => h⟩
theorem RdStep.then (h : RdStep w g B a s w1) (hb : Below w1.heap.size w1 w2) : RdStep w g B a s w2 := ⟨h.1.later hb, h.2.trans (Tch.of_later (F := (· = g)) hb) fun _ _ h => h⟩
theorem RdStep.size (h : RdStep w g B a s w1) : w.heap.size ≤ w1.heap.size := h.2.size
theorem RdStep.below {b : Nat} (h : RdStep w g B a s w1) (hb : b ≤ w.heap.size) (hg : b ≤ g) : Below b w w1 := h.2.to_below hb fun q _ e => e ▸ hg
end

end Go.Proofs.YtlbffbkbkajciaaGreat
namespace Go.Proofs.YtlbffbkbkajciaaGreat
open Go.RowKit Go.Bs Go.Maps
set_option linter.unusedVariables false
set_option linter.unusedSimpArgs false

/-- The number that bytes begin with, how many were looked at, the code. -/
def vget : Nat → Nat → List UInt8 → Nat × Nat × Int
  | i, x, [] => (0, i, 1)
  | i, x, c :: l =>
    if i = 9 ∧ 1 < c.toNat then (0, i + 1, 5)
    else if 0 < i ∧ c.toNat = 0 then (0, i + 1, 4)
    else if c.toNat < 128 then (x + c.toNat * 128 ^ i, i + 1, 0)
    else vget (i + 1) (x + c.toNat % 128 * 128 ^ i) l
def Rs.num (B : List UInt8) (s : Rs) : Rs × Nat :=
  if s.k = 0 then
    let r := vget 0 0 (B.drop s.p)
    (⟨s.p + r.2.1, r.2.2, if r.2.2 = 0 then 0 else if r.2.2 = 1 then B.length else s.p + r.2.1 - 1⟩, r.1)
  else (s, 0)
end Go.Proofs.YtlbffbkbkajciaaGreat
namespace Go.Proofs.YtlbffbkbkajciaaGreat
open Go.RowKit Go.Bs Go.Maps
set_option linter.unusedVariables false
set_option linter.unusedSimpArgs false

def Rs.most (B : List UInt8) (s : Rs) (m : Nat) : Rs × Nat := if m < (s.num B).2 then ((s.num B).1.fail 2 s.p, 0) else s.num B
def Rs.int (B : List UInt8) (s : Rs) (m : Int) : Rs × Nat := if 0 ≤ m then s.most B m.toNat else ((s.num B).1.fail 2 s.p, 0)
def Rs.head (B : List UInt8) (s : Rs) : Rs × Bool × Nat :=
  if (s.num B).1.k = 0 then
    (if (s.num B).2 % 2 = 1 then (if 1048572 < (s.num B).2 / 2 then ((s.num B).1.fail 2 s.p, false, 0) else ((s.num B).1, true, (s.num B).2 / 2 + 4))
    else (if 1048575 < (s.num B).2 / 2 then ((s.num B).1.fail 2 s.p, false, 0) else ((s.num B).1, false, (s.num B).2 / 2 + 1)))
  else ((s.num B).1, false, 0)
def Rs.offset (B : List UInt8) (s : Rs) : Rs × Nat :=
  let t := if 65536 ≤ (s.num B).2 then (s.num B).1.fail 10 s.p else (s.num B).1
  (t, if t.k = 0 then (s.num B).2 + 1 else 0)
end Go.Proofs.YtlbffbkbkajciaaGreat
namespace Go.Proofs.YtlbffbkbkajciaaGreat
open Go.RowKit Go.Bs Go.Maps
set_option linter.unusedVariables false
set_option linter.unusedSimpArgs false

theorem byteCells_snoc (l : List UInt8) (x : UInt8) : byteCells l ++ [Value.int .u8 (x.toNat : Int)] = byteCells (l ++ [x]) := by simp [byteCells]
end Go.Proofs.YtlbffbkbkajciaaGreat
namespace Go.Proofs.YtlbffbkbkajciaaGreat
open Go.RowKit Go.Bs Go.Maps
set_option linter.unusedVariables false
set_option linter.unusedSimpArgs false

structure XInv (w W : World) (B : List UInt8) (a : Option Addr) (s : Rs) (out : List UInt8) (aO : Option Addr) (cO : Nat) : Prop where
  rd : RdAt W (w.heap.size + 1) B a s
  dat : rBytes.r (· < w.heap.size) W [.slice a B.length B.length] B
  fl : Blk W w.heap.size 58 #[.int .i64 0, .int .i64 0]
  own : W.ownsRow (w.heap.size + 2) 5 1 (.slice aO out.length cO) out.length (byteCells out)
  be : Below w.heap.size w W
  sz : w.heap.size + 2 ≤ W.heap.size
section
variable {w W W' : World} {B : List UInt8} {a : Option Addr} {s s' : Rs} {out out' : List UInt8} {aO aO' : Option Addr} {cO cO' : Nat}
theorem XInv.later (h : XInv w W B a s out aO cO) (hb : Below W.heap.size W W') : XInv w W' B a s out aO cO :=
  ⟨h.rd.later hb, rBytes.keep h.dat fun q hq => hb.block q (by have := h.sz; omega), h.fl.later hb, own_below h.own hb, below_then hb h.be, Nat.le_trans h.sz hb.size⟩
theorem own_tch {base : Nat} {e : TypeId} {size : Nat} {v : Value} {n : Nat} {xs : List Value} {g : Nat} (h : W.ownsRow base e size v n xs) (hg : g < base) (hb : Tch (· = g) W W') : W'.ownsRow base e size v n xs := by
  refine ⟨h.1, ?_⟩
  rcases h.2 with h0 | ⟨g', cap, cur, h1, h2, h3, h4⟩
  · exact .inl h0
  · exact .inr ⟨g', cap, cur, h1, h2, (hb.block _ (Blk.lt h3) (by omega)).trans h3, h4⟩
theorem XInv.step (h : XInv w W B a s out aO cO) (k : RdStep W (w.heap.size + 1) B a s' W') : XInv w W' B a s' out aO cO :=
  ⟨k.1, rBytes.keep h.dat fun q hq => k.2.block q (by have := h.sz; omega) (by omega), h.fl.tch k.2 (by omega), own_tch h.own (by omega) k.2, h.be.trans (k.below h.be.size (by omega)), Nat.le_trans h.sz k.size⟩
theorem XInv.row (h : XInv w W B a s out aO cO) (hb : Below (w.heap.size + 2) W W') (ho : W'.ownsRow (w.heap.size + 2) 5 1 (.slice aO' out'.length cO') out'.length (byteCells out')) : XInv w W' B a s out' aO' cO' := by
  have hd := rBytes.keep h.dat (w' := W') fun q hq => hb.block q (by omega)
  exact ⟨⟨h.rd.blk.below hb (by omega), rBytes.mono hd fun q hq => ⟨by have := h.sz; have := hb.size; omega, by omega⟩, h.rd.ok⟩, hd, h.fl.below hb (by omega), ho, h.be.trans (hb.mono (by omega)), Nat.le_trans h.sz hb.size⟩
end
def cellI (W : World) (g i : Nat) : Int := intOf ((W.cell? ⟨g, i, none⟩).getD undef)
theorem RdAt.cells {w : World} {g : Nat} {B : List UInt8} {a : Option Addr} {s : Rs} (h : RdAt w g B a s) : cellI w g 1 = s.p ∧ cellI w g 2 = s.k := by
  have c1 := h.blk.cell 1
  have c2 := h.blk.cell 2
  simp at c1 c2
  unfold cellI
  rw [c1, c2]
  exact ⟨rfl, rfl⟩
end Go.Proofs.YtlbffbkbkajciaaGreat
namespace Go.Proofs.YtlbffbkbkajciaaGreat
open Go.RowKit Go.Bs Go.Maps
set_option linter.unusedVariables false
set_option linter.unusedSimpArgs false

theorem vget_varF (rest : List UInt8) : ∀ (f i x y : Nat), f + i = 9 → (0 < i → 0 < x) → x * 128 ^ i < 18446744073709551616 → vget i y (varF f x ++ rest) = (y + x * 128 ^ i, i + (varF f x).length, 0)
  | 0, i, x, y, h, hp, hx => by
    obtain rfl : i = 9 := by omega
    have hx2 : x < 2 := by omega
    have ht : (UInt8.ofNat x).toNat = x := by simp; omega
    have := hp (by omega)
    simp only [varF, List.cons_append, List.nil_append, List.length_cons, List.length_nil]
    unfold vget
    rw [ht, if_neg (by omega), if_neg (by omega), if_pos (by omega)]
  | f + 1, i, x, y, h, hp, hx => by
    simp only [varF]
    by_cases h128 : x < 128
    · rw [if_pos h128]
      have ht : (UInt8.ofNat x).toNat = x := by simp; omega
      simp only [List.cons_append, List.nil_append, List.length_cons, List.length_nil]
      unfold vget
      rw [ht, if_neg (by omega), if_neg (by omega), if_pos (by omega)]
    · rw [if_neg h128]
      have ht : (UInt8.ofNat (128 + x % 128)).toNat = 128 + x % 128 := by simp; omega
      simp only [List.cons_append, List.length_cons]
      unfold vget
      rw [ht, if_neg (by omega), if_neg (by omega), if_neg (by omega)]
      have hdm : x = 128 * (x / 128) + x % 128 := (Nat.div_add_mod x 128).symm
      have he : x / 128 * 128 ^ (i + 1) + x % 128 * 128 ^ i = x * 128 ^ i := by
        rw [Nat.pow_succ]
        generalize 128 ^ i = k
        conv => rhs; rw [hdm]
        rw [Nat.add_mul, Nat.mul_comm k 128, ← Nat.mul_assoc, Nat.mul_comm 128]
      rw [vget_varF rest f (i + 1) (x / 128) _ (by omega) (fun _ => by omega) (by omega)]
      refine Prod.ext ?_ (Prod.ext ?_ rfl)
      · dsimp only
        rw [show (128 + x % 128) % 128 = x % 128 by omega]
        omega
      · dsimp only; omega
theorem vget_varB (x : Nat) (rest : List UInt8) (hx : x < 18446744073709551616) : vget 0 0 (varB x ++ rest) = (x, (varB x).length, 0) := by
  have := vget_varF rest 9 0 x 0 rfl (fun h => by omega) (by simpa using hx)
  unfold varB
  rw [this]; simp
theorem Rs.num_varB {B rest : List UInt8} {p x : Nat} (hx : x < 18446744073709551616) (h : B.drop p = varB x ++ rest) : (⟨p, 0, 0⟩ : Rs).num B = (⟨p + (varB x).length, 0, 0⟩, x) := by
  unfold Rs.num
  rw [if_pos rfl]
  dsimp only
  rw [h, vget_varB x rest hx]
  rfl
theorem drop_more {B D rest : List UInt8} {p : Nat} (h : B.drop p = D ++ rest) : B.drop (p + D.length) = rest := by
  rw [← List.drop_drop, h]; simp
theorem drop_room {B D rest : List UInt8} {p : Nat} (h : B.drop p = D ++ rest) (hp : p ≤ B.length) : p + D.length + rest.length = B.length := by
  have := congrArg List.length h
  simp at this
  omega
theorem Rs.int_pre {B rest : List UInt8} {p x : Nat} {m : Int} (hx : x < 18446744073709551616) (h : B.drop p = varB x ++ rest) (hm : (x : Int) ≤ m) : (⟨p, 0, 0⟩ : Rs).int B m = (⟨p + (varB x).length, 0, 0⟩, x) := by
  unfold Rs.int Rs.most
  rw [if_pos (by omega), Rs.num_varB hx h, if_neg (by dsimp only; omega)]
end Go.Proofs.YtlbffbkbkajciaaGreat
namespace Go.Proofs.YtlbffbkbkajciaaGreat
open Go.RowKit Go.Bs Go.Maps
set_option linter.unusedVariables false
set_option linter.unusedSimpArgs false

/-- A falling list, read. -/
def Rs.falls (B : List UInt8) : Nat → Rs → Int → List Int → Rs × List Int
  | 0, s, _, out => (s, out)
  | n + 1, s, below, out =>
    if (s.num B).1.k = 0 then
      (if below ≤ ((s.num B).2 : Int) then ((s.num B).1.fail 13 s.p, []) else Rs.falls B n (s.num B).1 (below - (s.num B).2 - 1) (out ++ [below - (s.num B).2 - 1]))
    else ((s.num B).1, [])
def Rs.delta (B : List UInt8) (s : Rs) (below : Int) (most : Int) : Rs × List Int := Rs.falls B (s.int B most).2 (s.int B most).1 below []
/-- A link's number behind another one's. -/
def Rs.stream (B : List UInt8) (s : Rs) (prev : Option Int) : Rs × Int :=
  match prev with
  | none => ((s.num B).1, ((s.num B).2 : Int))
  | some q => (if 18446744073709551615 - q ≤ ((s.num B).2 : Int) then (s.num B).1.fail 13 s.p else (s.num B).1, ((s.num B).2 : Int) + q + 1)
def Rs.linksF (B : List UInt8) (pos : Int) : Nat → Rs → Option Int → List Link → Rs × List Link
  | 0, s, _, out => (s, out)
  | n + 1, s, prev, out =>
    if ((s.stream B prev).1.delta B pos 4).1.k = 0 then Rs.linksF B pos n ((s.stream B prev).1.delta B pos 4).1 (some (s.stream B prev).2) (out ++ [⟨(s.stream B prev).2, ((s.stream B prev).1.delta B pos 4).2⟩])
    else (((s.stream B prev).1.delta B pos 4).1, [])
def Rs.links (B : List UInt8) (s : Rs) (pos : Int) : Rs × List Link := Rs.linksF B pos (s.int B 16).2 (s.int B 16).1 none []
/-- An entry's head. -/
def Rs.ehead (B : List UInt8) (s : Rs) (pos most : Int) : Rs × List Link × Nat :=
  if ((s.links B pos).1.int B most).1.k = 0 then (((s.links B pos).1.int B most).1, (s.links B pos).2, ((s.links B pos).1.int B most).2) else (((s.links B pos).1.int B most).1, [], 0)
def Rs.heads (B : List UInt8) : Nat → Rs → Int → Int → List (List Link × Nat) → Rs × List (List Link × Nat)
  | 0, s, _, _, out => (s, out)
  | n + 1, s, pos, left, out =>
    if (s.ehead B pos left).1.k = 0 then Rs.heads B n (s.ehead B pos left).1 (pos + 1) (left - (s.ehead B pos left).2.2) (out ++ [(s.ehead B pos left).2]) else ((s.ehead B pos left).1, [])
def sizesN (l : List (List Link × Nat)) : Nat := (l.map Prod.snd).sum
def dealE : List (List Link × Nat) → List UInt8 → List Entry
  | [], _ => []
  | (l, n) :: r, D => ⟨l, D.take n⟩ :: dealE r (D.drop n)
def Rs.ep (B : List UInt8) (s : Rs) : Rs × Nat := if (s.num B).1.k = 0 then (if epR ((s.num B).2 : Int) = true then s.num B else ((s.num B).1.fail 3 s.p, 0)) else ((s.num B).1, 0)
def Rs.po (B : List UInt8) (s : Rs) : Rs × Nat := if (s.num B).1.k = 0 then (if poR ((s.num B).2 : Int) = true then s.num B else ((s.num B).1.fail 3 s.p, 0)) else ((s.num B).1, 0)
/-- What stands ahead of the heads: the epoch, the base, how many. -/
def Rs.bfront (B : List UInt8) (s : Rs) : Rs × Nat × Nat × Nat :=
  ((if fitsR (((s.ep B).1.po B).2 : Int) (((s.ep B).1.po B).1.int B 16).2 = true then (((s.ep B).1.po B).1.int B 16).1 else (((s.ep B).1.po B).1.int B 16).1.fail 3 ((s.ep B).1.po B).1.p), (s.ep B).2, ((s.ep B).1.po B).2, (((s.ep B).1.po B).1.int B 16).2)
/-- What is behind the heads. -/
def Rs.bblock (blk : Rs → Rs × List UInt8 × Bool) (h : Rs × List (List Link × Nat)) : Rs × List Entry × Bool :=
  let p := blk h.1
  let u : Rs := if sizesN h.2 = p.2.1.length then p.1 else p.1.fail 3 h.1.p
  (u, dealE h.2 p.2.1, p.2.2)
def noBatch : Batch := ⟨0, 0, []⟩
def Rs.batch (B : List UInt8) (blk : Rs → Rs × List UInt8 × Bool) (s : Rs) : Rs × Batch × Bool :=
  let f := s.bfront B
  if f.1.k = 0 then
    let u := Rs.bblock blk (Rs.heads B f.2.2.2 f.1 (f.2.2.1 : Int) 1048576 [])
    if u.1.k = 0 then (u.1, ⟨(f.2.1 : Int), (f.2.2.1 : Int), u.2.1⟩, u.2.2) else (u.1, noBatch, false)
  else (f.1, noBatch, false)
theorem Rs.falls_put {B rest : List UInt8} : ∀ (l : List Int) (below : Int) (p : Nat) (out : List Int), fallsB below l = true → (∀ x ∈ l, 0 ≤ x) → below ≤ 18446744073709551615 → B.drop p = numsB (stepsL below l) ++ rest → p ≤ B.length →
    Rs.falls B l.length ⟨p, 0, 0⟩ below out = (⟨p + (numsB (stepsL below l)).length, 0, 0⟩, out ++ l)
  | [], below, p, out, _, _, _, _, _ => by simp [Rs.falls, stepsL, numsB]
  | x :: l, below, p, out, hf, hx, hb, h, hp => by
    simp only [fallsB, Bool.and_eq_true, decide_eq_true_eq] at hf
    have h0 := hx x (by simp)
    simp only [stepsL] at h ⊢
    rw [numsB_cons, List.append_assoc] at h
    have hn : (below - x - 1).toNat < 18446744073709551616 := by omega
    have hN := Rs.num_varB hn h
    have hd := drop_more h
    have hr := drop_room h hp
    simp only [List.length_cons, Rs.falls]
    rw [hN]
    dsimp only
    rw [if_pos rfl, toNat_cast (by omega), if_neg (by omega), show below - (below - x - 1) - 1 = x by omega, Rs.falls_put l x _ _ hf.2 (fun y hy => hx y (by simp [hy])) (by omega) hd (by omega), numsB_cons, List.length_append]
    simp [Nat.add_assoc]
theorem Rs.delta_put {B rest : List UInt8} {l : List Int} {pos : Int} {p : Nat} {most : Int} (hf : fallsB pos l = true) (hx : ∀ x ∈ l, 0 ≤ x) (hb : pos ≤ 18446744073709551615) (h : B.drop p = deltaB pos l ++ rest) (hp : p ≤ B.length) (hm : (l.length : Int) ≤ most) (hl : l.length < 18446744073709551616) :
    (⟨p, 0, 0⟩ : Rs).delta B pos most = (⟨p + (deltaB pos l).length, 0, 0⟩, l) := by
  unfold deltaB at h ⊢
  rw [List.append_assoc] at h
  have hd := drop_more h
  have hr := drop_room h hp
  unfold Rs.delta
  rw [Rs.int_pre hl h hm]
  dsimp only
  rw [Rs.falls_put l pos _ _ hf hx hb hd (by omega)]
  simp [Nat.add_assoc]
end Go.Proofs.YtlbffbkbkajciaaGreat
namespace Go.Proofs.YtlbffbkbkajciaaGreat
open Go.RowKit Go.Bs Go.Maps
set_option linter.unusedVariables false
set_option linter.unusedSimpArgs false

/-- A reader of block g, and memory of one's own behind w. -/
structure RdInv (w W : World) (g : Nat) (B : List UInt8) (a : Option Addr) (s : Rs) : Prop where
  rd : RdAt W g B a s
  dat : rBytes.r (fun q => q < w.heap.size ∧ q ≠ g) W [.slice a B.length B.length] B
  tch : Tch (· = g) w W
  lt : g < w.heap.size
section
variable {w W W' : World} {g : Nat} {B : List UInt8} {a : Option Addr} {s s' : Rs}
theorem RdInv.refl (h : RdAt w g B a s) : RdInv w w g B a s := ⟨h, h.dat, Tch.refl _ _, h.blk.lt⟩
theorem RdInv.step (h : RdInv w W g B a s) (k : RdStep W g B a s' W') : RdInv w W' g B a s' :=
  ⟨k.1, rBytes.keep h.dat fun q hq => k.2.block q (Nat.lt_of_lt_of_le hq.1 h.tch.size) hq.2, h.tch.trans k.2 fun _ _ h => h, h.lt⟩
theorem RdInv.row (h : RdInv w W g B a s) (hb : Below w.heap.size W W') : RdInv w W' g B a s := by
  have hd := rBytes.keep h.dat (w' := W') fun q hq => hb.block q hq.1
  have hs := h.tch.size
  have hs2 := hb.size
  exact ⟨⟨h.rd.blk.below hb h.lt, rBytes.mono hd fun q hq => ⟨by omega, hq.2⟩, h.rd.ok⟩, hd, h.tch.trans (Tch.of_below hb) (fun b hb hle => by omega), h.lt⟩
theorem RdInv.to (h : RdInv w W g B a s) : RdStep w g B a s W := ⟨h.rd, h.tch⟩
end

end Go.Proofs.YtlbffbkbkajciaaGreat
namespace Go.Proofs.YtlbffbkbkajciaaGreat
open Go.RowKit Go.Bs Go.Maps
set_option linter.unusedVariables false
set_option linter.unusedSimpArgs false

theorem OwnEls.form {w : World} {α : Type} {lo base : Nat} {A : Rp α} {e : TypeId} {sz : Nat} {v : Value} {xs : List α} (h : OwnEls lo A base e sz w v xs) : ∃ a c, v = .slice a xs.length c := by
  obtain ⟨cells, h1, _⟩ := h
  exact own_form h1
end Go.Proofs.YtlbffbkbkajciaaGreat
namespace Go.Proofs.YtlbffbkbkajciaaGreat
open Go.RowKit Go.Bs Go.Maps
set_option linter.unusedVariables false
set_option linter.unusedSimpArgs false

theorem own_lt {W : World} {lo : Nat} {e : TypeId} {sz n : Nat} {v : Value} {xs : List Value} (h : W.ownsRow lo e sz v n xs) : ∀ b, v.ownBlock = some b → lo ≤ b ∧ b < W.heap.size := by
  intro b hv
  rcases h.2 with ⟨rfl, _⟩ | ⟨g, cap, cur, rfl, hb, hg, _⟩
  · cases hv
  · have e1 : g = b := by simpa [Value.ownBlock] using hv
    subst e1
    exact ⟨hb, Blk.lt hg⟩
end Go.Proofs.YtlbffbkbkajciaaGreat
namespace Go.Proofs.YtlbffbkbkajciaaGreat
open Go.RowKit Go.Bs Go.Maps
set_option linter.unusedVariables false
set_option linter.unusedSimpArgs false

section
variable {w W : World} {ep : Int} {a : Option Addr} {n c : Nat} {J : List UInt8} {M : List MarkD} {aJ : Option Addr} {cJ : Nat} {aM : Option Addr} {cM : Nat}
theorem SegI.far {v : Value} {u : Nat} {xs : List Value} {e : TypeId} {sz : Nat} (h : W.ownsRow (w.heap.size + 3) e sz v u xs) {b : Nat} (hb : b < w.heap.size + 3) : v.ownBlock ≠ some b := fun e => by have := (own_lt h b e).1; omega
end
end Go.Proofs.YtlbffbkbkajciaaGreat
namespace Go.Proofs.YtlbffbkbkajciaaGreat
open Go.RowKit Go.Bs Go.Maps
set_option linter.unusedVariables false
set_option linter.unusedSimpArgs false

set_option maxRecDepth 100000 in
set_option maxHeartbeats 1600000 in
theorem ref07_into (c : Nat) (hc : c < 4294967296) (x : UInt8) (w : World) :
    Calls Tryz.prog 243 #[.int .u32 c, .int .u8 (x.toNat : Int)] w fun r w' => r = .returned (.int .u32 (crcByte c x : Nat)) ∧ w = w' := by
  have e1 := into_u32 hc x
  have hcb : Hid (crcByte c x = iter4 8 (c ^^^ x.toNat)) := hid rfl
  have hy : c ^^^ x.toNat < 4294967296 := xor_lt32 hc (by have := x.toNat_lt; omega)
  generalize c ^^^ x.toNat = y at *
  go_enter Tryz.func243, Tryz.ntmps243
  go_wp2_with fail
  go_loopw [0, 5] (fun s i wr => ∃ k : Nat, k ≤ 8 ∧ i = .int .i64 k ∧ s = .int .u32 (iter4 k y : Nat) ∧ wr = w) (fun _ i _ => 8 - (intOf i).toNat)
  case atStart => exact ⟨0, by omega, rfl, rfl, rfl⟩
  case round =>
    obtain ⟨k, hk, rfl, rfl, rfl⟩ := hrel
    by_cases hlt : k < 8
    · have hd := iter4_lt hy k
      have hst : Hid (iter4 (k + 1) y = crcStep (iter4 k y)) := hid rfl
      have i1 : (k : Int) < 8 := by omega
      generalize iter4 k y = d at *
      by_cases h1 : d % 2 = 1
      · have d1 : ((d : Int) % 2 == 1) = true := by simp; omega
        have hff : Hid (((crcStep d : Nat) : Int) = bits BinOp.xor IntKind.u32 ((d : Int) / 2) 2197175160) := hid (by rw [poly_u32 hd]; unfold crcStep; rw [if_pos h1])
        clear h1
        go_wp2
        go_roundw
        case rel => exact ⟨k + 1, by omega, by go_num, by rw [hst.out, hff.out], trivial⟩
        case measure => simp [intOf]; omega
      · have d1 : ((d : Int) % 2 == 1) = false := beq_eq_false_iff_ne.2 (by omega)
        have hff : Hid (((crcStep d : Nat) : Int) = (d : Int) / 2) := hid (by unfold crcStep; rw [if_neg h1]; rfl)
        clear h1
        go_wp2
        go_roundw
        case rel => exact ⟨k + 1, by omega, by go_num, by rw [hst.out, hff.out], trivial⟩
        case measure => simp [intOf]; omega
    · obtain rfl : k = 8 := by omega
      go_wp2
      go_ret
      exact ⟨by rw [hcb.out]; rfl, rfl⟩

set_option maxRecDepth 100000 in
set_option maxHeartbeats 1600000 in
theorem ref07_sum (D : List UInt8) (ad : Option Addr) (nd cd : Nat) (w : World) (hD : rBytes.r (· < w.heap.size) w [.slice ad nd cd] D) :
    Calls Tryz.prog 136 #[.slice ad nd cd] w fun r w' => r = .returned (.int .u32 (crcSum D : Nat)) ∧ w = w' := by
  obtain ⟨rfl, hm, _, _⟩ := sl_len hD
  have HD := hid hD; clear hD
  have hlt := crcAdd_lt D (c := 4294967295) (by decide)
  have hff : Hid (crcSum D = 4294967295 - crcAdd 4294967295 D) := hid rfl
  have HA : Hid (Calls Tryz.prog 207 #[.int .u32 4294967295, .slice ad D.length cd] w fun r w' => r = .returned (.int .u32 (crcAdd 4294967295 D : Nat)) ∧ w = w') := hid (by
    clear hff hlt
    go_enter Tryz.func207, Tryz.ntmps207
    go_wp2_with fail
    go_loopw [0, 5] (fun s i wr => ∃ (k d : Nat), k ≤ D.length ∧ i = .int .i64 k ∧ s = .int .u32 d ∧ d < 4294967296 ∧ Hid (crcAdd 4294967295 D = crcAdd d (D.drop k)) ∧ wr = w) (fun _ i _ => D.length - (intOf i).toNat)
    case atStart => exact ⟨0, 4294967295, Nat.zero_le _, rfl, rfl, by decide, hid rfl, rfl⟩
    case round =>
      obtain ⟨k, d, hk, rfl, rfl, hd, hf, rfl⟩ := hrel
      by_cases hlt : k < D.length
      · obtain ⟨b, o, hA, hbb, hx⟩ := byte_at HD.out hlt
        subst hA
        have hst := hid (show crcAdd d (D.drop k) = crcAdd (crcByte d D[k]) (D.drop (k + 1)) by rw [List.drop_eq_getElem_cons hlt]; rfl)
        generalize D[k] = x at *
        have i1 : (k : Int) < (D.length : Int) := by omega
        have hb1 := crcByte_lt (x := x) hd
        have HI := hid (ref07_into d hd x wr)
        generalize crcByte d x = q at *
        go_wp2_with fail
        refine HI.out.mono ?_
        rintro r w1 ⟨rfl, rfl⟩
        go_wp2
        go_roundw
        case rel => exact ⟨k + 1, q, by omega, by go_num, rfl, hb1, hid (by rw [hf.out, hst.out]), trivial⟩
        case measure => simp [intOf]; omega
      · obtain rfl : k = D.length := by omega
        have hff : Hid (crcAdd 4294967295 D = d) := hid (by rw [hf.out, List.drop_length]; rfl)
        go_wp2
        go_ret
        exact ⟨by rw [hff.out]; rfl, rfl⟩)
  generalize crcAdd 4294967295 D = s at *
  go_enter Tryz.func136, Tryz.ntmps136
  go_wp2_with fail
  refine HA.out.mono ?_
  rintro r w1 ⟨rfl, rfl⟩
  have e2 : 0 ≤ 4294967295 - (s : Int) := by omega
  go_wp2
  go_ret
  exact ⟨by rw [hff.out]; simp; omega, rfl⟩
end Go.Proofs.YtlbffbkbkajciaaGreat
namespace Go.Proofs.YtlbffbkbkajciaaGreat
open Go.RowKit Go.Bs Go.Maps
set_option linter.unusedVariables false
set_option linter.unusedSimpArgs false

set_option maxRecDepth 100000 in
set_option maxHeartbeats 1600000 in
theorem ref03_fixed (x : Nat) (hx : x < 18446744073709551616) (w : World) :
    Calls Tryz.prog 135 #[.int .u64 x, .int .i64 4] w fun r w' => ∃ v, r = .returned v ∧ OwnB w' w.heap.size v (fixedB 4 x) ∧ Below w.heap.size w w' := by
  obtain ⟨i0, hi, hz0, hz1, hz2⟩ := info_parts info8
  go_enter Tryz.func135, Tryz.ntmps135
  go_wp2_with fail
  go_loopw [5, 6] (fun o i wr => ∃ k : Nat, k ≤ 4 ∧ i = .int .i64 k ∧ wr.ownsRow w.heap.size 5 1 o k (byteCells (fixedB k x)) ∧ Below w.heap.size w wr) (fun _ i _ => 4 - (intOf i).toNat)
  case atStart => exact ⟨0, Nat.zero_le _, rfl, ⟨rfl, .inl ⟨rfl, rfl⟩⟩, Below.refl _ _⟩
  case round =>
    obtain ⟨k, hk, rfl, hown, hb⟩ := hrel
    have hbs := hb.size
    obtain ⟨aJ, cJ, rfl⟩ := own_form hown
    have HO := hid hown
    clear hown
    by_cases hlt : k < 4
    · have i1 : (k : Int) < 4 := by omega
      have i2 : (k : Int) < 8 := by omega
      have d1 : decide ((k : Int) < 4) = true := decide_eq_true i1
      have d2 : decide ((k : Int) < 8) = true := decide_eq_true i2
      have hp : (2 : Int) ^ (8 * k) = ((256 ^ k : Nat) : Int) := by
        rcases k with _ | _ | _ | _ | k
        · rfl
        · rfl
        · rfl
        · rfl
        · omega
      have hfin := hid (fixedB_snoc k x)
      have hby : Hid ((x : Int) / 2 ^ (8 * k) % 256 = ((UInt8.ofNat (x / 256 ^ k % 256)).toNat : Int)) := hid (by
        rw [hp, ← byte_small (by omega)]
        rfl)
      clear hp
      go_wp2_with (at_builtin; (refine wpList_append_src rfl _ _ _ rfl w.heap.size 5 i0 (.int .u8 0) 1 1 Tryz.underlying25 hi hz0 hz1 hz2 rfl (by decide) (.slice aJ k cJ) k (byteCells (fixedB k x)) rfl (own_below HO.out (by (repeat (first | with_reducible exact Below.refl _ _ | with_reducible assumption | (with_reducible refine below_alloc ?_ _) | (with_reducible refine Below.setCell ?_ (by first | omega | (simp; done) | (simp; omega)) _) | (with_reducible refine Below.drew ?_) | (with_reducible refine below_drewN ?_ _) | (refine below_then (by with_reducible assumption) ?_))))) (some ⟨wr.heap.size, 0, none⟩) 1 1 [.int .u8 ((x : Int) / 2 ^ (8 * k) % 256)] rfl (src_new1 wr 5 _ rfl rfl rfl) (by intro u hu; simp at hu; subst hu; rfl) (by simp only [maxLen]; omega) (by omega) (by simp; omega) ?_; intro v' w1 hown1 hgrow1 hat1; have HG := hid hgrow1; have HO1 := hid hown1; clear hgrow1 hown1 hat1))
      have ho := HO1.out
      rw [hby.out, byteCells_snoc, ← hfin.out] at ho
      have hB : Below w.heap.size w w1 := Below.grown (by (repeat (first | with_reducible exact Below.refl _ _ | with_reducible assumption | (with_reducible refine below_alloc ?_ _) | (with_reducible refine Below.setCell ?_ (by first | omega | (simp; done) | (simp; omega)) _) | (with_reducible refine Below.drew ?_) | (with_reducible refine below_drewN ?_ _) | (refine below_then (by with_reducible assumption) ?_)))) HG.out (by simp; omega) (fun g e => (HO.out.lt g e).1)
      have HO2 := hid ho
      clear ho
      go_wp2_with fail
      go_roundw
      case rel => exact ⟨k + 1, by omega, by go_num, HO2.out, hB⟩
      case measure => simp [intOf]; omega
    · obtain rfl : k = 4 := by omega
      go_wp2
      go_ret
      exact ⟨_, rfl, HO.out, hb⟩

set_option maxRecDepth 100000 in
set_option maxHeartbeats 1600000 in
theorem ref08_bytes (D : List UInt8) (ad : Option Addr) (nd cd : Nat) (w : World) (hD : rBytes.r (· < w.heap.size) w [.slice ad nd cd] D) (hm : D.length ≤ 2097152) :
    Calls Tryz.prog 47 #[.slice ad nd cd] w fun r w' => ∃ v, r = .returned v ∧ OwnB w' w.heap.size v (frameB D) ∧ Below w.heap.size w w' := by
  obtain ⟨rfl, _, _, _⟩ := sl_len hD
  obtain ⟨i0, hi, hz0, hz1, hz2⟩ := info_parts info8
  have HB := hid (ref06_own w D ad _ cd hD (by omega))
  have HS := hid (fun (W : World) (hW : Below w.heap.size w W) => ref07_sum D ad _ cd W (lift hD hW))
  have HL := crcSum_lt D
  have hfb : Hid (frameB D = blobB D ++ fixedB 4 (crcSum D)) := hid rfl
  have hbl := blobB_len D
  have hvl := (varB_len D.length).1
  have hbl2 : (blobB D).length ≤ 3000000 := by omega
  have hfl : (fixedB 4 (crcSum D)).length ≤ 4 := by rw [fixedB_len]; omega
  have HF := hid (fun W : World => ref03_fixed (crcSum D) (by omega) W)
  have HON := hid (byteCells_one (fixedB 4 (crcSum D)))
  generalize fixedB 4 (crcSum D) = X at *
  generalize crcSum D = s at *
  generalize frameB D = K at *
  generalize blobB D = B at *
  have e1 : (s : Int) % 18446744073709551616 = s := by omega
  clear hD hbl hvl
  go_enter Tryz.func47, Tryz.ntmps47
  go_wp2_with fail
  refine HB.out.mono ?_
  rintro r w1 ⟨v, rfl, ho, hb1⟩
  obtain ⟨a1, c1, rfl⟩ := own_form ho
  have HO := hid ho
  clear ho
  go_wp2_with fail
  refine (HS.out _ hb1).mono ?_
  rintro r w2 ⟨rfl, rfl⟩
  go_wp2_with fail
  refine (HF.out _).mono ?_
  rintro r w3 ⟨v3, rfl, ho3, hb3⟩
  obtain ⟨a3, c3, rfl⟩ := ho3.form
  have HSX := hid (src_bytes (own_bytes rfl ho3))
  have HO3 := hid (own_below HO.out hb3)
  have hb03 := below_then hb3 hb1
  have hz03 := hb03.size
  clear ho3
  go_wp2_with (at_builtin; (refine wpList_append_src rfl _ _ _ rfl w.heap.size 5 i0 (.int .u8 0) 1 1 Tryz.underlying25 hi hz0 hz1 hz2 rfl (by decide) (.slice a1 B.length c1) B.length (byteCells B) rfl HO3.out a3 X.length c3 (byteCells X) rfl HSX.out HON.out (by simp only [maxLen]; omega) (by omega) hz03 ?_; intro v' w4 hown4 hgrow4 hat4; have HG := hid hgrow4; have HO4 := hid hown4; clear hgrow4 hown4 hat4))
  have hB : Below w.heap.size w w4 := Below.grown hb03 HG.out hz03 (fun g e => (HO3.out.lt g e).1)
  have hO := OwnB.app HO4.out
  rw [← hfb.out] at hO
  have HO5 := hid hO
  clear hO
  go_wp2
  go_ret
  exact ⟨_, rfl, HO5.out, hB⟩
end Go.Proofs.YtlbffbkbkajciaaGreat
namespace Go.Proofs.YtlbffbkbkajciaaGreat
open Go.RowKit Go.Bs Go.Maps
set_option linter.unusedVariables false
set_option linter.unusedSimpArgs false

theorem OwnB.appK {w : World} {base : Nat} {v : Value} {L D : List UInt8} (hL : L.length = 1) (h : w.ownsRow base 5 1 v (1 + D.length) (byteCells L ++ byteCells D)) : OwnB w base v (L ++ D) := by
  unfold OwnB
  rw [List.length_append, hL, ← byteCells_app3]
  exact h
def rpcBytes (m : Msg) : List UInt8 × Int := if rpcR m = true then (frameB (payB m), 0) else ([], 3)
theorem rpcBytes_len {m : Msg} (h : rpcR m = true) : (frameB (payB m)).length ≤ 49035 + m.data.length := by
  have h1 := payB_len h
  have h2 := (varB_len (payB m).length).1
  rw [frameB_len, blobB_len]
  omega

set_option maxRecDepth 100000 in
set_option maxHeartbeats 6400000 in
theorem rpc_put (w : World) {g base most : Nat} {J : List UInt8} {a : Option Addr} {c : Nat} (h : PenAt w g base most J a c) (m : Msg) (a1 : Option Addr) (c1 : Nat) (a2 : Option Addr) (c2 : Nat) (a3 : Option Addr) (c3 : Nat) (a4 : Option Addr) (c4 : Nat) (hd : MsgIn (· < w.heap.size) w m a1 c1 a2 c2 a3 c3 a4 c4) (hbk : ∀ x ∈ m.links, x.backs.length ≤ 1000000) (hln : m.data.length ≤ 2000000) (hR : rpcR m = true)
    (hfit : J.length + (frameB (payB m)).length ≤ most) (hlen : J.length + (frameB (payB m)).length ≤ 100000000000000) :
    Calls Tryz.prog 29 #[.pointer (some ⟨g, 0, none⟩), .agg #[.int .i64 m.kind, .int .u64 m.epoch, .int .u64 m.seq, .int .u64 m.pos, .int .i64 m.count, .int .i64 m.state, .slice a1 m.streams.length c1, .slice a2 m.links.length c2, .slice a3 m.data.length c3, .int .u64 m.sea.epoch, .int .u64 m.sea.node, .int .u64 m.sea.tail, .int .u64 m.proj.epoch, .slice a4 m.proj.stripes.length c4]] w fun r w' => r = .returned (.tuple #[]) ∧ PenStep w g base most (J ++ frameB (payB m)) a w' := by
  have HPY := hid (fun (W : World) (hW : Below w.heap.size w W) => rpc_payload W m a1 c1 a2 c2 a3 c3 a4 c4 (MsgIn.lift hd hW) hbk (by omega))
  unfold payBytes at HPY
  rw [hR] at HPY
  simp only [if_true] at HPY
  have hpl := payB_len hR
  have HP := hid h
  have HFR := hid (fun (W : World) (hW : Below w.heap.size w W) (ad : Option Addr) (cd : Nat) (hD : rBytes.r (fun q => q < W.heap.size ∧ ¬ PenF g a q) W [.slice ad (payB m).length cd] (payB m)) => frame_put W (HP.out.later hW) (payB m) ad _ cd hD (by omega) hfit hlen)
  have hb0 : Below w.heap.size w (w.alloc (.cells #[.int .i64 m.kind, .int .u64 m.epoch, .int .u64 m.seq, .int .u64 m.pos, .int .i64 m.count, .int .i64 m.state, .slice a1 m.streams.length c1, .slice a2 m.links.length c2, .slice a3 m.data.length c3, .int .u64 m.sea.epoch, .int .u64 m.sea.node, .int .u64 m.sea.tail, .int .u64 m.proj.epoch, .slice a4 m.proj.stripes.length c4] 32)) := by (repeat (first | exact Below.refl _ _ | assumption | (refine below_alloc ?_ _) | (refine Below.setCell ?_ (by first | omega | (simp; done) | (simp; omega)) _) | (refine Below.drew ?_) | (refine below_drewN ?_ _) | (refine below_then (by assumption) ?_)))
  generalize payB m = P at *
  clear h hd hbk hR hpl hfit hlen
  go_enter Tryz.func29, Tryz.ntmps29
  go_wp2_with fail
  generalize (w.alloc (.cells #[.int .i64 m.kind, .int .u64 m.epoch, .int .u64 m.seq, .int .u64 m.pos, .int .i64 m.count, .int .i64 m.state, .slice a1 m.streams.length c1, .slice a2 m.links.length c2, .slice a3 m.data.length c3, .int .u64 m.sea.epoch, .int .u64 m.sea.node, .int .u64 m.sea.tail, .int .u64 m.proj.epoch, .slice a4 m.proj.stripes.length c4] 32)) = w0 at *
  refine (HPY.out _ hb0).mono ?_
  rintro r w1 ⟨v1, rfl, hr1, hb1⟩
  obtain ⟨e1, k1, hv1, hr1', _⟩ := sl_form hr1
  simp only [List.cons.injEq, and_true] at hv1
  subst hv1
  have hbw1 := below_then hb1 hb0
  have hs0 := hb0.size
  have HFF := hid (HFR.out w1 hbw1 e1 k1 (rBytes.mono hr1' fun q hq => ⟨hq.2, fun hf => by have := (HP.out.own_lt hf).2; have := hq.1; omega⟩))
  clear hr1 hr1' hb1
  go_wp2_with fail
  refine HFF.out.mono ?_
  rintro r w2 ⟨rfl, hst⟩
  have HST := hid (PenStep.later hbw1 hst)
  clear hst
  go_wp2_with fail
  first | go_end0 | refine bodyPost_ret (results_none rfl _ _ _) rfl ?_
  exact ⟨rfl, HST.out⟩

set_option maxRecDepth 100000 in
set_option maxHeartbeats 6400000 in
theorem rpc_put_bad (w : World) {g base most : Nat} {J : List UInt8} {a : Option Addr} {c : Nat} (h : PenAt w g base most J a c) (m : Msg) (a1 : Option Addr) (c1 : Nat) (a2 : Option Addr) (c2 : Nat) (a3 : Option Addr) (c3 : Nat) (a4 : Option Addr) (c4 : Nat) (hd : MsgIn (· < w.heap.size) w m a1 c1 a2 c2 a3 c3 a4 c4) (hbk : ∀ x ∈ m.links, x.backs.length ≤ 1000000) (hln : m.data.length ≤ 2000000) (hR : rpcR m = false) :
    Calls Tryz.prog 29 #[.pointer (some ⟨g, 0, none⟩), .agg #[.int .i64 m.kind, .int .u64 m.epoch, .int .u64 m.seq, .int .u64 m.pos, .int .i64 m.count, .int .i64 m.state, .slice a1 m.streams.length c1, .slice a2 m.links.length c2, .slice a3 m.data.length c3, .int .u64 m.sea.epoch, .int .u64 m.sea.node, .int .u64 m.sea.tail, .int .u64 m.proj.epoch, .slice a4 m.proj.stripes.length c4]] w fun r w' => r = .returned (.tuple #[]) ∧ Blk w' g 87 #[.int .i64 most, .slice a J.length c, .int .i64 3] ∧ Tch (· = g) w w' := by
  have HPY := hid (fun (W : World) (hW : Below w.heap.size w W) => rpc_payload W m a1 c1 a2 c2 a3 c3 a4 c4 (MsgIn.lift hd hW) hbk (by omega))
  unfold payBytes at HPY
  rw [hR] at HPY
  simp only [Bool.false_eq_true, if_false] at HPY
  have HF := hid (fun (W : World) (hW : Below w.heap.size w W) => pen_fail W (h.later hW) 3)
  have hb0 : Below w.heap.size w (w.alloc (.cells #[.int .i64 m.kind, .int .u64 m.epoch, .int .u64 m.seq, .int .u64 m.pos, .int .i64 m.count, .int .i64 m.state, .slice a1 m.streams.length c1, .slice a2 m.links.length c2, .slice a3 m.data.length c3, .int .u64 m.sea.epoch, .int .u64 m.sea.node, .int .u64 m.sea.tail, .int .u64 m.proj.epoch, .slice a4 m.proj.stripes.length c4] 32)) := by (repeat (first | exact Below.refl _ _ | assumption | (refine below_alloc ?_ _) | (refine Below.setCell ?_ (by first | omega | (simp; done) | (simp; omega)) _) | (refine Below.drew ?_) | (refine below_drewN ?_ _) | (refine below_then (by assumption) ?_)))
  clear h hd hbk hR
  go_enter Tryz.func29, Tryz.ntmps29
  go_wp2_with fail
  generalize (w.alloc (.cells #[.int .i64 m.kind, .int .u64 m.epoch, .int .u64 m.seq, .int .u64 m.pos, .int .i64 m.count, .int .i64 m.state, .slice a1 m.streams.length c1, .slice a2 m.links.length c2, .slice a3 m.data.length c3, .int .u64 m.sea.epoch, .int .u64 m.sea.node, .int .u64 m.sea.tail, .int .u64 m.proj.epoch, .slice a4 m.proj.stripes.length c4] 32)) = w0 at *
  refine (HPY.out _ hb0).mono ?_
  rintro r w1 ⟨v1, rfl, hr1, hb1⟩
  obtain ⟨e1, k1, hv1, hr1', _⟩ := sl_form hr1
  simp only [List.cons.injEq, and_true] at hv1
  subst hv1
  have hbw1 := below_then hb1 hb0
  clear hr1 hr1' hb1
  go_wp2_with fail
  refine (HF.out _ hbw1).mono ?_
  rintro r w2 ⟨rfl, hB2, hT2⟩
  have HB2 := hid hB2
  have HT2 := hid hT2
  clear hB2 hT2
  go_wp2_with fail
  first | go_end0 | refine bodyPost_ret (results_none rfl _ _ _) rfl ?_
  exact ⟨rfl, HB2.out, Tch.trans (F := (· = g)) (Tch.of_later hbw1) HT2.out (fun _ _ h => h)⟩

set_option maxRecDepth 100000 in
set_option maxHeartbeats 6400000 in
theorem rpc_bytes (w : World) (m : Msg) (a1 : Option Addr) (c1 : Nat) (a2 : Option Addr) (c2 : Nat) (a3 : Option Addr) (c3 : Nat) (a4 : Option Addr) (c4 : Nat) (hd : MsgIn (· < w.heap.size) w m a1 c1 a2 c2 a3 c3 a4 c4) (hbk : ∀ x ∈ m.links, x.backs.length ≤ 1000000) (hln : m.data.length ≤ 2000000) :
    Calls Tryz.prog 27 #[.agg #[.int .i64 m.kind, .int .u64 m.epoch, .int .u64 m.seq, .int .u64 m.pos, .int .i64 m.count, .int .i64 m.state, .slice a1 m.streams.length c1, .slice a2 m.links.length c2, .slice a3 m.data.length c3, .int .u64 m.sea.epoch, .int .u64 m.sea.node, .int .u64 m.sea.tail, .int .u64 m.proj.epoch, .slice a4 m.proj.stripes.length c4]] w fun r w' => ∃ v, r = .returned (.tuple #[v, .int .i64 (rpcBytes m).2]) ∧ rBytes.r (fun q => w.heap.size ≤ q ∧ q < w'.heap.size) w' [v] (rpcBytes m).1 ∧ Below w.heap.size w w' := by
  have HPY := hid (fun (W : World) (hW : Below w.heap.size w W) => rpc_payload W m a1 c1 a2 c2 a3 c3 a4 c4 (MsgIn.lift hd hW) hbk (by omega))
  have hb0 : Below w.heap.size w (w.alloc (.cells #[.int .i64 m.kind, .int .u64 m.epoch, .int .u64 m.seq, .int .u64 m.pos, .int .i64 m.count, .int .i64 m.state, .slice a1 m.streams.length c1, .slice a2 m.links.length c2, .slice a3 m.data.length c3, .int .u64 m.sea.epoch, .int .u64 m.sea.node, .int .u64 m.sea.tail, .int .u64 m.proj.epoch, .slice a4 m.proj.stripes.length c4] 32)) := by (repeat (first | exact Below.refl _ _ | assumption | (refine below_alloc ?_ _) | (refine Below.setCell ?_ (by first | omega | (simp; done) | (simp; omega)) _) | (refine Below.drew ?_) | (refine below_drewN ?_ _) | (refine below_then (by assumption) ?_)))
  unfold rpcBytes
  unfold payBytes at HPY
  cases hR : rpcR m
  · rw [hR] at HPY
    simp only [Bool.false_eq_true, if_false] at HPY
    rw [if_neg (by simp)]
    clear hd hbk hR
    go_enter Tryz.func27, Tryz.ntmps27
    go_wp2_with fail
    generalize (w.alloc (.cells #[.int .i64 m.kind, .int .u64 m.epoch, .int .u64 m.seq, .int .u64 m.pos, .int .i64 m.count, .int .i64 m.state, .slice a1 m.streams.length c1, .slice a2 m.links.length c2, .slice a3 m.data.length c3, .int .u64 m.sea.epoch, .int .u64 m.sea.node, .int .u64 m.sea.tail, .int .u64 m.proj.epoch, .slice a4 m.proj.stripes.length c4] 32)) = w0 at *
    refine (HPY.out _ hb0).mono ?_
    rintro r w1 ⟨v1, rfl, hr1, hb1⟩
    obtain ⟨e1, k1, hv1, hr1', _⟩ := sl_form hr1
    simp only [List.cons.injEq, and_true] at hv1
    subst hv1
    have hbw1 := below_then hb1 hb0
    clear hr1 hr1' hb1
    go_wp2_with fail
    go_ret2
    exact ⟨_, rfl, empty_bytes2 rfl rfl (by omega), hbw1⟩
  · rw [hR] at HPY
    simp only [if_true] at HPY
    rw [if_pos rfl]
    have hpl := payB_len hR
    have HFB := hid (fun (W : World) (ad : Option Addr) (cd : Nat) (hD : rBytes.r (· < W.heap.size) W [.slice ad (payB m).length cd] (payB m)) => frame_bytes W (payB m) ad _ cd hD (by omega))
    generalize payB m = P at *
    clear hd hbk hR hpl
    go_enter Tryz.func27, Tryz.ntmps27
    go_wp2_with fail
    generalize (w.alloc (.cells #[.int .i64 m.kind, .int .u64 m.epoch, .int .u64 m.seq, .int .u64 m.pos, .int .i64 m.count, .int .i64 m.state, .slice a1 m.streams.length c1, .slice a2 m.links.length c2, .slice a3 m.data.length c3, .int .u64 m.sea.epoch, .int .u64 m.sea.node, .int .u64 m.sea.tail, .int .u64 m.proj.epoch, .slice a4 m.proj.stripes.length c4] 32)) = w0 at *
    refine (HPY.out _ hb0).mono ?_
    rintro r w1 ⟨v1, rfl, hr1, hb1⟩
    obtain ⟨e1, k1, hv1, hr1', _⟩ := sl_form hr1
    simp only [List.cons.injEq, and_true] at hv1
    subst hv1
    have hbw1 := below_then hb1 hb0
    have HFF := hid (HFB.out w1 e1 k1 (rBytes.mono hr1' fun q hq => hq.2))
    have hs1 := hbw1.size
    clear hr1 hr1' hb1
    go_wp2_with fail
    refine HFF.out.mono ?_
    rintro r w2 ⟨x, rfl, ho, hb2⟩
    have hbe := below_then hb2 hbw1
    have HV := hid (rBytes.mono (S' := fun q => w.heap.size ≤ q ∧ q < w2.heap.size) (own_bytes2 rfl ho) fun q hq => ⟨by have := hq.1; omega, hq.2⟩)
    clear ho
    go_wp2_with fail
    go_ret2
    exact ⟨_, rfl, HV.out, hbe⟩

set_option maxRecDepth 100000 in
set_option maxHeartbeats 6400000 in
theorem ref29_payload (w : World) (m : Msg) (a1 : Option Addr) (c1 : Nat) (a2 : Option Addr) (c2 : Nat) (a3 : Option Addr) (c3 : Nat) (a4 : Option Addr) (c4 : Nat) (hd : MsgIn (· < w.heap.size) w m a1 c1 a2 c2 a3 c3 a4 c4) (hbk : ∀ x ∈ m.links, x.backs.length ≤ 1000000) (hR : rpcR m = true) :
    Calls Tryz.prog 32 #[.agg #[.int .i64 m.kind, .int .u64 m.epoch, .int .u64 m.seq, .int .u64 m.pos, .int .i64 m.count, .int .i64 m.state, .slice a1 m.streams.length c1, .slice a2 m.links.length c2, .slice a3 m.data.length c3, .int .u64 m.sea.epoch, .int .u64 m.sea.node, .int .u64 m.sea.tail, .int .u64 m.proj.epoch, .slice a4 m.proj.stripes.length c4]] w fun r w' => ∃ v, r = .returned v ∧ OwnB w' w.heap.size v (payB m) ∧ Below w.heap.size w w' := by
  obtain ⟨i0, hi, hz0, hz1, hz2⟩ := info_parts info8
  have hR' := hR
  simp only [rpcR, Bool.and_eq_true] at hR'
  obtain ⟨hm, hep⟩ := hR'
  have hk : 1 ≤ m.kind ∧ m.kind ≤ 14 := (msgR_parts hm).kind
  have hdl := (msgR_parts hm).data
  have hml := msgB_len hm
  have hvl := (varB_len m.epoch.toNat).1
  have hsl := (varB_len m.seq.toNat).1
  have HE := hid (ref04_ownM m.epoch hd.epoch)
  have HS := hid (ref04_ownM m.seq hd.seq)
  have HB := hid (fun (W : World) (hW : Below w.heap.size w W) => ref28_bytes W m a1 c1 a2 c2 a3 c3 a4 c4 (MsgIn.lift hd hW) hbk hm)
  have hpb : payB m = [UInt8.ofNat m.kind.toNat] ++ varB m.epoch.toNat ++ varB m.seq.toNat ++ msgB m := rfl
  rw [hpb]
  have HOE := hid (byteCells_one (varB m.epoch.toNat))
  have HOS := hid (byteCells_one (varB m.seq.toNat))
  have HOK := hid (byteCells_one (msgB m))
  have hkz : 0 ≤ m.kind := by omega
  have hky : m.kind ≤ 14 := hk.2
  have hkk : m.kind = ((UInt8.ofNat m.kind.toNat).toNat : Int) := by
    have := byte_small (x := m.kind.toNat) (by omega)
    rw [toNat_cast hkz] at this
    exact this
  have hcell : byteCells [UInt8.ofNat m.kind.toNat] = [.int .u8 m.kind] := by simp only [byteCells, List.map_cons, List.map_nil]; rw [← hkk]
  have hkl : [UInt8.ofNat m.kind.toNat].length = 1 := rfl
  generalize [UInt8.ofNat m.kind.toNat] = KB at *
  generalize varB m.epoch.toNat = VE at *
  generalize varB m.seq.toNat = VS at *
  generalize msgB m = K at *
  have HOWN := hid (fun (W : World) (b g : Nat) (hb : b ≤ g) (hB : Blk W g 5 #[.int .u8 m.kind]) => (by rw [hcell]; exact own_new1 hb hB : W.ownsRow b 5 1 (.slice (some ⟨g, 0, none⟩) 1 1) 1 (byteCells KB)))
  have HWL : Hid (IntKind.u8.wrap m.kind = m.kind) := hid (by rw [IntKind.wrap_u8]; omega)
  have HBX : Hid (Blk (w.alloc (.cells #[.int .i64 m.kind, .int .u64 m.epoch, .int .u64 m.seq, .int .u64 m.pos, .int .i64 m.count, .int .i64 m.state, .slice a1 m.streams.length c1, .slice a2 m.links.length c2, .slice a3 m.data.length c3, .int .u64 m.sea.epoch, .int .u64 m.sea.node, .int .u64 m.sea.tail, .int .u64 m.proj.epoch, .slice a4 m.proj.stripes.length c4] 32)) w.heap.size 32 #[.int .i64 m.kind, .int .u64 m.epoch, .int .u64 m.seq, .int .u64 m.pos, .int .i64 m.count, .int .i64 m.state, .slice a1 m.streams.length c1, .slice a2 m.links.length c2, .slice a3 m.data.length c3, .int .u64 m.sea.epoch, .int .u64 m.sea.node, .int .u64 m.sea.tail, .int .u64 m.proj.epoch, .slice a4 m.proj.stripes.length c4]) := hid (Blk.new w _ _)
  have hb0 : Below w.heap.size w (w.alloc (.cells #[.int .i64 m.kind, .int .u64 m.epoch, .int .u64 m.seq, .int .u64 m.pos, .int .i64 m.count, .int .i64 m.state, .slice a1 m.streams.length c1, .slice a2 m.links.length c2, .slice a3 m.data.length c3, .int .u64 m.sea.epoch, .int .u64 m.sea.node, .int .u64 m.sea.tail, .int .u64 m.proj.epoch, .slice a4 m.proj.stripes.length c4] 32)) := by (repeat (first | exact Below.refl _ _ | assumption | (refine below_alloc ?_ _) | (refine Below.setCell ?_ (by first | omega | (simp; done) | (simp; omega)) _) | (refine Below.drew ?_) | (refine below_drewN ?_ _) | (refine below_then (by assumption) ?_)))
  have hs0 : w.heap.size < (w.alloc (.cells #[.int .i64 m.kind, .int .u64 m.epoch, .int .u64 m.seq, .int .u64 m.pos, .int .i64 m.count, .int .i64 m.state, .slice a1 m.streams.length c1, .slice a2 m.links.length c2, .slice a3 m.data.length c3, .int .u64 m.sea.epoch, .int .u64 m.sea.node, .int .u64 m.sea.tail, .int .u64 m.proj.epoch, .slice a4 m.proj.stripes.length c4] 32)).heap.size := by simp
  have HKL := hid hkl
  clear hd hbk hR hm hep hk hpb hcell hkk
  go_enter Tryz.func32, Tryz.ntmps32
  go_upto_region 1 with (fail)
  generalize (w.alloc (.cells #[.int .i64 m.kind, .int .u64 m.epoch, .int .u64 m.seq, .int .u64 m.pos, .int .i64 m.count, .int .i64 m.state, .slice a1 m.streams.length c1, .slice a2 m.links.length c2, .slice a3 m.data.length c3, .int .u64 m.sea.epoch, .int .u64 m.sea.node, .int .u64 m.sea.tail, .int .u64 m.proj.epoch, .slice a4 m.proj.stripes.length c4] 32)) = w0 at *
  have x0 : w0.cell? ⟨w.heap.size, 0, none⟩ = some (.int .i64 m.kind) := HBX.out.cell 0
  have x1 : w0.cell? ⟨w.heap.size, 1, none⟩ = some (.int .u64 m.epoch) := HBX.out.cell 1
  have HB0 := hid hb0
  clear hb0
  go_cut [3] from 4 to 11 (fun v V => ∃ a3 c3, v = .slice a3 (1 + VE.length) c3 ∧ OwnB V w0.heap.size v (KB ++ VE) ∧ Below w0.heap.size w0 V)
  case first =>
    refine wp_region_held_drew (S := fun w' => w'.cell? ⟨w.heap.size, 0, none⟩ = some (.int .i64 m.kind) ∧ w'.cell? ⟨w.heap.size, 1, none⟩ = some (.int .u64 m.epoch)) (by kernel_rfl) ⟨x0, x1⟩ (fun hHeld => ?_)
    refine wpAnyH_take (i := 0) (oi := _) (v := ?_) rfl (by decide +kernel) (by decide +kernel) (by decide +kernel) (fun _ _ _ h => h) (Or.inl ⟨by rfl, ?_⟩) (by assumption) ?_
    rotate_left
    · (intro w hSw; (try dsimp only at hSw); go_simp <;> with_reducible rfl)
    (try simp only [Act.put, List.setIfInBounds_toArray, List.set_cons_zero, List.set_cons_succ])
    refine wpAnyH_take (i := 1) (oi := _) (v := ?_) rfl (by decide +kernel) (by decide +kernel) (by decide +kernel) (fun _ _ _ h => h) (Or.inl ⟨by rfl, ?_⟩) (by assumption) ?_
    rotate_left
    · (intro w hSw; (try dsimp only at hSw); go_simp <;> with_reducible rfl)
    (try simp only [Act.put, List.setIfInBounds_toArray, List.set_cons_zero, List.set_cons_succ])
    refine wpAnyH_take (i := 2) (oi := _) (v := ?_) rfl (by decide +kernel) (by decide +kernel) (by decide +kernel) (fun _ _ _ h => h) (Or.inl ⟨by rfl, ?_⟩) (by assumption) ?_
    rotate_left
    · (intro w hSw; (try dsimp only at hSw); go_simp <;> with_reducible rfl)
    (try simp only [Act.put, List.setIfInBounds_toArray, List.set_cons_zero, List.set_cons_succ])
    rw [HWL.out]
    refine wpAnyH_take (i := 4) (oi := _) (v := ?_) rfl (by decide +kernel) (by decide +kernel) (by decide +kernel) (fun _ _ _ h => h) (Or.inl ⟨by rfl, ?_⟩) (by assumption) ?_
    rotate_left
    · (intro w hSw; (try dsimp only at hSw); go_simp <;> with_reducible rfl)
    (try simp only [Act.put, List.setIfInBounds_toArray, List.set_cons_zero, List.set_cons_succ])
    refine wpAnyH_take (i := 5) (oi := _) (v := ?_) rfl (by decide +kernel) (by decide +kernel) (by decide +kernel) (fun _ _ _ h => h) (Or.inl ⟨by rfl, ?_⟩) (by assumption) ?_
    rotate_left
    · (intro w hSw; (try dsimp only at hSw); go_simp <;> with_reducible rfl)
    (try simp only [Act.put, List.setIfInBounds_toArray, List.set_cons_zero, List.set_cons_succ])
    refine wpAnyH_ready (rs := [3, 6]) (by decide +kernel) (by simp) ?_
    refine AllReadyH.cons (o := _) rfl (fun K hK => ?_) (AllReadyH.cons (o := _) rfl (fun K hK => ?_) AllReadyH.nil)
    · go_simp
      refine hK.out _ _ ?_ (fun hHeld => ?_)
      · ((try dsimp only); first | exact ⟨by assumption, by assumption⟩ | (refine ⟨?_, ?_⟩ <;> (first | assumption | (go_keep; done))))
      clear hK K
      (try simp only [Act.put, List.setIfInBounds_toArray, List.set_cons_zero, List.set_cons_succ])
      refine wpAnyH_ready (rs := [6]) (by decide +kernel) (by simp) ?_
      refine AllReadyH.cons (o := _) rfl (fun K hK => ?_) AllReadyH.nil
      (go_simp; go_at_call 104; refine (HE.out _).mono ?_; rintro e1 w1 ⟨v1, rfl, hv1, hb1⟩; obtain ⟨a1x, c1x, rfl⟩ := own_form hv1; have hb01 : Below w0.heap.size w0 w1 := below_then hb1 (by (repeat (first | with_reducible exact Below.refl _ _ | with_reducible assumption | (with_reducible refine below_alloc ?_ _) | (with_reducible refine Below.setCell ?_ (by first | omega | (simp; done) | (simp; omega)) _) | (with_reducible refine Below.drew ?_) | (with_reducible refine below_drewN ?_ _) | (refine below_then (by with_reducible assumption) ?_)))); have HS1 := hid (src_bytes (own_bytes rfl hv1)); have HBX2 := (Blk.newAt (w0.drew) 5 #[.int .u8 m.kind] (g := w0.heap.size) rfl).later hb1; have HO1 := hid (HOWN.out _ w0.heap.size _ (Nat.le_refl _) HBX2); have X0 := (hb01.cell (p := ⟨w.heap.size, 0, none⟩) hs0).trans x0; have X1 := (hb01.cell (p := ⟨w.heap.size, 1, none⟩) hs0).trans x1; have hz1s := hb01.size; clear hv1 hb1 HBX2)
      refine hK.out _ _ ?_ (fun hHeld => ?_)
      · ((try dsimp only); first | exact ⟨by assumption, by assumption⟩ | (refine ⟨?_, ?_⟩ <;> (first | assumption | (go_keep; done))))
      clear hK K
      (try simp only [Act.put, List.setIfInBounds_toArray, List.set_cons_zero, List.set_cons_succ])
      refine wpAnyH_ready (rs := [7]) (by decide +kernel) (by simp) ?_
      refine AllReadyH.cons (o := _) rfl (fun K hK => ?_) AllReadyH.nil
      (refine step_append_src (by rfl) _ _ _ (by rfl) w0.heap.size 5 i0 (.int .u8 0) 1 1 Tryz.underlying25 hi hz0 hz1 hz2 rfl (by decide) (.slice (some ⟨w0.heap.size, 0, none⟩) 1 1) 1 (byteCells KB) (by rfl) (HO1.out) (a1x) (VE.length) (c1x) (byteCells VE) (by rfl) (HS1.out) HOE.out (by simp only [maxLen]; omega) (by omega) (by omega) ?_; intro a3 c3 w3 hown3 hgrow3 hat3; have HO3 := hid (OwnB.appK HKL.out hown3); have hbg3 : Below w0.heap.size w1 w3 := (Below.grown (Below.refl _ _) hgrow3 (by omega) (fun g e => (own_lt2 (HO1.out) g e).1)); clear hown3 hgrow3 hat3; have hb3 : Below w0.heap.size w0 w3 := hb01.trans hbg3; have Y0 := (hb3.cell (p := ⟨w.heap.size, 0, none⟩) hs0).trans x0; have Y1 := (hb3.cell (p := ⟨w.heap.size, 1, none⟩) hs0).trans x1)
      refine hK.out _ _ ?_ (fun hHeld => ?_)
      · ((try dsimp only); first | exact ⟨by assumption, by assumption⟩ | (refine ⟨?_, ?_⟩ <;> (first | assumption | (go_keep; done))))
      clear hK K
      (try simp only [Act.put, List.setIfInBounds_toArray, List.set_cons_zero, List.set_cons_succ])
      refine wpAnyH_take (i := 8) (oi := _) (v := ?_) rfl (by decide +kernel) (by decide +kernel) (by decide +kernel) (fun _ _ _ h => h) (Or.inl ⟨by rfl, ?_⟩) (by assumption) ?_
      rotate_left
      · (intro w hSw; (try dsimp only at hSw); go_simp <;> with_reducible rfl)
      (try simp only [Act.put, List.setIfInBounds_toArray, List.set_cons_zero, List.set_cons_succ])
      (try simp only [List.getElem_toArray, List.getElem_cons_zero, List.getElem_cons_succ, Act.put, List.setIfInBounds_toArray, List.set_cons_zero, List.set_cons_succ])
      refine wpAnyH_done (by kernel_rfl) ?_ _
      go_wp2_with fail
      go_meet
      case rel => exact ⟨a3, c3, rfl, by have h := HO3.out; exact h, hb3⟩
    · go_simp
      go_at_call 104
      refine (HE.out _).mono ?_
      rintro e1 w1 ⟨v1, rfl, hv1, hb1⟩
      obtain ⟨a1x, c1x, rfl⟩ := own_form hv1
      have hb01 : Below w0.heap.size w0 w1 := below_then hb1 (Below.refl _ _).drew
      have HS1r := hid (own_bytes rfl hv1)
      have X0 := (hb01.cell (p := ⟨w.heap.size, 0, none⟩) hs0).trans x0
      have X1 := (hb01.cell (p := ⟨w.heap.size, 1, none⟩) hs0).trans x1
      have hz1s := hb01.size
      clear hv1 hb1
      refine hK.out _ _ ?_ (fun hHeld => ?_)
      · ((try dsimp only); first | exact ⟨by assumption, by assumption⟩ | (refine ⟨?_, ?_⟩ <;> (first | assumption | (go_keep; done))))
      clear hK K
      (try simp only [Act.put, List.setIfInBounds_toArray, List.set_cons_zero, List.set_cons_succ])
      refine wpAnyH_ready (rs := [3]) (by decide +kernel) (by simp) ?_
      refine AllReadyH.cons (o := _) rfl (fun K hK => ?_) AllReadyH.nil
      go_simp
      refine hK.out _ _ ?_ (fun hHeld => ?_)
      · ((try dsimp only); first | exact ⟨by assumption, by assumption⟩ | (refine ⟨?_, ?_⟩ <;> (first | assumption | (go_keep; done))))
      clear hK K
      (try simp only [Act.put, List.setIfInBounds_toArray, List.set_cons_zero, List.set_cons_succ])
      have HO1 := hid (HOWN.out _ w0.heap.size _ hz1s (Blk.new w1 5 #[.int .u8 m.kind]))
      have HS1 := hid (src_bytes (lift HS1r.out (below_alloc (Below.refl w1.heap.size w1) (.cells #[.int .u8 m.kind] 5))))
      refine wpAnyH_ready (rs := [7]) (by decide +kernel) (by simp) ?_
      refine AllReadyH.cons (o := _) rfl (fun K hK => ?_) AllReadyH.nil
      (refine step_append_src (by rfl) _ _ _ (by rfl) w0.heap.size 5 i0 (.int .u8 0) 1 1 Tryz.underlying25 hi hz0 hz1 hz2 rfl (by decide) (.slice (some ⟨w1.heap.size, 0, none⟩) 1 1) 1 (byteCells KB) (by rfl) (HO1.out) (a1x) (VE.length) (c1x) (byteCells VE) (by rfl) (HS1.out) HOE.out (by simp only [maxLen]; omega) (by omega) (by simp; omega) ?_; intro a3 c3 w3 hown3 hgrow3 hat3; have HO3 := hid (OwnB.appK HKL.out hown3); have hbg3 : Below w0.heap.size (w1.alloc (.cells #[.int .u8 m.kind] 5)) w3 := (Below.grown (Below.refl _ _) hgrow3 (by simp; omega) (fun g e => (own_lt2 (HO1.out) g e).1)); clear hown3 hgrow3 hat3; have hb3 : Below w0.heap.size w0 w3 := hb01.trans (((Below.refl _ _).alloc hz1s _).trans hbg3); have Y0 := (hb3.cell (p := ⟨w.heap.size, 0, none⟩) hs0).trans x0; have Y1 := (hb3.cell (p := ⟨w.heap.size, 1, none⟩) hs0).trans x1)
      refine hK.out _ _ ?_ (fun hHeld => ?_)
      · ((try dsimp only); first | exact ⟨by assumption, by assumption⟩ | (refine ⟨?_, ?_⟩ <;> (first | assumption | (go_keep; done))))
      clear hK K
      (try simp only [Act.put, List.setIfInBounds_toArray, List.set_cons_zero, List.set_cons_succ])
      refine wpAnyH_take (i := 8) (oi := _) (v := ?_) rfl (by decide +kernel) (by decide +kernel) (by decide +kernel) (fun _ _ _ h => h) (Or.inl ⟨by rfl, ?_⟩) (by assumption) ?_
      rotate_left
      · (intro w hSw; (try dsimp only at hSw); go_simp <;> with_reducible rfl)
      (try simp only [Act.put, List.setIfInBounds_toArray, List.set_cons_zero, List.set_cons_succ])
      (try simp only [List.getElem_toArray, List.getElem_cons_zero, List.getElem_cons_succ, Act.put, List.setIfInBounds_toArray, List.set_cons_zero, List.set_cons_succ])
      refine wpAnyH_done (by kernel_rfl) ?_ _
      go_wp2_with fail
      go_meet
      case rel => exact ⟨a3, c3, rfl, by have h := HO3.out; exact h, hb3⟩
  case rest =>
    obtain ⟨aQ, cQ, rfl, hown3, hb3⟩ := hcut
    have hl3 : (KB ++ VE).length = 1 + VE.length := by rw [List.length_append, HKL.out]
    rw [← hl3] at hown3 ⊢
    have hj3 : (KB ++ VE).length ≤ 11 := by rw [hl3]; omega
    generalize hJ3 : KB ++ VE = J3 at *
    have HJ3 := hid hJ3
    have HO3 := hid hown3
    have HX3 := HBX.out.below hb3 hs0
    have z2 : wc.cell? ⟨w.heap.size, 2, none⟩ = some (.int .u64 m.seq) := HX3.cell 2
    have HB3 := hid hb3
    have hz3 := hb3.size
    clear hown3 hJ3 hl3
    go_wp2_with fail
    refine (HS.out _).mono ?_
    rintro r w4 ⟨v4, rfl, hv4, hb4⟩
    obtain ⟨a4x, c4x, rfl⟩ := own_form hv4
    have HS4 := hid (src_bytes (own_bytes rfl hv4))
    have HQ4 := hid (own_below HO3.out hb4)
    have hz4 := hb4.size
    have hb04 : Below w0.heap.size w0 w4 := HB3.out.trans (hb4.mono hz3)
    clear hv4 z2
    go_wp2_with (at_builtin; go_loud (refine wpList_append_src rfl _ _ _ rfl w0.heap.size 5 i0 (.int .u8 0) 1 1 Tryz.underlying25 hi hz0 hz1 hz2 rfl (by decide) (.slice aQ J3.length cQ) J3.length (byteCells J3) rfl (HQ4.out) (a4x) (VS.length) (c4x) (byteCells VS) rfl (HS4.out) HOS.out (by simp only [maxLen]; omega) (by omega) (by omega) ?_; intro v' w5x hown5x hgrow5x hat5x; obtain ⟨a5x, c5x, rfl⟩ := own_form hown5x; have HO5x := hid (OwnB.app hown5x); have hbg5x : Below w0.heap.size w4 w5x := (Below.grown (Below.refl _ _) hgrow5x (by omega) (fun g e => (own_lt2 (HQ4.out) g e).1)); clear hown5x hgrow5x hat5x; have hb5 : Below w0.heap.size w0 w5x := hb04.trans hbg5x; have HX5 := hid (HBX.out.below hb5 hs0); have y0 : w5x.cell? ⟨w.heap.size, 0, none⟩ = some (.int .i64 m.kind) := HX5.out.cell 0; have y1 : w5x.cell? ⟨w.heap.size, 1, none⟩ = some (.int .u64 m.epoch) := HX5.out.cell 1; have y2 : w5x.cell? ⟨w.heap.size, 2, none⟩ = some (.int .u64 m.seq) := HX5.out.cell 2; have y3 : w5x.cell? ⟨w.heap.size, 3, none⟩ = some (.int .u64 m.pos) := HX5.out.cell 3; have y4 : w5x.cell? ⟨w.heap.size, 4, none⟩ = some (.int .i64 m.count) := HX5.out.cell 4; have y5 : w5x.cell? ⟨w.heap.size, 5, none⟩ = some (.int .i64 m.state) := HX5.out.cell 5; have y6 : w5x.cell? ⟨w.heap.size, 6, none⟩ = some (.slice a1 m.streams.length c1) := HX5.out.cell 6; have y7 : w5x.cell? ⟨w.heap.size, 7, none⟩ = some (.slice a2 m.links.length c2) := HX5.out.cell 7; have y8 : w5x.cell? ⟨w.heap.size, 8, none⟩ = some (.slice a3 m.data.length c3) := HX5.out.cell 8; have y9 : w5x.cell? ⟨w.heap.size, 9, none⟩ = some (.int .u64 m.sea.epoch) := HX5.out.cell 9; have y10 : w5x.cell? ⟨w.heap.size, 10, none⟩ = some (.int .u64 m.sea.node) := HX5.out.cell 10; have y11 : w5x.cell? ⟨w.heap.size, 11, none⟩ = some (.int .u64 m.sea.tail) := HX5.out.cell 11; have y12 : w5x.cell? ⟨w.heap.size, 12, none⟩ = some (.int .u64 m.proj.epoch) := HX5.out.cell 12; have y13 : w5x.cell? ⟨w.heap.size, 13, none⟩ = some (.slice a4 m.proj.stripes.length c4) := HX5.out.cell 13))
    have hl5 : (J3 ++ VS).length = J3.length + VS.length := List.length_append
    have hj5 : (J3 ++ VS).length ≤ 21 := by rw [hl5]; omega
    generalize hJ5 : J3 ++ VS = J5 at *
    have HJ5 := hid hJ5
    have HP5 := hid HO5x.out
    rw [← hl5] at HP5 ⊢
    have hz5 := hb5.size
    have HBB := hid (HB.out w5x (HB0.out.trans (hb5.mono HB0.out.size)))
    have HB5 := hid hb5
    clear hJ5 hl5 hb5 hbg5x
    refine HBB.out.mono ?_
    rintro r w6 ⟨v6, rfl, hv6, hb6⟩
    obtain ⟨a6x, c6x, rfl⟩ := own_form hv6
    have HS6 := hid (src_bytes (own_bytes rfl hv6))
    have HQ6 := hid (own_below HP5.out hb6)
    have hz6 := hb6.size
    clear hv6 y0 y1 y2 y3 y4 y5 y6 y7 y8 y9 y10 y11 y12 y13
    go_wp2_with (at_builtin; go_loud (refine wpList_append_src rfl _ _ _ rfl w0.heap.size 5 i0 (.int .u8 0) 1 1 Tryz.underlying25 hi hz0 hz1 hz2 rfl (by decide) (.slice a5x J5.length c5x) J5.length (byteCells J5) rfl (HQ6.out) (a6x) (K.length) (c6x) (byteCells K) rfl (HS6.out) HOK.out (by simp only [maxLen]; omega) (by omega) (by omega) ?_; intro v' w7x hown7x hgrow7x hat7x; obtain ⟨a7x, c7x, rfl⟩ := own_form hown7x; have HO7x := hid (OwnB.app hown7x); have hbg7x : Below w0.heap.size w6 w7x := (Below.grown (Below.refl _ _) hgrow7x (by omega) (fun g e => (own_lt2 (HQ6.out) g e).1)); clear hown7x hgrow7x hat7x))
    have hbe : Below w.heap.size w w7x := HB0.out.trans ((HB5.out.trans ((hb6.mono hz5).trans hbg7x)).mono HB0.out.size)
    have HOL := hid (ownB_low HO7x.out (Nat.le_of_lt hs0))
    go_ret
    have hfin := HOL.out
    rw [← HJ5.out, ← HJ3.out] at hfin
    refine ⟨_, rfl, ?_, hbe⟩
    rw [← HJ5.out, ← HJ3.out]
    exact hfin

set_option maxRecDepth 100000 in
set_option maxHeartbeats 6400000 in
theorem ref29_bytes (w : World) (m : Msg) (a1 : Option Addr) (c1 : Nat) (a2 : Option Addr) (c2 : Nat) (a3 : Option Addr) (c3 : Nat) (a4 : Option Addr) (c4 : Nat) (hd : MsgIn (· < w.heap.size) w m a1 c1 a2 c2 a3 c3 a4 c4) (hbk : ∀ x ∈ m.links, x.backs.length ≤ 1000000) (hln : m.data.length ≤ 2000000) (hR : rpcR m = true) :
    Calls Tryz.prog 33 #[.agg #[.int .i64 m.kind, .int .u64 m.epoch, .int .u64 m.seq, .int .u64 m.pos, .int .i64 m.count, .int .i64 m.state, .slice a1 m.streams.length c1, .slice a2 m.links.length c2, .slice a3 m.data.length c3, .int .u64 m.sea.epoch, .int .u64 m.sea.node, .int .u64 m.sea.tail, .int .u64 m.proj.epoch, .slice a4 m.proj.stripes.length c4]] w fun r w' => ∃ v, r = .returned v ∧ OwnB w' w.heap.size v (frameB (payB m)) ∧ Below w.heap.size w w' := by
  have HPY := hid (fun (W : World) (hW : Below w.heap.size w W) => ref29_payload W m a1 c1 a2 c2 a3 c3 a4 c4 (MsgIn.lift hd hW) hbk hR)
  have hpl := payB_len hR
  have HFB := hid (fun (W : World) (ad : Option Addr) (cd : Nat) (hD : rBytes.r (· < W.heap.size) W [.slice ad (payB m).length cd] (payB m)) => ref08_bytes (payB m) ad _ cd W hD (by omega))
  have hb0 : Below w.heap.size w (w.alloc (.cells #[.int .i64 m.kind, .int .u64 m.epoch, .int .u64 m.seq, .int .u64 m.pos, .int .i64 m.count, .int .i64 m.state, .slice a1 m.streams.length c1, .slice a2 m.links.length c2, .slice a3 m.data.length c3, .int .u64 m.sea.epoch, .int .u64 m.sea.node, .int .u64 m.sea.tail, .int .u64 m.proj.epoch, .slice a4 m.proj.stripes.length c4] 32)) := by (repeat (first | exact Below.refl _ _ | assumption | (refine below_alloc ?_ _) | (refine Below.setCell ?_ (by first | omega | (simp; done) | (simp; omega)) _) | (refine Below.drew ?_) | (refine below_drewN ?_ _) | (refine below_then (by assumption) ?_)))
  generalize payB m = P at *
  clear hd hbk hR hpl
  go_enter Tryz.func33, Tryz.ntmps33
  go_wp2_with fail
  generalize (w.alloc (.cells #[.int .i64 m.kind, .int .u64 m.epoch, .int .u64 m.seq, .int .u64 m.pos, .int .i64 m.count, .int .i64 m.state, .slice a1 m.streams.length c1, .slice a2 m.links.length c2, .slice a3 m.data.length c3, .int .u64 m.sea.epoch, .int .u64 m.sea.node, .int .u64 m.sea.tail, .int .u64 m.proj.epoch, .slice a4 m.proj.stripes.length c4] 32)) = w0 at *
  refine (HPY.out _ hb0).mono ?_
  rintro r w1 ⟨v1, rfl, ho1, hb1⟩
  obtain ⟨e1, k1, rfl⟩ := own_form ho1
  have HFF := hid (HFB.out w1 e1 k1 (own_bytes rfl ho1))
  have hbw1 := below_then hb1 hb0
  have hs1 := hbw1.size
  clear ho1
  go_wp2_with fail
  refine HFF.out.mono ?_
  rintro r w2 ⟨x, rfl, ho, hb2⟩
  have hbe := below_then hb2 hbw1
  have HV := hid (ownB_low ho hs1)
  clear ho
  go_wp2_with fail
  go_ret
  exact ⟨_, rfl, HV.out, hbe⟩
end Go.Proofs.YtlbffbkbkajciaaGreat
