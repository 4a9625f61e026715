/- Needed by rpcWrites_walk, part 2: texts put together by shake.py; no condition. -/
import Derived.Test.YtlbffbkbkajciaaGreatZa10
import Derived.Deep.CutRange
import Derived.Scope
import Derived.Laws.IdiomStrings
import Derived.Laws.BytesArg
import Derived.Test.YtlbffbkbkajciaaGreatRows
import Derived.Deep.AppendLies
import Derived.Maps.AppendAt
import Derived.Lib.SlBytesConst
import Derived.StillTailTactics
import Derived.Maps.OwnOps
import Derived.Maps.Views
import Derived.ProofKit
import Derived.OpenShut
import Derived.Deep.Slices
import Derived.Lib.SmallJoins
import Derived.WalkKit
import Derived.WalkLawsBesides
import Derived.WalkSpells
import Derived.Outline
import Derived.BigQuiet
import Derived.Deep.QuietTactic
import Derived.Sort.QuietThIn
import Derived.Sort.BigQuietIn
import Derived.Sort.QuietTacIn
import Derived.RangeFuncNested
import Derived.RangeFuncBound
import Derived.RangeFuncCalls
import Derived.RangeFuncLeaves
import Derived.Shelf.Abstract
import Derived.Shelf.RegionOpen
import Derived.OwnWalkIn
import Derived.TacticsInMore
import Derived.LoopNIn
import Derived.LoopIn
import Derived.Maps.OwnIn
import Derived.StillTail
import Derived.RegionTactic
import Derived.OrdersHeld
import Derived.Deep.RegionHeld
import Derived.Deep.RegionLaw
import Derived.Deep.RegionHeld3
import Derived.Laws.MakeOwn
import Derived.Test.YtlbffbkbkajciaaGreatProg
import Derived.Deep.Cut
import Derived.Deep.WholeRow
import Derived.Test.YtlbffbkbkajciaaGreatZb1
namespace Go.Bs
open Go.RowKit
def rMsgs : Rp (List Msg) := rSl 14 rMsg
theorem msg_at {S : Nat → Prop} {w : World} {xs : List Msg} {a : Option Addr} {n c : Nat} (h : rMsgs.r S w [.slice a n c] xs) {i : Nat} (hi : i < xs.length) : ∃ b off, a = some ⟨b, off, none⟩ ∧ S b ∧ ∃ (a1 : Option Addr) (c1 : Nat) (a2 : Option Addr) (c2 : Nat) (a3 : Option Addr) (c3 : Nat) (a4 : Option Addr) (c4 : Nat),
    (w.cell? ⟨b, off + i * 14, none⟩ = some (.int .i64 xs[i].kind) ∧ w.cell? ⟨b, off + i * 14 + 1, none⟩ = some (.int .u64 xs[i].epoch) ∧ w.cell? ⟨b, off + i * 14 + 2, none⟩ = some (.int .u64 xs[i].seq) ∧ w.cell? ⟨b, off + i * 14 + 3, none⟩ = some (.int .u64 xs[i].pos) ∧ w.cell? ⟨b, off + i * 14 + 4, none⟩ = some (.int .i64 xs[i].count) ∧ w.cell? ⟨b, off + i * 14 + 5, none⟩ = some (.int .i64 xs[i].state) ∧ w.cell? ⟨b, off + i * 14 + 6, none⟩ = some (.slice a1 xs[i].streams.length c1) ∧ w.cell? ⟨b, off + i * 14 + 7, none⟩ = some (.slice a2 xs[i].links.length c2) ∧ w.cell? ⟨b, off + i * 14 + 8, none⟩ = some (.slice a3 xs[i].data.length c3) ∧ w.cell? ⟨b, off + i * 14 + 9, none⟩ = some (.int .u64 xs[i].sea.epoch) ∧ w.cell? ⟨b, off + i * 14 + 10, none⟩ = some (.int .u64 xs[i].sea.node) ∧ w.cell? ⟨b, off + i * 14 + 11, none⟩ = some (.int .u64 xs[i].sea.tail) ∧ w.cell? ⟨b, off + i * 14 + 12, none⟩ = some (.int .u64 xs[i].proj.epoch) ∧ w.cell? ⟨b, off + i * 14 + 13, none⟩ = some (.slice a4 xs[i].proj.stripes.length c4)) ∧ MsgIn S w xs[i] a1 c1 a2 c2 a3 c3 a4 c4 := by
  obtain ⟨b, off, e, hS, cs, _, hc, hA⟩ := sl_at h hi
  obtain ⟨a1, c1, a2, c2, a3, c3, a4, c4, rfl, h1⟩ := msg_cells hA
  exact ⟨b, off, e, hS, a1, c1, a2, c2, a3, c3, a4, c4, ⟨hc 0 _ rfl, hc 1 _ rfl, hc 2 _ rfl, hc 3 _ rfl, hc 4 _ rfl, hc 5 _ rfl, hc 6 _ rfl, hc 7 _ rfl, hc 8 _ rfl, hc 9 _ rfl, hc 10 _ rfl, hc 11 _ rfl, hc 12 _ rfl, hc 13 _ rfl⟩, h1⟩
end Go.Bs
namespace Go.Proofs.YtlbffbkbkajciaaGreat
open Go.RowKit Go.Bs Go.Maps
set_option linter.unusedVariables false
set_option linter.unusedSimpArgs false

def many29 (l : List Msg) : Bool := longG 12 long28 l
def allR (l : List Msg) : Bool := l.all rpcR
def allB (l : List Msg) : List UInt8 := (l.map fun m => frameB (payB m)).flatten
def allBytes (l : List Msg) : List UInt8 × Int := if allR l = true then (allB l, 0) else ([], 3)
theorem allB_step (l : List Msg) (k : Nat) (h : k < l.length) : allB (l.take (k + 1)) = allB (l.take k) ++ frameB (payB l[k]) := by
  unfold allB
  rw [List.take_succ_eq_append_getElem h, List.map_append, List.flatten_append]; simp only [List.map_cons, List.map_nil, List.flatten_cons, List.flatten_nil, List.append_nil]
theorem allR_at {l : List Msg} (h : allR l = true) (i : Nat) (hi : i < l.length) : rpcR l[i] = true := List.all_eq_true.1 h _ (List.getElem_mem hi)
theorem allR_false {l : List Msg} (i : Nat) (hi : i < l.length) (h : rpcR l[i] = false) : allR l = false := by
  rcases hh : allR l with _ | _
  · rfl
  · rw [allR_at hh i hi] at h; cases h
theorem allR_true {l : List Msg} (h : ∀ i, i < l.length → ∀ hi : i < l.length, rpcR l[i] = true) : allR l = true := List.all_eq_true.2 fun x hx => by
  obtain ⟨i, hi, rfl⟩ := List.getElem_of_mem hx
  exact h i hi hi
set_option maxRecDepth 100000 in
set_option maxHeartbeats 6400000 in
theorem law29_many (l : List Msg) (a : Option Addr) (n c : Nat) (w : World) (hl : rMsgs.r (· < w.heap.size) w [.slice a n c] l) :
    Calls Tryz.prog 25 #[.slice a n c] w fun r w' => r = .returned (.bool (many29 l)) ∧ Below w.heap.size w w' := by
  obtain ⟨rfl, hm, _, _⟩ := sl_len hl
  have HL := hid hl
  clear hl
  go_enter Tryz.func25, Tryz.ntmps25
  go_wp2_with fail
  go_loopw [3] (fun i wr => ∃ k : Nat, k ≤ l.length ∧ k ≤ 12 ∧ i = .int .i64 k ∧ Hid (many29 l = longGAt 12 long28 l k) ∧ Below w.heap.size w wr) (fun i _ => l.length - (intOf i).toNat)
  case atStart => exact ⟨0, Nat.zero_le _, Nat.zero_le _, rfl, hid rfl, Below.refl _ _⟩
  case round =>
    obtain ⟨k, hk, hk2, rfl, hf, hb⟩ := hrel
    by_cases hlt : k < l.length
    · have i1 : (k : Int) < (l.length : Int) := by omega
      have e1 : decide ((k : Int) < (l.length : Int)) = true := decide_eq_true i1
      by_cases h20 : k < 12
      · have e2 : decide ((k : Int) < 12) = true := decide_eq_true (by omega)
        obtain ⟨b, o, hA, hbb, a1, c1, a2, c2, a3, c3, a4, c4, ⟨u0, u1, u2, u3, u4, u5, u6, u7, u8, u9, u10, u11, u12, u13⟩, xl⟩ := msg_at (lift HL.out hb) hlt
        subst hA
        have hst := hid (longGAt_step 12 long28 l k hlt h20)
        have HC := hid (law28_long l[k] a1 c1 a2 c2 a3 c3 a4 c4 wr xl)
        have HB := hid hb
        clear xl hb
        generalize l[k] = x at *
        cases h3 : long28 x
        · have hff : Hid (many29 l = longGAt 12 long28 l (k + 1)) := hid (by rw [hf.out, hst.out, h3]; simp)
          rw [h3] at HC
          clear h3
          go_wp2_with fail
          refine HC.out.mono ?_
          rintro r w3 ⟨rfl, hb3⟩
          have hbe := below_then hb3 HB.out
          go_wp2_with fail
          go_roundw
          case rel => exact ⟨k + 1, by omega, by omega, by go_num, hff, hbe⟩
          case measure => (simp [intOf]; try omega)
        · have hff : Hid (many29 l = true) := hid (by rw [hf.out, hst.out, h3]; rfl)
          rw [h3] at HC
          clear h3
          go_wp2_with fail
          refine HC.out.mono ?_
          rintro r w3 ⟨rfl, hb3⟩
          have hbe := below_then hb3 HB.out
          go_wp2_with fail
          go_ret
          exact ⟨by rw [hff.out]; rfl, hbe⟩
      · have e2 : decide ((k : Int) < 12) = false := decide_eq_false (by omega)
        have hff : Hid (many29 l = decide ((12 : Int) < (l.length : Int))) := hid (by rw [hf.out, longGAt_end _ _ l k (.inr (by omega))]; simp only [decide_eq_decide]; omega)
        go_wp2_with fail
        go_ret
        exact ⟨by rw [hff.out]; rfl, hb⟩
    · have e1 : decide ((k : Int) < (l.length : Int)) = false := decide_eq_false (by omega)
      have hff : Hid (many29 l = decide ((12 : Int) < (l.length : Int))) := hid (by rw [hf.out, longGAt_end _ _ l k (.inl (by omega))]; simp only [decide_eq_decide]; omega)
      go_wp2_with fail
      go_ret
      exact ⟨by rw [hff.out]; rfl, hb⟩

set_option maxRecDepth 100000 in
set_option maxHeartbeats 6400000 in
theorem rpc_all (l : List Msg) (a : Option Addr) (n c : Nat) (w : World) (hl : rMsgs.r (· < w.heap.size) w [.slice a n c] l) (hsh : ∀ m ∈ l, Short m) (hlen : l.length ≤ 12) :
    Calls Tryz.prog 34 #[.slice a n c] w fun r w' => ∃ v, r = .returned (.tuple #[v, .int .i64 (allBytes l).2]) ∧ rBytes.r (fun q => w.heap.size ≤ q ∧ q < w'.heap.size) w' [v] (allBytes l).1 ∧ Below w.heap.size w w' := by
  obtain ⟨rfl, hm, _, _⟩ := sl_len hl
  obtain ⟨i0, hi, hz0, hz1, hz2⟩ := info_parts info8
  have HL := hid hl
  have HSH := hid (fun (k : Nat) (h : k < l.length) => hsh l[k] (List.getElem_mem h))
  have HAS := hid (fun (k : Nat) (h : k < l.length) => allB_step l k h)
  clear hl hsh
  go_enter Tryz.func34, Tryz.ntmps34
  go_wp2_with fail
  go_loopw [4, 11] (fun v i wr => ∃ (k : Nat) (J : List UInt8), k ≤ l.length ∧ i = .int .i64 k ∧ OwnB wr w.heap.size v J ∧ Hid (J = allB (l.take k)) ∧ Hid (∀ i, i < k → ∀ hi : i < l.length, rpcR l[i] = true) ∧ J.length ≤ k * 49335 ∧ (∃ aJ cJ, v = .slice aJ J.length cJ) ∧ Below w.heap.size w wr) (fun _ i _ => l.length - (intOf i).toNat)
  case atStart => exact ⟨0, [], Nat.zero_le _, rfl, ⟨rfl, .inl ⟨rfl, rfl⟩⟩, hid (by simp [allB]), hid (fun i hi => by omega), Nat.zero_le _, ⟨_, _, rfl⟩, Below.refl _ _⟩
  case round =>
    obtain ⟨k, J, hk, rfl, hown, hJ, hall, hJl, ⟨aJ, cJ, rfl⟩, hb⟩ := hrel
    have HO := hid hown
    have HB := hid hb
    have hz := hb.size
    by_cases hlt : k < l.length
    · have i1 : (k : Int) < (l.length : Int) := by omega
      have e1 : decide ((k : Int) < (l.length : Int)) = true := decide_eq_true i1
      obtain ⟨b, o, hA, hbb, a1, c1, a2, c2, a3, c3, a4, c4, ⟨u0, u1, u2, u3, u4, u5, u6, u7, u8, u9, u10, u11, u12, u13⟩, xl⟩ := msg_at (lift HL.out hb) hlt
      subst hA
      have hs := HSH.out k hlt
      have hst := HAS.out k hlt
      have hfin : rpcR l[k] = false → allR l = false := allR_false k hlt
      have hnx : rpcR l[k] = true → ∀ i, i < k + 1 → ∀ hi : i < l.length, rpcR l[i] = true := fun h1 i hi h2 => by
        rcases Nat.lt_or_ge i k with h3 | h3
        · exact hall.out i h3 h2
        · obtain rfl : i = k := by omega
          exact h1
      have hbl : b < wr.heap.size := World.block_lt_of_cell? _ _ u0
      have HC := hid (fun (W : World) (hW : Below wr.heap.size wr W) => rpc_bytes W l[k] a1 c1 a2 c2 a3 c3 a4 c4 (MsgIn.lift xl hW) (fun x hx => by have := hs.backs x hx; omega) (by have := hs.data; omega))
      unfold rpcBytes at HC
      clear xl hb hown
      generalize l[k] = x at *
      have hfl : rpcR x = true → (frameB (payB x)).length ≤ 49335 := fun h => by have := rpcBytes_len h; have := hs.data; omega
      generalize frameB (payB x) = FX at *
      have HONE := hid (byteCells_one FX)
      have HST := hid hst
      clear hst hs
      cases hr : rpcR x
      · rw [hr] at HC
        simp only [Bool.false_eq_true, if_false] at HC
        have hff : Hid (allBytes l = ([], 3)) := hid (by unfold allBytes; rw [hfin hr]; rfl)
        clear hfin hnx hfl hr
        go_wp2_with fail
        refine (HC.out _ (by (repeat (first | with_reducible exact Below.refl _ _ | with_reducible assumption | (with_reducible refine below_alloc ?_ _) | (with_reducible refine Below.setCell ?_ (by first | omega | (simp; done) | (simp; omega)) _) | (with_reducible refine Below.drew ?_) | (with_reducible refine below_drewN ?_ _) | (refine below_then (by with_reducible assumption) ?_))))).mono ?_
        rintro r w3 ⟨v3, rfl, hr3, hb3⟩
        obtain ⟨e3, k3, hv3, hr3', _⟩ := sl_form hr3
        simp only [List.cons.injEq, and_true] at hv3
        subst hv3
        have hbe : Below w.heap.size w w3 := below_then hb3 (below_alloc HB.out _)
        clear hr3 hr3'
        go_wp2_with fail
        go_ret2
        rw [hff.out]
        exact ⟨_, rfl, empty_bytes2 rfl rfl (by omega), hbe⟩
      · rw [hr] at HC
        simp only [if_true] at HC
        have hal := hid (hnx hr)
        have hfx := hfl hr
        clear hfin hnx hfl hr
        go_wp2_with fail
        refine (HC.out _ (by (repeat (first | with_reducible exact Below.refl _ _ | with_reducible assumption | (with_reducible refine below_alloc ?_ _) | (with_reducible refine Below.setCell ?_ (by first | omega | (simp; done) | (simp; omega)) _) | (with_reducible refine Below.drew ?_) | (with_reducible refine below_drewN ?_ _) | (refine below_then (by with_reducible assumption) ?_))))).mono ?_
        rintro r w3 ⟨v3, rfl, hr3, hb3⟩
        obtain ⟨e3, k3, hv3, hr3', _⟩ := sl_form hr3
        simp only [List.cons.injEq, and_true] at hv3
        subst hv3
        have hbw3 : Below wr.heap.size wr w3 := by (repeat (first | with_reducible exact Below.refl _ _ | with_reducible assumption | (with_reducible refine below_alloc ?_ _) | (with_reducible refine Below.setCell ?_ (by first | omega | (simp; done) | (simp; omega)) _) | (with_reducible refine Below.drew ?_) | (with_reducible refine below_drewN ?_ _) | (refine below_then (by with_reducible assumption) ?_)))
        have HQ := hid (own_below HO.out hbw3)
        have HS3 := hid (src_bytes hr3')
        have hz3 := hbw3.size
        clear hr3 hr3' hb3
        go_wp2_with (at_builtin; go_loud (refine wpList_append_src rfl _ _ _ rfl w.heap.size 5 i0 (.int .u8 0) 1 1 Tryz.underlying25 hi hz0 hz1 hz2 rfl (by decide) (.slice aJ J.length cJ) J.length (byteCells J) rfl (HQ.out) (e3) (FX.length) (k3) (byteCells FX) rfl (HS3.out) HONE.out (by simp only [maxLen]; omega) (by omega) (by omega) ?_; intro v' w5x hown5x hgrow5x hat5x; obtain ⟨a5x, c5x, rfl⟩ := own_form hown5x; have HO5x := hid (OwnB.app hown5x); have hbg5x : Below w.heap.size w3 w5x := (Below.grown (Below.refl _ _) hgrow5x (by omega) (fun g e => (own_lt2 (HQ.out) g e).1)); clear hown5x hgrow5x hat5x))
        have hbe : Below w.heap.size w w5x := HB.out.trans ((hbw3.mono hz).trans hbg5x)
        go_roundw
        case rel => exact ⟨k + 1, J ++ FX, by omega, by go_num, HO5x.out, hid (by rw [HST.out, hJ.out]), hal, by rw [List.length_append]; omega, ⟨_, _, by rw [List.length_append]⟩, hbe⟩
        case measure => (simp [intOf]; try omega)
    · obtain rfl : k = l.length := by omega
      have e1 : decide ((l.length : Int) < (l.length : Int)) = false := decide_eq_false (by omega)
      have hff : Hid (allBytes l = (J, 0)) := hid (by unfold allBytes; rw [if_pos (allR_true hall.out), hJ.out, List.take_length])
      have HV := hid (own_bytes2 rfl hown)
      clear hown hJ
      go_wp2_with fail
      go_ret2
      rw [hff.out]
      exact ⟨_, rfl, HV.out, hb⟩

set_option maxRecDepth 100000 in
set_option maxHeartbeats 6400000 in
theorem ref29_all (l : List Msg) (a : Option Addr) (n c : Nat) (w : World) (hl : rMsgs.r (· < w.heap.size) w [.slice a n c] l) (hsh : ∀ m ∈ l, Short m) (hlen : l.length ≤ 12) (hR : allR l = true) :
    Calls Tryz.prog 35 #[.slice a n c] w fun r w' => ∃ v, r = .returned v ∧ OwnB w' w.heap.size v (allB l) ∧ Below w.heap.size w w' := by
  obtain ⟨rfl, hm, _, _⟩ := sl_len hl
  obtain ⟨i0, hi, hz0, hz1, hz2⟩ := info_parts info8
  have HL := hid hl
  have HSH := hid (fun (k : Nat) (h : k < l.length) => hsh l[k] (List.getElem_mem h))
  have HAS := hid (fun (k : Nat) (h : k < l.length) => allB_step l k h)
  have HAR := hid (fun (k : Nat) (h : k < l.length) => allR_at hR k h)
  clear hl hsh hR
  go_enter Tryz.func35, Tryz.ntmps35
  go_wp2_with fail
  go_loopw [3, 4] (fun v i wr => ∃ (k : Nat) (J : List UInt8), k ≤ l.length ∧ i = .int .i64 k ∧ OwnB wr w.heap.size v J ∧ Hid (J = allB (l.take k)) ∧ J.length ≤ k * 49335 ∧ (∃ aJ cJ, v = .slice aJ J.length cJ) ∧ Below w.heap.size w wr) (fun _ i _ => l.length - (intOf i).toNat)
  case atStart => exact ⟨0, [], Nat.zero_le _, rfl, ⟨rfl, .inl ⟨rfl, rfl⟩⟩, hid (by simp [allB]), Nat.zero_le _, ⟨_, _, rfl⟩, Below.refl _ _⟩
  case round =>
    obtain ⟨k, J, hk, rfl, hown, hJ, hJl, ⟨aJ, cJ, rfl⟩, hb⟩ := hrel
    have HO := hid hown
    have HB := hid hb
    have hz := hb.size
    by_cases hlt : k < l.length
    · have i1 : (k : Int) < (l.length : Int) := by omega
      have e1 : decide ((k : Int) < (l.length : Int)) = true := decide_eq_true i1
      obtain ⟨b, o, hA, hbb, a1, c1, a2, c2, a3, c3, a4, c4, ⟨u0, u1, u2, u3, u4, u5, u6, u7, u8, u9, u10, u11, u12, u13⟩, xl⟩ := msg_at (lift HL.out hb) hlt
      subst hA
      have hs := HSH.out k hlt
      have hst := HAS.out k hlt
      have hr := HAR.out k hlt
      have HC := hid (ref29_bytes wr l[k] a1 c1 a2 c2 a3 c3 a4 c4 xl (fun x hx => by have := hs.backs x hx; omega) (by have := hs.data; omega) hr)
      clear xl hb hown
      generalize l[k] = x at *
      have hfx : (frameB (payB x)).length ≤ 49335 := by have := rpcBytes_len hr; have := hs.data; omega
      generalize frameB (payB x) = FX at *
      have HONE := hid (byteCells_one FX)
      have HST := hid hst
      clear hst hs hr
      go_wp2_with fail
      refine HC.out.mono ?_
      rintro r w3 ⟨v3, rfl, ho3, hb3⟩
      obtain ⟨e3, k3, rfl⟩ := own_form ho3
      have HQ := hid (own_below HO.out hb3)
      have HS3 := hid (src_bytes (own_bytes rfl ho3))
      have hz3 := hb3.size
      clear ho3
      go_wp2_with (at_builtin; go_loud (refine wpList_append_src rfl _ _ _ rfl w.heap.size 5 i0 (.int .u8 0) 1 1 Tryz.underlying25 hi hz0 hz1 hz2 rfl (by decide) (.slice aJ J.length cJ) J.length (byteCells J) rfl (HQ.out) (e3) (FX.length) (k3) (byteCells FX) rfl (HS3.out) HONE.out (by simp only [maxLen]; omega) (by omega) (by omega) ?_; intro v' w5x hown5x hgrow5x hat5x; obtain ⟨a5x, c5x, rfl⟩ := own_form hown5x; have HO5x := hid (OwnB.app hown5x); have hbg5x : Below w.heap.size w3 w5x := (Below.grown (Below.refl _ _) hgrow5x (by omega) (fun g e => (own_lt2 (HQ.out) g e).1)); clear hown5x hgrow5x hat5x))
      have hbe : Below w.heap.size w w5x := HB.out.trans ((hb3.mono hz).trans hbg5x)
      go_roundw
      case rel => exact ⟨k + 1, J ++ FX, by omega, by go_num, HO5x.out, hid (by rw [HST.out, hJ.out]), by rw [List.length_append]; omega, ⟨_, _, by rw [List.length_append]⟩, hbe⟩
      case measure => (simp [intOf]; try omega)
    · obtain rfl : k = l.length := by omega
      have e1 : decide ((l.length : Int) < (l.length : Int)) = false := decide_eq_false (by omega)
      have hff : Hid (J = allB l) := hid (by rw [hJ.out, List.take_length])
      have HOW := hid hown
      clear hown hJ
      go_wp2_with fail
      go_ret
      rw [← hff.out]
      exact ⟨_, rfl, HOW.out, hb⟩
end Go.Proofs.YtlbffbkbkajciaaGreat
namespace Go.Proofs.YtlbffbkbkajciaaGreat
open Go.RowKit Go.Bs Go.Maps
set_option linter.unusedVariables false
set_option linter.unusedSimpArgs false

def liveM29 : Msg := ⟨7, 3, 5, 0, 0, 0, [], [], [], ⟨0, 0, 0⟩, ⟨0, []⟩⟩
theorem liveM29_pay : payBytes liveM29 = ([7, 3, 5], 0) := by decide +kernel
theorem liveM29_bytes : ∃ l : List UInt8, rpcBytes liveM29 = (3 :: l, 0) ∧ l.length = 7 := ⟨(rpcBytes liveM29).1.tail, by decide +kernel, by decide +kernel⟩
theorem bytes_first {w : World} {x : UInt8} {l : List UInt8} {a : Option Addr} {n c : Nat} (h : rBytes.r (· < w.heap.size) w [.slice a n c] (x :: l)) : ∃ b o, a = some ⟨b, o, none⟩ ∧ b < w.heap.size ∧ w.cell? ⟨b, o, none⟩ = some (.int .u8 (x.toNat : Int)) := by
  obtain ⟨b, off, e, hS, cs, _, hc, hA⟩ := sl_at h (i := 0) (by simp)
  have hcs : cs = [.int .u8 (x.toNat : Int)] := hA
  subst hcs
  have := hc 0 _ rfl
  exact ⟨b, off, e, hS, by simpa using this⟩
theorem allR_step (l : List Msg) (k : Nat) (h : k < l.length) : allR (l.take (k + 1)) = (allR (l.take k) && rpcR l[k]) := by
  unfold allR
  rw [List.take_succ_eq_append_getElem h, List.all_append]; simp

set_option maxRecDepth 100000 in
set_option maxHeartbeats 12800000 in
theorem live29 (w : World) : Calls Tryz.prog 26 #[] w fun r w' => r = .returned (.bool true) ∧ Below w.heap.size w w' := by
  have hin : ∀ W : World, MsgIn (· < W.heap.size) W liveM29 none 0 none 0 none 0 none 0 := fun W => msgIn_bare ⟨by decide, by decide⟩ ⟨by decide, by decide⟩ ⟨by decide, by decide⟩ ⟨by decide, by decide⟩ ⟨by decide, by decide⟩ ⟨by decide, by decide⟩ rfl rfl rfl ⟨⟨by decide, by decide⟩, ⟨by decide, by decide⟩, ⟨by decide, by decide⟩⟩ ⟨by decide, by decide⟩ rfl
  obtain ⟨FL, hFL, hll⟩ := liveM29_bytes
  have HA := hid (fun W : World => (by
    have := rpc_bytes W liveM29 none 0 none 0 none 0 none 0 (hin W) (fun x hx => by simp [liveM29] at hx) (by decide)
    rw [hFL] at this
    exact this : Calls Tryz.prog 27 #[.agg #[.int .i64 7, .int .u64 3, .int .u64 5, .int .u64 0, .int .i64 0, .int .i64 0, .slice none 0 0, .slice none 0 0, .slice none 0 0, .int .u64 0, .int .u64 0, .int .u64 0, .int .u64 0, .slice none 0 0]] W fun r w' => ∃ v, r = .returned (.tuple #[v, .int .i64 0]) ∧ rBytes.r (fun q => W.heap.size ≤ q ∧ q < w'.heap.size) w' [v] (3 :: FL) ∧ Below W.heap.size W w'))
  have HP := hid (fun W : World => (by
    have := rpc_payload W liveM29 none 0 none 0 none 0 none 0 (hin W) (fun x hx => by simp [liveM29] at hx) (by decide)
    rw [liveM29_pay] at this
    exact this : Calls Tryz.prog 28 #[.agg #[.int .i64 7, .int .u64 3, .int .u64 5, .int .u64 0, .int .i64 0, .int .i64 0, .slice none 0 0, .slice none 0 0, .slice none 0 0, .int .u64 0, .int .u64 0, .int .u64 0, .int .u64 0, .slice none 0 0]] W fun r w' => ∃ v, r = .returned (.tuple #[v, .int .i64 0]) ∧ rBytes.r (fun q => W.heap.size ≤ q ∧ q < w'.heap.size) w' [v] [7, 3, 5] ∧ Below W.heap.size W w'))
  have hlen : (3 :: FL).length = 8 := by simp [hll]
  have HLEN := hid hlen
  have HBX : Hid (Blk (w.alloc (.cells #[.int .i64 7, .int .u64 3, .int .u64 5, .int .u64 0, .int .i64 0, .int .i64 0, .slice none 0 0, .slice none 0 0, .slice none 0 0, .int .u64 0, .int .u64 0, .int .u64 0, .int .u64 0, .slice none 0 0] 32)) w.heap.size 32 #[.int .i64 7, .int .u64 3, .int .u64 5, .int .u64 0, .int .i64 0, .int .i64 0, .slice none 0 0, .slice none 0 0, .slice none 0 0, .int .u64 0, .int .u64 0, .int .u64 0, .int .u64 0, .slice none 0 0]) := hid (Blk.new w _ _)
  have hb0 : Below w.heap.size w (w.alloc (.cells #[.int .i64 7, .int .u64 3, .int .u64 5, .int .u64 0, .int .i64 0, .int .i64 0, .slice none 0 0, .slice none 0 0, .slice none 0 0, .int .u64 0, .int .u64 0, .int .u64 0, .int .u64 0, .slice none 0 0] 32)) := by (repeat (first | exact Below.refl _ _ | assumption | (refine below_alloc ?_ _) | (refine Below.setCell ?_ (by first | omega | (simp; done) | (simp; omega)) _) | (refine Below.drew ?_) | (refine below_drewN ?_ _) | (refine below_then (by assumption) ?_)))
  clear hin hFL hll hlen
  go_enter Tryz.func26, Tryz.ntmps26
  go_wp2_with fail
  generalize w.alloc (.cells #[.int .i64 7, .int .u64 3, .int .u64 5, .int .u64 0, .int .i64 0, .int .i64 0, .slice none 0 0, .slice none 0 0, .slice none 0 0, .int .u64 0, .int .u64 0, .int .u64 0, .int .u64 0, .slice none 0 0] 32) = w0 at *
  refine (HA.out _).mono ?_
  rintro r w1 ⟨v1, rfl, hr1, hb1⟩
  obtain ⟨e1, d1, hv1, hs1, _⟩ := sl_form hr1
  simp only [List.cons.injEq, and_true] at hv1
  subst hv1
  have HS1 := hid (rBytes.mono hs1 (S' := (· < w1.heap.size)) fun q hq => hq.2)
  have hbw1 := below_then hb1 hb0
  have B1 := HBX.out.later hb1
  have y0 : w1.cell? ⟨w.heap.size, 0, none⟩ = some (.int .i64 7) := B1.cell 0
  have y1 : w1.cell? ⟨w.heap.size, 1, none⟩ = some (.int .u64 3) := B1.cell 1
  have y2 : w1.cell? ⟨w.heap.size, 2, none⟩ = some (.int .u64 5) := B1.cell 2
  have y3 : w1.cell? ⟨w.heap.size, 3, none⟩ = some (.int .u64 0) := B1.cell 3
  have y4 : w1.cell? ⟨w.heap.size, 4, none⟩ = some (.int .i64 0) := B1.cell 4
  have y5 : w1.cell? ⟨w.heap.size, 5, none⟩ = some (.int .i64 0) := B1.cell 5
  have y6 : w1.cell? ⟨w.heap.size, 6, none⟩ = some (.slice none 0 0) := B1.cell 6
  have y7 : w1.cell? ⟨w.heap.size, 7, none⟩ = some (.slice none 0 0) := B1.cell 7
  have y8 : w1.cell? ⟨w.heap.size, 8, none⟩ = some (.slice none 0 0) := B1.cell 8
  have y9 : w1.cell? ⟨w.heap.size, 9, none⟩ = some (.int .u64 0) := B1.cell 9
  have y10 : w1.cell? ⟨w.heap.size, 10, none⟩ = some (.int .u64 0) := B1.cell 10
  have y11 : w1.cell? ⟨w.heap.size, 11, none⟩ = some (.int .u64 0) := B1.cell 11
  have y12 : w1.cell? ⟨w.heap.size, 12, none⟩ = some (.int .u64 0) := B1.cell 12
  have y13 : w1.cell? ⟨w.heap.size, 13, none⟩ = some (.slice none 0 0) := B1.cell 13
  rw [HLEN.out] at *
  clear hr1 hs1
  go_wp2_with fail
  refine (HP.out _).mono ?_
  rintro r w2 ⟨v2, rfl, hr2, hb2⟩
  obtain ⟨e2, d2, hv2, hs2, _⟩ := sl_form hr2
  simp only [List.cons.injEq, and_true] at hv2
  subst hv2
  have HS2 := hid (rBytes.mono hs2 (S' := (· < w2.heap.size)) fun q hq => hq.2)
  have hs1b := lift HS1.out hb2
  obtain ⟨b, o, hA, hbb, hx⟩ := bytes_first hs1b
  subst hA
  have hbw2 := below_then hb2 hbw1
  clear hr2 hs2 hb2 hbw1 y0 y1 y2 y3 y4 y5 y6 y7 y8 y9 y10 y11 y12 y13 hb1 B1
  go_wp2_with fail
  have hsb := same_bytes [7, 3, 5] [7, 3, 5] e2 (some ⟨w2.heap.size, 0, none⟩) _ d2 3 3 (w2.alloc (.cells #[.int .u8 7, .int .u8 3, .int .u8 5] 5)) (lift HS2.out (by clear hbw2; (repeat (first | exact Below.refl _ _ | assumption | (refine below_alloc ?_ _) | (refine Below.setCell ?_ (by first | omega | (simp; done) | (simp; omega)) _) | (refine Below.drew ?_) | (refine below_drewN ?_ _) | (refine below_then (by assumption) ?_))))) (lit_bytes (l := [7, 3, 5]) (cs := #[.int .u8 7, .int .u8 3, .int .u8 5]) rfl (by decide) (World.alloc_heap_new w2 _))
  simp only [decide_true] at hsb
  refine hsb.mono ?_
  rintro r w4 ⟨rfl, rfl⟩
  have hbw4 : Below w.heap.size w (w2.alloc (.cells #[.int .u8 7, .int .u8 3, .int .u8 5] 5)) := below_alloc hbw2 _
  clear hsb
  generalize w2.alloc (.cells #[.int .u8 7, .int .u8 3, .int .u8 5] 5) = w4 at *
  go_wp2_with fail
  go_ret
  exact ⟨rfl, hbw4⟩

set_option maxRecDepth 100000 in
set_option maxHeartbeats 12800000 in
theorem rpcWrites_c (l : List Msg) (a : Option Addr) (n c : Nat) (w : World) (hl : rMsgs.r (· < w.heap.size) w [.slice a n c] l) :
    Calls Tryz.prog 4 #[.slice a n c] w fun r w' => r = .returned (.bool true) ∧ Below w.heap.size w w' := by
  obtain ⟨rfl, hm, _, _⟩ := sl_len hl
  have HL := hid hl
  have HMN := hid (law29_many l a _ c w hl)
  cases hmn : many29 l
  · rw [hmn] at HMN
    obtain ⟨hlen, hsh0⟩ := longG_no hmn
    have hsh : ∀ m ∈ l, Short m := fun m hm => long28_no (hsh0 m hm)
    have HALL := hid (fun (W : World) (hW : Below w.heap.size w W) => rpc_all l a _ c W (lift hl hW) hsh hlen)
    have HRA := hid (fun (h : allR l = true) (W : World) (hW : Below w.heap.size w W) => ref29_all l a _ c W (lift hl hW) hsh hlen h)
    have HSH := hid (fun (k : Nat) (h : k < l.length) => hsh l[k] (List.getElem_mem h))
    have HAS := hid (fun (k : Nat) (h : k < l.length) => allR_step l k h)
    clear hl hmn hsh hsh0
    go_enter Tryz.func4, Tryz.ntmps4
    go_wp2_with fail
    refine HMN.out.mono ?_
    rintro r w0 ⟨rfl, hbw0⟩
    have HB0 := hid hbw0
    clear hbw0
    go_wp2_with fail
    go_loopw [3, 4] (fun g i wr => ∃ k : Nat, k ≤ l.length ∧ i = .int .i64 k ∧ g = .bool (allR (l.take k)) ∧ Below w.heap.size w wr) (fun _ i _ => l.length - (intOf i).toNat)
    case atStart => exact ⟨0, Nat.zero_le _, rfl, rfl, HB0.out⟩
    case round =>
      obtain ⟨k, hk, rfl, rfl, hb⟩ := hrel
      have HB := hid hb
      by_cases hlt : k < l.length
      · have i1 : (k : Int) < (l.length : Int) := by omega
        have e1 : decide ((k : Int) < (l.length : Int)) = true := decide_eq_true i1
        obtain ⟨b, o, hA, hbb, a1, c1, a2, c2, a3, c3, a4, c4, ⟨u0, u1, u2, u3, u4, u5, u6, u7, u8, u9, u10, u11, u12, u13⟩, xl⟩ := msg_at (lift HL.out hb) hlt
        subst hA
        have hs := HSH.out k hlt
        have hst := HAS.out k hlt
        have hdl := hs.data
        have hbl : b < wr.heap.size := World.block_lt_of_cell? _ _ u0
        generalize l[k] = m at *
        generalize allR (l.take k) = G at *
        have hbk : ∀ x ∈ m.links, x.backs.length ≤ 1000000 := fun x hx => by have := hs.backs x hx; omega
        have HBY := hid (fun (W : World) (hW : Below wr.heap.size wr W) => rpc_bytes W m a1 c1 a2 c2 a3 c3 a4 c4 (MsgIn.lift xl hW) hbk (by omega))
        have HPY := hid (fun (W : World) (hW : Below wr.heap.size wr W) => rpc_payload W m a1 c1 a2 c2 a3 c3 a4 c4 (MsgIn.lift xl hW) hbk (by omega))
        have HRT := hid (fun (W : World) (hW : Below wr.heap.size wr W) => rpc_right m a1 c1 a2 c2 a3 c3 a4 c4 W (MsgIn.lift xl hW) hbk)
        have HRR := hid (fun (W : World) (hW : Below wr.heap.size wr W) => ref29_right m a1 c1 a2 c2 a3 c3 a4 c4 W (MsgIn.lift xl hW))
        unfold rpcBytes at HBY
        unfold payBytes at HPY
        have hb0 : Below wr.heap.size wr (wr.alloc (.cells #[.int .i64 m.kind, .int .u64 m.epoch, .int .u64 m.seq, .int .u64 m.pos, .int .i64 m.count, .int .i64 m.state, .slice a1 m.streams.length c1, .slice a2 m.links.length c2, .slice a3 m.data.length c3, .int .u64 m.sea.epoch, .int .u64 m.sea.node, .int .u64 m.sea.tail, .int .u64 m.proj.epoch, .slice a4 m.proj.stripes.length c4] 32)) := by clear hb; (repeat (first | exact Below.refl _ _ | assumption | (refine below_alloc ?_ _) | (refine Below.setCell ?_ (by first | omega | (simp; done) | (simp; omega)) _) | (refine Below.drew ?_) | (refine below_drewN ?_ _) | (refine below_then (by assumption) ?_)))
        have HBX : Hid (Blk (wr.alloc (.cells #[.int .i64 m.kind, .int .u64 m.epoch, .int .u64 m.seq, .int .u64 m.pos, .int .i64 m.count, .int .i64 m.state, .slice a1 m.streams.length c1, .slice a2 m.links.length c2, .slice a3 m.data.length c3, .int .u64 m.sea.epoch, .int .u64 m.sea.node, .int .u64 m.sea.tail, .int .u64 m.proj.epoch, .slice a4 m.proj.stripes.length c4] 32)) wr.heap.size 32 #[.int .i64 m.kind, .int .u64 m.epoch, .int .u64 m.seq, .int .u64 m.pos, .int .i64 m.count, .int .i64 m.state, .slice a1 m.streams.length c1, .slice a2 m.links.length c2, .slice a3 m.data.length c3, .int .u64 m.sea.epoch, .int .u64 m.sea.node, .int .u64 m.sea.tail, .int .u64 m.proj.epoch, .slice a4 m.proj.stripes.length c4]) := hid (Blk.new wr _ _)
        cases hR : rpcR m
        · rw [hR] at HBY HPY HRT HRR hst
          simp only [Bool.false_eq_true, if_false] at HBY HPY
          have HST := hid hst
          have HPUT := hid (fun (W : World) {g base : Nat} {a : Option Addr} {c : Nat} (h : PenAt W g base 131072 [] a c) (hW : Below wr.heap.size wr W) => rpc_put_bad W h m a1 c1 a2 c2 a3 c3 a4 c4 (MsgIn.lift xl hW) hbk (by omega) hR)
          clear hs hst hbk hR xl hb
          as_aux_lemma =>
            go_wp2_with fail
            generalize (wr.alloc (.cells #[.int .i64 m.kind, .int .u64 m.epoch, .int .u64 m.seq, .int .u64 m.pos, .int .i64 m.count, .int .i64 m.state, .slice a1 m.streams.length c1, .slice a2 m.links.length c2, .slice a3 m.data.length c3, .int .u64 m.sea.epoch, .int .u64 m.sea.node, .int .u64 m.sea.tail, .int .u64 m.proj.epoch, .slice a4 m.proj.stripes.length c4] 32)) = wb at *
            refine (HBY.out _ hb0).mono ?_
            rintro r w1 ⟨v1, rfl, hr1, hb1⟩
            obtain ⟨eb, kb, hv1, hr1', _⟩ := sl_form hr1
            simp only [List.cons.injEq, and_true] at hv1
            subst hv1
            have hbw1 := below_then hb1 hb0
            have B1 := HBX.out.later hb1
            have HS1 := hid (rBytes.mono hr1' (S' := (· < w1.heap.size)) fun q hq => hq.2)
            clear hr1 hr1' hb1
            have y0 : w1.cell? ⟨wr.heap.size, 0, none⟩ = some (.int .i64 m.kind) := B1.cell 0
            have y1 : w1.cell? ⟨wr.heap.size, 1, none⟩ = some (.int .u64 m.epoch) := B1.cell 1
            have y2 : w1.cell? ⟨wr.heap.size, 2, none⟩ = some (.int .u64 m.seq) := B1.cell 2
            have y3 : w1.cell? ⟨wr.heap.size, 3, none⟩ = some (.int .u64 m.pos) := B1.cell 3
            have y4 : w1.cell? ⟨wr.heap.size, 4, none⟩ = some (.int .i64 m.count) := B1.cell 4
            have y5 : w1.cell? ⟨wr.heap.size, 5, none⟩ = some (.int .i64 m.state) := B1.cell 5
            have y6 : w1.cell? ⟨wr.heap.size, 6, none⟩ = some (.slice a1 m.streams.length c1) := B1.cell 6
            have y7 : w1.cell? ⟨wr.heap.size, 7, none⟩ = some (.slice a2 m.links.length c2) := B1.cell 7
            have y8 : w1.cell? ⟨wr.heap.size, 8, none⟩ = some (.slice a3 m.data.length c3) := B1.cell 8
            have y9 : w1.cell? ⟨wr.heap.size, 9, none⟩ = some (.int .u64 m.sea.epoch) := B1.cell 9
            have y10 : w1.cell? ⟨wr.heap.size, 10, none⟩ = some (.int .u64 m.sea.node) := B1.cell 10
            have y11 : w1.cell? ⟨wr.heap.size, 11, none⟩ = some (.int .u64 m.sea.tail) := B1.cell 11
            have y12 : w1.cell? ⟨wr.heap.size, 12, none⟩ = some (.int .u64 m.proj.epoch) := B1.cell 12
            have y13 : w1.cell? ⟨wr.heap.size, 13, none⟩ = some (.slice a4 m.proj.stripes.length c4) := B1.cell 13
            have yl := B1.lt
            go_wp2_with fail
            refine (HPY.out _ hbw1).mono ?_
            rintro r w2 ⟨v2, rfl, hr2, hb2⟩
            obtain ⟨eq, kq, hv2, hr2', _⟩ := sl_form hr2
            simp only [List.cons.injEq, and_true] at hv2
            subst hv2
            have hbw2 := below_then hb2 hbw1
            have B2 := B1.later hb2
            have HS2 := hid (rBytes.mono hr2' (S' := (· < w2.heap.size)) fun q hq => hq.2)
            have HT2 := hid (lift HS1.out hb2)
            have HN := hid (pen_new w2 131072 (by omega))
            clear hr2 hr2' hb2 B1 y0 y1 y2 y3 y4 y5 y6 y7 y8 y9 y10 y11 y12 y13 yl
            go_wp2_with fail
            refine HN.out.mono ?_
            rintro r w3 ⟨rfl, hp3, hb3⟩
            have B3 := B2.later hb3
            have hbw3 := below_then hb3 hbw2
            have hlb := B2.lt
            have hs3 := hb3.size
            have y0 : w3.cell? ⟨wr.heap.size, 0, none⟩ = some (.int .i64 m.kind) := B3.cell 0
            have y1 : w3.cell? ⟨wr.heap.size, 1, none⟩ = some (.int .u64 m.epoch) := B3.cell 1
            have y2 : w3.cell? ⟨wr.heap.size, 2, none⟩ = some (.int .u64 m.seq) := B3.cell 2
            have y3 : w3.cell? ⟨wr.heap.size, 3, none⟩ = some (.int .u64 m.pos) := B3.cell 3
            have y4 : w3.cell? ⟨wr.heap.size, 4, none⟩ = some (.int .i64 m.count) := B3.cell 4
            have y5 : w3.cell? ⟨wr.heap.size, 5, none⟩ = some (.int .i64 m.state) := B3.cell 5
            have y6 : w3.cell? ⟨wr.heap.size, 6, none⟩ = some (.slice a1 m.streams.length c1) := B3.cell 6
            have y7 : w3.cell? ⟨wr.heap.size, 7, none⟩ = some (.slice a2 m.links.length c2) := B3.cell 7
            have y8 : w3.cell? ⟨wr.heap.size, 8, none⟩ = some (.slice a3 m.data.length c3) := B3.cell 8
            have y9 : w3.cell? ⟨wr.heap.size, 9, none⟩ = some (.int .u64 m.sea.epoch) := B3.cell 9
            have y10 : w3.cell? ⟨wr.heap.size, 10, none⟩ = some (.int .u64 m.sea.node) := B3.cell 10
            have y11 : w3.cell? ⟨wr.heap.size, 11, none⟩ = some (.int .u64 m.sea.tail) := B3.cell 11
            have y12 : w3.cell? ⟨wr.heap.size, 12, none⟩ = some (.int .u64 m.proj.epoch) := B3.cell 12
            have y13 : w3.cell? ⟨wr.heap.size, 13, none⟩ = some (.slice a4 m.proj.stripes.length c4) := B3.cell 13
            have yl := B3.lt
            have HPT := hid (HPUT.out w3 hp3 hbw3)
            clear hp3
            go_wp2_with fail
            refine HPT.out.mono ?_
            rintro r w5 ⟨rfl, hB6p, hT6⟩
            have hb25 : Below w2.heap.size w2 w5 := hb3.trans (hT6.to_below hs3 (fun q _ e => by omega))
            have hbw5 := below_then hb25 hbw2
            have B5 := B2.later hb25
            have HB5 := hid (pen_bytes_bad w5 (k := 3) (by omega) hB6p)
            clear hB6p hT6 y0 y1 y2 y3 y4 y5 y6 y7 y8 y9 y10 y11 y12 y13 yl B3
            go_wp2_with fail
            refine HB5.out.mono ?_
            rintro r w5' ⟨rfl, rfl⟩
            have HS5 : Hid (rBytes.r (· < w5.heap.size) w5 [.slice none 0 0] []) := hid (empty_bytes2 rfl rfl (by omega))
            have HT5 := hid (lift HT2.out hb25)
            have HU5 := hid (lift HS2.out hb25)
            have HRT5 := hid (fun s : Later w5 => HRT.out s.at_ (below_then s.below hbw5))
            have HRR5 := hid (fun s : Later w5 => HRR.out s.at_ (below_then s.below hbw5))
            have HSA := fun s : Later w5 => same_bytes [] [] none eb 0 0 0 kb s.at_ (lift HS5.out s.below) (lift HT5.out s.below)
            simp only [decide_true] at HSA
            have HSA5 := hid HSA
            clear HSA
            have Y0 := fun s : Later w5 => s.cell (B5.cell 0 : w5.cell? ⟨wr.heap.size, 0, none⟩ = some (.int .i64 m.kind))
            have Y1 := fun s : Later w5 => s.cell (B5.cell 1 : w5.cell? ⟨wr.heap.size, 1, none⟩ = some (.int .u64 m.epoch))
            have Y2 := fun s : Later w5 => s.cell (B5.cell 2 : w5.cell? ⟨wr.heap.size, 2, none⟩ = some (.int .u64 m.seq))
            have Y3 := fun s : Later w5 => s.cell (B5.cell 3 : w5.cell? ⟨wr.heap.size, 3, none⟩ = some (.int .u64 m.pos))
            have Y4 := fun s : Later w5 => s.cell (B5.cell 4 : w5.cell? ⟨wr.heap.size, 4, none⟩ = some (.int .i64 m.count))
            have Y5 := fun s : Later w5 => s.cell (B5.cell 5 : w5.cell? ⟨wr.heap.size, 5, none⟩ = some (.int .i64 m.state))
            have Y6 := fun s : Later w5 => s.cell (B5.cell 6 : w5.cell? ⟨wr.heap.size, 6, none⟩ = some (.slice a1 m.streams.length c1))
            have Y7 := fun s : Later w5 => s.cell (B5.cell 7 : w5.cell? ⟨wr.heap.size, 7, none⟩ = some (.slice a2 m.links.length c2))
            have Y8 := fun s : Later w5 => s.cell (B5.cell 8 : w5.cell? ⟨wr.heap.size, 8, none⟩ = some (.slice a3 m.data.length c3))
            have Y9 := fun s : Later w5 => s.cell (B5.cell 9 : w5.cell? ⟨wr.heap.size, 9, none⟩ = some (.int .u64 m.sea.epoch))
            have Y10 := fun s : Later w5 => s.cell (B5.cell 10 : w5.cell? ⟨wr.heap.size, 10, none⟩ = some (.int .u64 m.sea.node))
            have Y11 := fun s : Later w5 => s.cell (B5.cell 11 : w5.cell? ⟨wr.heap.size, 11, none⟩ = some (.int .u64 m.sea.tail))
            have Y12 := fun s : Later w5 => s.cell (B5.cell 12 : w5.cell? ⟨wr.heap.size, 12, none⟩ = some (.int .u64 m.proj.epoch))
            have Y13 := fun s : Later w5 => s.cell (B5.cell 13 : w5.cell? ⟨wr.heap.size, 13, none⟩ = some (.slice a4 m.proj.stripes.length c4))
            go_wp2_with fail
            refine wp_region_later (by kernel_rfl) (by kernel_rfl) ?_
            repeat (go_big_quiet_step ((first | (go_at_call 30; with_reducible exact later_of (HRT5.out _)) | (go_at_call 31; with_reducible exact later_of (HRR5.out _)) | (go_at_call 18; with_reducible exact later_same (HSA5.out _)))))
            refine wpQuiet_nil ?_
            rintro w6 ⟨⟨w6x, hb6⟩, rfl⟩
            (try dsimp only)
            have hbw6 := below_then hb6 hbw5
            have B6 := B5.later hb6
            clear Y0 Y1 Y2 Y3 Y4 Y5 Y6 Y7 Y8 Y9 Y10 Y11 Y12 Y13
            have y0 : w6.cell? ⟨wr.heap.size, 0, none⟩ = some (.int .i64 m.kind) := B6.cell 0
            have y1 : w6.cell? ⟨wr.heap.size, 1, none⟩ = some (.int .u64 m.epoch) := B6.cell 1
            have y2 : w6.cell? ⟨wr.heap.size, 2, none⟩ = some (.int .u64 m.seq) := B6.cell 2
            have y3 : w6.cell? ⟨wr.heap.size, 3, none⟩ = some (.int .u64 m.pos) := B6.cell 3
            have y4 : w6.cell? ⟨wr.heap.size, 4, none⟩ = some (.int .i64 m.count) := B6.cell 4
            have y5 : w6.cell? ⟨wr.heap.size, 5, none⟩ = some (.int .i64 m.state) := B6.cell 5
            have y6 : w6.cell? ⟨wr.heap.size, 6, none⟩ = some (.slice a1 m.streams.length c1) := B6.cell 6
            have y7 : w6.cell? ⟨wr.heap.size, 7, none⟩ = some (.slice a2 m.links.length c2) := B6.cell 7
            have y8 : w6.cell? ⟨wr.heap.size, 8, none⟩ = some (.slice a3 m.data.length c3) := B6.cell 8
            have y9 : w6.cell? ⟨wr.heap.size, 9, none⟩ = some (.int .u64 m.sea.epoch) := B6.cell 9
            have y10 : w6.cell? ⟨wr.heap.size, 10, none⟩ = some (.int .u64 m.sea.node) := B6.cell 10
            have y11 : w6.cell? ⟨wr.heap.size, 11, none⟩ = some (.int .u64 m.sea.tail) := B6.cell 11
            have y12 : w6.cell? ⟨wr.heap.size, 12, none⟩ = some (.int .u64 m.proj.epoch) := B6.cell 12
            have y13 : w6.cell? ⟨wr.heap.size, 13, none⟩ = some (.slice a4 m.proj.stripes.length c4) := B6.cell 13
            have yl := B6.lt
            go_wp2_with fail
            refine (HRR.out w6 hbw6).mono ?_
            rintro r w7 ⟨rfl, hb7⟩
            have hbw7 := below_then hb7 hbw6
            have B7 := B6.later hb7
            have hb67 := below_then hb7 hb6
            clear y0 y1 y2 y3 y4 y5 y6 y7 y8 y9 y10 y11 y12 y13 yl B6
            have hbe := below_then hbw7 HB.out
            go_wp2_with fail
            go_roundw
            case rel => exact ⟨k + 1, by omega, by go_num, by rw [HST.out, Bool.and_false], hbe⟩
            case measure => (simp [intOf]; try omega)
        · rw [hR] at HBY HPY HRT HRR hst
          simp only [if_true] at HBY HPY
          have HST := hid hst
          have hfl := rpcBytes_len hR
          have HPUT := hid (fun (W : World) {g base : Nat} {a : Option Addr} {c : Nat} (h : PenAt W g base 131072 [] a c) (hW : Below wr.heap.size wr W) => rpc_put W h m a1 c1 a2 c2 a3 c3 a4 c4 (MsgIn.lift xl hW) hbk (by omega) hR (by simp; omega) (by simp; omega))
          have HRP := hid (fun (W : World) (hW : Below wr.heap.size wr W) => ref29_payload W m a1 c1 a2 c2 a3 c3 a4 c4 (MsgIn.lift xl hW) hbk hR)
          have HRB := hid (fun (W : World) (hW : Below wr.heap.size wr W) => ref29_bytes W m a1 c1 a2 c2 a3 c3 a4 c4 (MsgIn.lift xl hW) hbk (by omega) hR)
          generalize frameB (payB m) = FX at *
          generalize payB m = PX at *
          clear hs hst hbk hR xl hb hfl
          as_aux_lemma =>
            go_wp2_with fail
            generalize (wr.alloc (.cells #[.int .i64 m.kind, .int .u64 m.epoch, .int .u64 m.seq, .int .u64 m.pos, .int .i64 m.count, .int .i64 m.state, .slice a1 m.streams.length c1, .slice a2 m.links.length c2, .slice a3 m.data.length c3, .int .u64 m.sea.epoch, .int .u64 m.sea.node, .int .u64 m.sea.tail, .int .u64 m.proj.epoch, .slice a4 m.proj.stripes.length c4] 32)) = wb at *
            refine (HBY.out _ hb0).mono ?_
            rintro r w1 ⟨v1, rfl, hr1, hb1⟩
            obtain ⟨eb, kb, hv1, hr1', _⟩ := sl_form hr1
            simp only [List.cons.injEq, and_true] at hv1
            subst hv1
            have hbw1 := below_then hb1 hb0
            have B1 := HBX.out.later hb1
            have HS1 := hid (rBytes.mono hr1' (S' := (· < w1.heap.size)) fun q hq => hq.2)
            clear hr1 hr1' hb1
            have y0 : w1.cell? ⟨wr.heap.size, 0, none⟩ = some (.int .i64 m.kind) := B1.cell 0
            have y1 : w1.cell? ⟨wr.heap.size, 1, none⟩ = some (.int .u64 m.epoch) := B1.cell 1
            have y2 : w1.cell? ⟨wr.heap.size, 2, none⟩ = some (.int .u64 m.seq) := B1.cell 2
            have y3 : w1.cell? ⟨wr.heap.size, 3, none⟩ = some (.int .u64 m.pos) := B1.cell 3
            have y4 : w1.cell? ⟨wr.heap.size, 4, none⟩ = some (.int .i64 m.count) := B1.cell 4
            have y5 : w1.cell? ⟨wr.heap.size, 5, none⟩ = some (.int .i64 m.state) := B1.cell 5
            have y6 : w1.cell? ⟨wr.heap.size, 6, none⟩ = some (.slice a1 m.streams.length c1) := B1.cell 6
            have y7 : w1.cell? ⟨wr.heap.size, 7, none⟩ = some (.slice a2 m.links.length c2) := B1.cell 7
            have y8 : w1.cell? ⟨wr.heap.size, 8, none⟩ = some (.slice a3 m.data.length c3) := B1.cell 8
            have y9 : w1.cell? ⟨wr.heap.size, 9, none⟩ = some (.int .u64 m.sea.epoch) := B1.cell 9
            have y10 : w1.cell? ⟨wr.heap.size, 10, none⟩ = some (.int .u64 m.sea.node) := B1.cell 10
            have y11 : w1.cell? ⟨wr.heap.size, 11, none⟩ = some (.int .u64 m.sea.tail) := B1.cell 11
            have y12 : w1.cell? ⟨wr.heap.size, 12, none⟩ = some (.int .u64 m.proj.epoch) := B1.cell 12
            have y13 : w1.cell? ⟨wr.heap.size, 13, none⟩ = some (.slice a4 m.proj.stripes.length c4) := B1.cell 13
            have yl := B1.lt
            go_wp2_with fail
            refine (HPY.out _ hbw1).mono ?_
            rintro r w2 ⟨v2, rfl, hr2, hb2⟩
            obtain ⟨eq, kq, hv2, hr2', _⟩ := sl_form hr2
            simp only [List.cons.injEq, and_true] at hv2
            subst hv2
            have hbw2 := below_then hb2 hbw1
            have B2 := B1.later hb2
            have HS2 := hid (rBytes.mono hr2' (S' := (· < w2.heap.size)) fun q hq => hq.2)
            have HT2 := hid (lift HS1.out hb2)
            have HN := hid (pen_new w2 131072 (by omega))
            clear hr2 hr2' hb2 B1 y0 y1 y2 y3 y4 y5 y6 y7 y8 y9 y10 y11 y12 y13 yl
            go_wp2_with fail
            refine HN.out.mono ?_
            rintro r w3 ⟨rfl, hp3, hb3⟩
            have B3 := B2.later hb3
            have hbw3 := below_then hb3 hbw2
            have hlb := B2.lt
            have hs3 := hb3.size
            have y0 : w3.cell? ⟨wr.heap.size, 0, none⟩ = some (.int .i64 m.kind) := B3.cell 0
            have y1 : w3.cell? ⟨wr.heap.size, 1, none⟩ = some (.int .u64 m.epoch) := B3.cell 1
            have y2 : w3.cell? ⟨wr.heap.size, 2, none⟩ = some (.int .u64 m.seq) := B3.cell 2
            have y3 : w3.cell? ⟨wr.heap.size, 3, none⟩ = some (.int .u64 m.pos) := B3.cell 3
            have y4 : w3.cell? ⟨wr.heap.size, 4, none⟩ = some (.int .i64 m.count) := B3.cell 4
            have y5 : w3.cell? ⟨wr.heap.size, 5, none⟩ = some (.int .i64 m.state) := B3.cell 5
            have y6 : w3.cell? ⟨wr.heap.size, 6, none⟩ = some (.slice a1 m.streams.length c1) := B3.cell 6
            have y7 : w3.cell? ⟨wr.heap.size, 7, none⟩ = some (.slice a2 m.links.length c2) := B3.cell 7
            have y8 : w3.cell? ⟨wr.heap.size, 8, none⟩ = some (.slice a3 m.data.length c3) := B3.cell 8
            have y9 : w3.cell? ⟨wr.heap.size, 9, none⟩ = some (.int .u64 m.sea.epoch) := B3.cell 9
            have y10 : w3.cell? ⟨wr.heap.size, 10, none⟩ = some (.int .u64 m.sea.node) := B3.cell 10
            have y11 : w3.cell? ⟨wr.heap.size, 11, none⟩ = some (.int .u64 m.sea.tail) := B3.cell 11
            have y12 : w3.cell? ⟨wr.heap.size, 12, none⟩ = some (.int .u64 m.proj.epoch) := B3.cell 12
            have y13 : w3.cell? ⟨wr.heap.size, 13, none⟩ = some (.slice a4 m.proj.stripes.length c4) := B3.cell 13
            have yl := B3.lt
            have HPT := hid (HPUT.out w3 hp3 hbw3)
            have HP3 := hid hp3
            clear hp3
            go_wp2_with fail
            refine HPT.out.mono ?_
            rintro r w4 ⟨rfl, hst⟩
            rw [List.nil_append] at hst
            have hb24 : Below w2.heap.size w2 w4 := hb3.trans (HP3.out.below (Nat.le_refl _) hs3 hst)
            have hbw4 := below_then hb24 hbw2
            have B4 := B2.later hb24
            obtain ⟨a5, k5, hp5, _, _⟩ := hst
            have HB5 := hid (pen_bytes w4 hp5)
            clear hp5 y0 y1 y2 y3 y4 y5 y6 y7 y8 y9 y10 y11 y12 y13 yl B3
            go_wp2_with fail
            refine HB5.out.mono ?_
            rintro r w5 ⟨v5, rfl, hr5, hb5⟩
            obtain ⟨ea, ka, hv5, hr5', _⟩ := sl_form hr5
            simp only [List.cons.injEq, and_true] at hv5
            subst hv5
            have HS5 := hid (rBytes.mono hr5' (S' := (· < w5.heap.size)) fun q hq => hq.2)
            have hb25 := below_then hb5 hb24
            have hbw5 := below_then hb5 hbw4
            have B5 := B4.later hb5
            clear hr5 hr5' B4 hb5
            have HT5 := hid (lift HT2.out hb25)
            have HU5 := hid (lift HS2.out hb25)
            have HRT5 := hid (fun s : Later w5 => HRT.out s.at_ (below_then s.below hbw5))
            have HRR5 := hid (fun s : Later w5 => HRR.out s.at_ (below_then s.below hbw5))
            have HSA := fun s : Later w5 => same_bytes FX FX ea eb _ ka _ kb s.at_ (lift HS5.out s.below) (lift HT5.out s.below)
            simp only [decide_true] at HSA
            have HSA5 := hid HSA
            clear HSA
            have Y0 := fun s : Later w5 => s.cell (B5.cell 0 : w5.cell? ⟨wr.heap.size, 0, none⟩ = some (.int .i64 m.kind))
            have Y1 := fun s : Later w5 => s.cell (B5.cell 1 : w5.cell? ⟨wr.heap.size, 1, none⟩ = some (.int .u64 m.epoch))
            have Y2 := fun s : Later w5 => s.cell (B5.cell 2 : w5.cell? ⟨wr.heap.size, 2, none⟩ = some (.int .u64 m.seq))
            have Y3 := fun s : Later w5 => s.cell (B5.cell 3 : w5.cell? ⟨wr.heap.size, 3, none⟩ = some (.int .u64 m.pos))
            have Y4 := fun s : Later w5 => s.cell (B5.cell 4 : w5.cell? ⟨wr.heap.size, 4, none⟩ = some (.int .i64 m.count))
            have Y5 := fun s : Later w5 => s.cell (B5.cell 5 : w5.cell? ⟨wr.heap.size, 5, none⟩ = some (.int .i64 m.state))
            have Y6 := fun s : Later w5 => s.cell (B5.cell 6 : w5.cell? ⟨wr.heap.size, 6, none⟩ = some (.slice a1 m.streams.length c1))
            have Y7 := fun s : Later w5 => s.cell (B5.cell 7 : w5.cell? ⟨wr.heap.size, 7, none⟩ = some (.slice a2 m.links.length c2))
            have Y8 := fun s : Later w5 => s.cell (B5.cell 8 : w5.cell? ⟨wr.heap.size, 8, none⟩ = some (.slice a3 m.data.length c3))
            have Y9 := fun s : Later w5 => s.cell (B5.cell 9 : w5.cell? ⟨wr.heap.size, 9, none⟩ = some (.int .u64 m.sea.epoch))
            have Y10 := fun s : Later w5 => s.cell (B5.cell 10 : w5.cell? ⟨wr.heap.size, 10, none⟩ = some (.int .u64 m.sea.node))
            have Y11 := fun s : Later w5 => s.cell (B5.cell 11 : w5.cell? ⟨wr.heap.size, 11, none⟩ = some (.int .u64 m.sea.tail))
            have Y12 := fun s : Later w5 => s.cell (B5.cell 12 : w5.cell? ⟨wr.heap.size, 12, none⟩ = some (.int .u64 m.proj.epoch))
            have Y13 := fun s : Later w5 => s.cell (B5.cell 13 : w5.cell? ⟨wr.heap.size, 13, none⟩ = some (.slice a4 m.proj.stripes.length c4))
            go_wp2_with fail
            refine wp_region_later (by kernel_rfl) (by kernel_rfl) ?_
            repeat (go_big_quiet_step ((first | (go_at_call 30; with_reducible exact later_of (HRT5.out _)) | (go_at_call 31; with_reducible exact later_of (HRR5.out _)) | (go_at_call 18; with_reducible exact later_same (HSA5.out _)))))
            refine wpQuiet_nil ?_
            rintro w6 ⟨⟨w6x, hb6⟩, rfl⟩
            (try dsimp only)
            have hbw6 := below_then hb6 hbw5
            have B6 := B5.later hb6
            clear Y0 Y1 Y2 Y3 Y4 Y5 Y6 Y7 Y8 Y9 Y10 Y11 Y12 Y13
            have y0 : w6.cell? ⟨wr.heap.size, 0, none⟩ = some (.int .i64 m.kind) := B6.cell 0
            have y1 : w6.cell? ⟨wr.heap.size, 1, none⟩ = some (.int .u64 m.epoch) := B6.cell 1
            have y2 : w6.cell? ⟨wr.heap.size, 2, none⟩ = some (.int .u64 m.seq) := B6.cell 2
            have y3 : w6.cell? ⟨wr.heap.size, 3, none⟩ = some (.int .u64 m.pos) := B6.cell 3
            have y4 : w6.cell? ⟨wr.heap.size, 4, none⟩ = some (.int .i64 m.count) := B6.cell 4
            have y5 : w6.cell? ⟨wr.heap.size, 5, none⟩ = some (.int .i64 m.state) := B6.cell 5
            have y6 : w6.cell? ⟨wr.heap.size, 6, none⟩ = some (.slice a1 m.streams.length c1) := B6.cell 6
            have y7 : w6.cell? ⟨wr.heap.size, 7, none⟩ = some (.slice a2 m.links.length c2) := B6.cell 7
            have y8 : w6.cell? ⟨wr.heap.size, 8, none⟩ = some (.slice a3 m.data.length c3) := B6.cell 8
            have y9 : w6.cell? ⟨wr.heap.size, 9, none⟩ = some (.int .u64 m.sea.epoch) := B6.cell 9
            have y10 : w6.cell? ⟨wr.heap.size, 10, none⟩ = some (.int .u64 m.sea.node) := B6.cell 10
            have y11 : w6.cell? ⟨wr.heap.size, 11, none⟩ = some (.int .u64 m.sea.tail) := B6.cell 11
            have y12 : w6.cell? ⟨wr.heap.size, 12, none⟩ = some (.int .u64 m.proj.epoch) := B6.cell 12
            have y13 : w6.cell? ⟨wr.heap.size, 13, none⟩ = some (.slice a4 m.proj.stripes.length c4) := B6.cell 13
            have yl := B6.lt
            go_wp2_with fail
            refine (HRR.out w6 hbw6).mono ?_
            rintro r w7 ⟨rfl, hb7⟩
            have hbw7 := below_then hb7 hbw6
            have B7 := B6.later hb7
            have hb67 := below_then hb7 hb6
            clear y0 y1 y2 y3 y4 y5 y6 y7 y8 y9 y10 y11 y12 y13 yl B6
            have y0 : w7.cell? ⟨wr.heap.size, 0, none⟩ = some (.int .i64 m.kind) := B7.cell 0
            have y1 : w7.cell? ⟨wr.heap.size, 1, none⟩ = some (.int .u64 m.epoch) := B7.cell 1
            have y2 : w7.cell? ⟨wr.heap.size, 2, none⟩ = some (.int .u64 m.seq) := B7.cell 2
            have y3 : w7.cell? ⟨wr.heap.size, 3, none⟩ = some (.int .u64 m.pos) := B7.cell 3
            have y4 : w7.cell? ⟨wr.heap.size, 4, none⟩ = some (.int .i64 m.count) := B7.cell 4
            have y5 : w7.cell? ⟨wr.heap.size, 5, none⟩ = some (.int .i64 m.state) := B7.cell 5
            have y6 : w7.cell? ⟨wr.heap.size, 6, none⟩ = some (.slice a1 m.streams.length c1) := B7.cell 6
            have y7 : w7.cell? ⟨wr.heap.size, 7, none⟩ = some (.slice a2 m.links.length c2) := B7.cell 7
            have y8 : w7.cell? ⟨wr.heap.size, 8, none⟩ = some (.slice a3 m.data.length c3) := B7.cell 8
            have y9 : w7.cell? ⟨wr.heap.size, 9, none⟩ = some (.int .u64 m.sea.epoch) := B7.cell 9
            have y10 : w7.cell? ⟨wr.heap.size, 10, none⟩ = some (.int .u64 m.sea.node) := B7.cell 10
            have y11 : w7.cell? ⟨wr.heap.size, 11, none⟩ = some (.int .u64 m.sea.tail) := B7.cell 11
            have y12 : w7.cell? ⟨wr.heap.size, 12, none⟩ = some (.int .u64 m.proj.epoch) := B7.cell 12
            have y13 : w7.cell? ⟨wr.heap.size, 13, none⟩ = some (.slice a4 m.proj.stripes.length c4) := B7.cell 13
            have yl := B7.lt
            go_wp2_with fail
            refine (HRP.out w7 hbw7).mono ?_
            rintro r w8 ⟨v8, rfl, ho8, hb8⟩
            obtain ⟨e8, k8, rfl⟩ := own_form ho8
            have hbw8 := below_then hb8 hbw7
            have B8 := B7.later hb8
            have hb58 := below_then hb8 hb67
            have hs8 := same_bytes PX PX eq e8 _ kq _ k8 w8 (lift HU5.out hb58) (own_bytes rfl ho8)
            simp only [decide_true] at hs8
            have HS8 := hid hs8
            clear hs8 ho8 y0 y1 y2 y3 y4 y5 y6 y7 y8 y9 y10 y11 y12 y13 yl B7
            go_wp2_with fail
            refine HS8.out.mono ?_
            rintro r w8' ⟨rfl, rfl⟩
            have y0 : w8.cell? ⟨wr.heap.size, 0, none⟩ = some (.int .i64 m.kind) := B8.cell 0
            have y1 : w8.cell? ⟨wr.heap.size, 1, none⟩ = some (.int .u64 m.epoch) := B8.cell 1
            have y2 : w8.cell? ⟨wr.heap.size, 2, none⟩ = some (.int .u64 m.seq) := B8.cell 2
            have y3 : w8.cell? ⟨wr.heap.size, 3, none⟩ = some (.int .u64 m.pos) := B8.cell 3
            have y4 : w8.cell? ⟨wr.heap.size, 4, none⟩ = some (.int .i64 m.count) := B8.cell 4
            have y5 : w8.cell? ⟨wr.heap.size, 5, none⟩ = some (.int .i64 m.state) := B8.cell 5
            have y6 : w8.cell? ⟨wr.heap.size, 6, none⟩ = some (.slice a1 m.streams.length c1) := B8.cell 6
            have y7 : w8.cell? ⟨wr.heap.size, 7, none⟩ = some (.slice a2 m.links.length c2) := B8.cell 7
            have y8 : w8.cell? ⟨wr.heap.size, 8, none⟩ = some (.slice a3 m.data.length c3) := B8.cell 8
            have y9 : w8.cell? ⟨wr.heap.size, 9, none⟩ = some (.int .u64 m.sea.epoch) := B8.cell 9
            have y10 : w8.cell? ⟨wr.heap.size, 10, none⟩ = some (.int .u64 m.sea.node) := B8.cell 10
            have y11 : w8.cell? ⟨wr.heap.size, 11, none⟩ = some (.int .u64 m.sea.tail) := B8.cell 11
            have y12 : w8.cell? ⟨wr.heap.size, 12, none⟩ = some (.int .u64 m.proj.epoch) := B8.cell 12
            have y13 : w8.cell? ⟨wr.heap.size, 13, none⟩ = some (.slice a4 m.proj.stripes.length c4) := B8.cell 13
            have yl := B8.lt
            go_wp2_with fail
            refine (HRB.out w8 hbw8).mono ?_
            rintro r w9 ⟨v9, rfl, ho9, hb9⟩
            obtain ⟨e9, k9, rfl⟩ := own_form ho9
            have hbw9 := below_then hb9 hbw8
            have hb59 := below_then hb9 hb58
            have hs9 := same_bytes FX FX eb e9 _ kb _ k9 w9 (lift HT5.out hb59) (own_bytes rfl ho9)
            simp only [decide_true] at hs9
            have HS9 := hid hs9
            clear hs9 ho9 y0 y1 y2 y3 y4 y5 y6 y7 y8 y9 y10 y11 y12 y13 yl B8
            go_wp2_with fail
            refine HS9.out.mono ?_
            rintro r w9' ⟨rfl, rfl⟩
            have hbe := below_then hbw9 HB.out
            go_wp2_with fail
            go_roundw
            case rel => exact ⟨k + 1, by omega, by go_num, by rw [HST.out, Bool.and_true], hbe⟩
            case measure => (simp [intOf]; try omega)
      · obtain rfl : k = l.length := by omega
        have e1 : decide ((l.length : Int) < (l.length : Int)) = false := decide_eq_false (by omega)
        rw [List.take_length]
        have HAA := hid (HALL.out wr HB.out)
        unfold allBytes at HAA
        cases hR : allR l
        · rw [hR] at HAA
          simp only [Bool.false_eq_true, if_false] at HAA
          clear hR hb
          go_wp2_with fail
          refine HAA.out.mono ?_
          rintro r w1 ⟨v1, rfl, hr1, hb1⟩
          obtain ⟨e1', d1, hv1, hs1, _⟩ := sl_form hr1
          simp only [List.cons.injEq, and_true] at hv1
          subst hv1
          have hbw1 := below_then hb1 HB.out
          clear hr1 hs1
          go_wp2_with fail
          refine (live29 _).mono ?_
          rintro r w99 ⟨rfl, hb99⟩
          have hbe := below_then hb99 hbw1
          go_wp2_with fail
          go_ret
          exact ⟨rfl, hbe⟩
        · rw [hR] at HAA
          simp only [if_true] at HAA
          have HRQ := hid (HRA.out hR)
          generalize allB l = AB at *
          clear hR hb
          go_wp2_with fail
          refine HAA.out.mono ?_
          rintro r w1 ⟨v1, rfl, hr1, hb1⟩
          obtain ⟨e1', d1, hv1, hs1, _⟩ := sl_form hr1
          simp only [List.cons.injEq, and_true] at hv1
          subst hv1
          have HS1 := hid (rBytes.mono hs1 (S' := (· < w1.heap.size)) fun q hq => hq.2)
          have hbw1 := below_then hb1 HB.out
          clear hr1 hs1
          go_wp2_with fail
          refine (HRQ.out w1 hbw1).mono ?_
          rintro r w2 ⟨v2, rfl, ho2, hb2⟩
          obtain ⟨e2', d2, rfl⟩ := own_form ho2
          have hbw2 := below_then hb2 hbw1
          have hs2 := same_bytes AB AB e1' e2' _ d1 _ d2 w2 (lift HS1.out hb2) (own_bytes rfl ho2)
          simp only [decide_true] at hs2
          have HS2 := hid hs2
          clear hs2 ho2
          go_wp2_with fail
          refine HS2.out.mono ?_
          rintro r w2' ⟨rfl, rfl⟩
          go_wp2_with fail
          refine (live29 _).mono ?_
          rintro r w99 ⟨rfl, hb99⟩
          have hbe := below_then hb99 hbw2
          go_wp2_with fail
          go_ret
          exact ⟨rfl, hbe⟩
  · rw [hmn] at HMN
    clear hl hmn
    go_enter Tryz.func4, Tryz.ntmps4
    go_wp2_with fail
    refine HMN.out.mono ?_
    rintro r w0 ⟨rfl, hbw0⟩
    go_wp2_with fail
    refine (live29 _).mono ?_
    rintro r w99 ⟨rfl, hb99⟩
    have hbe := below_then hb99 hbw0
    go_wp2_with fail
    go_ret
    exact ⟨rfl, hbe⟩
end Go.Proofs.YtlbffbkbkajciaaGreat
namespace Go.Proofs.YtlbffbkbkajciaaGreat
open Go.RowKit Go.Bs Go.Maps
set_option linter.unusedVariables false
set_option linter.unusedSimpArgs false

theorem o_msgs : Opens Tryz.prog 46 rMsgs := opens_slice (sz := 14) Tryz.underlying46 (by kernel_rfl) (by decide) o_msg
set_option maxRecDepth 100000 in
theorem msgs_arg {H : Type} (enc : TypeId × Value → H) (W : World) (base : Nat) (v0 : Value) (d0 : DataW H) (p0 : List MemPlace)
    (k0 : DataW.Trod enc Tryz.prog W 0 (fun _ => true) true 46 v0 d0 p0) (o0 : Value.okWide Tryz.prog W .any base 46 v0) :
    ∃ (l : List Msg) (a : Option Addr) (n c : Nat), v0 = .slice a n c ∧ rMsgs.r (· < W.heap.size) W [.slice a n c] l := by
  obtain ⟨fuel, hf⟩ := k0
  obtain ⟨a, n, c, rfl⟩ := Go.WideShapes.okWide_slice Tryz.underlying46 o0
  obtain ⟨u, hu⟩ := o_msgs enc W fuel _ _ hf
  exact ⟨u, a, n, c, rfl, hu⟩
set_option maxRecDepth 100000 in
theorem rpcWrites_walk {H : Type} (enc : TypeId × Value → H) (W : World) (base : Nat) (v0 : Value) (d0 : DataW H) (p0 : List MemPlace)
    (k0 : DataW.Trod enc Tryz.prog W 0 (fun _ => true) true 46 v0 d0 p0) (o0 : Value.okWide Tryz.prog W .any base 46 v0) :
    Calls Tryz.prog 4 #[v0] W fun e w' => e = .returned (.bool true) ∧ Below W.heap.size W w' := by
  obtain ⟨l, a, n, c, rfl, hl⟩ := msgs_arg enc W base v0 d0 p0 k0 o0
  exact rpcWrites_c l a n c W hl
end Go.Proofs.YtlbffbkbkajciaaGreat
