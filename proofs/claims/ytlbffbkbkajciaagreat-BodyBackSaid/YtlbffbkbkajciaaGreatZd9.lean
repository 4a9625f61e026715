/- Needed by bodyOnce_walk, part 9: texts put together by shake.py; no condition. -/
import Derived.Test.YtlbffbkbkajciaaGreatZd8
import Derived.Test.YtlbffbkbkajciaaGreatZd5
import Derived.Test.YtlbffbkbkajciaaGreatZd4
import Derived.Test.YtlbffbkbkajciaaGreatZd6
import Derived.Test.YtlbffbkbkajciaaGreatZd1
import Derived.Test.YtlbffbkbkajciaaGreatZd7
import Derived.Deep.RegionHeld3
import Derived.Test.YtlbffbkbkajciaaGreatZd3
import Derived.Test.YtlbffbkbkajciaaGreatZd2
namespace Go.Proofs.YtlbffbkbkajciaaGreat
open Go.RowKit Go.Bs Go.Maps
set_option linter.unusedVariables false
set_option linter.unusedSimpArgs false

theorem p_blk {w : World} {g : Nat} {t : TypeId} {v0 v1 : Value} (h : Blk w g t #[v0, v1]) : w.cell? ⟨g, 0, none⟩ = some v0 ∧ w.cell? ⟨g, 1, none⟩ = some v1 ∧ w.frozen? ⟨g, 0, none⟩ = false ∧ w.frozen? ⟨g, 1, none⟩ = false ∧ g < w.heap.size :=
  ⟨h.cell 0, h.cell 1, h.free 0, h.free 1, h.lt⟩
theorem setsB_take_le (l : List (List Int)) (k : Nat) : (setsB (l.take k)).length ≤ (setsB l).length := flatm_take_le setB l k
theorem stripesB_take_le (l : List Stripe) (k : Nat) : (stripesB (l.take k)).length ≤ (stripesB l).length := flatm_take_le stripeB l k

set_option maxRecDepth 100000 in
set_option maxHeartbeats 6400000 in
theorem stripe_put (w : World) {g base most : Nat} {J : List UInt8} {a : Option Addr} {c : Nat} (h : PenAt w g base most J a c) (s : Stripe) (al : Option Addr) (nl cl : Nat) (h0 : inU s.lo) (h1 : inU s.hi)
    (hl : rSets.r (fun q => q < w.heap.size ∧ ¬ PenF g a q) w [.slice al nl cl] s.sets) (hR : stripeR s = true) (hfit : J.length + (stripeB s).length ≤ most) (hln2 : J.length + (stripeB s).length ≤ 100000000000000) :
    Calls Tryz.prog 155 #[.pointer (some ⟨g, 0, none⟩), .agg #[.int .u64 s.lo, .int .u64 s.hi, .slice al nl cl]] w fun r w' => r = .returned (.tuple #[]) ∧ PenStep w g base most (J ++ stripeB s) a w' := by
  obtain ⟨rfl, hm, _, _⟩ := sl_len hl
  have HRT := hid (fun (W : World) (hW : Below w.heap.size w W) => stripe_right s.lo s.hi s.sets al _ cl W (lift (pen_low hl) hW))
  rw [show (⟨s.lo, s.hi, s.sets⟩ : Stripe) = s from rfl, hR] at HRT
  have hR' := hR
  simp only [stripeR, Bool.and_eq_true, decide_eq_true_eq] at hR'
  obtain ⟨⟨g1, g2, g3, g4⟩, g5⟩ := hR'
  have hdl : (stripeB s).length = (varB (s.hi - s.lo - 1).toNat).length + (varB s.sets.length).length + (setsB s.sets).length := by simp only [stripeB, List.length_append]
  rw [hdl] at hfit hln2
  have hbb : stripeB s = varB (s.hi - s.lo - 1).toNat ++ varB s.sets.length ++ setsB s.sets := rfl
  rw [hbb]
  have HP := hid h
  have HL := hid hl
  have HNO := hid (fun (k : Nat) (hk : k < s.sets.length) => (by
    have := set_nodes g5 k hk
    simp only [nodesR, Bool.and_eq_true, decide_eq_true_eq] at this
    exact ⟨this.1.2, this.2.1⟩ : s.sets[k].length ≤ 8 ∧ risesB s.sets[k] = true))
  have HNS := hid (fun (k : Nat) (hk : k < s.sets.length) => setsB_step s.sets k hk)
  have HMO := hid (fun k => setsB_take_le s.sets k)
  obtain ⟨lo, hi, l⟩ := s
  dsimp only at *
  have hz0 := h0.1
  have v1 : 0 ≤ hi - lo := by omega
  have v2 : 0 ≤ hi - lo - 1 := by omega
  have v3 : hi - lo - 1 ≤ 18446744073709551615 := by omega
  have v4 : hi - lo ≤ 18446744073709551615 := by omega
  clear h hl hR hdl hbb g5
  go_enter Tryz.func155, Tryz.ntmps155
  go_wp2_with fail
  refine (HRT.out _ (by (repeat (first | with_reducible exact Below.refl _ _ | with_reducible assumption | (with_reducible refine below_alloc ?_ _) | (with_reducible refine Below.setCell ?_ (by first | omega | (simp; done) | (simp; omega)) _) | (with_reducible refine Below.drew ?_) | (with_reducible refine below_drewN ?_ _) | (refine below_then (by with_reducible assumption) ?_))))).mono ?_
  rintro r w1 ⟨rfl, hb1⟩
  have B1 := Blk.later (Blk.newAt w 155 #[.int .u64 lo, .int .u64 hi, .slice al l.length cl] rfl) hb1
  obtain ⟨x0, x1, x2, _, _, _, l1⟩ := b_blk B1
  have hbw1 : Below w.heap.size w w1 := by (repeat (first | with_reducible exact Below.refl _ _ | with_reducible assumption | (with_reducible refine below_alloc ?_ _) | (with_reducible refine Below.setCell ?_ (by first | omega | (simp; done) | (simp; omega)) _) | (with_reducible refine Below.drew ?_) | (with_reducible refine below_drewN ?_ _) | (refine below_then (by with_reducible assumption) ?_)))
  have HLT := hid (fun q (hq : PenF g a q) => (HP.out.own_lt hq).2)
  have HB1 := hid B1
  have HL1 := hid (pen_later hbw1 HL.out)
  have hs1 := hbw1.size
  have HP1 := hid (HP.out.later hbw1)
  have HV1 := hid (by have := varint_put w1 HP1.out (hi - lo - 1).toNat (by omega) (by omega) (by omega); rw [toNat_cast v2] at this; exact this : Calls Tryz.prog 66 #[.pointer (some ⟨g, 0, none⟩), .int .u64 (hi - lo - 1)] w1 fun r w' => r = .returned (.tuple #[]) ∧ PenStep w1 g base most (J ++ varB (hi - lo - 1).toNat) a w')
  clear B1 hb1
  go_wp2_with fail
  refine HV1.out.mono ?_
  rintro r w2 ⟨rfl, a2, c2, hp2, ht2, ha2⟩
  have B2 := HB1.out.tch ht2 (fun hf => by have := HLT.out _ hf; omega)
  obtain ⟨y0, y1, y2, _, _, _, l2⟩ := b_blk B2
  have HT2 := hid (And.intro ht2 ha2)
  have HL2 := hid (pen_data ht2 ha2 HL1.out)
  have HB2 := hid B2
  have HNF2 := hid (fun (hf : PenF g a2 w.heap.size) => penF_old ha2 HB1.out.lt (fun hf => by have := HLT.out _ hf; omega) hf)
  have hs2 := ht2.size
  have HV2 := hid (varint_put w2 hp2 l.length (by omega) (by simp only [List.length_append]; omega) (by simp only [List.length_append]; omega))
  clear B2 hp2 ht2 ha2 x0 x1 x2
  go_wp2_with fail
  refine HV2.out.mono ?_
  rintro r w3 ⟨rfl, a3, c3, hp3, ht3, ha3⟩
  have B3 := HB2.out.tch ht3 (fun hf => HNF2.out hf)
  obtain ⟨x0, x1, x2, _, _, _, l3⟩ := b_blk B3
  have HT3 := hid (And.intro ht3 ha3)
  have HL3 := hid (pen_data ht3 ha3 HL2.out)
  have HP3 := hid hp3
  clear B3 hp3 ht3 ha3 y0 y1 y2
  go_wp2_with fail
  clear x0 x1 x2
  go_loopw [28] (fun i wr => ∃ k : Nat, k ≤ l.length ∧ i = .int .i64 k ∧ Hid (PenStep w3 g base most (J ++ varB (hi - lo - 1).toNat ++ varB l.length ++ setsB (l.take k)) a3 wr)) (fun i _ => l.length - (intOf i).toNat)
  case atStart => exact ⟨0, Nat.zero_le _, rfl, hid (by simpa [setsB] using PenStep.refl HP3.out)⟩
  case round =>
    obtain ⟨k, hk, rfl, hp⟩ := hrel
    obtain ⟨a4, c4, hp4, ht4, ha4⟩ := hp.out
    rcases Nat.lt_or_ge k l.length with hlt | hge
    · have hd4 := pen_data ht4 ha4 HL3.out
      obtain ⟨b, o, hA, hbb, ak, ck, u0, xl⟩ := set_at hd4 hlt
      subst hA
      have hst := HNS.out k hlt
      have hfk := HMO.out (k + 1)
      rw [hst, List.length_append] at hfk
      have hno := HNO.out k hlt
      have hsb : setB l[k] = varB l[k].length ++ upsB l[k] := rfl
      have hsl : (setB l[k]).length = (varB l[k].length).length + (upsB l[k]).length := by rw [hsb, List.length_append]
      have HST := hid hst
      have HSB := hid hsb
      have HXL := hid xl
      have i1 : (k : Int) < (l.length : Int) := by omega
      have d1 : decide ((k : Int) < (l.length : Int)) = true := decide_eq_true i1
      have HT4 := hid (And.intro ht4 ha4)
      generalize l[k] = X at *
      have hx8 := hno.1
      have HRI := hid hno.2
      have HV4 := hid (varint_put wr hp4 X.length (by omega) (by simp only [List.length_append]; omega) (by simp only [List.length_append]; omega))
      clear hd4 hst hp4 ht4 ha4 hp hsb xl hno
      go_wp2_with fail
      refine HV4.out.mono ?_
      rintro r w5 ⟨rfl, a5, c5, hp5, ht5, ha5⟩
      have HZ := hid (zig_putrising w5 hp5 X ak _ ck (pen_low (pen_data ht5 ha5 HXL.out)) HRI.out (by omega) (by simp only [List.length_append]; omega) (by simp only [List.length_append]; omega))
      have HT5 := hid (And.intro ht5 ha5)
      clear hp5 ht5 ha5 u0
      go_wp2_with fail
      refine HZ.out.mono ?_
      rintro r w6 ⟨rfl, hst6⟩
      have hn := PenStep.trans (J := J) HT4.out.1 HT4.out.2 (PenStep.trans (J := J) HT5.out.1 HT5.out.2 hst6)
      rw [List.append_assoc _ (varB X.length), ← HSB.out, List.append_assoc _ (setsB _), ← HST.out] at hn
      have HN := hid hn
      clear hst6 hn
      go_wp2_with fail
      go_roundw
      case rel => exact ⟨k + 1, by omega, by go_num, HN⟩
      case measure => (simp [intOf]; try omega)
    · obtain rfl : k = l.length := by omega
      have d1 : decide ((l.length : Int) < (l.length : Int)) = false := decide_eq_false (by omega)
      rw [List.take_length] at hp
      have hn := PenStep.later hbw1 (PenStep.trans (J := J) HT2.out.1 HT2.out.2 (PenStep.trans (J := J) HT3.out.1 HT3.out.2 hp.out))
      rw [List.append_assoc _ (varB (l.length)), List.append_assoc J, ← List.append_assoc (varB (hi - lo - 1).toNat)] at hn
      have HN := hid hn
      clear hp hp4 ht4 ha4 hn
      go_wp2_with fail
      first | go_end0 | refine bodyPost_ret (results_none rfl _ _ _) rfl ?_
      exact ⟨rfl, HN.out⟩

set_option maxRecDepth 100000 in
set_option maxHeartbeats 6400000 in
theorem proj_put (w : World) {g base most : Nat} {J : List UInt8} {a : Option Addr} {c : Nat} (h : PenAt w g base most J a c) (p : Projn) (al : Option Addr) (nl cl : Nat) (h0 : inU p.epoch)
    (hl : rStripes.r (fun q => q < w.heap.size ∧ ¬ PenF g a q) w [.slice al nl cl] p.stripes) (hPR : ∀ (W : World), Below w.heap.size w W → Calls Tryz.prog 87 #[.agg #[.int .u64 p.epoch, .slice al nl cl]] W fun r w' => r = .returned (.bool true) ∧ Below W.heap.size W w') (hR : projR p = true) (hfit : J.length + (projB p).length ≤ most) (hln2 : J.length + (projB p).length ≤ 100000000000000) :
    Calls Tryz.prog 78 #[.pointer (some ⟨g, 0, none⟩), .agg #[.int .u64 p.epoch, .slice al nl cl]] w fun r w' => r = .returned (.tuple #[]) ∧ PenStep w g base most (J ++ projB p) a w' := by
  obtain ⟨rfl, hm, _, _⟩ := sl_len hl
  have HRT := hid hPR
  have hR' := hR
  simp only [projR, Bool.and_eq_true, decide_eq_true_eq] at hR'
  obtain ⟨g1, ⟨g2, g3⟩, g4⟩ := hR'
  have hdl : (projB p).length = (varB p.epoch.toNat).length + (varB p.stripes.length).length + (stripesB p.stripes).length := by simp only [projB, List.length_append]
  rw [hdl] at hfit hln2
  have hbb : projB p = varB p.epoch.toNat ++ varB p.stripes.length ++ stripesB p.stripes := rfl
  rw [hbb]
  have HP := hid h
  have HL := hid hl
  have HNO := hid (fun (k : Nat) (hk : k < p.stripes.length) => chain_all _ _ g4 p.stripes[k] (List.getElem_mem hk))
  have HNS := hid (fun (k : Nat) (hk : k < p.stripes.length) => stripesB_step p.stripes k hk)
  have HMO := hid (fun k => stripesB_take_le p.stripes k)
  obtain ⟨ep, l⟩ := p
  dsimp only at *
  have HE := hid (fun (W : World) (hW : Below w.heap.size w W) => (by have := epoch_put W (h.later hW) ep.toNat (by rw [toNat_cast h0.1]; exact g1) (by omega) (by omega); rw [toNat_cast h0.1] at this; exact this : Calls Tryz.prog 111 #[.pointer (some ⟨g, 0, none⟩), .int .u64 ep] W fun r w' => r = .returned (.tuple #[]) ∧ PenStep W g base most (J ++ varB ep.toNat) a w'))
  clear h hl hR hdl hbb g1 g4 hPR
  go_enter Tryz.func78, Tryz.ntmps78
  go_wp2_with fail
  refine (HRT.out _ (by (repeat (first | with_reducible exact Below.refl _ _ | with_reducible assumption | (with_reducible refine below_alloc ?_ _) | (with_reducible refine Below.setCell ?_ (by first | omega | (simp; done) | (simp; omega)) _) | (with_reducible refine Below.drew ?_) | (with_reducible refine below_drewN ?_ _) | (refine below_then (by with_reducible assumption) ?_))))).mono ?_
  rintro r w1 ⟨rfl, hb1⟩
  have B1 := Blk.later (Blk.newAt w 30 #[.int .u64 ep, .slice al l.length cl] rfl) hb1
  obtain ⟨x0, x1, _, _, l1⟩ := p_blk B1
  have hbw1 : Below w.heap.size w w1 := by (repeat (first | with_reducible exact Below.refl _ _ | with_reducible assumption | (with_reducible refine below_alloc ?_ _) | (with_reducible refine Below.setCell ?_ (by first | omega | (simp; done) | (simp; omega)) _) | (with_reducible refine Below.drew ?_) | (with_reducible refine below_drewN ?_ _) | (refine below_then (by with_reducible assumption) ?_)))
  have HLT := hid (fun q (hq : PenF g a q) => (HP.out.own_lt hq).2)
  have HB1 := hid B1
  have HL1 := hid (pen_later hbw1 HL.out)
  have hs1 := hbw1.size
  clear B1 hb1
  go_wp2_with fail
  refine (HE.out _ hbw1).mono ?_
  rintro r w2 ⟨rfl, a2, c2, hp2, ht2, ha2⟩
  have B2 := HB1.out.tch ht2 (fun hf => by have := HLT.out _ hf; omega)
  obtain ⟨y0, y1, _, _, l2⟩ := p_blk B2
  have HT2 := hid (And.intro ht2 ha2)
  have HL2 := hid (pen_data ht2 ha2 HL1.out)
  have HB2 := hid B2
  have HNF2 := hid (fun (hf : PenF g a2 w.heap.size) => penF_old ha2 HB1.out.lt (fun hf => by have := HLT.out _ hf; omega) hf)
  have hs2 := ht2.size
  have HV2 := hid (varint_put w2 hp2 l.length (by omega) (by simp only [List.length_append]; omega) (by simp only [List.length_append]; omega))
  clear B2 hp2 ht2 ha2 x0 x1
  go_wp2_with fail
  refine HV2.out.mono ?_
  rintro r w3 ⟨rfl, a3, c3, hp3, ht3, ha3⟩
  have B3 := HB2.out.tch ht3 (fun hf => HNF2.out hf)
  obtain ⟨x0, x1, _, _, l3⟩ := p_blk B3
  have HT3 := hid (And.intro ht3 ha3)
  have HL3 := hid (pen_data ht3 ha3 HL2.out)
  have HP3 := hid hp3
  clear B3 hp3 ht3 ha3 y0 y1
  go_wp2_with fail
  clear x0 x1
  go_loopw [24] (fun i wr => ∃ k : Nat, k ≤ l.length ∧ i = .int .i64 k ∧ Hid (PenStep w3 g base most (J ++ varB ep.toNat ++ varB l.length ++ stripesB (l.take k)) a3 wr)) (fun i _ => l.length - (intOf i).toNat)
  case atStart => exact ⟨0, Nat.zero_le _, rfl, hid (by simpa [stripesB] using PenStep.refl HP3.out)⟩
  case round =>
    obtain ⟨k, hk, rfl, hp⟩ := hrel
    obtain ⟨a4, c4, hp4, ht4, ha4⟩ := hp.out
    rcases Nat.lt_or_ge k l.length with hlt | hge
    · have hd4 := pen_data ht4 ha4 HL3.out
      obtain ⟨b, o, hA, hbb, ak, ck, u0, u1, u2, ub0, ub1, xl⟩ := stripe_at hd4 hlt
      subst hA
      have hst := HNS.out k hlt
      have hfk := HMO.out (k + 1)
      rw [hst, List.length_append] at hfk
      have HRI := hid (HNO.out k hlt)
      have HST := hid hst
      have HXL := hid xl
      have i1 : (k : Int) < (l.length : Int) := by omega
      have d1 : decide ((k : Int) < (l.length : Int)) = true := decide_eq_true i1
      have hbl := hbb.1
      have HT4 := hid (And.intro ht4 ha4)
      have HP4 := hid hp4
      generalize l[k] = X at *
      have HU := hid (And.intro ub0 ub1)
      have HZ := hid (fun (W : World) (hW : Below wr.heap.size wr W) => stripe_put W (HP4.out.later hW) X ak _ ck HU.out.1 HU.out.2 (pen_later hW HXL.out) HRI.out (by simp only [List.length_append]; omega) (by simp only [List.length_append]; omega))
      clear hd4 hst hp4 ht4 ha4 hp xl ub0 ub1
      go_wp2_with fail
      refine (HZ.out _ (by (repeat (first | with_reducible exact Below.refl _ _ | with_reducible assumption | (with_reducible refine below_alloc ?_ _) | (with_reducible refine Below.setCell ?_ (by first | omega | (simp; done) | (simp; omega)) _) | (with_reducible refine Below.drew ?_) | (with_reducible refine below_drewN ?_ _) | (refine below_then (by with_reducible assumption) ?_))))).mono ?_
      rintro r w6 ⟨rfl, hst6⟩
      have hn := PenStep.trans (J := J) HT4.out.1 HT4.out.2 (PenStep.later (by (repeat (first | with_reducible exact Below.refl _ _ | with_reducible assumption | (with_reducible refine below_alloc ?_ _) | (with_reducible refine Below.setCell ?_ (by first | omega | (simp; done) | (simp; omega)) _) | (with_reducible refine Below.drew ?_) | (with_reducible refine below_drewN ?_ _) | (refine below_then (by with_reducible assumption) ?_)))) hst6)
      rw [List.append_assoc _ (stripesB _), ← HST.out] at hn
      have HN := hid hn
      clear hst6 hn u0 u1 u2
      go_wp2_with fail
      go_roundw
      case rel => exact ⟨k + 1, by omega, by go_num, HN⟩
      case measure => (simp [intOf]; try omega)
    · obtain rfl : k = l.length := by omega
      have d1 : decide ((l.length : Int) < (l.length : Int)) = false := decide_eq_false (by omega)
      rw [List.take_length] at hp
      have hn := PenStep.later hbw1 (PenStep.trans (J := J) HT2.out.1 HT2.out.2 (PenStep.trans (J := J) HT3.out.1 HT3.out.2 hp.out))
      rw [List.append_assoc _ (varB (l.length)), List.append_assoc J, ← List.append_assoc (varB ep.toNat)] at hn
      have HN := hid hn
      clear hp hp4 ht4 ha4 hn
      go_wp2_with fail
      first | go_end0 | refine bodyPost_ret (results_none rfl _ _ _) rfl ?_
      exact ⟨rfl, HN.out⟩
end Go.Proofs.YtlbffbkbkajciaaGreat
namespace Go.Proofs.YtlbffbkbkajciaaGreat
open Go.RowKit Go.Bs Go.Maps
set_option linter.unusedVariables false
set_option linter.unusedSimpArgs false

theorem MsgIn.tr {S S' : Nat → Prop} {w w' : World} {m : Msg} {a1 c1 a2 c2 a3 c3 a4 c4} (f : ∀ {α : Type} (A : Rp α) (cs : List Value) (x : α), A.r S w cs x → A.r S' w' cs x) (h : MsgIn S w m a1 c1 a2 c2 a3 c3 a4 c4) : MsgIn S' w' m a1 c1 a2 c2 a3 c3 a4 c4 :=
  ⟨h.kind, h.epoch, h.seq, h.pos, h.count, h.state, h.sealE, h.sealN, h.sealT, h.projE, f _ _ _ h.streams, f _ _ _ h.links, f _ _ _ h.data, f _ _ _ h.stripes⟩
/-- A pen, a cell that points to it, a message in a block apart. -/
structure PutI (w : World) (g base most : Nat) (J : List UInt8) (a : Option Addr) (c A B : Nat) (m : Msg) (a1 : Option Addr) (c1 : Nat) (a2 : Option Addr) (c2 : Nat) (a3 : Option Addr) (c3 : Nat) (a4 : Option Addr) (c4 : Nat) : Prop where
  pen : PenAt w g base most J a c
  pa : Blk w A 38 #[.pointer (some ⟨g, 0, none⟩)]
  pb : Blk w B 32 #[.int .i64 m.kind, .int .u64 m.epoch, .int .u64 m.seq, .int .u64 m.pos, .int .i64 m.count, .int .i64 m.state, .slice a1 m.streams.length c1, .slice a2 m.links.length c2, .slice a3 m.data.length c3, .int .u64 m.sea.epoch, .int .u64 m.sea.node, .int .u64 m.sea.tail, .int .u64 m.proj.epoch, .slice a4 m.proj.stripes.length c4]
  na : ¬ PenF g a A
  nb : ¬ PenF g a B
  data : MsgIn (fun q => q < w.heap.size ∧ ¬ PenF g a q) w m a1 c1 a2 c2 a3 c3 a4 c4
theorem PutI.later {w : World} {g base most : Nat} {J : List UInt8} {a : Option Addr} {c A B : Nat} {m : Msg} {a1 : Option Addr} {c1 : Nat} {a2 : Option Addr} {c2 : Nat} {a3 : Option Addr} {c3 : Nat} {a4 : Option Addr} {c4 : Nat} (h : PutI w g base most J a c A B m a1 c1 a2 c2 a3 c3 a4 c4) {w' : World} (hb : Below w.heap.size w w') : PutI w' g base most J a c A B m a1 c1 a2 c2 a3 c3 a4 c4 :=
  ⟨h.pen.later hb, h.pa.later hb, h.pb.later hb, h.na, h.nb, MsgIn.tr (fun A cs x hx => pen_later hb hx) h.data⟩
theorem PutI.step {w : World} {g base most : Nat} {J : List UInt8} {a : Option Addr} {c A B : Nat} {m : Msg} {a1 : Option Addr} {c1 : Nat} {a2 : Option Addr} {c2 : Nat} {a3 : Option Addr} {c3 : Nat} {a4 : Option Addr} {c4 : Nat} (h : PutI w g base most J a c A B m a1 c1 a2 c2 a3 c3 a4 c4) {w' : World} {J' : List UInt8} (k : PenStep w g base most J' a w') : ∃ a' c', PutI w' g base most J' a' c' A B m a1 c1 a2 c2 a3 c3 a4 c4 ∧ Tch (PenF g a) w w' ∧ (a'.map Addr.block = a.map Addr.block ∨ ∃ q, a'.map Addr.block = some q ∧ w.heap.size ≤ q) := by
  obtain ⟨a', c', k1, k2, k3⟩ := k
  exact ⟨a', c', ⟨k1, h.pa.tch k2 h.na, h.pb.tch k2 h.nb, penF_old k3 h.pa.lt h.na, penF_old k3 h.pb.lt h.nb, MsgIn.tr (fun A cs x hx => pen_data k2 k3 hx) h.data⟩, k2, k3⟩
theorem MsgIn.low {g : Nat} {a : Option Addr} {w : World} {m : Msg} {a1 c1 a2 c2 a3 c3 a4 c4} (h : MsgIn (fun q => q < w.heap.size ∧ ¬ PenF g a q) w m a1 c1 a2 c2 a3 c3 a4 c4) : MsgIn (· < w.heap.size) w m a1 c1 a2 c2 a3 c3 a4 c4 := MsgIn.tr (fun A cs x hx => pen_low hx) h
set_option maxRecDepth 100000 in
set_option maxHeartbeats 6400000 in
theorem put_pos {w : World} {g base most : Nat} {J : List UInt8} {a : Option Addr} {c A B : Nat} {m : Msg} {a1 : Option Addr} {c1 : Nat} {a2 : Option Addr} {c2 : Nat} {a3 : Option Addr} {c3 : Nat} {a4 : Option Addr} {c4 : Nat} (h : PutI w g base most J a c A B m a1 c1 a2 c2 a3 c3 a4 c4) (hR : poR m.pos = true) (hfit : J.length + (varB m.pos.toNat).length ≤ most) (hln : J.length + (varB m.pos.toNat).length ≤ 100000000000000) :
    Calls Tryz.prog 63 #[.pointer (some ⟨A, 0, none⟩), .pointer (some ⟨B, 0, none⟩)] w fun r w' => r = .returned (.tuple #[]) ∧ PenStep w g base most (J ++ (varB m.pos.toNat)) a w' := by
  have hp := h.data.pos
  have HV := hid (by have := epoch_putpos w h.pen m.pos.toNat (by rw [toNat_cast hp.1]; exact hR) hfit hln; rw [toNat_cast hp.1] at this; exact this : Calls Tryz.prog 64 #[.pointer (some ⟨g, 0, none⟩), .int .u64 m.pos] w fun r w' => r = .returned (.tuple #[]) ∧ PenStep w g base most (J ++ varB m.pos.toNat) a w')
  have p0 : w.cell? ⟨A, 0, none⟩ = some (.pointer (some ⟨g, 0, none⟩)) := h.pa.cell 0
  have y3 : w.cell? ⟨B, 3, none⟩ = some (.int .u64 m.pos) := h.pb.cell 3
  clear h
  go_enter Tryz.func63, Tryz.ntmps63
  go_wp2_with fail
  refine HV.out.mono ?_
  rintro r w1 ⟨rfl, hst⟩
  have HST := hid hst
  clear hst
  go_wp2_with fail
  first | go_end0 | refine bodyPost_ret (results_none rfl _ _ _) rfl ?_
  exact ⟨rfl, HST.out⟩

set_option maxRecDepth 100000 in
set_option maxHeartbeats 6400000 in
theorem put_count {w : World} {g base most : Nat} {J : List UInt8} {a : Option Addr} {c A B : Nat} {m : Msg} {a1 : Option Addr} {c1 : Nat} {a2 : Option Addr} {c2 : Nat} {a3 : Option Addr} {c3 : Nat} {a4 : Option Addr} {c4 : Nat} (h : PutI w g base most J a c A B m a1 c1 a2 c2 a3 c3 a4 c4) (hR : 1 ≤ m.count ∧ m.count ≤ 65536) (hfit : J.length + (varB m.count.toNat).length ≤ most) (hln : J.length + (varB m.count.toNat).length ≤ 100000000000000) :
    Calls Tryz.prog 65 #[.pointer (some ⟨A, 0, none⟩), .pointer (some ⟨B, 0, none⟩)] w fun r w' => r = .returned (.tuple #[]) ∧ PenStep w g base most (J ++ (varB m.count.toNat)) a w' := by
  have hc0 : 0 ≤ m.count := by omega
  have hc1 : m.count ≤ 65536 := hR.2
  have HV := hid (by have := varint_put w h.pen m.count.toNat (by omega) hfit hln; rw [toNat_cast hc0] at this; exact this : Calls Tryz.prog 66 #[.pointer (some ⟨g, 0, none⟩), .int .u64 m.count] w fun r w' => r = .returned (.tuple #[]) ∧ PenStep w g base most (J ++ varB m.count.toNat) a w')
  have p0 : w.cell? ⟨A, 0, none⟩ = some (.pointer (some ⟨g, 0, none⟩)) := h.pa.cell 0
  have y4 : w.cell? ⟨B, 4, none⟩ = some (.int .i64 m.count) := h.pb.cell 4
  clear h
  go_enter Tryz.func65, Tryz.ntmps65
  go_wp2_with fail
  refine HV.out.mono ?_
  rintro r w1 ⟨rfl, hst⟩
  have HST := hid hst
  clear hst
  go_wp2_with fail
  first | go_end0 | refine bodyPost_ret (results_none rfl _ _ _) rfl ?_
  exact ⟨rfl, HST.out⟩

set_option maxRecDepth 100000 in
set_option maxHeartbeats 6400000 in
theorem put_state {w : World} {g base most : Nat} {J : List UInt8} {a : Option Addr} {c A B : Nat} {m : Msg} {a1 : Option Addr} {c1 : Nat} {a2 : Option Addr} {c2 : Nat} {a3 : Option Addr} {c3 : Nat} {a4 : Option Addr} {c4 : Nat} (h : PutI w g base most J a c A B m a1 c1 a2 c2 a3 c3 a4 c4) (hR : 1 ≤ m.state ∧ m.state ≤ 20) (hfit : J.length + ([UInt8.ofNat m.state.toNat]).length ≤ most) (hln : J.length + ([UInt8.ofNat m.state.toNat]).length ≤ 100000000000000) :
    Calls Tryz.prog 67 #[.pointer (some ⟨A, 0, none⟩), .pointer (some ⟨B, 0, none⟩)] w fun r w' => r = .returned (.tuple #[]) ∧ PenStep w g base most (J ++ ([UInt8.ofNat m.state.toNat])) a w' := by
  have hc0 : 0 ≤ m.state := by omega
  have hc1 : m.state ≤ 20 := hR.2
  have he : m.state = ((UInt8.ofNat m.state.toNat).toNat : Int) := by
    have := byte_small (x := m.state.toNat) (by omega)
    rw [toNat_cast hc0] at this
    exact this
  have HV := hid (fun (W : World) (hW : Below w.heap.size w W) (ad : Option Addr) (hD : rBytes.r (· < W.heap.size) W [.slice ad 1 1] [UInt8.ofNat m.state.toNat]) => pen_put W (h.pen.later hW) [UInt8.ofNat m.state.toNat] ad 1 1 hD hfit hln)
  have HL := hid (fun W : World => (by have := lit_one W (UInt8.ofNat m.state.toNat); rw [← he] at this; exact this : rBytes.r (· < (W.alloc (.cells #[.int .u8 m.state] 5)).heap.size) (W.alloc (.cells #[.int .u8 m.state] 5)) [.slice (some ⟨W.heap.size, 0, none⟩) 1 1] [UInt8.ofNat m.state.toNat]))
  have p0 : w.cell? ⟨A, 0, none⟩ = some (.pointer (some ⟨g, 0, none⟩)) := h.pa.cell 0
  have y5 : w.cell? ⟨B, 5, none⟩ = some (.int .i64 m.state) := h.pb.cell 5
  clear h he
  go_enter Tryz.func67, Tryz.ntmps67
  go_wp2_with fail
  refine (HV.out _ (by (repeat (first | with_reducible exact Below.refl _ _ | with_reducible assumption | (with_reducible refine below_alloc ?_ _) | (with_reducible refine Below.setCell ?_ (by first | omega | (simp; done) | (simp; omega)) _) | (with_reducible refine Below.drew ?_) | (with_reducible refine below_drewN ?_ _) | (refine below_then (by with_reducible assumption) ?_)))) _ (HL.out w)).mono ?_
  rintro r w1 ⟨rfl, hst⟩
  have HST := hid (PenStep.later (w := w) (by (repeat (first | with_reducible exact Below.refl _ _ | with_reducible assumption | (with_reducible refine below_alloc ?_ _) | (with_reducible refine Below.setCell ?_ (by first | omega | (simp; done) | (simp; omega)) _) | (with_reducible refine Below.drew ?_) | (with_reducible refine below_drewN ?_ _) | (refine below_then (by with_reducible assumption) ?_)))) hst)
  clear hst
  go_wp2_with fail
  first | go_end0 | refine bodyPost_ret (results_none rfl _ _ _) rfl ?_
  exact ⟨rfl, HST.out⟩

set_option maxRecDepth 100000 in
set_option maxHeartbeats 6400000 in
theorem put_streams {w : World} {g base most : Nat} {J : List UInt8} {a : Option Addr} {c A B : Nat} {m : Msg} {a1 : Option Addr} {c1 : Nat} {a2 : Option Addr} {c2 : Nat} {a3 : Option Addr} {c3 : Nat} {a4 : Option Addr} {c4 : Nat} (h : PutI w g base most J a c A B m a1 c1 a2 c2 a3 c3 a4 c4) (hR : m.streams.length ≤ 16 ∧ risesB m.streams = true) (hfit : J.length + (setB m.streams).length ≤ most) (hln : J.length + (setB m.streams).length ≤ 100000000000000) :
    Calls Tryz.prog 69 #[.pointer (some ⟨A, 0, none⟩), .pointer (some ⟨B, 0, none⟩)] w fun r w' => r = .returned (.tuple #[]) ∧ PenStep w g base most (J ++ (setB m.streams)) a w' := by
  have hsl : (setB m.streams).length = (varB m.streams.length).length + (upsB m.streams).length := by unfold setB; rw [List.length_append]
  rw [hsl] at hfit hln
  have hl16 := hR.1
  have HV := hid (varint_put w h.pen m.streams.length (by omega) (by omega) (by omega))
  have HZ := hid (fun (W : World) (a' : Option Addr) (c' : Nat) (hW : PutI W g base most (J ++ varB m.streams.length) a' c' A B m a1 c1 a2 c2 a3 c3 a4 c4) => zig_putrising W hW.pen m.streams a1 _ c1 (MsgIn.low hW.data).streams hR.2 (by omega) (by rw [List.length_append]; omega) (by rw [List.length_append]; omega))
  have HI := hid h
  have p0 : w.cell? ⟨A, 0, none⟩ = some (.pointer (some ⟨g, 0, none⟩)) := h.pa.cell 0
  have y6 : w.cell? ⟨B, 6, none⟩ = some (.slice a1 m.streams.length c1) := h.pb.cell 6
  clear h
  have hsb : setB m.streams = varB m.streams.length ++ upsB m.streams := rfl
  go_enter Tryz.func69, Tryz.ntmps69
  go_wp2_with fail
  refine HV.out.mono ?_
  rintro r w1 ⟨rfl, hst⟩
  obtain ⟨a', c', hi1, ht1, ha1⟩ := HI.out.step hst
  have HT := hid (And.intro ht1 ha1)
  have HZ1 := hid (HZ.out _ _ _ hi1)
  have q0 : w1.cell? ⟨A, 0, none⟩ = some (.pointer (some ⟨g, 0, none⟩)) := hi1.pa.cell 0
  have q6 : w1.cell? ⟨B, 6, none⟩ = some (.slice a1 m.streams.length c1) := hi1.pb.cell 6
  clear hst hi1 ht1 ha1 p0 y6
  go_wp2_with fail
  refine HZ1.out.mono ?_
  rintro r w2 ⟨rfl, hst⟩
  have hn := PenStep.trans (J := J) HT.out.1 HT.out.2 hst
  rw [List.append_assoc, ← hsb] at hn
  have HST := hid hn
  clear hst hn
  go_wp2_with fail
  first | go_end0 | refine bodyPost_ret (results_none rfl _ _ _) rfl ?_
  exact ⟨rfl, HST.out⟩

set_option maxRecDepth 100000 in
set_option maxHeartbeats 6400000 in
theorem put_links {w : World} {g base most : Nat} {J : List UInt8} {a : Option Addr} {c A B : Nat} {m : Msg} {a1 : Option Addr} {c1 : Nat} {a2 : Option Addr} {c2 : Nat} {a3 : Option Addr} {c3 : Nat} {a4 : Option Addr} {c4 : Nat} (h : PutI w g base most J a c A B m a1 c1 a2 c2 a3 c3 a4 c4) (hbk : ∀ x ∈ m.links, x.backs.length ≤ 1000000) (hR : linksR m.pos m.links = true) (hfit : J.length + (linksB m.pos m.links).length ≤ most) (hln : J.length + (linksB m.pos m.links).length ≤ 100000000000000) :
    Calls Tryz.prog 71 #[.pointer (some ⟨A, 0, none⟩), .pointer (some ⟨B, 0, none⟩)] w fun r w' => r = .returned (.tuple #[]) ∧ PenStep w g base most (J ++ (linksB m.pos m.links)) a w' := by
  have HV := hid (link_put w h.pen m.pos h.data.pos m.links a2 _ c2 h.data.links hR hbk hfit hln)
  have p0 : w.cell? ⟨A, 0, none⟩ = some (.pointer (some ⟨g, 0, none⟩)) := h.pa.cell 0
  have y3 : w.cell? ⟨B, 3, none⟩ = some (.int .u64 m.pos) := h.pb.cell 3
  have y7 : w.cell? ⟨B, 7, none⟩ = some (.slice a2 m.links.length c2) := h.pb.cell 7
  clear h
  go_enter Tryz.func71, Tryz.ntmps71
  go_wp2_with fail
  refine HV.out.mono ?_
  rintro r w1 ⟨rfl, hst⟩
  have HST := hid hst
  clear hst
  go_wp2_with fail
  first | go_end0 | refine bodyPost_ret (results_none rfl _ _ _) rfl ?_
  exact ⟨rfl, HST.out⟩

set_option maxRecDepth 100000 in
set_option maxHeartbeats 6400000 in
theorem put_seal {w : World} {g base most : Nat} {J : List UInt8} {a : Option Addr} {c A B : Nat} {m : Msg} {a1 : Option Addr} {c1 : Nat} {a2 : Option Addr} {c2 : Nat} {a3 : Option Addr} {c3 : Nat} {a4 : Option Addr} {c4 : Nat} (h : PutI w g base most J a c A B m a1 c1 a2 c2 a3 c3 a4 c4) (hR : sealR m.sea = true) (hfit : J.length + (sealB m.sea).length ≤ most) (hln : J.length + (sealB m.sea).length ≤ 100000000000000) :
    Calls Tryz.prog 75 #[.pointer (some ⟨A, 0, none⟩), .pointer (some ⟨B, 0, none⟩)] w fun r w' => r = .returned (.tuple #[]) ∧ PenStep w g base most (J ++ (sealB m.sea)) a w' := by
  have HV := hid (seal_put w h.pen m.sea h.data.sealE h.data.sealN h.data.sealT hR hfit hln)
  have p0 : w.cell? ⟨A, 0, none⟩ = some (.pointer (some ⟨g, 0, none⟩)) := h.pa.cell 0
  have y9 : w.cell? ⟨B, 9, none⟩ = some (.int .u64 m.sea.epoch) := h.pb.cell 9
  have y10 : w.cell? ⟨B, 10, none⟩ = some (.int .u64 m.sea.node) := h.pb.cell 10
  have y11 : w.cell? ⟨B, 11, none⟩ = some (.int .u64 m.sea.tail) := h.pb.cell 11
  clear h
  go_enter Tryz.func75, Tryz.ntmps75
  go_wp2_with fail
  refine HV.out.mono ?_
  rintro r w1 ⟨rfl, hst⟩
  have HST := hid hst
  clear hst
  go_wp2_with fail
  first | go_end0 | refine bodyPost_ret (results_none rfl _ _ _) rfl ?_
  exact ⟨rfl, HST.out⟩

set_option maxRecDepth 100000 in
set_option maxHeartbeats 6400000 in
theorem put_proj {w : World} {g base most : Nat} {J : List UInt8} {a : Option Addr} {c A B : Nat} {m : Msg} {a1 : Option Addr} {c1 : Nat} {a2 : Option Addr} {c2 : Nat} {a3 : Option Addr} {c3 : Nat} {a4 : Option Addr} {c4 : Nat} (h : PutI w g base most J a c A B m a1 c1 a2 c2 a3 c3 a4 c4) (hR : projR m.proj = true) (hfit : J.length + (projB m.proj).length ≤ most) (hln : J.length + (projB m.proj).length ≤ 100000000000000) :
    Calls Tryz.prog 77 #[.pointer (some ⟨A, 0, none⟩), .pointer (some ⟨B, 0, none⟩)] w fun r w' => r = .returned (.tuple #[]) ∧ PenStep w g base most (J ++ (projB m.proj)) a w' := by
  have hPR := fun (W : World) (hW : Below w.heap.size w W) => proj_right m.proj.epoch m.proj.stripes a4 _ c4 W (lift (MsgIn.low h.data).stripes hW)
  rw [show (⟨m.proj.epoch, m.proj.stripes⟩ : Projn) = m.proj from rfl, hR] at hPR
  have HV := hid (proj_put w h.pen m.proj a4 _ c4 h.data.projE h.data.stripes hPR hR hfit hln)
  clear hPR
  have p0 : w.cell? ⟨A, 0, none⟩ = some (.pointer (some ⟨g, 0, none⟩)) := h.pa.cell 0
  have y12 : w.cell? ⟨B, 12, none⟩ = some (.int .u64 m.proj.epoch) := h.pb.cell 12
  have y13 : w.cell? ⟨B, 13, none⟩ = some (.slice a4 m.proj.stripes.length c4) := h.pb.cell 13
  clear h
  go_enter Tryz.func77, Tryz.ntmps77
  go_wp2_with fail
  refine HV.out.mono ?_
  rintro r w1 ⟨rfl, hst⟩
  have HST := hid hst
  clear hst
  go_wp2_with fail
  first | go_end0 | refine bodyPost_ret (results_none rfl _ _ _) rfl ?_
  exact ⟨rfl, HST.out⟩

set_option maxRecDepth 100000 in
set_option maxHeartbeats 6400000 in
theorem put_has1 {w : World} {g base most : Nat} {J : List UInt8} {a : Option Addr} {c A B : Nat} {m : Msg} {a1 : Option Addr} {c1 : Nat} {a2 : Option Addr} {c2 : Nat} {a3 : Option Addr} {c3 : Nat} {a4 : Option Addr} {c4 : Nat} (h : PutI w g base most J a c A B m a1 c1 a2 c2 a3 c3 a4 c4) (X : List UInt8) (HC : hasK m.kind 1 = true → ∀ W : World, Below w.heap.size w W → Calls Tryz.prog 63 #[.pointer (some ⟨A, 0, none⟩), .pointer (some ⟨B, 0, none⟩)] W fun r w' => r = .returned (.tuple #[]) ∧ PenStep W g base most (J ++ X) a w') :
    Calls Tryz.prog 61 #[.int .i64 1, .func (Fn.func 63) #[] #[.pointer (some ⟨A, 0, none⟩), .pointer (some ⟨B, 0, none⟩)], .pointer (some ⟨B, 0, none⟩)] w fun r w' => r = .returned (.tuple #[]) ∧ PenStep w g base most (J ++ partB (hasK m.kind 1) X) a w' := by
  have HH := hid (kind_has m.kind 1 (by unfold isPart; decide) w)
  have HCC := hid HC
  have HP := hid h.pen
  have y0 : w.cell? ⟨B, 0, none⟩ = some (.int .i64 m.kind) := h.pb.cell 0
  clear h HC
  generalize hasK m.kind 1 = H at *
  go_enter Tryz.func61, Tryz.ntmps61
  go_wp2_with fail
  refine HH.out.mono ?_
  rintro r w1 ⟨rfl, hb1⟩
  have HB := hid hb1
  clear hb1
  cases H
  · go_wp2_with fail
    first | go_end0 | refine bodyPost_ret (results_none rfl _ _ _) rfl ?_
    refine ⟨rfl, ?_⟩
    have := PenStep.later HB.out (PenStep.refl (HP.out.later HB.out))
    simpa [partB] using this
  · have HD := hid (HCC.out rfl w1 HB.out)
    go_wp2_with fail
    refine HD.out.mono ?_
    rintro r w2 ⟨rfl, hst⟩
    have HST := hid (PenStep.later HB.out hst)
    clear hst
    go_wp2_with fail
    first | go_end0 | refine bodyPost_ret (results_none rfl _ _ _) rfl ?_
    exact ⟨rfl, HST.out⟩

set_option maxRecDepth 100000 in
set_option maxHeartbeats 6400000 in
theorem put_has2 {w : World} {g base most : Nat} {J : List UInt8} {a : Option Addr} {c A B : Nat} {m : Msg} {a1 : Option Addr} {c1 : Nat} {a2 : Option Addr} {c2 : Nat} {a3 : Option Addr} {c3 : Nat} {a4 : Option Addr} {c4 : Nat} (h : PutI w g base most J a c A B m a1 c1 a2 c2 a3 c3 a4 c4) (X : List UInt8) (HC : hasK m.kind 2 = true → ∀ W : World, Below w.heap.size w W → Calls Tryz.prog 65 #[.pointer (some ⟨A, 0, none⟩), .pointer (some ⟨B, 0, none⟩)] W fun r w' => r = .returned (.tuple #[]) ∧ PenStep W g base most (J ++ X) a w') :
    Calls Tryz.prog 61 #[.int .i64 2, .func (Fn.func 65) #[] #[.pointer (some ⟨A, 0, none⟩), .pointer (some ⟨B, 0, none⟩)], .pointer (some ⟨B, 0, none⟩)] w fun r w' => r = .returned (.tuple #[]) ∧ PenStep w g base most (J ++ partB (hasK m.kind 2) X) a w' := by
  have HH := hid (kind_has m.kind 2 (by unfold isPart; decide) w)
  have HCC := hid HC
  have HP := hid h.pen
  have y0 : w.cell? ⟨B, 0, none⟩ = some (.int .i64 m.kind) := h.pb.cell 0
  clear h HC
  generalize hasK m.kind 2 = H at *
  go_enter Tryz.func61, Tryz.ntmps61
  go_wp2_with fail
  refine HH.out.mono ?_
  rintro r w1 ⟨rfl, hb1⟩
  have HB := hid hb1
  clear hb1
  cases H
  · go_wp2_with fail
    first | go_end0 | refine bodyPost_ret (results_none rfl _ _ _) rfl ?_
    refine ⟨rfl, ?_⟩
    have := PenStep.later HB.out (PenStep.refl (HP.out.later HB.out))
    simpa [partB] using this
  · have HD := hid (HCC.out rfl w1 HB.out)
    go_wp2_with fail
    refine HD.out.mono ?_
    rintro r w2 ⟨rfl, hst⟩
    have HST := hid (PenStep.later HB.out hst)
    clear hst
    go_wp2_with fail
    first | go_end0 | refine bodyPost_ret (results_none rfl _ _ _) rfl ?_
    exact ⟨rfl, HST.out⟩

set_option maxRecDepth 100000 in
set_option maxHeartbeats 6400000 in
theorem put_has4 {w : World} {g base most : Nat} {J : List UInt8} {a : Option Addr} {c A B : Nat} {m : Msg} {a1 : Option Addr} {c1 : Nat} {a2 : Option Addr} {c2 : Nat} {a3 : Option Addr} {c3 : Nat} {a4 : Option Addr} {c4 : Nat} (h : PutI w g base most J a c A B m a1 c1 a2 c2 a3 c3 a4 c4) (X : List UInt8) (HC : hasK m.kind 4 = true → ∀ W : World, Below w.heap.size w W → Calls Tryz.prog 67 #[.pointer (some ⟨A, 0, none⟩), .pointer (some ⟨B, 0, none⟩)] W fun r w' => r = .returned (.tuple #[]) ∧ PenStep W g base most (J ++ X) a w') :
    Calls Tryz.prog 61 #[.int .i64 4, .func (Fn.func 67) #[] #[.pointer (some ⟨A, 0, none⟩), .pointer (some ⟨B, 0, none⟩)], .pointer (some ⟨B, 0, none⟩)] w fun r w' => r = .returned (.tuple #[]) ∧ PenStep w g base most (J ++ partB (hasK m.kind 4) X) a w' := by
  have HH := hid (kind_has m.kind 4 (by unfold isPart; decide) w)
  have HCC := hid HC
  have HP := hid h.pen
  have y0 : w.cell? ⟨B, 0, none⟩ = some (.int .i64 m.kind) := h.pb.cell 0
  clear h HC
  generalize hasK m.kind 4 = H at *
  go_enter Tryz.func61, Tryz.ntmps61
  go_wp2_with fail
  refine HH.out.mono ?_
  rintro r w1 ⟨rfl, hb1⟩
  have HB := hid hb1
  clear hb1
  cases H
  · go_wp2_with fail
    first | go_end0 | refine bodyPost_ret (results_none rfl _ _ _) rfl ?_
    refine ⟨rfl, ?_⟩
    have := PenStep.later HB.out (PenStep.refl (HP.out.later HB.out))
    simpa [partB] using this
  · have HD := hid (HCC.out rfl w1 HB.out)
    go_wp2_with fail
    refine HD.out.mono ?_
    rintro r w2 ⟨rfl, hst⟩
    have HST := hid (PenStep.later HB.out hst)
    clear hst
    go_wp2_with fail
    first | go_end0 | refine bodyPost_ret (results_none rfl _ _ _) rfl ?_
    exact ⟨rfl, HST.out⟩

set_option maxRecDepth 100000 in
set_option maxHeartbeats 6400000 in
theorem put_has8 {w : World} {g base most : Nat} {J : List UInt8} {a : Option Addr} {c A B : Nat} {m : Msg} {a1 : Option Addr} {c1 : Nat} {a2 : Option Addr} {c2 : Nat} {a3 : Option Addr} {c3 : Nat} {a4 : Option Addr} {c4 : Nat} (h : PutI w g base most J a c A B m a1 c1 a2 c2 a3 c3 a4 c4) (X : List UInt8) (HC : hasK m.kind 8 = true → ∀ W : World, Below w.heap.size w W → Calls Tryz.prog 69 #[.pointer (some ⟨A, 0, none⟩), .pointer (some ⟨B, 0, none⟩)] W fun r w' => r = .returned (.tuple #[]) ∧ PenStep W g base most (J ++ X) a w') :
    Calls Tryz.prog 61 #[.int .i64 8, .func (Fn.func 69) #[] #[.pointer (some ⟨A, 0, none⟩), .pointer (some ⟨B, 0, none⟩)], .pointer (some ⟨B, 0, none⟩)] w fun r w' => r = .returned (.tuple #[]) ∧ PenStep w g base most (J ++ partB (hasK m.kind 8) X) a w' := by
  have HH := hid (kind_has m.kind 8 (by unfold isPart; decide) w)
  have HCC := hid HC
  have HP := hid h.pen
  have y0 : w.cell? ⟨B, 0, none⟩ = some (.int .i64 m.kind) := h.pb.cell 0
  clear h HC
  generalize hasK m.kind 8 = H at *
  go_enter Tryz.func61, Tryz.ntmps61
  go_wp2_with fail
  refine HH.out.mono ?_
  rintro r w1 ⟨rfl, hb1⟩
  have HB := hid hb1
  clear hb1
  cases H
  · go_wp2_with fail
    first | go_end0 | refine bodyPost_ret (results_none rfl _ _ _) rfl ?_
    refine ⟨rfl, ?_⟩
    have := PenStep.later HB.out (PenStep.refl (HP.out.later HB.out))
    simpa [partB] using this
  · have HD := hid (HCC.out rfl w1 HB.out)
    go_wp2_with fail
    refine HD.out.mono ?_
    rintro r w2 ⟨rfl, hst⟩
    have HST := hid (PenStep.later HB.out hst)
    clear hst
    go_wp2_with fail
    first | go_end0 | refine bodyPost_ret (results_none rfl _ _ _) rfl ?_
    exact ⟨rfl, HST.out⟩

set_option maxRecDepth 100000 in
set_option maxHeartbeats 6400000 in
theorem put_has16 {w : World} {g base most : Nat} {J : List UInt8} {a : Option Addr} {c A B : Nat} {m : Msg} {a1 : Option Addr} {c1 : Nat} {a2 : Option Addr} {c2 : Nat} {a3 : Option Addr} {c3 : Nat} {a4 : Option Addr} {c4 : Nat} (h : PutI w g base most J a c A B m a1 c1 a2 c2 a3 c3 a4 c4) (X : List UInt8) (HC : hasK m.kind 16 = true → ∀ W : World, Below w.heap.size w W → Calls Tryz.prog 71 #[.pointer (some ⟨A, 0, none⟩), .pointer (some ⟨B, 0, none⟩)] W fun r w' => r = .returned (.tuple #[]) ∧ PenStep W g base most (J ++ X) a w') :
    Calls Tryz.prog 61 #[.int .i64 16, .func (Fn.func 71) #[] #[.pointer (some ⟨A, 0, none⟩), .pointer (some ⟨B, 0, none⟩)], .pointer (some ⟨B, 0, none⟩)] w fun r w' => r = .returned (.tuple #[]) ∧ PenStep w g base most (J ++ partB (hasK m.kind 16) X) a w' := by
  have HH := hid (kind_has m.kind 16 (by unfold isPart; decide) w)
  have HCC := hid HC
  have HP := hid h.pen
  have y0 : w.cell? ⟨B, 0, none⟩ = some (.int .i64 m.kind) := h.pb.cell 0
  clear h HC
  generalize hasK m.kind 16 = H at *
  go_enter Tryz.func61, Tryz.ntmps61
  go_wp2_with fail
  refine HH.out.mono ?_
  rintro r w1 ⟨rfl, hb1⟩
  have HB := hid hb1
  clear hb1
  cases H
  · go_wp2_with fail
    first | go_end0 | refine bodyPost_ret (results_none rfl _ _ _) rfl ?_
    refine ⟨rfl, ?_⟩
    have := PenStep.later HB.out (PenStep.refl (HP.out.later HB.out))
    simpa [partB] using this
  · have HD := hid (HCC.out rfl w1 HB.out)
    go_wp2_with fail
    refine HD.out.mono ?_
    rintro r w2 ⟨rfl, hst⟩
    have HST := hid (PenStep.later HB.out hst)
    clear hst
    go_wp2_with fail
    first | go_end0 | refine bodyPost_ret (results_none rfl _ _ _) rfl ?_
    exact ⟨rfl, HST.out⟩

set_option maxRecDepth 100000 in
set_option maxHeartbeats 6400000 in
theorem put_has64 {w : World} {g base most : Nat} {J : List UInt8} {a : Option Addr} {c A B : Nat} {m : Msg} {a1 : Option Addr} {c1 : Nat} {a2 : Option Addr} {c2 : Nat} {a3 : Option Addr} {c3 : Nat} {a4 : Option Addr} {c4 : Nat} (h : PutI w g base most J a c A B m a1 c1 a2 c2 a3 c3 a4 c4) (X : List UInt8) (HC : hasK m.kind 64 = true → ∀ W : World, Below w.heap.size w W → Calls Tryz.prog 75 #[.pointer (some ⟨A, 0, none⟩), .pointer (some ⟨B, 0, none⟩)] W fun r w' => r = .returned (.tuple #[]) ∧ PenStep W g base most (J ++ X) a w') :
    Calls Tryz.prog 61 #[.int .i64 64, .func (Fn.func 75) #[] #[.pointer (some ⟨A, 0, none⟩), .pointer (some ⟨B, 0, none⟩)], .pointer (some ⟨B, 0, none⟩)] w fun r w' => r = .returned (.tuple #[]) ∧ PenStep w g base most (J ++ partB (hasK m.kind 64) X) a w' := by
  have HH := hid (kind_has m.kind 64 (by unfold isPart; decide) w)
  have HCC := hid HC
  have HP := hid h.pen
  have y0 : w.cell? ⟨B, 0, none⟩ = some (.int .i64 m.kind) := h.pb.cell 0
  clear h HC
  generalize hasK m.kind 64 = H at *
  go_enter Tryz.func61, Tryz.ntmps61
  go_wp2_with fail
  refine HH.out.mono ?_
  rintro r w1 ⟨rfl, hb1⟩
  have HB := hid hb1
  clear hb1
  cases H
  · go_wp2_with fail
    first | go_end0 | refine bodyPost_ret (results_none rfl _ _ _) rfl ?_
    refine ⟨rfl, ?_⟩
    have := PenStep.later HB.out (PenStep.refl (HP.out.later HB.out))
    simpa [partB] using this
  · have HD := hid (HCC.out rfl w1 HB.out)
    go_wp2_with fail
    refine HD.out.mono ?_
    rintro r w2 ⟨rfl, hst⟩
    have HST := hid (PenStep.later HB.out hst)
    clear hst
    go_wp2_with fail
    first | go_end0 | refine bodyPost_ret (results_none rfl _ _ _) rfl ?_
    exact ⟨rfl, HST.out⟩

set_option maxRecDepth 100000 in
set_option maxHeartbeats 6400000 in
theorem put_has128 {w : World} {g base most : Nat} {J : List UInt8} {a : Option Addr} {c A B : Nat} {m : Msg} {a1 : Option Addr} {c1 : Nat} {a2 : Option Addr} {c2 : Nat} {a3 : Option Addr} {c3 : Nat} {a4 : Option Addr} {c4 : Nat} (h : PutI w g base most J a c A B m a1 c1 a2 c2 a3 c3 a4 c4) (X : List UInt8) (HC : hasK m.kind 128 = true → ∀ W : World, Below w.heap.size w W → Calls Tryz.prog 77 #[.pointer (some ⟨A, 0, none⟩), .pointer (some ⟨B, 0, none⟩)] W fun r w' => r = .returned (.tuple #[]) ∧ PenStep W g base most (J ++ X) a w') :
    Calls Tryz.prog 61 #[.int .i64 128, .func (Fn.func 77) #[] #[.pointer (some ⟨A, 0, none⟩), .pointer (some ⟨B, 0, none⟩)], .pointer (some ⟨B, 0, none⟩)] w fun r w' => r = .returned (.tuple #[]) ∧ PenStep w g base most (J ++ partB (hasK m.kind 128) X) a w' := by
  have HH := hid (kind_has m.kind 128 (by unfold isPart; decide) w)
  have HCC := hid HC
  have HP := hid h.pen
  have y0 : w.cell? ⟨B, 0, none⟩ = some (.int .i64 m.kind) := h.pb.cell 0
  clear h HC
  generalize hasK m.kind 128 = H at *
  go_enter Tryz.func61, Tryz.ntmps61
  go_wp2_with fail
  refine HH.out.mono ?_
  rintro r w1 ⟨rfl, hb1⟩
  have HB := hid hb1
  clear hb1
  cases H
  · go_wp2_with fail
    first | go_end0 | refine bodyPost_ret (results_none rfl _ _ _) rfl ?_
    refine ⟨rfl, ?_⟩
    have := PenStep.later HB.out (PenStep.refl (HP.out.later HB.out))
    simpa [partB] using this
  · have HD := hid (HCC.out rfl w1 HB.out)
    go_wp2_with fail
    refine HD.out.mono ?_
    rintro r w2 ⟨rfl, hst⟩
    have HST := hid (PenStep.later HB.out hst)
    clear hst
    go_wp2_with fail
    first | go_end0 | refine bodyPost_ret (results_none rfl _ _ _) rfl ?_
    exact ⟨rfl, HST.out⟩

theorem mostK_le (k : Int) : mostK k ≤ 20 := by unfold mostK; split <;> omega
theorem partB_true {h : Bool} {X : List UInt8} (hh : h = true) : (partB h X).length = X.length := by rw [hh]; rfl

set_option maxRecDepth 100000 in
set_option maxHeartbeats 6400000 in
theorem body_put (w : World) {g base most : Nat} {J : List UInt8} {a : Option Addr} {c : Nat} (h : PenAt w g base most J a c) (m : Msg) (a1 : Option Addr) (c1 : Nat) (a2 : Option Addr) (c2 : Nat) (a3 : Option Addr) (c3 : Nat) (a4 : Option Addr) (c4 : Nat) (hd : MsgIn (fun q => q < w.heap.size ∧ ¬ PenF g a q) w m a1 c1 a2 c2 a3 c3 a4 c4)
    (hbk : ∀ x ∈ m.links, x.backs.length ≤ 1000000) (hR : msgR m = true) (hfit : J.length + (msgB m).length ≤ most) (hln : J.length + (msgB m).length ≤ 100000000000000) :
    Calls Tryz.prog 16 #[.pointer (some ⟨g, 0, none⟩), .agg #[.int .i64 m.kind, .int .u64 m.epoch, .int .u64 m.seq, .int .u64 m.pos, .int .i64 m.count, .int .i64 m.state, .slice a1 m.streams.length c1, .slice a2 m.links.length c2, .slice a3 m.data.length c3, .int .u64 m.sea.epoch, .int .u64 m.sea.node, .int .u64 m.sea.tail, .int .u64 m.proj.epoch, .slice a4 m.proj.stripes.length c4]] w fun r w' => r = .returned (.tuple #[]) ∧ PenStep w g base most (J ++ msgB m) a w' := by
  have hml : (msgB m).length = (partB (hasK m.kind 1) (varB m.pos.toNat)).length + (partB (hasK m.kind 2) (varB m.count.toNat)).length + (partB (hasK m.kind 4) ([UInt8.ofNat m.state.toNat])).length + (partB (hasK m.kind 8) (setB m.streams)).length + (partB (hasK m.kind 16) (linksB m.pos m.links)).length + (partB (blockK m.kind m.state) (blockB m.data)).length + (partB (hasK m.kind 64) (sealB m.sea)).length + (partB (hasK m.kind 128) (projB m.proj)).length := by simp only [msgB, List.length_append]
  rw [hml] at hfit hln
  have hmb : msgB m = partB (hasK m.kind 1) (varB m.pos.toNat) ++ partB (hasK m.kind 2) (varB m.count.toNat) ++ partB (hasK m.kind 4) ([UInt8.ofNat m.state.toNat]) ++ partB (hasK m.kind 8) (setB m.streams) ++ partB (hasK m.kind 16) (linksB m.pos m.links) ++ partB (blockK m.kind m.state) (blockB m.data) ++ partB (hasK m.kind 64) (sealB m.sea) ++ partB (hasK m.kind 128) (projB m.proj) := rfl
  have HRT := hid (fun (W : World) (hW : Below w.heap.size w W) => body_right m a1 c1 a2 c2 a3 c3 a4 c4 W (MsgIn.lift (MsgIn.low hd) hW) (fun x hx => by have := hbk x hx; omega))
  rw [hR] at HRT
  have HHD := hid (fun (W : World) => body_hasdata m a1 c1 a2 c2 a3 c3 a4 c4 W)
  have HM := hid (msgR_parts hR)
  have HBK := hid hbk
  have HP := hid h
  have HD := hid hd
  have HLT := hid (fun q (hq : PenF g a q) => (h.own_lt hq).2)
  have hdl := HM.out.data
  clear h hd hR hbk hml
  go_enter Tryz.func16, Tryz.ntmps16
  go_wp2_with fail
  refine (HRT.out _ (by (repeat (first | with_reducible exact Below.refl _ _ | with_reducible assumption | (with_reducible refine below_alloc ?_ _) | (with_reducible refine Below.setCell ?_ (by first | omega | (simp; done) | (simp; omega)) _) | (with_reducible refine Below.drew ?_) | (with_reducible refine below_drewN ?_ _) | (refine below_then (by with_reducible assumption) ?_))))).mono ?_
  rintro r w1 ⟨rfl, hb1⟩
  have hbw1 : Below w.heap.size w w1 := by (repeat (first | with_reducible exact Below.refl _ _ | with_reducible assumption | (with_reducible refine below_alloc ?_ _) | (with_reducible refine Below.setCell ?_ (by first | omega | (simp; done) | (simp; omega)) _) | (with_reducible refine Below.drew ?_) | (with_reducible refine below_drewN ?_ _) | (refine below_then (by with_reducible assumption) ?_)))
  have hI1 : PutI w1 g base most J a c w.heap.size (w.heap.size + 1) m a1 c1 a2 c2 a3 c3 a4 c4 := ⟨HP.out.later hbw1, Blk.later ((Blk.newAt w 38 #[.pointer (some ⟨g, 0, none⟩)] rfl).alloc _) hb1, Blk.later (Blk.newAt _ 32 #[.int .i64 m.kind, .int .u64 m.epoch, .int .u64 m.seq, .int .u64 m.pos, .int .i64 m.count, .int .i64 m.state, .slice a1 m.streams.length c1, .slice a2 m.links.length c2, .slice a3 m.data.length c3, .int .u64 m.sea.epoch, .int .u64 m.sea.node, .int .u64 m.sea.tail, .int .u64 m.proj.epoch, .slice a4 m.proj.stripes.length c4] (by simp)) hb1, fun hf => by have := HLT.out _ hf; omega, fun hf => by have := HLT.out _ hf; omega, MsgIn.tr (fun A cs x hx => pen_later hbw1 hx) HD.out⟩
  have HBW1 := hid hbw1
  clear hb1 hbw1
  have q1_0 : w1.cell? ⟨w.heap.size, 0, none⟩ = some (.pointer (some ⟨g, 0, none⟩)) := hI1.pa.cell 0
  have HC1 := hid (put_has1 hI1 (varB m.pos.toNat) (fun hh W hW => put_pos (hI1.later hW) (HM.out.pos hh) (by (try simp only [List.length_append]); have := partB_true (X := (varB m.pos.toNat)) hh; omega) (by (try simp only [List.length_append]); have := partB_true (X := (varB m.pos.toNat)) hh; omega)))
  have HI1 := hid hI1
  clear hI1
  go_wp2_with fail
  refine HC1.out.mono ?_
  rintro r w2 ⟨rfl, hst⟩
  obtain ⟨a2', c2', hI2, ht, ha⟩ := HI1.out.step hst
  have HT1 := hid (And.intro ht ha)
  clear hst ht ha
  have q2_0 : w2.cell? ⟨w.heap.size, 0, none⟩ = some (.pointer (some ⟨g, 0, none⟩)) := hI2.pa.cell 0
  have HC2 := hid (put_has2 hI2 (varB m.count.toNat) (fun hh W hW => put_count (hI2.later hW) (HM.out.count hh) (by (try simp only [List.length_append]); have := partB_true (X := (varB m.count.toNat)) hh; omega) (by (try simp only [List.length_append]); have := partB_true (X := (varB m.count.toNat)) hh; omega)))
  have HI2 := hid hI2
  clear hI2
  go_wp2_with fail
  refine HC2.out.mono ?_
  rintro r w3 ⟨rfl, hst⟩
  obtain ⟨a3', c3', hI3, ht, ha⟩ := HI2.out.step hst
  have HT2 := hid (And.intro ht ha)
  clear hst ht ha
  have q3_0 : w3.cell? ⟨w.heap.size, 0, none⟩ = some (.pointer (some ⟨g, 0, none⟩)) := hI3.pa.cell 0
  have HC3 := hid (put_has4 hI3 ([UInt8.ofNat m.state.toNat]) (fun hh W hW => put_state (hI3.later hW) (by have := HM.out.state hh; have := mostK_le m.kind; omega) (by (try simp only [List.length_append]); have := partB_true (X := ([UInt8.ofNat m.state.toNat])) hh; omega) (by (try simp only [List.length_append]); have := partB_true (X := ([UInt8.ofNat m.state.toNat])) hh; omega)))
  have HI3 := hid hI3
  clear hI3
  go_wp2_with fail
  refine HC3.out.mono ?_
  rintro r w4 ⟨rfl, hst⟩
  obtain ⟨a4', c4', hI4, ht, ha⟩ := HI3.out.step hst
  have HT3 := hid (And.intro ht ha)
  clear hst ht ha
  have q4_0 : w4.cell? ⟨w.heap.size, 0, none⟩ = some (.pointer (some ⟨g, 0, none⟩)) := hI4.pa.cell 0
  have HC4 := hid (put_has8 hI4 (setB m.streams) (fun hh W hW => put_streams (hI4.later hW) (HM.out.streams hh) (by (try simp only [List.length_append]); have := partB_true (X := (setB m.streams)) hh; omega) (by (try simp only [List.length_append]); have := partB_true (X := (setB m.streams)) hh; omega)))
  have HI4 := hid hI4
  clear hI4
  go_wp2_with fail
  refine HC4.out.mono ?_
  rintro r w5 ⟨rfl, hst⟩
  obtain ⟨a5', c5', hI5, ht, ha⟩ := HI4.out.step hst
  have HT4 := hid (And.intro ht ha)
  clear hst ht ha
  have q5_0 : w5.cell? ⟨w.heap.size, 0, none⟩ = some (.pointer (some ⟨g, 0, none⟩)) := hI5.pa.cell 0
  have HC5 := hid (put_has16 hI5 (linksB m.pos m.links) (fun hh W hW => put_links (hI5.later hW) HBK.out (HM.out.links hh) (by (try simp only [List.length_append]); have := partB_true (X := (linksB m.pos m.links)) hh; omega) (by (try simp only [List.length_append]); have := partB_true (X := (linksB m.pos m.links)) hh; omega)))
  have HI5 := hid hI5
  clear hI5
  go_wp2_with fail
  refine HC5.out.mono ?_
  rintro r w6 ⟨rfl, hst⟩
  obtain ⟨a6', c6', hI6, ht, ha⟩ := HI5.out.step hst
  have HT5 := hid (And.intro ht ha)
  clear hst ht ha
  have q6_0 : w6.cell? ⟨w.heap.size, 0, none⟩ = some (.pointer (some ⟨g, 0, none⟩)) := hI6.pa.cell 0
  have z6_0 : w6.cell? ⟨w.heap.size + 1, 0, none⟩ = some (.int .i64 m.kind) := hI6.pb.cell 0
  have z6_1 : w6.cell? ⟨w.heap.size + 1, 1, none⟩ = some (.int .u64 m.epoch) := hI6.pb.cell 1
  have z6_2 : w6.cell? ⟨w.heap.size + 1, 2, none⟩ = some (.int .u64 m.seq) := hI6.pb.cell 2
  have z6_3 : w6.cell? ⟨w.heap.size + 1, 3, none⟩ = some (.int .u64 m.pos) := hI6.pb.cell 3
  have z6_4 : w6.cell? ⟨w.heap.size + 1, 4, none⟩ = some (.int .i64 m.count) := hI6.pb.cell 4
  have z6_5 : w6.cell? ⟨w.heap.size + 1, 5, none⟩ = some (.int .i64 m.state) := hI6.pb.cell 5
  have z6_6 : w6.cell? ⟨w.heap.size + 1, 6, none⟩ = some (.slice a1 m.streams.length c1) := hI6.pb.cell 6
  have z6_7 : w6.cell? ⟨w.heap.size + 1, 7, none⟩ = some (.slice a2 m.links.length c2) := hI6.pb.cell 7
  have z6_8 : w6.cell? ⟨w.heap.size + 1, 8, none⟩ = some (.slice a3 m.data.length c3) := hI6.pb.cell 8
  have z6_9 : w6.cell? ⟨w.heap.size + 1, 9, none⟩ = some (.int .u64 m.sea.epoch) := hI6.pb.cell 9
  have z6_10 : w6.cell? ⟨w.heap.size + 1, 10, none⟩ = some (.int .u64 m.sea.node) := hI6.pb.cell 10
  have z6_11 : w6.cell? ⟨w.heap.size + 1, 11, none⟩ = some (.int .u64 m.sea.tail) := hI6.pb.cell 11
  have z6_12 : w6.cell? ⟨w.heap.size + 1, 12, none⟩ = some (.int .u64 m.proj.epoch) := hI6.pb.cell 12
  have z6_13 : w6.cell? ⟨w.heap.size + 1, 13, none⟩ = some (.slice a4 m.proj.stripes.length c4) := hI6.pb.cell 13
  have HI6 := hid hI6
  clear hI6
  go_wp2_with fail
  refine (HHD.out _).mono ?_
  rintro r v6 ⟨rfl, hb6⟩
  have hJ6 := HI6.out.later hb6
  clear z6_0 z6_1 z6_2 z6_3 z6_4 z6_5 z6_6 z6_7 z6_8 z6_9 z6_10 z6_11 z6_12 z6_13
  have u6_0 : v6.cell? ⟨w.heap.size, 0, none⟩ = some (.pointer (some ⟨g, 0, none⟩)) := hJ6.pa.cell 0
  have u6_8 : v6.cell? ⟨w.heap.size + 1, 8, none⟩ = some (.slice a3 m.data.length c3) := hJ6.pb.cell 8
  have HK6 : Hid (blockK m.kind m.state = true → Calls Tryz.prog 74 #[.pointer (some ⟨g, 0, none⟩), .slice a3 m.data.length c3] v6 fun r w' => r = .returned (.tuple #[]) ∧ PenStep v6 g base most (J ++ partB (hasK m.kind 1) (varB m.pos.toNat) ++ partB (hasK m.kind 2) (varB m.count.toNat) ++ partB (hasK m.kind 4) ([UInt8.ofNat m.state.toNat]) ++ partB (hasK m.kind 8) (setB m.streams) ++ partB (hasK m.kind 16) (linksB m.pos m.links) ++ blockB m.data) a6' w') := hid (fun hh => block_put v6 hJ6.pen m.data a3 _ c3 hJ6.data.data hdl (by (try simp only [List.length_append]); have := partB_true (X := (blockB m.data)) hh; omega) (by (try simp only [List.length_append]); have := partB_true (X := (blockB m.data)) hh; omega))
  have HJ6 := hid hJ6
  have HB6 := hid hb6
  clear hJ6 hb6
  go_upto_if 27 with (fail)
  go_cut [27] from 28 to 31 (fun s27 V => ∃ a' c', PutI V g base most (J ++ partB (hasK m.kind 1) (varB m.pos.toNat) ++ partB (hasK m.kind 2) (varB m.count.toNat) ++ partB (hasK m.kind 4) ([UInt8.ofNat m.state.toNat]) ++ partB (hasK m.kind 8) (setB m.streams) ++ partB (hasK m.kind 16) (linksB m.pos m.links) ++ partB (blockK m.kind m.state) (blockB m.data)) a' c' w.heap.size (w.heap.size + 1) m a1 c1 a2 c2 a3 c3 a4 c4 ∧ Tch (PenF g a6') v6 V ∧ (a'.map Addr.block = a6'.map Addr.block ∨ ∃ q, a'.map Addr.block = some q ∧ v6.heap.size ≤ q))
  case first =>
    have HK := HK6.out
    have hq : blockK m.kind m.state = true ∨ blockK m.kind m.state = false := by cases blockK m.kind m.state <;> simp
    rcases hq with hq | hq
    · have HKK := hid (HK hq)
      clear HK
      rw [hq]
      go_wp2_with fail
      refine HKK.out.mono ?_
      rintro r x1 ⟨rfl, hst⟩
      obtain ⟨a', c', hI, ht, ha⟩ := HJ6.out.step hst
      go_wp2_with fail
      go_meet
      case rel => exact ⟨a', c', by simpa [partB, hq] using hI, ht, ha⟩
    · clear HK
      rw [hq]
      go_wp2_with fail
      go_meet
      case rel => exact ⟨a6', c6', by simpa [partB, hq] using HJ6.out, Tch.refl _ _, .inl rfl⟩
  case rest =>
  obtain ⟨a7', c7', hI7, ht, ha⟩ := hcut
  obtain ⟨w7, hwn⟩ : ∃ W : World, W = wc := ⟨_, rfl⟩
  subst hwn
  have HT6 := hid (And.intro ht ha)
  clear ht ha
  have q7_0 : w7.cell? ⟨w.heap.size, 0, none⟩ = some (.pointer (some ⟨g, 0, none⟩)) := hI7.pa.cell 0
  have HC7 := hid (put_has64 hI7 (sealB m.sea) (fun hh W hW => put_seal (hI7.later hW) (HM.out.seal_ hh) (by (try simp only [List.length_append]); have := partB_true (X := (sealB m.sea)) hh; omega) (by (try simp only [List.length_append]); have := partB_true (X := (sealB m.sea)) hh; omega)))
  have HI7 := hid hI7
  clear hI7
  go_wp2_with fail
  refine HC7.out.mono ?_
  rintro r w8 ⟨rfl, hst⟩
  obtain ⟨a8', c8', hI8, ht, ha⟩ := HI7.out.step hst
  have HT7 := hid (And.intro ht ha)
  clear hst ht ha
  have q8_0 : w8.cell? ⟨w.heap.size, 0, none⟩ = some (.pointer (some ⟨g, 0, none⟩)) := hI8.pa.cell 0
  have HC8 := hid (put_has128 hI8 (projB m.proj) (fun hh W hW => put_proj (hI8.later hW) (HM.out.proj hh) (by (try simp only [List.length_append]); have := partB_true (X := (projB m.proj)) hh; omega) (by (try simp only [List.length_append]); have := partB_true (X := (projB m.proj)) hh; omega)))
  have HI8 := hid hI8
  clear hI8
  go_wp2_with fail
  refine HC8.out.mono ?_
  rintro r w9 ⟨rfl, hst⟩
  obtain ⟨a9', c9', hI9, ht, ha⟩ := HI8.out.step hst
  have HT8 := hid (And.intro ht ha)
  clear hst ht ha
  have hn := PenStep.refl hI9.pen
  have hn := PenStep.trans (J := J) HT8.out.1 HT8.out.2 hn
  have hn := PenStep.trans (J := J) HT7.out.1 HT7.out.2 hn
  have hn := PenStep.trans (J := J) HT6.out.1 HT6.out.2 hn
  have hn := PenStep.later HB6.out hn
  have hn := PenStep.trans (J := J) HT5.out.1 HT5.out.2 hn
  have hn := PenStep.trans (J := J) HT4.out.1 HT4.out.2 hn
  have hn := PenStep.trans (J := J) HT3.out.1 HT3.out.2 hn
  have hn := PenStep.trans (J := J) HT2.out.1 HT2.out.2 hn
  have hn := PenStep.trans (J := J) HT1.out.1 HT1.out.2 hn
  have hn := PenStep.later HBW1.out hn
  have HST := hid hn
  clear hn hI9
  go_wp2_with fail
  first | go_end0 | refine bodyPost_ret (results_none rfl _ _ _) rfl ?_
  refine ⟨rfl, ?_⟩
  have := HST.out
  rw [hmb]
  simpa only [List.append_assoc] using this
end Go.Proofs.YtlbffbkbkajciaaGreat
namespace Go.Proofs.YtlbffbkbkajciaaGreat
open Go.RowKit Go.Bs Go.Maps
set_option linter.unusedVariables false
set_option linter.unusedSimpArgs false

set_option maxRecDepth 100000 in
set_option maxHeartbeats 6400000 in
theorem body_put_bad (w : World) {g base most : Nat} {J : List UInt8} {a : Option Addr} {c : Nat} (h : PenAt w g base most J a c) (m : Msg) (a1 : Option Addr) (c1 : Nat) (a2 : Option Addr) (c2 : Nat) (a3 : Option Addr) (c3 : Nat) (a4 : Option Addr) (c4 : Nat) (hd : MsgIn (· < w.heap.size) w m a1 c1 a2 c2 a3 c3 a4 c4)
    (hbk : ∀ x ∈ m.links, x.backs.length ≤ 1000000) (hR : msgR m = false) :
    Calls Tryz.prog 16 #[.pointer (some ⟨g, 0, none⟩), .agg #[.int .i64 m.kind, .int .u64 m.epoch, .int .u64 m.seq, .int .u64 m.pos, .int .i64 m.count, .int .i64 m.state, .slice a1 m.streams.length c1, .slice a2 m.links.length c2, .slice a3 m.data.length c3, .int .u64 m.sea.epoch, .int .u64 m.sea.node, .int .u64 m.sea.tail, .int .u64 m.proj.epoch, .slice a4 m.proj.stripes.length c4]] w fun r w' => r = .returned (.tuple #[]) ∧ Blk w' g 87 #[.int .i64 most, .slice a J.length c, .int .i64 3] ∧ Tch (· = g) w w' := by
  have HRT := hid (fun (W : World) (hW : Below w.heap.size w W) => body_right m a1 c1 a2 c2 a3 c3 a4 c4 W (MsgIn.lift hd hW) (fun x hx => by have := hbk x hx; omega))
  rw [hR] at HRT
  have HF := hid (fun (W : World) (hW : Below w.heap.size w W) => pen_fail W (h.later hW) 3)
  clear h hd hR hbk
  go_enter Tryz.func16, Tryz.ntmps16
  go_wp2_with fail
  refine (HRT.out _ (by (repeat (first | with_reducible exact Below.refl _ _ | with_reducible assumption | (with_reducible refine below_alloc ?_ _) | (with_reducible refine Below.setCell ?_ (by first | omega | (simp; done) | (simp; omega)) _) | (with_reducible refine Below.drew ?_) | (with_reducible refine below_drewN ?_ _) | (refine below_then (by with_reducible assumption) ?_))))).mono ?_
  rintro r w1 ⟨rfl, hb1⟩
  have hbw1 : Below w.heap.size w w1 := by (repeat (first | with_reducible exact Below.refl _ _ | with_reducible assumption | (with_reducible refine below_alloc ?_ _) | (with_reducible refine Below.setCell ?_ (by first | omega | (simp; done) | (simp; omega)) _) | (with_reducible refine Below.drew ?_) | (with_reducible refine below_drewN ?_ _) | (refine below_then (by with_reducible assumption) ?_)))
  have p0 := hb1.cell (p := ⟨w.heap.size, 0, none⟩) (by simp; omega)
  simp at p0
  clear hb1
  go_wp2_with fail
  refine (HF.out _ hbw1).mono ?_
  rintro r w2 ⟨rfl, hB2, hT2⟩
  have HB2 := hid hB2
  have HT2 := hid hT2
  clear hB2 hT2 p0
  go_wp2_with fail
  first | go_end0 | refine bodyPost_ret (results_none rfl _ _ _) rfl ?_
  exact ⟨rfl, HB2.out, Tch.trans (F := (· = g)) (Tch.of_later hbw1) HT2.out (fun _ _ h => h)⟩

/-- What body.Bytes gives. -/
def msgBytes (m : Msg) : List UInt8 × Int := if msgR m = true then (msgB m, 0) else ([], 3)
set_option maxRecDepth 100000 in
set_option maxHeartbeats 6400000 in
theorem body_bytes (w : World) (m : Msg) (a1 : Option Addr) (c1 : Nat) (a2 : Option Addr) (c2 : Nat) (a3 : Option Addr) (c3 : Nat) (a4 : Option Addr) (c4 : Nat) (hd : MsgIn (· < w.heap.size) w m a1 c1 a2 c2 a3 c3 a4 c4) (hbk : ∀ x ∈ m.links, x.backs.length ≤ 1000000) (hln : m.data.length ≤ 10000000000) :
    Calls Tryz.prog 14 #[.agg #[.int .i64 m.kind, .int .u64 m.epoch, .int .u64 m.seq, .int .u64 m.pos, .int .i64 m.count, .int .i64 m.state, .slice a1 m.streams.length c1, .slice a2 m.links.length c2, .slice a3 m.data.length c3, .int .u64 m.sea.epoch, .int .u64 m.sea.node, .int .u64 m.sea.tail, .int .u64 m.proj.epoch, .slice a4 m.proj.stripes.length c4]] w fun r w' => ∃ v, r = .returned (.tuple #[v, .int .i64 (msgBytes m).2]) ∧ rBytes.r (fun q => w.heap.size ≤ q ∧ q < w'.heap.size) w' [v] (msgBytes m).1 ∧ Below w.heap.size w w' := by
  have HD := hid hd
  have hmo : (65536 : Int) + (m.data.length : Int) = ((65536 + m.data.length : Nat) : Int) := by omega
  have HN := hid (fun W : World => (by have := pen_new W (65536 + m.data.length) (by omega); rw [← hmo] at this; exact this : Calls Tryz.prog 15 #[.int .i64 ((65536 : Int) + (m.data.length : Int))] W fun r w' => r = .returned (.pointer (some ⟨W.heap.size, 0, none⟩)) ∧ PenAt w' W.heap.size W.heap.size (65536 + m.data.length) [] none 0 ∧ Below W.heap.size W w'))
  unfold msgBytes
  have HBX : Hid (Blk (w.alloc (.cells #[.int .i64 m.kind, .int .u64 m.epoch, .int .u64 m.seq, .int .u64 m.pos, .int .i64 m.count, .int .i64 m.state, .slice a1 m.streams.length c1, .slice a2 m.links.length c2, .slice a3 m.data.length c3, .int .u64 m.sea.epoch, .int .u64 m.sea.node, .int .u64 m.sea.tail, .int .u64 m.proj.epoch, .slice a4 m.proj.stripes.length c4] 32)) w.heap.size 32 #[.int .i64 m.kind, .int .u64 m.epoch, .int .u64 m.seq, .int .u64 m.pos, .int .i64 m.count, .int .i64 m.state, .slice a1 m.streams.length c1, .slice a2 m.links.length c2, .slice a3 m.data.length c3, .int .u64 m.sea.epoch, .int .u64 m.sea.node, .int .u64 m.sea.tail, .int .u64 m.proj.epoch, .slice a4 m.proj.stripes.length c4]) := hid (Blk.new w _ _)
  have hb0 : Below w.heap.size w (w.alloc (.cells #[.int .i64 m.kind, .int .u64 m.epoch, .int .u64 m.seq, .int .u64 m.pos, .int .i64 m.count, .int .i64 m.state, .slice a1 m.streams.length c1, .slice a2 m.links.length c2, .slice a3 m.data.length c3, .int .u64 m.sea.epoch, .int .u64 m.sea.node, .int .u64 m.sea.tail, .int .u64 m.proj.epoch, .slice a4 m.proj.stripes.length c4] 32)) := by (repeat (first | exact Below.refl _ _ | assumption | (refine below_alloc ?_ _) | (refine Below.setCell ?_ (by first | omega | (simp; done) | (simp; omega)) _) | (refine Below.drew ?_) | (refine below_drewN ?_ _) | (refine below_then (by assumption) ?_)))
  cases hR : msgR m
  · rw [if_neg (by simp)]
    have HPT := hid (fun (W : World) {g base most : Nat} {a : Option Addr} {c : Nat} (h : PenAt W g base most [] a c) (hW : Below w.heap.size w W) => body_put_bad W h m a1 c1 a2 c2 a3 c3 a4 c4 (MsgIn.lift HD.out hW) hbk hR)
    clear hd hR hbk hmo
    go_enter Tryz.func14, Tryz.ntmps14
    go_wp2_with fail
    generalize w.alloc (.cells #[.int .i64 m.kind, .int .u64 m.epoch, .int .u64 m.seq, .int .u64 m.pos, .int .i64 m.count, .int .i64 m.state, .slice a1 m.streams.length c1, .slice a2 m.links.length c2, .slice a3 m.data.length c3, .int .u64 m.sea.epoch, .int .u64 m.sea.node, .int .u64 m.sea.tail, .int .u64 m.proj.epoch, .slice a4 m.proj.stripes.length c4] 32) = w0 at *
    refine (HN.out _).mono ?_
    rintro r w2 ⟨rfl, hp2, hb2⟩
    have hB2 := HBX.out.later hb2
    have y0 : w2.cell? ⟨w.heap.size, 0, none⟩ = some (.int .i64 m.kind) := hB2.cell 0
    have y1 : w2.cell? ⟨w.heap.size, 1, none⟩ = some (.int .u64 m.epoch) := hB2.cell 1
    have y2 : w2.cell? ⟨w.heap.size, 2, none⟩ = some (.int .u64 m.seq) := hB2.cell 2
    have y3 : w2.cell? ⟨w.heap.size, 3, none⟩ = some (.int .u64 m.pos) := hB2.cell 3
    have y4 : w2.cell? ⟨w.heap.size, 4, none⟩ = some (.int .i64 m.count) := hB2.cell 4
    have y5 : w2.cell? ⟨w.heap.size, 5, none⟩ = some (.int .i64 m.state) := hB2.cell 5
    have y6 : w2.cell? ⟨w.heap.size, 6, none⟩ = some (.slice a1 m.streams.length c1) := hB2.cell 6
    have y7 : w2.cell? ⟨w.heap.size, 7, none⟩ = some (.slice a2 m.links.length c2) := hB2.cell 7
    have y8 : w2.cell? ⟨w.heap.size, 8, none⟩ = some (.slice a3 m.data.length c3) := hB2.cell 8
    have y9 : w2.cell? ⟨w.heap.size, 9, none⟩ = some (.int .u64 m.sea.epoch) := hB2.cell 9
    have y10 : w2.cell? ⟨w.heap.size, 10, none⟩ = some (.int .u64 m.sea.node) := hB2.cell 10
    have y11 : w2.cell? ⟨w.heap.size, 11, none⟩ = some (.int .u64 m.sea.tail) := hB2.cell 11
    have y12 : w2.cell? ⟨w.heap.size, 12, none⟩ = some (.int .u64 m.proj.epoch) := hB2.cell 12
    have y13 : w2.cell? ⟨w.heap.size, 13, none⟩ = some (.slice a4 m.proj.stripes.length c4) := hB2.cell 13
    have hbw2 := below_then hb2 hb0
    have hs1 := hb0.size
    have HP2 := hid (HPT.out w2 hp2 hbw2)
    clear hp2 hB2
    go_wp2_with fail
    refine HP2.out.mono ?_
    rintro r w3 ⟨rfl, hB3, hT3⟩
    have hbw3 : Below w.heap.size w w3 := hbw2.trans (hT3.to_below hbw2.size (fun q _ e => by omega))
    have HB := hid (pen_bytes_bad w3 (k := 3) (by omega) hB3)
    clear hB3 hT3 y0 y1 y2 y3 y4 y5 y6 y7 y8 y9 y10 y11 y12 y13
    go_wp2_with fail
    refine HB.out.mono ?_
    rintro r w4 ⟨rfl, rfl⟩
    go_wp2_with fail
    go_ret2
    exact ⟨_, rfl, empty_bytes2 rfl rfl (by omega), hbw3⟩
  · rw [if_pos rfl]
    have hbl := msgB_len hR
    have HPT := hid (fun (W : World) {g base most : Nat} {a : Option Addr} {c : Nat} (h : PenAt W g base most [] a c) (hW : MsgIn (fun q => q < W.heap.size ∧ ¬ PenF g a q) W m a1 c1 a2 c2 a3 c3 a4 c4) (hf : (msgB m).length ≤ most) => body_put W h m a1 c1 a2 c2 a3 c3 a4 c4 hW hbk hR (by simpa using hf) (by simp; omega))
    have hfit : (msgB m).length ≤ 65536 + m.data.length := by omega
    generalize msgB m = K at *
    clear hd hR hbk hmo hbl
    go_enter Tryz.func14, Tryz.ntmps14
    go_wp2_with fail
    generalize w.alloc (.cells #[.int .i64 m.kind, .int .u64 m.epoch, .int .u64 m.seq, .int .u64 m.pos, .int .i64 m.count, .int .i64 m.state, .slice a1 m.streams.length c1, .slice a2 m.links.length c2, .slice a3 m.data.length c3, .int .u64 m.sea.epoch, .int .u64 m.sea.node, .int .u64 m.sea.tail, .int .u64 m.proj.epoch, .slice a4 m.proj.stripes.length c4] 32) = w0 at *
    refine (HN.out _).mono ?_
    rintro r w2 ⟨rfl, hp2, hb2⟩
    have hB2 := HBX.out.later hb2
    have y0 : w2.cell? ⟨w.heap.size, 0, none⟩ = some (.int .i64 m.kind) := hB2.cell 0
    have y1 : w2.cell? ⟨w.heap.size, 1, none⟩ = some (.int .u64 m.epoch) := hB2.cell 1
    have y2 : w2.cell? ⟨w.heap.size, 2, none⟩ = some (.int .u64 m.seq) := hB2.cell 2
    have y3 : w2.cell? ⟨w.heap.size, 3, none⟩ = some (.int .u64 m.pos) := hB2.cell 3
    have y4 : w2.cell? ⟨w.heap.size, 4, none⟩ = some (.int .i64 m.count) := hB2.cell 4
    have y5 : w2.cell? ⟨w.heap.size, 5, none⟩ = some (.int .i64 m.state) := hB2.cell 5
    have y6 : w2.cell? ⟨w.heap.size, 6, none⟩ = some (.slice a1 m.streams.length c1) := hB2.cell 6
    have y7 : w2.cell? ⟨w.heap.size, 7, none⟩ = some (.slice a2 m.links.length c2) := hB2.cell 7
    have y8 : w2.cell? ⟨w.heap.size, 8, none⟩ = some (.slice a3 m.data.length c3) := hB2.cell 8
    have y9 : w2.cell? ⟨w.heap.size, 9, none⟩ = some (.int .u64 m.sea.epoch) := hB2.cell 9
    have y10 : w2.cell? ⟨w.heap.size, 10, none⟩ = some (.int .u64 m.sea.node) := hB2.cell 10
    have y11 : w2.cell? ⟨w.heap.size, 11, none⟩ = some (.int .u64 m.sea.tail) := hB2.cell 11
    have y12 : w2.cell? ⟨w.heap.size, 12, none⟩ = some (.int .u64 m.proj.epoch) := hB2.cell 12
    have y13 : w2.cell? ⟨w.heap.size, 13, none⟩ = some (.slice a4 m.proj.stripes.length c4) := hB2.cell 13
    have hbw2 := below_then hb2 hb0
    have hs1 := hb0.size
    have HPA := hid hp2
    have HP2 := hid (HPT.out w2 hp2 (MsgIn.tr (fun A cs x hx => A.mono (A.keep hx fun q hq => hbw2.block q hq) fun q hq => ⟨by have := hbw2.size; omega, fun hf => by have := (hp2.own_lt hf).1; omega⟩) HD.out) hfit)
    clear hp2 hB2
    go_wp2_with fail
    refine HP2.out.mono ?_
    rintro r w3 ⟨rfl, hst⟩
    rw [List.nil_append] at hst
    have hbw3 : Below w.heap.size w w3 := hbw2.trans (HPA.out.below hs1 hbw2.size hst)
    obtain ⟨a9, c9, hp3, _, _⟩ := hst
    have HB := hid (pen_bytes w3 hp3)
    have hs3 := hbw3.size
    clear hp3 y0 y1 y2 y3 y4 y5 y6 y7 y8 y9 y10 y11 y12 y13
    go_wp2_with fail
    refine HB.out.mono ?_
    rintro r w4 ⟨v, rfl, hv, hb4⟩
    have hbe := below_then hb4 hbw3
    have HV := hid (rBytes.mono (S' := fun q => w.heap.size ≤ q ∧ q < w4.heap.size) hv fun q hq => ⟨by have := hq.1; omega, hq.2⟩)
    clear hv
    go_wp2_with fail
    go_ret2
    exact ⟨_, rfl, HV.out, hbe⟩
end Go.Proofs.YtlbffbkbkajciaaGreat
namespace Go.Proofs.YtlbffbkbkajciaaGreat
open Go.RowKit Go.Bs Go.Maps
set_option linter.unusedVariables false
set_option linter.unusedSimpArgs false

def noMsg : Msg := ⟨0, 0, 0, 0, 0, 0, [], [], [], ⟨0, 0, 0⟩, ⟨0, []⟩⟩
theorem msgIn_bare {S : Nat → Prop} {w : World} {m : Msg} (hk : inI m.kind) (he : inU m.epoch) (hs : inU m.seq) (hp : inU m.pos) (hc : inI m.count) (ht : inI m.state) (h1 : m.streams = []) (h2 : m.links = []) (h3 : m.data = []) (h4 : inU m.sea.epoch ∧ inU m.sea.node ∧ inU m.sea.tail) (h5 : inU m.proj.epoch) (h6 : m.proj.stripes = []) : MsgIn S w m none 0 none 0 none 0 none 0 := by
  refine ⟨hk, he, hs, hp, hc, ht, h4.1, h4.2.1, h4.2.2, h5, ?_, ?_, ?_, ?_⟩
  · rw [h1]; exact rSl_mk (xs := []) rfl (Nat.zero_le _) (Nat.zero_le _) (.inl rfl)
  · rw [h2]; exact rSl_mk (xs := []) rfl (Nat.zero_le _) (Nat.zero_le _) (.inl rfl)
  · rw [h3]; exact rSl_mk (xs := []) rfl (Nat.zero_le _) (Nat.zero_le _) (.inl rfl)
  · rw [h6]; exact rSl_mk (xs := []) rfl (Nat.zero_le _) (Nat.zero_le _) (.inl rfl)
def live28A : Msg := ⟨1, 0, 0, 300, 0, 0, [], [], [], ⟨0, 0, 0⟩, ⟨0, []⟩⟩
def live28B : Msg := ⟨9, 0, 0, 0, 0, 2, [], [], [], ⟨0, 0, 0⟩, ⟨0, []⟩⟩
theorem live28A_bytes : msgBytes live28A = ([172, 2], 0) := by decide +kernel
theorem live28B_bytes : msgBytes live28B = ([2], 0) := by decide +kernel
set_option maxRecDepth 100000 in
set_option maxHeartbeats 3200000 in
theorem live28 (w : World) : Calls Tryz.prog 13 #[] w fun r w' => r = .returned (.bool true) ∧ Below w.heap.size w w' := by
  have HA := hid (fun W : World => (by
    have := body_bytes W live28A none 0 none 0 none 0 none 0 (msgIn_bare ⟨by decide, by decide⟩ ⟨by decide, by decide⟩ ⟨by decide, by decide⟩ ⟨by decide, by decide⟩ ⟨by decide, by decide⟩ ⟨by decide, by decide⟩ rfl rfl rfl ⟨⟨by decide, by decide⟩, ⟨by decide, by decide⟩, ⟨by decide, by decide⟩⟩ ⟨by decide, by decide⟩ rfl) (fun x hx => by simp [live28A] at hx) (by decide)
    rw [live28A_bytes] at this
    exact this : Calls Tryz.prog 14 #[.agg #[.int .i64 1, .int .u64 0, .int .u64 0, .int .u64 300, .int .i64 0, .int .i64 0, .slice none 0 0, .slice none 0 0, .slice none 0 0, .int .u64 0, .int .u64 0, .int .u64 0, .int .u64 0, .slice none 0 0]] W fun r w' => ∃ v, r = .returned (.tuple #[v, .int .i64 0]) ∧ rBytes.r (fun q => W.heap.size ≤ q ∧ q < w'.heap.size) w' [v] [172, 2] ∧ Below W.heap.size W w'))
  have HB := hid (fun W : World => (by
    have := body_bytes W live28B none 0 none 0 none 0 none 0 (msgIn_bare ⟨by decide, by decide⟩ ⟨by decide, by decide⟩ ⟨by decide, by decide⟩ ⟨by decide, by decide⟩ ⟨by decide, by decide⟩ ⟨by decide, by decide⟩ rfl rfl rfl ⟨⟨by decide, by decide⟩, ⟨by decide, by decide⟩, ⟨by decide, by decide⟩⟩ ⟨by decide, by decide⟩ rfl) (fun x hx => by simp [live28B] at hx) (by decide)
    rw [live28B_bytes] at this
    exact this : Calls Tryz.prog 14 #[.agg #[.int .i64 9, .int .u64 0, .int .u64 0, .int .u64 0, .int .i64 0, .int .i64 2, .slice none 0 0, .slice none 0 0, .slice none 0 0, .int .u64 0, .int .u64 0, .int .u64 0, .int .u64 0, .slice none 0 0]] W fun r w' => ∃ v, r = .returned (.tuple #[v, .int .i64 0]) ∧ rBytes.r (fun q => W.heap.size ≤ q ∧ q < w'.heap.size) w' [v] [2] ∧ Below W.heap.size W w'))
  go_enter Tryz.func13, Tryz.ntmps13
  go_wp2_with fail
  refine (HA.out _).mono ?_
  rintro r w1 ⟨v1, rfl, hr1, hb1⟩
  obtain ⟨e1, d1, hv1, hs1, _⟩ := sl_form hr1
  simp only [List.cons.injEq, and_true] at hv1
  subst hv1
  have HS1 := hid (rBytes.mono hs1 (S' := (· < w1.heap.size)) fun q hq => hq.2)
  have hbw1 : Below w.heap.size w w1 := by (repeat (first | with_reducible exact Below.refl _ _ | with_reducible assumption | (with_reducible refine below_alloc ?_ _) | (with_reducible refine Below.setCell ?_ (by first | omega | (simp; done) | (simp; omega)) _) | (with_reducible refine Below.drew ?_) | (with_reducible refine below_drewN ?_ _) | (refine below_then (by with_reducible assumption) ?_)))
  clear hr1 hs1
  go_wp2_with fail
  refine (HB.out _).mono ?_
  rintro r w2 ⟨v2, rfl, hr2, hb2⟩
  obtain ⟨e2, d2, hv2, hs2, _⟩ := sl_form hr2
  simp only [List.cons.injEq, and_true] at hv2
  subst hv2
  have HS2 := hid (rBytes.mono hs2 (S' := (· < w2.heap.size)) fun q hq => hq.2)
  have HS1b := hid (lift HS1.out hb2)
  have hbw2 := below_then hb2 hbw1
  clear hr2 hs2 hb1 hb2 hbw1
  go_wp2_with fail
  have hsa := same_bytes [172, 2] [172, 2] e1 (some ⟨w2.heap.size, 0, none⟩) _ d1 2 2 (w2.alloc (.cells #[.int .u8 172, .int .u8 2] 5)) (lift HS1b.out (by clear hbw2; (repeat (first | exact Below.refl _ _ | assumption | (refine below_alloc ?_ _) | (refine Below.setCell ?_ (by first | omega | (simp; done) | (simp; omega)) _) | (refine Below.drew ?_) | (refine below_drewN ?_ _) | (refine below_then (by assumption) ?_))))) (lit_bytes (l := [172, 2]) (cs := #[.int .u8 172, .int .u8 2]) rfl (by decide) (World.alloc_heap_new w2 _))
  simp only [decide_true] at hsa
  refine hsa.mono ?_
  rintro r w3 ⟨rfl, rfl⟩
  have hbw3 : Below w.heap.size w (w2.alloc (.cells #[.int .u8 172, .int .u8 2] 5)) := below_alloc hbw2 _
  have HS2b := hid (lift HS2.out (below_alloc (Below.refl _ _) (.cells #[.int .u8 172, .int .u8 2] 5)))
  clear hsa hbw2
  generalize w2.alloc (.cells #[.int .u8 172, .int .u8 2] 5) = w3 at *
  go_wp2_with fail
  have hsb := same_bytes [2] [2] e2 (some ⟨w3.heap.size, 0, none⟩) _ d2 1 1 (w3.alloc (.cells #[.int .u8 2] 5)) (lift HS2b.out (by clear hbw3; (repeat (first | exact Below.refl _ _ | assumption | (refine below_alloc ?_ _) | (refine Below.setCell ?_ (by first | omega | (simp; done) | (simp; omega)) _) | (refine Below.drew ?_) | (refine below_drewN ?_ _) | (refine below_then (by assumption) ?_))))) (lit_bytes (l := [2]) (cs := #[.int .u8 2]) rfl (by decide) (World.alloc_heap_new w3 _))
  simp only [decide_true] at hsb
  refine hsb.mono ?_
  rintro r w4 ⟨rfl, rfl⟩
  have hbw4 : Below w.heap.size w (w3.alloc (.cells #[.int .u8 2] 5)) := below_alloc hbw3 _
  clear hsb
  generalize w3.alloc (.cells #[.int .u8 2] 5) = w4 at *
  go_wp2_with fail
  go_ret
  exact ⟨rfl, hbw4⟩
end Go.Proofs.YtlbffbkbkajciaaGreat
namespace Go.Proofs.YtlbffbkbkajciaaGreat
open Go.RowKit Go.Bs Go.Maps
set_option linter.unusedVariables false
set_option linter.unusedSimpArgs false

theorem Rs.rise_put {B rest : List UInt8} : ∀ (l : List Int) (prev : Option Int) (p : Nat) (out : List Int), (prev = none ∧ out = [] ∨ ∃ q, prev = some q ∧ 0 ≤ q ∧ out ≠ [] ∧ out.getLastD 0 = q ∧ ∀ x ∈ l.head?, q < x) → risesB l = true → (∀ x ∈ l, 0 ≤ x ∧ x ≤ 18446744073709551615) → B.drop p = numsB (upsN prev l) ++ rest → p ≤ B.length →
    Rs.rise B l.length ⟨p, 0, 0⟩ out = (⟨p + (numsB (upsN prev l)).length, 0, 0⟩, out ++ l)
  | [], prev, p, out, _, _, _, _, _ => by simp [Rs.rise, upsN, numsB]
  | x :: l, prev, p, out, hp, hr, hx, h, hl => by
    have h0 := hx x (by simp)
    have hr2 : risesB l = true := by
      cases l with
      | nil => rfl
      | cons y l => simp only [risesB, Bool.and_eq_true] at hr; exact hr.2
    have hnx : ∀ y ∈ l.head?, x < y := by
      cases l with
      | nil => simp
      | cons y l => simp only [risesB, Bool.and_eq_true, decide_eq_true_eq] at hr; intro z hz; simp at hz; subst hz; exact hr.1
    simp only [upsN] at h ⊢
    rw [numsB_cons, List.append_assoc] at h
    have hd := drop_more h
    have hro := drop_room h hl
    have hrec := Rs.rise_put l (some x) _ (out ++ [x]) (.inr ⟨x, rfl, h0.1, by simp, by simp, hnx⟩) hr2 (fun y hy => hx y (by simp [hy])) hd (by omega)
    simp only [List.length_cons, Rs.rise]
    rcases hp with ⟨rfl, rfl⟩ | ⟨q, rfl, hq0, hne, hq, hlt⟩
    · dsimp only at h hrec ⊢
      have hN := Rs.num_varB (x := x.toNat) (by omega) h
      rw [hN]
      dsimp only
      rw [if_pos rfl, if_neg (fun h => h.1 rfl), if_pos rfl, toNat_cast h0.1, hrec, numsB_cons, List.length_append]
      simp [Nat.add_assoc]
    · have hqx : q < x := hlt x (by simp)
      dsimp only at h hrec ⊢
      have hN := Rs.num_varB (x := (x - q - 1).toNat) (by omega) h
      rw [hN]
      dsimp only
      rw [if_pos rfl, hq, toNat_cast (by omega), if_neg (by omega), if_neg hne, show x - q - 1 + (q + 1) = x by omega, hrec, numsB_cons, List.length_append]
      simp [Nat.add_assoc]
theorem Rs.set_put {B rest : List UInt8} {l : List Int} {O : List (List Int)} {p : Nat} (hn : nodesR l = true) (ha : apartR l O = true) (hx : ∀ x ∈ l, 0 ≤ x ∧ x ≤ 18446744073709551615) (h : B.drop p = setB l ++ rest) (hp : p ≤ B.length) :
    (⟨p, 0, 0⟩ : Rs).set_ B O = (⟨p + (setB l).length, 0, 0⟩, l) := by
  unfold nodesR at hn
  simp only [Bool.and_eq_true, decide_eq_true_eq] at hn
  obtain ⟨⟨h1, h8⟩, hr, hla⟩ := hn
  unfold setB upsB at h ⊢
  rw [List.append_assoc] at h
  have hi := Rs.int_pre (m := 8) (by omega) h (by omega)
  have hd := drop_more h
  have hro := drop_room h hp
  have hR := Rs.rise_put l none _ [] (.inl ⟨rfl, rfl⟩) hr hx hd (by omega)
  unfold Rs.set_ Rs.many
  rw [hi]
  dsimp only
  rw [if_neg (show ¬ l.length = 0 by omega), hR]
  dsimp only
  rw [List.nil_append, if_pos rfl, if_neg (show ¬ 4294967295 < l.getLastD 0 by omega), if_pos ha, List.length_append, Nat.add_assoc]
theorem setsR_each {L : List (List Int)} : ∀ n, setsR L n = true → ∀ i, i < n → setR L i = true
  | 0, _, i, hi => absurd hi (by omega)
  | n + 1, h, i, hi => by
    unfold setsR at h
    rw [Bool.and_eq_true] at h
    by_cases e : i = n
    · subst e; exact h.2
    · exact setsR_each n h.1 i (by omega)
theorem Rs.sets_put {B rest : List UInt8} : ∀ (l out : List (List Int)) (p : Nat), (∀ i, out.length ≤ i → i < (out ++ l).length → setR (out ++ l) i = true) → (∀ x ∈ l, ∀ y ∈ x, 0 ≤ y ∧ y ≤ 18446744073709551615) → B.drop p = setsB l ++ rest → p ≤ B.length →
    Rs.sets_ B l.length ⟨p, 0, 0⟩ out = (⟨p + (setsB l).length, 0, 0⟩, out ++ l)
  | [], out, p, _, _, _, _ => by simp [Rs.sets_, setsB]
  | x :: l, out, p, hs, hx, h, hp => by
    have h1 := hs out.length (Nat.le_refl _) (by simp)
    unfold setR at h1
    rw [show (out ++ x :: l).getD out.length [] = x by simp [List.getD_eq_getElem?_getD], List.take_left, Bool.and_eq_true] at h1
    have e : setsB (x :: l) = setB x ++ setsB l := by simp [setsB]
    rw [e, List.append_assoc] at h
    have hS := Rs.set_put h1.1 h1.2 (hx x (by simp)) h hp
    have hd := drop_more h
    have hro := drop_room h hp
    have e2 : out ++ x :: l = (out ++ [x]) ++ l := by simp
    have hrec := Rs.sets_put l (out ++ [x]) _ (fun i h1 h2 => by rw [← e2]; rw [← e2] at h2; exact hs i (by rw [List.length_append] at h1; omega) h2) (fun z hz => hx z (by simp [hz])) hd (by omega)
    simp only [List.length_cons, Rs.sets_]
    rw [hS]
    dsimp only
    rw [if_pos rfl, hrec, e, e2, List.length_append, Nat.add_assoc]
theorem Rs.stripe_put {B rest : List UInt8} {s : Stripe} {p : Nat} (hr : stripeR s = true) (h0 : 0 ≤ s.lo) (hx : ∀ x ∈ s.sets, ∀ y ∈ x, 0 ≤ y ∧ y ≤ 18446744073709551615) (h : B.drop p = stripeB s ++ rest) (hp : p ≤ B.length) :
    (⟨p, 0, 0⟩ : Rs).stripe_ B s.lo = (⟨p + (stripeB s).length, 0, 0⟩, s) := by
  obtain ⟨lo, hi, sets⟩ := s
  unfold stripeR at hr
  simp only [Bool.and_eq_true, decide_eq_true_eq] at hr
  obtain ⟨⟨a1, a2, a3, a4⟩, a5⟩ := hr
  dsimp only at *
  unfold stripeB at h ⊢
  dsimp only at h ⊢
  rw [List.append_assoc, List.append_assoc] at h
  have hN := Rs.num_varB (x := (hi - lo - 1).toNat) (by omega) h
  have hd := drop_more h
  have hro := drop_room h hp
  have hI := Rs.int_pre (m := 8) (x := sets.length) (by omega) hd (by omega)
  have hd2 := drop_more hd
  have hro2 := drop_room hd (by omega)
  have hS := Rs.sets_put sets [] _ (fun i _ hi => by rw [List.nil_append] at hi ⊢; exact setsR_each _ a5 i hi) hx hd2 (by omega)
  unfold Rs.stripe_ Rs.span Rs.many
  dsimp only
  rw [if_neg (show ¬ 4611686018427387904 < lo by omega), hN]
  dsimp only
  rw [toNat_cast (by omega), if_neg (show ¬ 4611686018427387904 - min lo 4611686018427387904 ≤ hi - lo - 1 by omega), hI]
  dsimp only
  rw [if_neg (show ¬ sets.length = 0 by omega), hS]
  dsimp only
  rw [if_pos rfl, show lo + (hi - lo - 1) + 1 = hi by omega, List.nil_append, List.length_append, List.length_append, Nat.add_assoc, Nat.add_assoc, Nat.add_assoc]
end Go.Proofs.YtlbffbkbkajciaaGreat
namespace Go.Proofs.YtlbffbkbkajciaaGreat
open Go.RowKit Go.Bs Go.Maps
set_option linter.unusedVariables false
set_option linter.unusedSimpArgs false

theorem Rs.ep_putm {B rest : List UInt8} {p : Nat} {e : Int} (h1 : epR e = true) (h : B.drop p = varB e.toNat ++ rest) : (⟨p, 0, 0⟩ : Rs).ep B = (⟨p + (varB e.toNat).length, 0, 0⟩, e.toNat) := by
  have h2 := h1
  simp only [epR, decide_eq_true_eq] at h2
  unfold Rs.ep
  rw [Rs.num_varB (by omega) h]
  dsimp only
  rw [if_pos rfl, toNat_cast (by omega), if_pos h1]
theorem Rs.tl_put {B rest : List UInt8} {p : Nat} {e : Int} (h0 : 0 ≤ e) (h1 : e ≤ 4611686018427387904) (h : B.drop p = varB e.toNat ++ rest) : (⟨p, 0, 0⟩ : Rs).tl B = (⟨p + (varB e.toNat).length, 0, 0⟩, e.toNat) := by
  unfold Rs.tl
  rw [Rs.num_varB (by omega) h]
  dsimp only
  rw [if_pos rfl, toNat_cast h0, if_pos (show tlR e = true from decide_eq_true h1)]
theorem Rs.most_put {B rest : List UInt8} {p m : Nat} {e : Int} (h0 : 0 ≤ e) (h1 : e ≤ m) (hm : m < 18446744073709551616) (h : B.drop p = varB e.toNat ++ rest) : (⟨p, 0, 0⟩ : Rs).most B m = (⟨p + (varB e.toNat).length, 0, 0⟩, e.toNat) := by
  unfold Rs.most
  rw [Rs.num_varB (by omega) h]
  dsimp only
  rw [if_neg (show ¬ m < e.toNat by omega)]
theorem Rs.seal_put {B rest : List UInt8} {s : Seal} {p : Nat} (hr : sealR s = true) (h0 : 0 ≤ s.node) (h1 : 0 ≤ s.tail) (h : B.drop p = sealB s ++ rest) (hp : p ≤ B.length) :
    (⟨p, 0, 0⟩ : Rs).seal_ B = (⟨p + (sealB s).length, 0, 0⟩, s) := by
  obtain ⟨e, n, t⟩ := s
  unfold sealR at hr
  simp only [Bool.and_eq_true, decide_eq_true_eq] at hr
  obtain ⟨a1, a2, a3⟩ := hr
  dsimp only at *
  have a4 := a1
  simp only [epR, decide_eq_true_eq] at a4
  unfold sealB at h ⊢
  dsimp only at h ⊢
  rw [List.append_assoc, List.append_assoc] at h
  have hd := drop_more h
  have hd2 := drop_more hd
  unfold Rs.seal_
  rw [Rs.ep_putm a1 h]
  dsimp only
  rw [Rs.most_put (m := 4294967295) h0 (by omega) (by omega) hd]
  dsimp only
  rw [Rs.tl_put h1 a3 hd2]
  dsimp only
  rw [if_pos rfl, toNat_cast (by omega), toNat_cast h0, toNat_cast h1, List.length_append, List.length_append, Nat.add_assoc, Nat.add_assoc, Nat.add_assoc]
theorem Rs.stripes_put {B rest : List UInt8} : ∀ (l : List Stripe) (lo : Int) (out : List Stripe) (p : Nat), 0 ≤ lo → chainP lo l = true → (∀ s ∈ l, ∀ x ∈ s.sets, ∀ y ∈ x, 0 ≤ y ∧ y ≤ 18446744073709551615) → B.drop p = stripesB l ++ rest → p ≤ B.length →
    Rs.stripes_ B l.length ⟨p, 0, 0⟩ lo out = (⟨p + (stripesB l).length, 0, 0⟩, 4611686018427387904, out ++ l)
  | [], lo, out, p, _, hc, _, _, _ => by
    simp only [chainP, decide_eq_true_eq] at hc
    subst hc
    simp [Rs.stripes_, stripesB]
  | s :: l, lo, out, p, h0, hc, hx, h, hp => by
    simp only [chainP, Bool.and_eq_true, decide_eq_true_eq] at hc
    obtain ⟨rfl, hr, hc⟩ := hc
    have e : stripesB (s :: l) = stripeB s ++ stripesB l := by simp [stripesB]
    rw [e, List.append_assoc] at h
    have hS := Rs.stripe_put hr h0 (hx s (by simp)) h hp
    have hd := drop_more h
    have hro := drop_room h hp
    have h3 : s.lo < s.hi := by
      unfold stripeR at hr
      simp only [Bool.and_eq_true, decide_eq_true_eq] at hr
      exact hr.1.1
    have hrec := Rs.stripes_put l s.hi (out ++ [s]) _ (by omega) hc (fun z hz => hx z (by simp [hz])) hd (by omega)
    simp only [List.length_cons, Rs.stripes_]
    rw [hS]
    dsimp only
    rw [if_pos rfl, hrec, e, List.length_append, Nat.add_assoc, List.append_assoc]
    rfl
theorem Rs.proj_put {B rest : List UInt8} {s : Projn} {p : Nat} (hr : projR s = true) (hx : ∀ z ∈ s.stripes, ∀ x ∈ z.sets, ∀ y ∈ x, 0 ≤ y ∧ y ≤ 18446744073709551615) (h : B.drop p = projB s ++ rest) (hp : p ≤ B.length) :
    (⟨p, 0, 0⟩ : Rs).proj_ B = (⟨p + (projB s).length, 0, 0⟩, s) := by
  obtain ⟨e, l⟩ := s
  unfold projR at hr
  simp only [Bool.and_eq_true, decide_eq_true_eq] at hr
  obtain ⟨a1, ⟨a2, a3⟩, a4⟩ := hr
  dsimp only at *
  have a5 := a1
  simp only [epR, decide_eq_true_eq] at a5
  unfold projB at h ⊢
  dsimp only at h ⊢
  rw [List.append_assoc, List.append_assoc] at h
  have hd := drop_more h
  have hro := drop_room h hp
  have hI := Rs.int_pre (m := 64) (x := l.length) (by omega) hd (by omega)
  have hd2 := drop_more hd
  have hro2 := drop_room hd (by omega)
  have hS := Rs.stripes_put l 0 [] _ (by omega) a4 hx hd2 (by omega)
  unfold Rs.proj_ Rs.many
  rw [Rs.ep_putm a1 h]
  dsimp only
  rw [hI]
  dsimp only
  rw [if_neg (show ¬ l.length = 0 by omega), hS]
  dsimp only
  rw [if_pos rfl, if_pos rfl, List.nil_append, toNat_cast (by omega), List.length_append, List.length_append, Nat.add_assoc, Nat.add_assoc, Nat.add_assoc]
end Go.Proofs.YtlbffbkbkajciaaGreat
namespace Go.Proofs.YtlbffbkbkajciaaGreat
open Go.RowKit Go.Bs Go.Maps
set_option linter.unusedVariables false
set_option linter.unusedSimpArgs false

/-- A part that a kind has, or has not. -/
def Rs.part {α : Type} (h : Bool) (s : Rs) (f : Rs → Rs × α) (z : α) : Rs × α := if h = true then f s else (s, z)
def Rs.pos_ (B : List UInt8) (s : Rs) : Rs × Int := ((s.po B).1, ((s.po B).2 : Int))
def Rs.cnt (B : List UInt8) (s : Rs) : Rs × Int := ((s.many B 65536).1, ((s.many B 65536).2 : Int))
def Rs.stt (B : List UInt8) (k : Int) (s : Rs) : Rs × Int :=
  let x : Int := ((s.byte B).2.toNat : Int)
  (if 1 ≤ x ∧ x ≤ mostK k then (s.byte B).1 else (s.byte B).1.fail 3 s.p, x)
def Rs.strm (B : List UInt8) (s : Rs) : Rs × List Int := Rs.rise B (s.int B 16).2 (s.int B 16).1 []
/-- A body's parts ahead of its block. -/
structure Ahead where
  pos : Int
  count : Int
  state : Int
  streams : List Int
  links : List Link
def Rs.ahead (B : List UInt8) (k : Int) (s : Rs) : Rs × Ahead :=
  let a := Rs.part (hasK k 1) s (Rs.pos_ B) 0
  let b := Rs.part (hasK k 2) a.1 (Rs.cnt B) 0
  let c := Rs.part (hasK k 4) b.1 (Rs.stt B k) 0
  let d := Rs.part (hasK k 8) c.1 (Rs.strm B) []
  let e := Rs.part (hasK k 16) d.1 (fun t => t.links B a.2) []
  (e.1, ⟨a.2, b.2, c.2, d.2, e.2⟩)
def Rs.body (B : List UInt8) (blk : Rs → Rs × List UInt8 × Bool) (k : Int) (s : Rs) : Rs × Msg × Bool :=
  if 1 ≤ k ∧ k ≤ 14 then
    let e := s.ahead B k
    let f := Rs.part (blockK k e.2.state) e.1 blk ([], true)
    let g := Rs.part (hasK k 64) f.1 (Rs.seal_ B) noSealS
    let h := Rs.part (hasK k 128) g.1 (Rs.proj_ B) noProj
    if h.1.k = 0 then (h.1, ⟨k, 0, 0, e.2.pos, e.2.count, e.2.state, e.2.streams, e.2.links, f.2.1, g.2, h.2⟩, f.2.2) else (h.1, noMsg, false)
  else (s.fail 7 s.p, noMsg, false)

section
variable {α : Type} {B : List UInt8} {s : Rs}
theorem Rs.part_ok {h : Bool} {f : Rs → Rs × α} {z : α} {L : Nat} (hs : s.ok L) (hf : (f s).1.ok L) : (Rs.part h s f z).1.ok L := by
  unfold Rs.part
  split
  · exact hf
  · exact hs
theorem Rs.po_okm (h : s.ok B.length) : (s.po B).1.ok B.length := by
  have h2 := Rs.num_ok (B := B) h
  unfold Rs.po
  split
  · split
    · exact h2
    · exact Rs.fail_ok h2 (by omega)
  · exact h2
theorem Rs.pos_ok (h : s.ok B.length) : (s.pos_ B).1.ok B.length := Rs.po_okm h
theorem Rs.cnt_ok (h : s.ok B.length) : (s.cnt B).1.ok B.length := Rs.many_ok h
theorem Rs.stt_ok {k : Int} (h : s.ok B.length) : (s.stt B k).1.ok B.length := by
  unfold Rs.stt
  dsimp only
  split
  · exact Rs.byte_ok h
  · exact Rs.fail_ok (Rs.byte_ok h) (by omega)
theorem Rs.strm_ok (h : s.ok B.length) : (s.strm B).1.ok B.length := Rs.rise_ok _ _ _ (Rs.int_ok h)
theorem Rs.po_of_badm (h : s.k ≠ 0) : s.po B = (s, 0) := by
  unfold Rs.po
  rw [Rs.num_of_bad h, if_neg h]
theorem Rs.pos_of_bad (h : s.k ≠ 0) : s.pos_ B = (s, 0) := by
  unfold Rs.pos_
  rw [Rs.po_of_badm h]
  rfl
theorem Rs.cnt_of_bad (h : s.k ≠ 0) : s.cnt B = (s, 0) := by
  unfold Rs.cnt
  rw [Rs.many_of_bad h]
  rfl
theorem Rs.strm_of_bad (h : s.k ≠ 0) : s.strm B = (s, []) := by
  unfold Rs.strm
  rw [Rs.int_of_badm h]
  rfl
theorem Rs.stt_of_bad {k : Int} (h : s.k ≠ 0) : s.stt B k = (s, 0) := by
  unfold Rs.stt Rs.byte
  rw [Rs.skip_of_bad h]
  dsimp only
  rw [Rs.fail_of_bad h]
  simp
theorem Rs.cnt_in (h : (s.cnt B).1.k = 0) : 1 ≤ (s.cnt B).2 ∧ (s.cnt B).2 ≤ 65536 := by
  have h1 := Rs.many_pos (B := B) (s := s) (m := 65536) h
  have h2 : (s.many B 65536).2 ≤ 65536 := Rs.many_le (m := 65536)
  unfold Rs.cnt
  dsimp only
  omega
theorem Rs.stt_in {k : Int} (h : (s.stt B k).1.k = 0) : 1 ≤ (s.stt B k).2 ∧ (s.stt B k).2 ≤ mostK k := by
  unfold Rs.stt at h ⊢
  dsimp only at h ⊢
  split at h
  · rename_i h1
    exact h1
  · exact absurd h (Rs.fail_k (by omega))
end
end Go.Proofs.YtlbffbkbkajciaaGreat
namespace Go.Proofs.YtlbffbkbkajciaaGreat
open Go.RowKit Go.Bs Go.Maps
set_option linter.unusedVariables false
set_option linter.unusedSimpArgs false

theorem Rs.part_put {α : Type} {B rest b : List UInt8} {h : Bool} {f : Rs → Rs × α} {z x : α} {p : Nat} (hb : B.drop p = partB h b ++ rest) (yes : h = true → B.drop p = b ++ rest → f ⟨p, 0, 0⟩ = (⟨p + b.length, 0, 0⟩, x)) (no : h = false → x = z) :
    Rs.part h ⟨p, 0, 0⟩ f z = (⟨p + (partB h b).length, 0, 0⟩, x) := by
  cases h with
  | false => rw [no rfl]; rfl
  | true => exact yes rfl hb
theorem Rs.pos_put {B rest : List UInt8} {p : Nat} {x : Int} (h0 : 0 ≤ x) (h1 : poR x = true) (h : B.drop p = varB x.toNat ++ rest) : (⟨p, 0, 0⟩ : Rs).pos_ B = (⟨p + (varB x.toNat).length, 0, 0⟩, x) := by
  have h2 := h1
  simp only [poR, decide_eq_true_eq] at h2
  unfold Rs.pos_ Rs.po
  rw [Rs.num_varB (by omega) h]
  dsimp only
  rw [if_pos rfl, toNat_cast h0, if_pos h1]
  dsimp only
  rw [toNat_cast h0]
theorem Rs.cnt_put {B rest : List UInt8} {p : Nat} {x : Int} (h0 : 1 ≤ x) (h1 : x ≤ 65536) (h : B.drop p = varB x.toNat ++ rest) : (⟨p, 0, 0⟩ : Rs).cnt B = (⟨p + (varB x.toNat).length, 0, 0⟩, x) := by
  unfold Rs.cnt Rs.many
  rw [Rs.int_pre (x := x.toNat) (m := 65536) (by omega) h (by omega)]
  dsimp only
  rw [if_neg (show ¬ x.toNat = 0 by omega), toNat_cast (by omega)]
theorem Rs.strm_put {B rest : List UInt8} {p : Nat} {l : List Int} (hl : l.length ≤ 16) (hr : risesB l = true) (hx : ∀ x ∈ l, 0 ≤ x ∧ x ≤ 18446744073709551615) (h : B.drop p = setB l ++ rest) (hp : p ≤ B.length) : (⟨p, 0, 0⟩ : Rs).strm B = (⟨p + (setB l).length, 0, 0⟩, l) := by
  unfold setB upsB at h ⊢
  rw [List.append_assoc] at h
  have hd := drop_more h
  have hro := drop_room h hp
  unfold Rs.strm
  rw [Rs.int_pre (x := l.length) (m := 16) (by omega) h (by omega)]
  dsimp only
  rw [Rs.rise_put l none _ [] (.inl ⟨rfl, rfl⟩) hr hx hd (by omega), List.nil_append, List.length_append, Nat.add_assoc]
theorem Rs.ahead_ok {B : List UInt8} {k : Int} {s : Rs} (h : s.ok B.length) : (s.ahead B k).1.ok B.length := by
  unfold Rs.ahead
  have h1 : (Rs.part (hasK k 1) s (Rs.pos_ B) 0).1.ok B.length := Rs.part_ok h (Rs.pos_ok h)
  have h2 : (Rs.part (hasK k 2) (Rs.part (hasK k 1) s (Rs.pos_ B) 0).1 (Rs.cnt B) 0).1.ok B.length := Rs.part_ok h1 (Rs.cnt_ok h1)
  have h3 := Rs.part_ok (h := hasK k 4) (z := 0) h2 (Rs.stt_ok (k := k) h2)
  have h4 := Rs.part_ok (h := hasK k 8) (z := []) h3 (Rs.strm_ok h3)
  exact Rs.part_ok h4 (Rs.links_ok h4)
theorem Rs.body_ok {B : List UInt8} {k : Int} {s : Rs} {blk : Rs → Rs × List UInt8 × Bool} (h : s.ok B.length) (hb : ∀ t : Rs, t.ok B.length → (blk t).1.ok B.length) : (s.body B blk k).1.ok B.length := by
  unfold Rs.body
  split
  · have h1 := Rs.ahead_ok (k := k) h
    have h2 := Rs.part_ok (h := blockK k (s.ahead B k).2.state) (z := ([], true)) h1 (hb _ h1)
    have h3 := Rs.part_ok (h := hasK k 64) (z := noSealS) h2 (Rs.seal_ok h2)
    have h4 := Rs.part_ok (h := hasK k 128) (z := noProj) h3 (Rs.proj_ok h3)
    dsimp only
    split
    · exact h4
    · exact h4
  · exact Rs.fail_ok h (by omega)
end Go.Proofs.YtlbffbkbkajciaaGreat
namespace Go.Proofs.YtlbffbkbkajciaaGreat
open Go.RowKit Go.Bs Go.Maps
set_option linter.unusedVariables false
set_option linter.unusedSimpArgs false

theorem Rs.stt_put {B rest : List UInt8} {p : Nat} {k x : Int} (h0 : 1 ≤ x ∧ x ≤ mostK k) (h : B.drop p = [UInt8.ofNat x.toNat] ++ rest) (hp : p ≤ B.length) : (⟨p, 0, 0⟩ : Rs).stt B k = (⟨p + 1, 0, 0⟩, x) := by
  have hm : mostK k ≤ 20 := by unfold mostK; split <;> omega
  have e : (((UInt8.ofNat x.toNat).toNat : Nat) : Int) = x := by
    rw [UInt8.toNat_ofNat']
    omega
  unfold Rs.stt
  rw [Rs.byte_pre (x := UInt8.ofNat x.toNat) h hp]
  dsimp only
  rw [e, if_pos h0]
/-- What stands ahead of the block. -/
def aheadM (m : Msg) : List UInt8 :=
  partB (hasK m.kind 1) (varB m.pos.toNat) ++ (partB (hasK m.kind 2) (varB m.count.toNat) ++ (partB (hasK m.kind 4) [UInt8.ofNat m.state.toNat] ++
  (partB (hasK m.kind 8) (setB m.streams) ++ partB (hasK m.kind 16) (linksB m.pos m.links))))
/-- The bounds of a message's numbers. -/
structure MsgN (m : Msg) : Prop where
  pos : inU m.pos
  streams : ∀ x ∈ m.streams, 0 ≤ x ∧ x ≤ 18446744073709551615
  links : ∀ x ∈ m.links, (0 ≤ x.stream ∧ x.stream ≤ 18446744073709551615) ∧ ∀ y ∈ x.backs, 0 ≤ y
  node : 0 ≤ m.sea.node
  tail : 0 ≤ m.sea.tail
  proj : ∀ z ∈ m.proj.stripes, ∀ x ∈ z.sets, ∀ y ∈ x, 0 ≤ y ∧ y ≤ 18446744073709551615
theorem Rs.ahead_put {B rest : List UInt8} {m : Msg} {p : Nat} (hN : MsgN m)
    (r1 : withinR (hasK m.kind 1) (poR m.pos) (decide (m.pos = 0)) = true) (r2 : withinR (hasK m.kind 2) (decide (1 ≤ m.count ∧ m.count ≤ 65536)) (decide (m.count = 0)) = true)
    (r3 : withinR (hasK m.kind 4) (decide (1 ≤ m.state ∧ m.state ≤ mostK m.kind)) (decide (m.state = 0)) = true) (r4 : withinR (hasK m.kind 8) (decide (m.streams.length ≤ 16) && risesB m.streams) (decide (m.streams.length = 0)) = true)
    (r5 : withinR (hasK m.kind 16) (linksR m.pos m.links) (decide (m.links.length = 0)) = true) (h : B.drop p = aheadM m ++ rest) (hp : p ≤ B.length) :
    (⟨p, 0, 0⟩ : Rs).ahead B m.kind = (⟨p + (aheadM m).length, 0, 0⟩, ⟨m.pos, m.count, m.state, m.streams, m.links⟩) := by
  obtain ⟨n1, n2, n3, _, _, _⟩ := hN
  unfold aheadM at h ⊢
  simp only [List.append_assoc] at h
  have hd1 := drop_more h
  have o1 := drop_room h hp
  have hd2 := drop_more hd1
  have o2 := drop_room hd1 (by omega)
  have hd3 := drop_more hd2
  have o3 := drop_room hd2 (by omega)
  have hd4 := drop_more hd3
  have o4 := drop_room hd3 (by omega)
  have P1 := Rs.part_put (h := hasK m.kind 1) (f := Rs.pos_ B) (z := 0) (x := m.pos) h (fun e hb => Rs.pos_put n1.1 (by rw [e] at r1; exact r1) hb) (fun e => by rw [e] at r1; exact of_decide_eq_true r1)
  have P2 := Rs.part_put (h := hasK m.kind 2) (f := Rs.cnt B) (z := 0) (x := m.count) hd1 (fun e hb => by rw [e] at r2; have := of_decide_eq_true r2; exact Rs.cnt_put this.1 this.2 hb) (fun e => by rw [e] at r2; exact of_decide_eq_true r2)
  have P3 := Rs.part_put (h := hasK m.kind 4) (f := Rs.stt B m.kind) (z := 0) (x := m.state) hd2 (fun e hb => by rw [e] at r3; exact Rs.stt_put (of_decide_eq_true r3) hb (by omega)) (fun e => by rw [e] at r3; exact of_decide_eq_true r3)
  have P4 := Rs.part_put (h := hasK m.kind 8) (f := Rs.strm B) (z := []) (x := m.streams) hd3 (fun e hb => by rw [e] at r4; have := (Bool.and_eq_true _ _).mp r4; exact Rs.strm_put (of_decide_eq_true this.1) this.2 n2 hb (by omega)) (fun e => by rw [e] at r4; exact List.length_eq_zero_iff.1 (of_decide_eq_true r4))
  have P5 := Rs.part_put (h := hasK m.kind 16) (f := fun t => t.links B m.pos) (z := []) (x := m.links) hd4 (fun e hb => by rw [e] at r5; exact Rs.links_put n1.2 r5 n3 hb (by omega)) (fun e => by rw [e] at r5; exact List.length_eq_zero_iff.1 (of_decide_eq_true r5))
  unfold Rs.ahead
  rw [P1]
  dsimp only
  rw [P2]
  dsimp only
  rw [P3]
  dsimp only
  rw [P4]
  dsimp only
  rw [P5]
  simp only [List.length_append, Nat.add_assoc]
end Go.Proofs.YtlbffbkbkajciaaGreat
namespace Go.Proofs.YtlbffbkbkajciaaGreat
open Go.RowKit Go.Bs Go.Maps
set_option linter.unusedVariables false
set_option linter.unusedSimpArgs false

theorem Rs.body_put {B rest : List UInt8} {m : Msg} {p : Nat} {blk : Rs → Rs × List UInt8 × Bool} (hN : MsgN m) (hr : msgR m = true) (he : m.epoch = 0) (hs : m.seq = 0) (h : B.drop p = msgB m ++ rest) (hp : p ≤ B.length)
    (hblk : ∀ q rest', q ≤ B.length → B.drop q = blockB m.data ++ rest' → blk ⟨q, 0, 0⟩ = (⟨q + (blockB m.data).length, 0, 0⟩, m.data, true)) :
    Rs.body B blk m.kind ⟨p, 0, 0⟩ = (⟨p + (msgB m).length, 0, 0⟩, m, true) := by
  unfold msgR at hr
  simp only [Bool.and_eq_true] at hr
  obtain ⟨rk, r1, r2, r3, r4, r5, r6, r7, r8⟩ := hr
  have rk := of_decide_eq_true rk
  have e : msgB m = aheadM m ++ (partB (blockK m.kind m.state) (blockB m.data) ++ (partB (hasK m.kind 64) (sealB m.sea) ++ partB (hasK m.kind 128) (projB m.proj))) := by simp [msgB, aheadM]
  rw [e] at h ⊢
  simp only [List.append_assoc] at h
  have hd1 := drop_more h
  have o1 := drop_room h hp
  have hd2 := drop_more hd1
  have o2 := drop_room hd1 (by omega)
  have hd3 := drop_more hd2
  have o3 := drop_room hd2 (by omega)
  have hA := Rs.ahead_put hN r1 r2 r3 (by simpa using r4) r5 h hp
  have P1 := Rs.part_put (h := blockK m.kind m.state) (f := blk) (z := ([], true)) (x := (m.data, true)) hd1 (fun _ hb => hblk _ _ (by omega) hb) (fun e => by
    rw [e] at r8
    have : m.data.length = 0 := by simpa using r8
    rw [List.length_eq_zero_iff.1 this])
  have P2 := Rs.part_put (h := hasK m.kind 64) (f := Rs.seal_ B) (z := noSealS) (x := m.sea) hd2 (fun e hb => by rw [e] at r6; exact Rs.seal_put r6 hN.node hN.tail hb (by omega)) (fun e => by rw [e] at r6; exact of_decide_eq_true r6)
  have P3 := Rs.part_put (h := hasK m.kind 128) (f := Rs.proj_ B) (z := noProj) (x := m.proj) hd3 (fun e hb => by rw [e] at r7; exact Rs.proj_put r7 hN.proj hb (by omega)) (fun e => by
    rw [e] at r7
    have h7 := (Bool.and_eq_true _ _).mp r7
    have h8 := of_decide_eq_true h7.1
    have h9 := List.length_eq_zero_iff.1 (of_decide_eq_true h7.2)
    cases hq : m.proj with
    | mk a b => rw [hq] at h8 h9; dsimp only at h8 h9; rw [h8, h9]; rfl)
  unfold Rs.body
  rw [if_pos rk, hA]
  dsimp only
  rw [P1]
  dsimp only
  rw [P2]
  dsimp only
  rw [P3]
  dsimp only
  rw [if_pos rfl]
  simp only [List.length_append, Nat.add_assoc]
  obtain ⟨a, b, c, d, e, f, g, h, i, j, k⟩ := m
  dsimp only at he hs
  subst he hs
  rfl
end Go.Proofs.YtlbffbkbkajciaaGreat
namespace Go.Proofs.YtlbffbkbkajciaaGreat
open Go.RowKit Go.Bs Go.Maps
set_option linter.unusedVariables false
set_option linter.unusedSimpArgs false

theorem Rs.rise_canon {B : List UInt8} : ∀ (n : Nat) (s : Rs) (prev : Option Int) (out : List Int), s.ok B.length → (prev = none ∧ out = [] ∨ ∃ q, prev = some q ∧ 0 ≤ q ∧ out ≠ [] ∧ out.getLastD 0 = q) → (Rs.rise B n s out).1.k = 0 →
    ∃ t, (Rs.rise B n s out).2 = out ++ t ∧ t.length = n ∧ (∀ x ∈ t, 0 ≤ x ∧ x ≤ 18446744073709551615) ∧ B.drop s.p = numsB (upsN prev t) ++ B.drop (Rs.rise B n s out).1.p
  | 0, s, prev, out, _, _, _ => ⟨[], by simp [Rs.rise], rfl, by simp, by simp [Rs.rise, upsN, numsB]⟩
  | n + 1, s, prev, out, hs, hp, h => by
    unfold Rs.rise at h ⊢
    by_cases h1 : (s.num B).1.k = 0
    · rw [if_pos h1] at h ⊢
      have hc := (Rs.num_canon hs h1).1
      have hsm := Rs.num_small (B := B) (s := s)
      have hok := Rs.num_ok (B := B) hs
      split at h
      · exact absurd h (Rs.fail_k (by omega))
      · rename_i h2
        rw [if_neg h2]
        rcases hp with ⟨rfl, rfl⟩ | ⟨q, rfl, hq0, hne, hq⟩
        · rw [if_pos rfl] at h ⊢
          obtain ⟨t, t1, t2, t3, t4⟩ := Rs.rise_canon n _ (some ((s.num B).2 : Int)) ([] ++ [((s.num B).2 : Int)]) hok (.inr ⟨_, rfl, by omega, by simp, by simp⟩) h
          refine ⟨((s.num B).2 : Int) :: t, by rw [t1]; simp, by rw [List.length_cons, t2], fun x hx => ?_, ?_⟩
          · rw [List.mem_cons] at hx
            rcases hx with rfl | hx
            · omega
            · exact t3 x hx
          · rw [hc, t4]
            simp only [upsN]
            rw [numsB_cons, Int.toNat_natCast, List.append_assoc]
        · rw [if_neg hne] at h ⊢
          rw [hq] at h h2 ⊢
          have h3 : ((s.num B).2 : Int) < 18446744073709551615 - q := by
            have : ¬ (18446744073709551615 - q ≤ ((s.num B).2 : Int)) := fun hh => h2 ⟨hne, hh⟩
            omega
          obtain ⟨t, t1, t2, t3, t4⟩ := Rs.rise_canon n _ (some (((s.num B).2 : Int) + (q + 1))) (out ++ [((s.num B).2 : Int) + (q + 1)]) hok (.inr ⟨_, rfl, by omega, by simp, by simp⟩) h
          refine ⟨(((s.num B).2 : Int) + (q + 1)) :: t, by rw [t1]; simp, by rw [List.length_cons, t2], fun x hx => ?_, ?_⟩
          · rw [List.mem_cons] at hx
            rcases hx with rfl | hx
            · omega
            · exact t3 x hx
          · rw [hc, t4]
            simp only [upsN]
            rw [numsB_cons, show ((s.num B).2 : Int) + (q + 1) - q - 1 = ((s.num B).2 : Int) by omega, Int.toNat_natCast, List.append_assoc]
    · rw [if_neg h1] at h
      exact absurd h h1
end Go.Proofs.YtlbffbkbkajciaaGreat
namespace Go.Proofs.YtlbffbkbkajciaaGreat
open Go.RowKit Go.Bs Go.Maps
set_option linter.unusedVariables false
set_option linter.unusedSimpArgs false

theorem Rs.many_canon {B : List UInt8} {s : Rs} {m : Int} (hs : s.ok B.length) (h : (s.many B m).1.k = 0) : B.drop s.p = varB (s.many B m).2 ++ B.drop (s.many B m).1.p := by
  unfold Rs.many at h ⊢
  dsimp only at h ⊢
  split at h
  · exact absurd h (Rs.fail_k (by omega))
  · rename_i h1
    rw [if_neg h1]
    exact (Rs.int_canon hs h).1
theorem Rs.set_canon {B : List UInt8} {s : Rs} {O : List (List Int)} (hs : s.ok B.length) (h : (s.set_ B O).1.k = 0) : (∀ x ∈ (s.set_ B O).2, 0 ≤ x ∧ x ≤ 18446744073709551615) ∧ B.drop s.p = setB (s.set_ B O).2 ++ B.drop (s.set_ B O).1.p := by
  unfold Rs.set_ at h ⊢
  dsimp only at h ⊢
  have hm := Rs.many_canon (B := B) (s := s) (m := 8) hs
  have hb := fun hk => Rs.rise_of_bad (B := B) (s := (s.many B 8).1) (out := []) hk (s.many B 8).2
  have hr := Rs.rise_canon (B := B) (s.many B 8).2 (s.many B 8).1 none [] (Rs.many_ok hs) (.inl ⟨rfl, rfl⟩)
  generalize Rs.rise B (s.many B 8).2 (s.many B 8).1 [] = f at *
  split at h
  · rename_i h1
    rw [if_pos h1]
    have hk1 : (s.many B 8).1.k = 0 := Decidable.byContradiction fun hh => hb hh h1
    obtain ⟨t, t1, t2, t3, t4⟩ := hr h1
    rw [List.nil_append] at t1
    split at h
    · exact absurd h (Rs.fail_k (by omega))
    · rename_i h2
      rw [if_neg h2]
      split at h
      · rename_i h3
        rw [if_pos h3]
        rw [t1]
        refine ⟨t3, ?_⟩
        rw [hm hk1, t4]
        unfold setB upsB
        rw [t2, List.append_assoc]
      · exact absurd h (Rs.fail_k (by omega))
  · rename_i h1
    exact absurd h h1
theorem Rs.sets_canon {B : List UInt8} : ∀ (n : Nat) (s : Rs) (out : List (List Int)), s.ok B.length → (Rs.sets_ B n s out).1.k = 0 → ∃ t, (Rs.sets_ B n s out).2 = out ++ t ∧ (∀ x ∈ t, ∀ y ∈ x, 0 ≤ y ∧ y ≤ 18446744073709551615) ∧ B.drop s.p = setsB t ++ B.drop (Rs.sets_ B n s out).1.p
  | 0, s, out, _, _ => ⟨[], by simp [Rs.sets_], by simp, by simp [Rs.sets_, setsB]⟩
  | n + 1, s, out, hs, h => by
    unfold Rs.sets_ at h ⊢
    split at h
    · rename_i h1
      rw [if_pos h1]
      obtain ⟨c1, c2⟩ := Rs.set_canon hs h1
      obtain ⟨t, t1, t2, t3⟩ := Rs.sets_canon n _ _ (Rs.set_ok hs) h
      refine ⟨(s.set_ B out).2 :: t, by rw [t1]; simp, fun x hx => ?_, ?_⟩
      · rw [List.mem_cons] at hx
        rcases hx with rfl | hx
        · exact c1
        · exact t2 x hx
      · rw [c2, t3]
        simp [setsB]
    · rename_i h1
      exact absurd h h1
end Go.Proofs.YtlbffbkbkajciaaGreat
namespace Go.Proofs.YtlbffbkbkajciaaGreat
open Go.RowKit Go.Bs Go.Maps
set_option linter.unusedVariables false
set_option linter.unusedSimpArgs false

theorem Rs.span_canon {B : List UInt8} {s : Rs} {lo : Int} (hs : s.ok B.length) (h : (s.span B lo).1.k = 0) : B.drop s.p = varB (s.span B lo).2 ++ B.drop (s.span B lo).1.p := by
  unfold Rs.span at h ⊢
  dsimp only at h ⊢
  by_cases hlo : 4611686018427387904 < lo
  · rw [if_pos hlo] at h
    have hb : (s.fail 3 s.p).k ≠ 0 := Rs.fail_k (by omega)
    rw [Rs.num_of_bad hb] at h
    dsimp only at h
    rw [Rs.fail_of_bad hb] at h
    split at h <;> exact absurd h hb
  · rw [if_neg hlo] at h ⊢
    split at h
    · exact absurd h (Rs.fail_k (by omega))
    · rename_i h2
      rw [if_neg h2]
      exact (Rs.num_canon hs h).1
theorem Rs.stripe_canon {B : List UInt8} {s : Rs} {lo : Int} (hs : s.ok B.length) (h : (s.stripe_ B lo).1.k = 0) : (∀ x ∈ (s.stripe_ B lo).2.sets, ∀ y ∈ x, 0 ≤ y ∧ y ≤ 18446744073709551615) ∧ B.drop s.p = stripeB (s.stripe_ B lo).2 ++ B.drop (s.stripe_ B lo).1.p := by
  unfold Rs.stripe_ at h ⊢
  dsimp only at h ⊢
  have h0 := Rs.sets_in (B := B) ((s.span B lo).1.many B 8).2 ((s.span B lo).1.many B 8).1 [] rfl
  have h1 := Rs.sets_canon (B := B) ((s.span B lo).1.many B 8).2 ((s.span B lo).1.many B 8).1 [] (Rs.many_ok (Rs.span_ok hs))
  have h2 := Rs.sets_k (B := B) (s := ((s.span B lo).1.many B 8).1) ((s.span B lo).1.many B 8).2 (out := [])
  have h3 := Rs.many_k (B := B) (s := (s.span B lo).1) (m := 8)
  have h4 := Rs.many_canon (B := B) (s := (s.span B lo).1) (m := 8) (Rs.span_ok hs)
  have h5 := Rs.span_canon (B := B) (s := s) (lo := lo) hs
  generalize Rs.sets_ B ((s.span B lo).1.many B 8).2 ((s.span B lo).1.many B 8).1 [] = u at *
  split at h
  · rename_i hk
    rw [if_pos hk]
    obtain ⟨_, a2⟩ := h0 hk
    obtain ⟨t, t1, t2, t3⟩ := h1 hk
    have hk2 := h2 hk
    rw [List.nil_append] at t1
    simp only [List.length_nil, Nat.add_zero] at a2
    dsimp only
    rw [t1] at a2 ⊢
    refine ⟨t2, ?_⟩
    rw [h5 (h3 hk2), h4 hk2, t3]
    unfold stripeB
    dsimp only
    rw [a2, show lo + ((s.span B lo).2 : Int) + 1 - lo - 1 = ((s.span B lo).2 : Int) by omega, Int.toNat_natCast]
    simp only [List.append_assoc]
  · rename_i hk
    exact absurd h hk
end Go.Proofs.YtlbffbkbkajciaaGreat
namespace Go.Proofs.YtlbffbkbkajciaaGreat
open Go.RowKit Go.Bs Go.Maps
set_option linter.unusedVariables false
set_option linter.unusedSimpArgs false

theorem Rs.stripes_canon {B : List UInt8} : ∀ (n : Nat) (s : Rs) (lo : Int) (out : List Stripe), s.ok B.length → (Rs.stripes_ B n s lo out).1.k = 0 → ∃ t, (Rs.stripes_ B n s lo out).2.2 = out ++ t ∧ t.length = n ∧ (∀ z ∈ t, ∀ x ∈ z.sets, ∀ y ∈ x, 0 ≤ y ∧ y ≤ 18446744073709551615) ∧ B.drop s.p = stripesB t ++ B.drop (Rs.stripes_ B n s lo out).1.p
  | 0, s, lo, out, _, _ => ⟨[], by simp [Rs.stripes_], rfl, by simp, by simp [Rs.stripes_, stripesB]⟩
  | n + 1, s, lo, out, hs, h => by
    unfold Rs.stripes_ at h ⊢
    split at h
    · rename_i h1
      rw [if_pos h1]
      obtain ⟨c1, c2⟩ := Rs.stripe_canon hs h1
      obtain ⟨t, t1, t2, t3, t4⟩ := Rs.stripes_canon n _ _ _ (Rs.stripe_ok hs) h
      refine ⟨(s.stripe_ B lo).2 :: t, by rw [t1]; simp, by rw [List.length_cons, t2], fun x hx => ?_, ?_⟩
      · rw [List.mem_cons] at hx
        rcases hx with rfl | hx
        · exact c1
        · exact t3 x hx
      · rw [c2, t4]
        simp [stripesB]
    · rename_i h1
      exact absurd h h1
theorem Rs.proj_canon {B : List UInt8} {s : Rs} (hs : s.ok B.length) (h : (s.proj_ B).1.k = 0) : (∀ z ∈ (s.proj_ B).2.stripes, ∀ x ∈ z.sets, ∀ y ∈ x, 0 ≤ y ∧ y ≤ 18446744073709551615) ∧ B.drop s.p = projB (s.proj_ B).2 ++ B.drop (s.proj_ B).1.p := by
  unfold Rs.proj_ at h ⊢
  dsimp only at h ⊢
  have h1 := Rs.stripes_canon (B := B) ((s.ep B).1.many B 64).2 ((s.ep B).1.many B 64).1 0 [] (Rs.many_ok (Rs.ep_okm hs))
  have h2 := Rs.stripes_k (B := B) (s := ((s.ep B).1.many B 64).1) ((s.ep B).1.many B 64).2 (lo := 0) (out := [])
  have h3 := Rs.many_k (B := B) (s := (s.ep B).1) (m := 64)
  have h4 := Rs.many_canon (B := B) (s := (s.ep B).1) (m := 64) (Rs.ep_okm hs)
  have h6 := Rs.ep_canon (B := B) (s := s) hs
  generalize Rs.stripes_ B ((s.ep B).1.many B 64).2 ((s.ep B).1.many B 64).1 0 [] = u at *
  by_cases hm : u.2.1 = 4611686018427387904
  · rw [if_pos hm] at h ⊢
    split at h
    · rename_i hk
      rw [if_pos hk]
      obtain ⟨t, t1, t2, t3, t4⟩ := h1 hk
      have hk2 := h2 hk
      rw [List.nil_append] at t1
      dsimp only
      rw [t1]
      refine ⟨t3, ?_⟩
      rw [(h6 (h3 hk2)).2.1, h4 hk2, t4]
      unfold projB
      dsimp only
      rw [t2, Int.toNat_natCast]
      simp only [List.append_assoc]
    · rename_i hk
      exact absurd h hk
  · rw [if_neg hm] at h ⊢
    split at h
    · exact absurd h (Rs.fail_k (by omega))
    · exact absurd h (Rs.fail_k (by omega))
end Go.Proofs.YtlbffbkbkajciaaGreat
namespace Go.Proofs.YtlbffbkbkajciaaGreat
open Go.RowKit Go.Bs Go.Maps
set_option linter.unusedVariables false
set_option linter.unusedSimpArgs false

theorem Rs.tl_canon {B : List UInt8} {s : Rs} (hs : s.ok B.length) (h : (s.tl B).1.k = 0) : B.drop s.p = varB (s.tl B).2 ++ B.drop (s.tl B).1.p := by
  unfold Rs.tl at h ⊢
  split at h
  · rename_i h1
    rw [if_pos h1]
    split at h
    · rename_i h2
      rw [if_pos h2]
      exact (Rs.num_canon hs h1).1
    · exact absurd h (Rs.fail_k (by omega))
  · rename_i h1
    exact absurd h h1
theorem Rs.most_canonm {B : List UInt8} {s : Rs} {m : Nat} (hs : s.ok B.length) (h : (s.most B m).1.k = 0) : B.drop s.p = varB (s.most B m).2 ++ B.drop (s.most B m).1.p ∧ (s.most B m).2 ≤ m := by
  unfold Rs.most at h ⊢
  split at h
  · exact absurd h (Rs.fail_k (by omega))
  · rename_i h1
    rw [if_neg h1]
    exact ⟨(Rs.num_canon hs h).1, by omega⟩
theorem Rs.seal_canon {B : List UInt8} {s : Rs} (hs : s.ok B.length) (h : (s.seal_ B).1.k = 0) : sealR (s.seal_ B).2 = true ∧ 0 ≤ (s.seal_ B).2.node ∧ 0 ≤ (s.seal_ B).2.tail ∧ B.drop s.p = sealB (s.seal_ B).2 ++ B.drop (s.seal_ B).1.p := by
  unfold Rs.seal_ at h ⊢
  dsimp only at h ⊢
  split at h
  · rename_i hk
    rw [if_pos hk]
    have k2 := Rs.tl_k hk
    have k1 := Rs.most_k k2
    have o1 := Rs.ep_okm (B := B) hs
    have o2 := Rs.most_ok (m := 4294967295) o1
    obtain ⟨e1, e2, _⟩ := Rs.ep_canon hs k1
    obtain ⟨m1, m2⟩ := Rs.most_canonm o1 k2
    have t1 := Rs.tl_canon o2 hk
    have t2 := Rs.tl_in hk
    dsimp only
    refine ⟨?_, by omega, by omega, ?_⟩
    · unfold sealR
      dsimp only
      rw [e1, decide_eq_true (by omega), decide_eq_true t2]
      rfl
    · unfold sealB
      dsimp only
      rw [Int.toNat_natCast, Int.toNat_natCast, Int.toNat_natCast, List.append_assoc, List.append_assoc, ← t1, ← m1, ← e2]
  · rename_i hk
    exact absurd h hk
end Go.Proofs.YtlbffbkbkajciaaGreat
namespace Go.Proofs.YtlbffbkbkajciaaGreat
open Go.RowKit Go.Bs Go.Maps
set_option linter.unusedVariables false
set_option linter.unusedSimpArgs false

theorem Rs.part_k {α : Type} {h : Bool} {s : Rs} {f : Rs → Rs × α} {z : α} (hk : (Rs.part h s f z).1.k = 0) (hf : (f s).1.k = 0 → s.k = 0) : s.k = 0 := by
  cases h
  · exact hk
  · exact hf hk
theorem Rs.part_canon {α : Type} {B : List UInt8} {h : Bool} {s : Rs} {f : Rs → Rs × α} {z : α} {Q : α → Prop} {b : α → List UInt8} (hk : (Rs.part h s f z).1.k = 0)
    (yes : (f s).1.k = 0 → Q (f s).2 ∧ B.drop s.p = b (f s).2 ++ B.drop (f s).1.p) :
    (h = true → Q (Rs.part h s f z).2) ∧ (h = false → (Rs.part h s f z).2 = z) ∧ B.drop s.p = partB h (b (Rs.part h s f z).2) ++ B.drop (Rs.part h s f z).1.p := by
  cases h
  · exact ⟨fun e => (by cases e), fun _ => rfl, rfl⟩
  · exact ⟨fun _ => (yes hk).1, fun e => (by cases e), (yes hk).2⟩
theorem Rs.byte_canon {B : List UInt8} {s : Rs} (hs : s.ok B.length) (h : (s.byte B).1.k = 0) : B.drop s.p = [(s.byte B).2] ++ B.drop (s.byte B).1.p ∧ s.k = 0 := by
  by_cases hk : s.k = 0
  · refine ⟨?_, hk⟩
    by_cases hl : (B.length : Int) - s.p < 1
    · have : (s.byte B).1.k = 1 := by
        unfold Rs.byte Rs.skip
        rw [if_pos hk, if_neg (by omega), if_pos hl]
      omega
    · have hle := hs.le
      have e : s.byte B = (⟨s.p + 1, 0, 0⟩, B.getD s.p 0) := by
        unfold Rs.byte Rs.skip
        rw [if_pos hk, if_neg (by omega), if_neg hl]
        rfl
      rw [e]
      dsimp only
      rw [getD_at B s.p 0 (by omega), List.drop_eq_getElem_cons (show s.p < B.length by omega)]
      rfl
  · rw [Rs.byte_of_bad hk] at h
    exact absurd h hk
theorem Rs.pos_canon {B : List UInt8} {s : Rs} (hs : s.ok B.length) (h : (s.pos_ B).1.k = 0) : (poR (s.pos_ B).2 = true ∧ 0 ≤ (s.pos_ B).2) ∧ B.drop s.p = varB (s.pos_ B).2.toNat ++ B.drop (s.pos_ B).1.p := by
  have := Rs.po_canon hs h
  exact ⟨⟨this.1, Int.natCast_nonneg _⟩, this.2.1⟩
theorem Rs.pos_k {B : List UInt8} {s : Rs} (h : (s.pos_ B).1.k = 0) : s.k = 0 :=
  Decidable.byContradiction fun hh => hh (by rw [Rs.pos_of_bad hh] at h; exact h)
theorem Rs.cnt_canon {B : List UInt8} {s : Rs} (hs : s.ok B.length) (h : (s.cnt B).1.k = 0) : (1 ≤ (s.cnt B).2 ∧ (s.cnt B).2 ≤ 65536) ∧ B.drop s.p = varB (s.cnt B).2.toNat ++ B.drop (s.cnt B).1.p :=
  ⟨Rs.cnt_in h, Rs.many_canon hs h⟩
theorem Rs.cnt_k {B : List UInt8} {s : Rs} (h : (s.cnt B).1.k = 0) : s.k = 0 :=
  Decidable.byContradiction fun hh => hh (by rw [Rs.cnt_of_bad hh] at h; exact h)
theorem Rs.stt_k {B : List UInt8} {s : Rs} {k : Int} (h : (s.stt B k).1.k = 0) : s.k = 0 :=
  Decidable.byContradiction fun hh => hh (by rw [Rs.stt_of_bad hh] at h; exact h)
theorem Rs.strm_k {B : List UInt8} {s : Rs} (h : (s.strm B).1.k = 0) : s.k = 0 :=
  Decidable.byContradiction fun hh => hh (by rw [Rs.strm_of_bad hh] at h; exact h)
theorem Rs.stt_canon {B : List UInt8} {s : Rs} {k : Int} (hs : s.ok B.length) (h : (s.stt B k).1.k = 0) : (1 ≤ (s.stt B k).2 ∧ (s.stt B k).2 ≤ mostK k) ∧ B.drop s.p = [UInt8.ofNat (s.stt B k).2.toNat] ++ B.drop (s.stt B k).1.p := by
  refine ⟨Rs.stt_in h, ?_⟩
  unfold Rs.stt at h ⊢
  dsimp only at h ⊢
  split at h
  · rename_i h1
    rw [if_pos h1, Int.toNat_natCast, UInt8.ofNat_toNat]
    exact (Rs.byte_canon hs h).1
  · exact absurd h (Rs.fail_k (by omega))
theorem Rs.strm_canon {B : List UInt8} {s : Rs} (hs : s.ok B.length) (h : (s.strm B).1.k = 0) : (((s.strm B).2.length ≤ 16 ∧ risesB (s.strm B).2 = true) ∧ ∀ x ∈ (s.strm B).2, 0 ≤ x ∧ x ≤ 18446744073709551615) ∧ B.drop s.p = setB (s.strm B).2 ++ B.drop (s.strm B).1.p := by
  have hr := Rs.rise_rises (B := B) (s.int B 16).2 (s.int B 16).1 [] rfl h
  unfold Rs.strm at h ⊢
  have hb := fun hk => Rs.rise_of_bad (B := B) (s := (s.int B 16).1) (out := []) hk (s.int B 16).2
  have hk1 : (s.int B 16).1.k = 0 := Decidable.byContradiction fun hh => hb hh h
  obtain ⟨t, t1, t2, t3, t4⟩ := Rs.rise_canon (B := B) (s.int B 16).2 (s.int B 16).1 none [] (Rs.int_ok hs) (.inl ⟨rfl, rfl⟩) h
  obtain ⟨m1, m2, _⟩ := Rs.int_canon hs hk1
  rw [List.nil_append] at t1
  rw [t1] at hr ⊢
  refine ⟨⟨⟨by omega, hr⟩, t3⟩, ?_⟩
  rw [m1, t4]
  unfold setB upsB
  rw [t2, List.append_assoc]
theorem Rs.links_k {B : List UInt8} {s : Rs} {pos : Int} (hs : s.ok B.length) (hp : pos ≤ 18446744073709551615) (h : (s.links B pos).1.k = 0) : s.k = 0 := (Rs.links_canon hs hp h).2.2.2
theorem Rs.ahead_canon_aux {B : List UInt8} {s : Rs} {k : Int} {A C D : Rs × Int} {E : Rs × List Int} {F : Rs × List Link} (hs : s.ok B.length) (hA : Rs.part (hasK k 1) s (Rs.pos_ B) 0 = A) (hB : Rs.part (hasK k 2) A.1 (Rs.cnt B) 0 = C) (hC : Rs.part (hasK k 4) C.1 (Rs.stt B k) 0 = D)
    (hD : Rs.part (hasK k 8) D.1 (Rs.strm B) [] = E) (hF : Rs.part (hasK k 16) E.1 (fun t => t.links B A.2) [] = F) (h : F.1.k = 0) :
    withinR (hasK k 1) (poR A.2) (decide (A.2 = 0)) = true ∧ withinR (hasK k 2) (decide (1 ≤ C.2 ∧ C.2 ≤ 65536)) (decide (C.2 = 0)) = true ∧
      withinR (hasK k 4) (decide (1 ≤ D.2 ∧ D.2 ≤ mostK k)) (decide (D.2 = 0)) = true ∧ withinR (hasK k 8) (decide (E.2.length ≤ 16) && risesB E.2) (decide (E.2.length = 0)) = true ∧
      withinR (hasK k 16) (linksR A.2 F.2) (decide (F.2.length = 0)) = true ∧ inU A.2 ∧ (∀ x ∈ E.2, 0 ≤ x ∧ x ≤ 18446744073709551615) ∧ (∀ x ∈ F.2, linkN x) ∧ s.k = 0 ∧
      B.drop s.p = (partB (hasK k 1) (varB A.2.toNat) ++ (partB (hasK k 2) (varB C.2.toNat) ++ (partB (hasK k 4) [UInt8.ofNat D.2.toNat] ++
        (partB (hasK k 8) (setB E.2) ++ partB (hasK k 16) (linksB A.2 F.2))))) ++ B.drop F.1.p := by
  have o1 := Rs.part_ok (h := hasK k 1) (z := (0 : Int)) hs (Rs.pos_ok hs)
  rw [hA] at o1
  have o2 := Rs.part_ok (h := hasK k 2) (z := (0 : Int)) o1 (Rs.cnt_ok o1)
  rw [hB] at o2
  have o3 := Rs.part_ok (h := hasK k 4) (z := (0 : Int)) o2 (Rs.stt_ok (k := k) o2)
  rw [hC] at o3
  have o4 := Rs.part_ok (h := hasK k 8) (z := ([] : List Int)) o3 (Rs.strm_ok o3)
  rw [hD] at o4
  have h0 := h
  rw [← hF] at h
  have up : A.2 ≤ 18446744073709551615 := by
    rw [← hA]
    unfold Rs.part
    split
    · rename_i hh
      have hz : (s.pos_ B).1.k = 0 ∨ (s.pos_ B).1.k ≠ 0 := by omega
      rcases hz with hz | hz
      · have := (Rs.pos_canon hs hz).1.1
        simp only [poR, decide_eq_true_eq] at this
        omega
      · exfalso
        have e1 : A = s.pos_ B := by rw [← hA, hh]; rfl
        have k4 := Rs.part_k h fun hf => Decidable.byContradiction fun hn => hn (by
          have hq : (A.2 ≤ 18446744073709551615) ∨ ¬ (A.2 ≤ 18446744073709551615) := Decidable.em _
          rcases hq with hq | hq
          · exact Rs.links_k o4 hq hf
          · exact absurd hf (by
              unfold Rs.links
              rw [Rs.int_of_badm hn]
              unfold Rs.linksF
              exact hn))
        rw [← hD] at k4
        have k3 := Rs.part_k k4 Rs.strm_k
        rw [← hC] at k3
        have k2 := Rs.part_k k3 Rs.stt_k
        rw [← hB] at k2
        have k1 := Rs.part_k k2 Rs.cnt_k
        rw [e1] at k1
        exact hz k1
    · dsimp only; omega
  have k4 := Rs.part_k h (Rs.links_k o4 up)
  have c5 := Rs.part_canon (B := B) (Q := fun l => linksR A.2 l = true ∧ ∀ x ∈ l, linkN x) (b := linksB A.2) h fun hf => ⟨⟨(Rs.links_canon o4 up hf).1, (Rs.links_canon o4 up hf).2.1⟩, (Rs.links_canon o4 up hf).2.2.1⟩
  rw [hF] at c5
  have k4' := k4
  rw [← hD] at k4
  have k3 := Rs.part_k k4 Rs.strm_k
  have c4 := Rs.part_canon (B := B) (Q := fun l => (l.length ≤ 16 ∧ risesB l = true) ∧ ∀ x ∈ l, 0 ≤ x ∧ x ≤ 18446744073709551615) (b := setB) k4 (Rs.strm_canon o3)
  rw [hD] at c4
  rw [← hC] at k3
  have k2 := Rs.part_k k3 Rs.stt_k
  have c3 := Rs.part_canon (B := B) (Q := fun x => 1 ≤ x ∧ x ≤ mostK k) (b := fun x => [UInt8.ofNat x.toNat]) k3 (Rs.stt_canon o2)
  rw [hC] at c3
  rw [← hB] at k2
  have k1 := Rs.part_k k2 Rs.cnt_k
  have c2 := Rs.part_canon (B := B) (Q := fun x => 1 ≤ x ∧ x ≤ 65536) (b := fun x => varB x.toNat) k2 (Rs.cnt_canon o1)
  rw [hB] at c2
  rw [← hA] at k1
  have k0 := Rs.part_k k1 Rs.pos_k
  have c1 := Rs.part_canon (B := B) (Q := fun x => poR x = true ∧ 0 ≤ x) (b := fun x => varB x.toNat) k1 (Rs.pos_canon hs)
  rw [hA] at c1
  (try dsimp only at c1 c2 c3 c4 c5)
  refine ⟨?_, ?_, ?_, ?_, ?_, ?_, ?_, ?_, k0, ?_⟩
  · cases hh : hasK k 1
    · exact decide_eq_true (c1.2.1 hh)
    · exact (c1.1 hh).1
  · cases hh : hasK k 2
    · exact decide_eq_true (c2.2.1 hh)
    · exact decide_eq_true (c2.1 hh)
  · cases hh : hasK k 4
    · exact decide_eq_true (c3.2.1 hh)
    · exact decide_eq_true (c3.1 hh)
  · cases hh : hasK k 8
    · exact decide_eq_true (by rw [c4.2.1 hh]; rfl)
    · show (_ && _) = true
      rw [(c4.1 hh).1.2, decide_eq_true (c4.1 hh).1.1]
      rfl
  · cases hh : hasK k 16
    · exact decide_eq_true (by rw [c5.2.1 hh]; rfl)
    · exact (c5.1 hh).1
  · refine ⟨?_, up⟩
    cases hh : hasK k 1
    · rw [c1.2.1 hh]; omega
    · exact (c1.1 hh).2
  · cases hh : hasK k 8
    · rw [c4.2.1 hh]; simp
    · exact (c4.1 hh).2
  · cases hh : hasK k 16
    · rw [c5.2.1 hh]; simp
    · exact (c5.1 hh).2
  · rw [c1.2.2, c2.2.2, c3.2.2, c4.2.2, c5.2.2]
    simp only [List.append_assoc]
/-- The parts ahead of the block, read. -/
theorem Rs.ahead_canon {B : List UInt8} {s : Rs} {k : Int} (hs : s.ok B.length) (h : (s.ahead B k).1.k = 0) :
    ∃ a : Ahead, (s.ahead B k).2 = a ∧ withinR (hasK k 1) (poR a.pos) (decide (a.pos = 0)) = true ∧ withinR (hasK k 2) (decide (1 ≤ a.count ∧ a.count ≤ 65536)) (decide (a.count = 0)) = true ∧
      withinR (hasK k 4) (decide (1 ≤ a.state ∧ a.state ≤ mostK k)) (decide (a.state = 0)) = true ∧ withinR (hasK k 8) (decide (a.streams.length ≤ 16) && risesB a.streams) (decide (a.streams.length = 0)) = true ∧
      withinR (hasK k 16) (linksR a.pos a.links) (decide (a.links.length = 0)) = true ∧ inU a.pos ∧ (∀ x ∈ a.streams, 0 ≤ x ∧ x ≤ 18446744073709551615) ∧ (∀ x ∈ a.links, linkN x) ∧ s.k = 0 ∧
      B.drop s.p = (partB (hasK k 1) (varB a.pos.toNat) ++ (partB (hasK k 2) (varB a.count.toNat) ++ (partB (hasK k 4) [UInt8.ofNat a.state.toNat] ++
        (partB (hasK k 8) (setB a.streams) ++ partB (hasK k 16) (linksB a.pos a.links))))) ++ B.drop (s.ahead B k).1.p :=
  ⟨_, rfl, Rs.ahead_canon_aux hs rfl rfl rfl rfl rfl h⟩
end Go.Proofs.YtlbffbkbkajciaaGreat
namespace Go.Proofs.YtlbffbkbkajciaaGreat
open Go.RowKit Go.Bs Go.Maps
set_option linter.unusedVariables false
set_option linter.unusedSimpArgs false

theorem post_world {P : Program} {f : Func} {Q : Ending → World → Prop} {e : Exit} {a : Act} {w : World} (F : World → Prop) (hF : F w) (h : ∀ W, F W → bodyPost P f Q e a W) : bodyPost P f Q e a w := h w hF
theorem size_set (w : World) (p : Addr) (u : Value) : (w.setCell p u).heap.size = w.heap.size := by simp [World.setCell]

end Go.Proofs.YtlbffbkbkajciaaGreat
