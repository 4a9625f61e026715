/- Needed by bodyWrites_walk, part 8: texts put together by shake.py; no condition. -/
import Derived.Test.YtlbffbkbkajciaaGreatZa7
import Derived.Test.YtlbffbkbkajciaaGreatZa5
import Derived.Test.YtlbffbkbkajciaaGreatZa1
namespace Go.Proofs.YtlbffbkbkajciaaGreat
open Go.RowKit Go.Bs Go.Maps
set_option linter.unusedVariables false
set_option linter.unusedSimpArgs false

theorem p_blk {w : World} {g : Nat} {t : TypeId} {v0 v1 : Value} (h : Blk w g t #[v0, v1]) : w.cell? ⟨g, 0, none⟩ = some v0 ∧ w.cell? ⟨g, 1, none⟩ = some v1 ∧ w.frozen? ⟨g, 0, none⟩ = false ∧ w.frozen? ⟨g, 1, none⟩ = false ∧ g < w.heap.size :=
  ⟨h.cell 0, h.cell 1, h.free 0, h.free 1, h.lt⟩
theorem setsB_take_le (l : List (List Int)) (k : Nat) : (setsB (l.take k)).length ≤ (setsB l).length := flatm_take_le setB l k
theorem stripesB_take_le (l : List Stripe) (k : Nat) : (stripesB (l.take k)).length ≤ (stripesB l).length := flatm_take_le stripeB l k

set_option maxRecDepth 100000 in
set_option maxHeartbeats 6400000 in
theorem stripe_put (w : World) {g base most : Nat} {J : List UInt8} {a : Option Addr} {c : Nat} (h : PenAt w g base most J a c) (s : Stripe) (al : Option Addr) (nl cl : Nat) (h0 : inU s.lo) (h1 : inU s.hi)
    (hl : rSets.r (fun q => q < w.heap.size ∧ ¬ PenF g a q) w [.slice al nl cl] s.sets) (hR : stripeR s = true) (hfit : J.length + (stripeB s).length ≤ most) (hln2 : J.length + (stripeB s).length ≤ 100000000000000) :
    Calls Tryz.prog 155 #[.pointer (some ⟨g, 0, none⟩), .agg #[.int .u64 s.lo, .int .u64 s.hi, .slice al nl cl]] w fun r w' => r = .returned (.tuple #[]) ∧ PenStep w g base most (J ++ stripeB s) a w' := by
  obtain ⟨rfl, hm, _, _⟩ := sl_len hl
  have HRT := hid (fun (W : World) (hW : Below w.heap.size w W) => stripe_right s.lo s.hi s.sets al _ cl W (lift (pen_low hl) hW))
  rw [show (⟨s.lo, s.hi, s.sets⟩ : Stripe) = s from rfl, hR] at HRT
  have hR' := hR
  simp only [stripeR, Bool.and_eq_true, decide_eq_true_eq] at hR'
  obtain ⟨⟨g1, g2, g3, g4⟩, g5⟩ := hR'
  have hdl : (stripeB s).length = (varB (s.hi - s.lo - 1).toNat).length + (varB s.sets.length).length + (setsB s.sets).length := by simp only [stripeB, List.length_append]
  rw [hdl] at hfit hln2
  have hbb : stripeB s = varB (s.hi - s.lo - 1).toNat ++ varB s.sets.length ++ setsB s.sets := rfl
  rw [hbb]
  have HP := hid h
  have HL := hid hl
  have HNO := hid (fun (k : Nat) (hk : k < s.sets.length) => (by
    have := set_nodes g5 k hk
    simp only [nodesR, Bool.and_eq_true, decide_eq_true_eq] at this
    exact ⟨this.1.2, this.2.1⟩ : s.sets[k].length ≤ 8 ∧ risesB s.sets[k] = true))
  have HNS := hid (fun (k : Nat) (hk : k < s.sets.length) => setsB_step s.sets k hk)
  have HMO := hid (fun k => setsB_take_le s.sets k)
  obtain ⟨lo, hi, l⟩ := s
  dsimp only at *
  have hz0 := h0.1
  have v1 : 0 ≤ hi - lo := by omega
  have v2 : 0 ≤ hi - lo - 1 := by omega
  have v3 : hi - lo - 1 ≤ 18446744073709551615 := by omega
  have v4 : hi - lo ≤ 18446744073709551615 := by omega
  clear h hl hR hdl hbb g5
  go_enter Tryz.func155, Tryz.ntmps155
  go_wp2_with fail
  refine (HRT.out _ (by (repeat (first | with_reducible exact Below.refl _ _ | with_reducible assumption | (with_reducible refine below_alloc ?_ _) | (with_reducible refine Below.setCell ?_ (by first | omega | (simp; done) | (simp; omega)) _) | (with_reducible refine Below.drew ?_) | (with_reducible refine below_drewN ?_ _) | (refine below_then (by with_reducible assumption) ?_))))).mono ?_
  rintro r w1 ⟨rfl, hb1⟩
  have B1 := Blk.later (Blk.newAt w 155 #[.int .u64 lo, .int .u64 hi, .slice al l.length cl] rfl) hb1
  obtain ⟨x0, x1, x2, _, _, _, l1⟩ := b_blk B1
  have hbw1 : Below w.heap.size w w1 := by (repeat (first | with_reducible exact Below.refl _ _ | with_reducible assumption | (with_reducible refine below_alloc ?_ _) | (with_reducible refine Below.setCell ?_ (by first | omega | (simp; done) | (simp; omega)) _) | (with_reducible refine Below.drew ?_) | (with_reducible refine below_drewN ?_ _) | (refine below_then (by with_reducible assumption) ?_)))
  have HLT := hid (fun q (hq : PenF g a q) => (HP.out.own_lt hq).2)
  have HB1 := hid B1
  have HL1 := hid (pen_later hbw1 HL.out)
  have hs1 := hbw1.size
  have HP1 := hid (HP.out.later hbw1)
  have HV1 := hid (by have := varint_put w1 HP1.out (hi - lo - 1).toNat (by omega) (by omega) (by omega); rw [toNat_cast v2] at this; exact this : Calls Tryz.prog 66 #[.pointer (some ⟨g, 0, none⟩), .int .u64 (hi - lo - 1)] w1 fun r w' => r = .returned (.tuple #[]) ∧ PenStep w1 g base most (J ++ varB (hi - lo - 1).toNat) a w')
  clear B1 hb1
  go_wp2_with fail
  refine HV1.out.mono ?_
  rintro r w2 ⟨rfl, a2, c2, hp2, ht2, ha2⟩
  have B2 := HB1.out.tch ht2 (fun hf => by have := HLT.out _ hf; omega)
  obtain ⟨y0, y1, y2, _, _, _, l2⟩ := b_blk B2
  have HT2 := hid (And.intro ht2 ha2)
  have HL2 := hid (pen_data ht2 ha2 HL1.out)
  have HB2 := hid B2
  have HNF2 := hid (fun (hf : PenF g a2 w.heap.size) => penF_old ha2 HB1.out.lt (fun hf => by have := HLT.out _ hf; omega) hf)
  have hs2 := ht2.size
  have HV2 := hid (varint_put w2 hp2 l.length (by omega) (by simp only [List.length_append]; omega) (by simp only [List.length_append]; omega))
  clear B2 hp2 ht2 ha2 x0 x1 x2
  go_wp2_with fail
  refine HV2.out.mono ?_
  rintro r w3 ⟨rfl, a3, c3, hp3, ht3, ha3⟩
  have B3 := HB2.out.tch ht3 (fun hf => HNF2.out hf)
  obtain ⟨x0, x1, x2, _, _, _, l3⟩ := b_blk B3
  have HT3 := hid (And.intro ht3 ha3)
  have HL3 := hid (pen_data ht3 ha3 HL2.out)
  have HP3 := hid hp3
  clear B3 hp3 ht3 ha3 y0 y1 y2
  go_wp2_with fail
  clear x0 x1 x2
  go_loopw [28] (fun i wr => ∃ k : Nat, k ≤ l.length ∧ i = .int .i64 k ∧ Hid (PenStep w3 g base most (J ++ varB (hi - lo - 1).toNat ++ varB l.length ++ setsB (l.take k)) a3 wr)) (fun i _ => l.length - (intOf i).toNat)
  case atStart => exact ⟨0, Nat.zero_le _, rfl, hid (by simpa [setsB] using PenStep.refl HP3.out)⟩
  case round =>
    obtain ⟨k, hk, rfl, hp⟩ := hrel
    obtain ⟨a4, c4, hp4, ht4, ha4⟩ := hp.out
    rcases Nat.lt_or_ge k l.length with hlt | hge
    · have hd4 := pen_data ht4 ha4 HL3.out
      obtain ⟨b, o, hA, hbb, ak, ck, u0, xl⟩ := set_at hd4 hlt
      subst hA
      have hst := HNS.out k hlt
      have hfk := HMO.out (k + 1)
      rw [hst, List.length_append] at hfk
      have hno := HNO.out k hlt
      have hsb : setB l[k] = varB l[k].length ++ upsB l[k] := rfl
      have hsl : (setB l[k]).length = (varB l[k].length).length + (upsB l[k]).length := by rw [hsb, List.length_append]
      have HST := hid hst
      have HSB := hid hsb
      have HXL := hid xl
      have i1 : (k : Int) < (l.length : Int) := by omega
      have d1 : decide ((k : Int) < (l.length : Int)) = true := decide_eq_true i1
      have HT4 := hid (And.intro ht4 ha4)
      generalize l[k] = X at *
      have hx8 := hno.1
      have HRI := hid hno.2
      have HV4 := hid (varint_put wr hp4 X.length (by omega) (by simp only [List.length_append]; omega) (by simp only [List.length_append]; omega))
      clear hd4 hst hp4 ht4 ha4 hp hsb xl hno
      go_wp2_with fail
      refine HV4.out.mono ?_
      rintro r w5 ⟨rfl, a5, c5, hp5, ht5, ha5⟩
      have HZ := hid (zig_putrising w5 hp5 X ak _ ck (pen_low (pen_data ht5 ha5 HXL.out)) HRI.out (by omega) (by simp only [List.length_append]; omega) (by simp only [List.length_append]; omega))
      have HT5 := hid (And.intro ht5 ha5)
      clear hp5 ht5 ha5 u0
      go_wp2_with fail
      refine HZ.out.mono ?_
      rintro r w6 ⟨rfl, hst6⟩
      have hn := PenStep.trans (J := J) HT4.out.1 HT4.out.2 (PenStep.trans (J := J) HT5.out.1 HT5.out.2 hst6)
      rw [List.append_assoc _ (varB X.length), ← HSB.out, List.append_assoc _ (setsB _), ← HST.out] at hn
      have HN := hid hn
      clear hst6 hn
      go_wp2_with fail
      go_roundw
      case rel => exact ⟨k + 1, by omega, by go_num, HN⟩
      case measure => (simp [intOf]; try omega)
    · obtain rfl : k = l.length := by omega
      have d1 : decide ((l.length : Int) < (l.length : Int)) = false := decide_eq_false (by omega)
      rw [List.take_length] at hp
      have hn := PenStep.later hbw1 (PenStep.trans (J := J) HT2.out.1 HT2.out.2 (PenStep.trans (J := J) HT3.out.1 HT3.out.2 hp.out))
      rw [List.append_assoc _ (varB (l.length)), List.append_assoc J, ← List.append_assoc (varB (hi - lo - 1).toNat)] at hn
      have HN := hid hn
      clear hp hp4 ht4 ha4 hn
      go_wp2_with fail
      first | go_end0 | refine bodyPost_ret (results_none rfl _ _ _) rfl ?_
      exact ⟨rfl, HN.out⟩

set_option maxRecDepth 100000 in
set_option maxHeartbeats 6400000 in
theorem proj_put (w : World) {g base most : Nat} {J : List UInt8} {a : Option Addr} {c : Nat} (h : PenAt w g base most J a c) (p : Projn) (al : Option Addr) (nl cl : Nat) (h0 : inU p.epoch)
    (hl : rStripes.r (fun q => q < w.heap.size ∧ ¬ PenF g a q) w [.slice al nl cl] p.stripes) (hPR : ∀ (W : World), Below w.heap.size w W → Calls Tryz.prog 87 #[.agg #[.int .u64 p.epoch, .slice al nl cl]] W fun r w' => r = .returned (.bool true) ∧ Below W.heap.size W w') (hR : projR p = true) (hfit : J.length + (projB p).length ≤ most) (hln2 : J.length + (projB p).length ≤ 100000000000000) :
    Calls Tryz.prog 78 #[.pointer (some ⟨g, 0, none⟩), .agg #[.int .u64 p.epoch, .slice al nl cl]] w fun r w' => r = .returned (.tuple #[]) ∧ PenStep w g base most (J ++ projB p) a w' := by
  obtain ⟨rfl, hm, _, _⟩ := sl_len hl
  have HRT := hid hPR
  have hR' := hR
  simp only [projR, Bool.and_eq_true, decide_eq_true_eq] at hR'
  obtain ⟨g1, ⟨g2, g3⟩, g4⟩ := hR'
  have hdl : (projB p).length = (varB p.epoch.toNat).length + (varB p.stripes.length).length + (stripesB p.stripes).length := by simp only [projB, List.length_append]
  rw [hdl] at hfit hln2
  have hbb : projB p = varB p.epoch.toNat ++ varB p.stripes.length ++ stripesB p.stripes := rfl
  rw [hbb]
  have HP := hid h
  have HL := hid hl
  have HNO := hid (fun (k : Nat) (hk : k < p.stripes.length) => chain_all _ _ g4 p.stripes[k] (List.getElem_mem hk))
  have HNS := hid (fun (k : Nat) (hk : k < p.stripes.length) => stripesB_step p.stripes k hk)
  have HMO := hid (fun k => stripesB_take_le p.stripes k)
  obtain ⟨ep, l⟩ := p
  dsimp only at *
  have HE := hid (fun (W : World) (hW : Below w.heap.size w W) => (by have := epoch_put W (h.later hW) ep.toNat (by rw [toNat_cast h0.1]; exact g1) (by omega) (by omega); rw [toNat_cast h0.1] at this; exact this : Calls Tryz.prog 111 #[.pointer (some ⟨g, 0, none⟩), .int .u64 ep] W fun r w' => r = .returned (.tuple #[]) ∧ PenStep W g base most (J ++ varB ep.toNat) a w'))
  clear h hl hR hdl hbb g1 g4 hPR
  go_enter Tryz.func78, Tryz.ntmps78
  go_wp2_with fail
  refine (HRT.out _ (by (repeat (first | with_reducible exact Below.refl _ _ | with_reducible assumption | (with_reducible refine below_alloc ?_ _) | (with_reducible refine Below.setCell ?_ (by first | omega | (simp; done) | (simp; omega)) _) | (with_reducible refine Below.drew ?_) | (with_reducible refine below_drewN ?_ _) | (refine below_then (by with_reducible assumption) ?_))))).mono ?_
  rintro r w1 ⟨rfl, hb1⟩
  have B1 := Blk.later (Blk.newAt w 30 #[.int .u64 ep, .slice al l.length cl] rfl) hb1
  obtain ⟨x0, x1, _, _, l1⟩ := p_blk B1
  have hbw1 : Below w.heap.size w w1 := by (repeat (first | with_reducible exact Below.refl _ _ | with_reducible assumption | (with_reducible refine below_alloc ?_ _) | (with_reducible refine Below.setCell ?_ (by first | omega | (simp; done) | (simp; omega)) _) | (with_reducible refine Below.drew ?_) | (with_reducible refine below_drewN ?_ _) | (refine below_then (by with_reducible assumption) ?_)))
  have HLT := hid (fun q (hq : PenF g a q) => (HP.out.own_lt hq).2)
  have HB1 := hid B1
  have HL1 := hid (pen_later hbw1 HL.out)
  have hs1 := hbw1.size
  clear B1 hb1
  go_wp2_with fail
  refine (HE.out _ hbw1).mono ?_
  rintro r w2 ⟨rfl, a2, c2, hp2, ht2, ha2⟩
  have B2 := HB1.out.tch ht2 (fun hf => by have := HLT.out _ hf; omega)
  obtain ⟨y0, y1, _, _, l2⟩ := p_blk B2
  have HT2 := hid (And.intro ht2 ha2)
  have HL2 := hid (pen_data ht2 ha2 HL1.out)
  have HB2 := hid B2
  have HNF2 := hid (fun (hf : PenF g a2 w.heap.size) => penF_old ha2 HB1.out.lt (fun hf => by have := HLT.out _ hf; omega) hf)
  have hs2 := ht2.size
  have HV2 := hid (varint_put w2 hp2 l.length (by omega) (by simp only [List.length_append]; omega) (by simp only [List.length_append]; omega))
  clear B2 hp2 ht2 ha2 x0 x1
  go_wp2_with fail
  refine HV2.out.mono ?_
  rintro r w3 ⟨rfl, a3, c3, hp3, ht3, ha3⟩
  have B3 := HB2.out.tch ht3 (fun hf => HNF2.out hf)
  obtain ⟨x0, x1, _, _, l3⟩ := p_blk B3
  have HT3 := hid (And.intro ht3 ha3)
  have HL3 := hid (pen_data ht3 ha3 HL2.out)
  have HP3 := hid hp3
  clear B3 hp3 ht3 ha3 y0 y1
  go_wp2_with fail
  clear x0 x1
  go_loopw [24] (fun i wr => ∃ k : Nat, k ≤ l.length ∧ i = .int .i64 k ∧ Hid (PenStep w3 g base most (J ++ varB ep.toNat ++ varB l.length ++ stripesB (l.take k)) a3 wr)) (fun i _ => l.length - (intOf i).toNat)
  case atStart => exact ⟨0, Nat.zero_le _, rfl, hid (by simpa [stripesB] using PenStep.refl HP3.out)⟩
  case round =>
    obtain ⟨k, hk, rfl, hp⟩ := hrel
    obtain ⟨a4, c4, hp4, ht4, ha4⟩ := hp.out
    rcases Nat.lt_or_ge k l.length with hlt | hge
    · have hd4 := pen_data ht4 ha4 HL3.out
      obtain ⟨b, o, hA, hbb, ak, ck, u0, u1, u2, ub0, ub1, xl⟩ := stripe_at hd4 hlt
      subst hA
      have hst := HNS.out k hlt
      have hfk := HMO.out (k + 1)
      rw [hst, List.length_append] at hfk
      have HRI := hid (HNO.out k hlt)
      have HST := hid hst
      have HXL := hid xl
      have i1 : (k : Int) < (l.length : Int) := by omega
      have d1 : decide ((k : Int) < (l.length : Int)) = true := decide_eq_true i1
      have hbl := hbb.1
      have HT4 := hid (And.intro ht4 ha4)
      have HP4 := hid hp4
      generalize l[k] = X at *
      have HU := hid (And.intro ub0 ub1)
      have HZ := hid (fun (W : World) (hW : Below wr.heap.size wr W) => stripe_put W (HP4.out.later hW) X ak _ ck HU.out.1 HU.out.2 (pen_later hW HXL.out) HRI.out (by simp only [List.length_append]; omega) (by simp only [List.length_append]; omega))
      clear hd4 hst hp4 ht4 ha4 hp xl ub0 ub1
      go_wp2_with fail
      refine (HZ.out _ (by (repeat (first | with_reducible exact Below.refl _ _ | with_reducible assumption | (with_reducible refine below_alloc ?_ _) | (with_reducible refine Below.setCell ?_ (by first | omega | (simp; done) | (simp; omega)) _) | (with_reducible refine Below.drew ?_) | (with_reducible refine below_drewN ?_ _) | (refine below_then (by with_reducible assumption) ?_))))).mono ?_
      rintro r w6 ⟨rfl, hst6⟩
      have hn := PenStep.trans (J := J) HT4.out.1 HT4.out.2 (PenStep.later (by (repeat (first | with_reducible exact Below.refl _ _ | with_reducible assumption | (with_reducible refine below_alloc ?_ _) | (with_reducible refine Below.setCell ?_ (by first | omega | (simp; done) | (simp; omega)) _) | (with_reducible refine Below.drew ?_) | (with_reducible refine below_drewN ?_ _) | (refine below_then (by with_reducible assumption) ?_)))) hst6)
      rw [List.append_assoc _ (stripesB _), ← HST.out] at hn
      have HN := hid hn
      clear hst6 hn u0 u1 u2
      go_wp2_with fail
      go_roundw
      case rel => exact ⟨k + 1, by omega, by go_num, HN⟩
      case measure => (simp [intOf]; try omega)
    · obtain rfl : k = l.length := by omega
      have d1 : decide ((l.length : Int) < (l.length : Int)) = false := decide_eq_false (by omega)
      rw [List.take_length] at hp
      have hn := PenStep.later hbw1 (PenStep.trans (J := J) HT2.out.1 HT2.out.2 (PenStep.trans (J := J) HT3.out.1 HT3.out.2 hp.out))
      rw [List.append_assoc _ (varB (l.length)), List.append_assoc J, ← List.append_assoc (varB ep.toNat)] at hn
      have HN := hid hn
      clear hp hp4 ht4 ha4 hn
      go_wp2_with fail
      first | go_end0 | refine bodyPost_ret (results_none rfl _ _ _) rfl ?_
      exact ⟨rfl, HN.out⟩
end Go.Proofs.YtlbffbkbkajciaaGreat
namespace Go.Proofs.YtlbffbkbkajciaaGreat
open Go.RowKit Go.Bs Go.Maps
set_option linter.unusedVariables false
set_option linter.unusedSimpArgs false

theorem MsgIn.tr {S S' : Nat → Prop} {w w' : World} {m : Msg} {a1 c1 a2 c2 a3 c3 a4 c4} (f : ∀ {α : Type} (A : Rp α) (cs : List Value) (x : α), A.r S w cs x → A.r S' w' cs x) (h : MsgIn S w m a1 c1 a2 c2 a3 c3 a4 c4) : MsgIn S' w' m a1 c1 a2 c2 a3 c3 a4 c4 :=
  ⟨h.kind, h.epoch, h.seq, h.pos, h.count, h.state, h.sealE, h.sealN, h.sealT, h.projE, f _ _ _ h.streams, f _ _ _ h.links, f _ _ _ h.data, f _ _ _ h.stripes⟩
/-- A pen, a cell that points to it, a message in a block apart. -/
structure PutI (w : World) (g base most : Nat) (J : List UInt8) (a : Option Addr) (c A B : Nat) (m : Msg) (a1 : Option Addr) (c1 : Nat) (a2 : Option Addr) (c2 : Nat) (a3 : Option Addr) (c3 : Nat) (a4 : Option Addr) (c4 : Nat) : Prop where
  pen : PenAt w g base most J a c
  pa : Blk w A 38 #[.pointer (some ⟨g, 0, none⟩)]
  pb : Blk w B 32 #[.int .i64 m.kind, .int .u64 m.epoch, .int .u64 m.seq, .int .u64 m.pos, .int .i64 m.count, .int .i64 m.state, .slice a1 m.streams.length c1, .slice a2 m.links.length c2, .slice a3 m.data.length c3, .int .u64 m.sea.epoch, .int .u64 m.sea.node, .int .u64 m.sea.tail, .int .u64 m.proj.epoch, .slice a4 m.proj.stripes.length c4]
  na : ¬ PenF g a A
  nb : ¬ PenF g a B
  data : MsgIn (fun q => q < w.heap.size ∧ ¬ PenF g a q) w m a1 c1 a2 c2 a3 c3 a4 c4
theorem PutI.later {w : World} {g base most : Nat} {J : List UInt8} {a : Option Addr} {c A B : Nat} {m : Msg} {a1 : Option Addr} {c1 : Nat} {a2 : Option Addr} {c2 : Nat} {a3 : Option Addr} {c3 : Nat} {a4 : Option Addr} {c4 : Nat} (h : PutI w g base most J a c A B m a1 c1 a2 c2 a3 c3 a4 c4) {w' : World} (hb : Below w.heap.size w w') : PutI w' g base most J a c A B m a1 c1 a2 c2 a3 c3 a4 c4 :=
  ⟨h.pen.later hb, h.pa.later hb, h.pb.later hb, h.na, h.nb, MsgIn.tr (fun A cs x hx => pen_later hb hx) h.data⟩
theorem PutI.step {w : World} {g base most : Nat} {J : List UInt8} {a : Option Addr} {c A B : Nat} {m : Msg} {a1 : Option Addr} {c1 : Nat} {a2 : Option Addr} {c2 : Nat} {a3 : Option Addr} {c3 : Nat} {a4 : Option Addr} {c4 : Nat} (h : PutI w g base most J a c A B m a1 c1 a2 c2 a3 c3 a4 c4) {w' : World} {J' : List UInt8} (k : PenStep w g base most J' a w') : ∃ a' c', PutI w' g base most J' a' c' A B m a1 c1 a2 c2 a3 c3 a4 c4 ∧ Tch (PenF g a) w w' ∧ (a'.map Addr.block = a.map Addr.block ∨ ∃ q, a'.map Addr.block = some q ∧ w.heap.size ≤ q) := by
  obtain ⟨a', c', k1, k2, k3⟩ := k
  exact ⟨a', c', ⟨k1, h.pa.tch k2 h.na, h.pb.tch k2 h.nb, penF_old k3 h.pa.lt h.na, penF_old k3 h.pb.lt h.nb, MsgIn.tr (fun A cs x hx => pen_data k2 k3 hx) h.data⟩, k2, k3⟩
theorem MsgIn.low {g : Nat} {a : Option Addr} {w : World} {m : Msg} {a1 c1 a2 c2 a3 c3 a4 c4} (h : MsgIn (fun q => q < w.heap.size ∧ ¬ PenF g a q) w m a1 c1 a2 c2 a3 c3 a4 c4) : MsgIn (· < w.heap.size) w m a1 c1 a2 c2 a3 c3 a4 c4 := MsgIn.tr (fun A cs x hx => pen_low hx) h
set_option maxRecDepth 100000 in
set_option maxHeartbeats 6400000 in
theorem put_pos {w : World} {g base most : Nat} {J : List UInt8} {a : Option Addr} {c A B : Nat} {m : Msg} {a1 : Option Addr} {c1 : Nat} {a2 : Option Addr} {c2 : Nat} {a3 : Option Addr} {c3 : Nat} {a4 : Option Addr} {c4 : Nat} (h : PutI w g base most J a c A B m a1 c1 a2 c2 a3 c3 a4 c4) (hR : poR m.pos = true) (hfit : J.length + (varB m.pos.toNat).length ≤ most) (hln : J.length + (varB m.pos.toNat).length ≤ 100000000000000) :
    Calls Tryz.prog 63 #[.pointer (some ⟨A, 0, none⟩), .pointer (some ⟨B, 0, none⟩)] w fun r w' => r = .returned (.tuple #[]) ∧ PenStep w g base most (J ++ (varB m.pos.toNat)) a w' := by
  have hp := h.data.pos
  have HV := hid (by have := epoch_putpos w h.pen m.pos.toNat (by rw [toNat_cast hp.1]; exact hR) hfit hln; rw [toNat_cast hp.1] at this; exact this : Calls Tryz.prog 64 #[.pointer (some ⟨g, 0, none⟩), .int .u64 m.pos] w fun r w' => r = .returned (.tuple #[]) ∧ PenStep w g base most (J ++ varB m.pos.toNat) a w')
  have p0 : w.cell? ⟨A, 0, none⟩ = some (.pointer (some ⟨g, 0, none⟩)) := h.pa.cell 0
  have y3 : w.cell? ⟨B, 3, none⟩ = some (.int .u64 m.pos) := h.pb.cell 3
  clear h
  go_enter Tryz.func63, Tryz.ntmps63
  go_wp2_with fail
  refine HV.out.mono ?_
  rintro r w1 ⟨rfl, hst⟩
  have HST := hid hst
  clear hst
  go_wp2_with fail
  first | go_end0 | refine bodyPost_ret (results_none rfl _ _ _) rfl ?_
  exact ⟨rfl, HST.out⟩

set_option maxRecDepth 100000 in
set_option maxHeartbeats 6400000 in
theorem put_count {w : World} {g base most : Nat} {J : List UInt8} {a : Option Addr} {c A B : Nat} {m : Msg} {a1 : Option Addr} {c1 : Nat} {a2 : Option Addr} {c2 : Nat} {a3 : Option Addr} {c3 : Nat} {a4 : Option Addr} {c4 : Nat} (h : PutI w g base most J a c A B m a1 c1 a2 c2 a3 c3 a4 c4) (hR : 1 ≤ m.count ∧ m.count ≤ 65536) (hfit : J.length + (varB m.count.toNat).length ≤ most) (hln : J.length + (varB m.count.toNat).length ≤ 100000000000000) :
    Calls Tryz.prog 65 #[.pointer (some ⟨A, 0, none⟩), .pointer (some ⟨B, 0, none⟩)] w fun r w' => r = .returned (.tuple #[]) ∧ PenStep w g base most (J ++ (varB m.count.toNat)) a w' := by
  have hc0 : 0 ≤ m.count := by omega
  have hc1 : m.count ≤ 65536 := hR.2
  have HV := hid (by have := varint_put w h.pen m.count.toNat (by omega) hfit hln; rw [toNat_cast hc0] at this; exact this : Calls Tryz.prog 66 #[.pointer (some ⟨g, 0, none⟩), .int .u64 m.count] w fun r w' => r = .returned (.tuple #[]) ∧ PenStep w g base most (J ++ varB m.count.toNat) a w')
  have p0 : w.cell? ⟨A, 0, none⟩ = some (.pointer (some ⟨g, 0, none⟩)) := h.pa.cell 0
  have y4 : w.cell? ⟨B, 4, none⟩ = some (.int .i64 m.count) := h.pb.cell 4
  clear h
  go_enter Tryz.func65, Tryz.ntmps65
  go_wp2_with fail
  refine HV.out.mono ?_
  rintro r w1 ⟨rfl, hst⟩
  have HST := hid hst
  clear hst
  go_wp2_with fail
  first | go_end0 | refine bodyPost_ret (results_none rfl _ _ _) rfl ?_
  exact ⟨rfl, HST.out⟩

set_option maxRecDepth 100000 in
set_option maxHeartbeats 6400000 in
theorem put_state {w : World} {g base most : Nat} {J : List UInt8} {a : Option Addr} {c A B : Nat} {m : Msg} {a1 : Option Addr} {c1 : Nat} {a2 : Option Addr} {c2 : Nat} {a3 : Option Addr} {c3 : Nat} {a4 : Option Addr} {c4 : Nat} (h : PutI w g base most J a c A B m a1 c1 a2 c2 a3 c3 a4 c4) (hR : 1 ≤ m.state ∧ m.state ≤ 20) (hfit : J.length + ([UInt8.ofNat m.state.toNat]).length ≤ most) (hln : J.length + ([UInt8.ofNat m.state.toNat]).length ≤ 100000000000000) :
    Calls Tryz.prog 67 #[.pointer (some ⟨A, 0, none⟩), .pointer (some ⟨B, 0, none⟩)] w fun r w' => r = .returned (.tuple #[]) ∧ PenStep w g base most (J ++ ([UInt8.ofNat m.state.toNat])) a w' := by
  have hc0 : 0 ≤ m.state := by omega
  have hc1 : m.state ≤ 20 := hR.2
  have he : m.state = ((UInt8.ofNat m.state.toNat).toNat : Int) := by
    have := byte_small (x := m.state.toNat) (by omega)
    rw [toNat_cast hc0] at this
    exact this
  have HV := hid (fun (W : World) (hW : Below w.heap.size w W) (ad : Option Addr) (hD : rBytes.r (· < W.heap.size) W [.slice ad 1 1] [UInt8.ofNat m.state.toNat]) => pen_put W (h.pen.later hW) [UInt8.ofNat m.state.toNat] ad 1 1 hD hfit hln)
  have HL := hid (fun W : World => (by have := lit_one W (UInt8.ofNat m.state.toNat); rw [← he] at this; exact this : rBytes.r (· < (W.alloc (.cells #[.int .u8 m.state] 5)).heap.size) (W.alloc (.cells #[.int .u8 m.state] 5)) [.slice (some ⟨W.heap.size, 0, none⟩) 1 1] [UInt8.ofNat m.state.toNat]))
  have p0 : w.cell? ⟨A, 0, none⟩ = some (.pointer (some ⟨g, 0, none⟩)) := h.pa.cell 0
  have y5 : w.cell? ⟨B, 5, none⟩ = some (.int .i64 m.state) := h.pb.cell 5
  clear h he
  go_enter Tryz.func67, Tryz.ntmps67
  go_wp2_with fail
  refine (HV.out _ (by (repeat (first | with_reducible exact Below.refl _ _ | with_reducible assumption | (with_reducible refine below_alloc ?_ _) | (with_reducible refine Below.setCell ?_ (by first | omega | (simp; done) | (simp; omega)) _) | (with_reducible refine Below.drew ?_) | (with_reducible refine below_drewN ?_ _) | (refine below_then (by with_reducible assumption) ?_)))) _ (HL.out w)).mono ?_
  rintro r w1 ⟨rfl, hst⟩
  have HST := hid (PenStep.later (w := w) (by (repeat (first | with_reducible exact Below.refl _ _ | with_reducible assumption | (with_reducible refine below_alloc ?_ _) | (with_reducible refine Below.setCell ?_ (by first | omega | (simp; done) | (simp; omega)) _) | (with_reducible refine Below.drew ?_) | (with_reducible refine below_drewN ?_ _) | (refine below_then (by with_reducible assumption) ?_)))) hst)
  clear hst
  go_wp2_with fail
  first | go_end0 | refine bodyPost_ret (results_none rfl _ _ _) rfl ?_
  exact ⟨rfl, HST.out⟩

set_option maxRecDepth 100000 in
set_option maxHeartbeats 6400000 in
theorem put_streams {w : World} {g base most : Nat} {J : List UInt8} {a : Option Addr} {c A B : Nat} {m : Msg} {a1 : Option Addr} {c1 : Nat} {a2 : Option Addr} {c2 : Nat} {a3 : Option Addr} {c3 : Nat} {a4 : Option Addr} {c4 : Nat} (h : PutI w g base most J a c A B m a1 c1 a2 c2 a3 c3 a4 c4) (hR : m.streams.length ≤ 16 ∧ risesB m.streams = true) (hfit : J.length + (setB m.streams).length ≤ most) (hln : J.length + (setB m.streams).length ≤ 100000000000000) :
    Calls Tryz.prog 69 #[.pointer (some ⟨A, 0, none⟩), .pointer (some ⟨B, 0, none⟩)] w fun r w' => r = .returned (.tuple #[]) ∧ PenStep w g base most (J ++ (setB m.streams)) a w' := by
  have hsl : (setB m.streams).length = (varB m.streams.length).length + (upsB m.streams).length := by unfold setB; rw [List.length_append]
  rw [hsl] at hfit hln
  have hl16 := hR.1
  have HV := hid (varint_put w h.pen m.streams.length (by omega) (by omega) (by omega))
  have HZ := hid (fun (W : World) (a' : Option Addr) (c' : Nat) (hW : PutI W g base most (J ++ varB m.streams.length) a' c' A B m a1 c1 a2 c2 a3 c3 a4 c4) => zig_putrising W hW.pen m.streams a1 _ c1 (MsgIn.low hW.data).streams hR.2 (by omega) (by rw [List.length_append]; omega) (by rw [List.length_append]; omega))
  have HI := hid h
  have p0 : w.cell? ⟨A, 0, none⟩ = some (.pointer (some ⟨g, 0, none⟩)) := h.pa.cell 0
  have y6 : w.cell? ⟨B, 6, none⟩ = some (.slice a1 m.streams.length c1) := h.pb.cell 6
  clear h
  have hsb : setB m.streams = varB m.streams.length ++ upsB m.streams := rfl
  go_enter Tryz.func69, Tryz.ntmps69
  go_wp2_with fail
  refine HV.out.mono ?_
  rintro r w1 ⟨rfl, hst⟩
  obtain ⟨a', c', hi1, ht1, ha1⟩ := HI.out.step hst
  have HT := hid (And.intro ht1 ha1)
  have HZ1 := hid (HZ.out _ _ _ hi1)
  have q0 : w1.cell? ⟨A, 0, none⟩ = some (.pointer (some ⟨g, 0, none⟩)) := hi1.pa.cell 0
  have q6 : w1.cell? ⟨B, 6, none⟩ = some (.slice a1 m.streams.length c1) := hi1.pb.cell 6
  clear hst hi1 ht1 ha1 p0 y6
  go_wp2_with fail
  refine HZ1.out.mono ?_
  rintro r w2 ⟨rfl, hst⟩
  have hn := PenStep.trans (J := J) HT.out.1 HT.out.2 hst
  rw [List.append_assoc, ← hsb] at hn
  have HST := hid hn
  clear hst hn
  go_wp2_with fail
  first | go_end0 | refine bodyPost_ret (results_none rfl _ _ _) rfl ?_
  exact ⟨rfl, HST.out⟩

set_option maxRecDepth 100000 in
set_option maxHeartbeats 6400000 in
theorem put_links {w : World} {g base most : Nat} {J : List UInt8} {a : Option Addr} {c A B : Nat} {m : Msg} {a1 : Option Addr} {c1 : Nat} {a2 : Option Addr} {c2 : Nat} {a3 : Option Addr} {c3 : Nat} {a4 : Option Addr} {c4 : Nat} (h : PutI w g base most J a c A B m a1 c1 a2 c2 a3 c3 a4 c4) (hbk : ∀ x ∈ m.links, x.backs.length ≤ 1000000) (hR : linksR m.pos m.links = true) (hfit : J.length + (linksB m.pos m.links).length ≤ most) (hln : J.length + (linksB m.pos m.links).length ≤ 100000000000000) :
    Calls Tryz.prog 71 #[.pointer (some ⟨A, 0, none⟩), .pointer (some ⟨B, 0, none⟩)] w fun r w' => r = .returned (.tuple #[]) ∧ PenStep w g base most (J ++ (linksB m.pos m.links)) a w' := by
  have HV := hid (link_put w h.pen m.pos h.data.pos m.links a2 _ c2 h.data.links hR hbk hfit hln)
  have p0 : w.cell? ⟨A, 0, none⟩ = some (.pointer (some ⟨g, 0, none⟩)) := h.pa.cell 0
  have y3 : w.cell? ⟨B, 3, none⟩ = some (.int .u64 m.pos) := h.pb.cell 3
  have y7 : w.cell? ⟨B, 7, none⟩ = some (.slice a2 m.links.length c2) := h.pb.cell 7
  clear h
  go_enter Tryz.func71, Tryz.ntmps71
  go_wp2_with fail
  refine HV.out.mono ?_
  rintro r w1 ⟨rfl, hst⟩
  have HST := hid hst
  clear hst
  go_wp2_with fail
  first | go_end0 | refine bodyPost_ret (results_none rfl _ _ _) rfl ?_
  exact ⟨rfl, HST.out⟩

set_option maxRecDepth 100000 in
set_option maxHeartbeats 6400000 in
theorem put_seal {w : World} {g base most : Nat} {J : List UInt8} {a : Option Addr} {c A B : Nat} {m : Msg} {a1 : Option Addr} {c1 : Nat} {a2 : Option Addr} {c2 : Nat} {a3 : Option Addr} {c3 : Nat} {a4 : Option Addr} {c4 : Nat} (h : PutI w g base most J a c A B m a1 c1 a2 c2 a3 c3 a4 c4) (hR : sealR m.sea = true) (hfit : J.length + (sealB m.sea).length ≤ most) (hln : J.length + (sealB m.sea).length ≤ 100000000000000) :
    Calls Tryz.prog 75 #[.pointer (some ⟨A, 0, none⟩), .pointer (some ⟨B, 0, none⟩)] w fun r w' => r = .returned (.tuple #[]) ∧ PenStep w g base most (J ++ (sealB m.sea)) a w' := by
  have HV := hid (seal_put w h.pen m.sea h.data.sealE h.data.sealN h.data.sealT hR hfit hln)
  have p0 : w.cell? ⟨A, 0, none⟩ = some (.pointer (some ⟨g, 0, none⟩)) := h.pa.cell 0
  have y9 : w.cell? ⟨B, 9, none⟩ = some (.int .u64 m.sea.epoch) := h.pb.cell 9
  have y10 : w.cell? ⟨B, 10, none⟩ = some (.int .u64 m.sea.node) := h.pb.cell 10
  have y11 : w.cell? ⟨B, 11, none⟩ = some (.int .u64 m.sea.tail) := h.pb.cell 11
  clear h
  go_enter Tryz.func75, Tryz.ntmps75
  go_wp2_with fail
  refine HV.out.mono ?_
  rintro r w1 ⟨rfl, hst⟩
  have HST := hid hst
  clear hst
  go_wp2_with fail
  first | go_end0 | refine bodyPost_ret (results_none rfl _ _ _) rfl ?_
  exact ⟨rfl, HST.out⟩

set_option maxRecDepth 100000 in
set_option maxHeartbeats 6400000 in
theorem put_proj {w : World} {g base most : Nat} {J : List UInt8} {a : Option Addr} {c A B : Nat} {m : Msg} {a1 : Option Addr} {c1 : Nat} {a2 : Option Addr} {c2 : Nat} {a3 : Option Addr} {c3 : Nat} {a4 : Option Addr} {c4 : Nat} (h : PutI w g base most J a c A B m a1 c1 a2 c2 a3 c3 a4 c4) (hR : projR m.proj = true) (hfit : J.length + (projB m.proj).length ≤ most) (hln : J.length + (projB m.proj).length ≤ 100000000000000) :
    Calls Tryz.prog 77 #[.pointer (some ⟨A, 0, none⟩), .pointer (some ⟨B, 0, none⟩)] w fun r w' => r = .returned (.tuple #[]) ∧ PenStep w g base most (J ++ (projB m.proj)) a w' := by
  have hPR := fun (W : World) (hW : Below w.heap.size w W) => proj_right m.proj.epoch m.proj.stripes a4 _ c4 W (lift (MsgIn.low h.data).stripes hW)
  rw [show (⟨m.proj.epoch, m.proj.stripes⟩ : Projn) = m.proj from rfl, hR] at hPR
  have HV := hid (proj_put w h.pen m.proj a4 _ c4 h.data.projE h.data.stripes hPR hR hfit hln)
  clear hPR
  have p0 : w.cell? ⟨A, 0, none⟩ = some (.pointer (some ⟨g, 0, none⟩)) := h.pa.cell 0
  have y12 : w.cell? ⟨B, 12, none⟩ = some (.int .u64 m.proj.epoch) := h.pb.cell 12
  have y13 : w.cell? ⟨B, 13, none⟩ = some (.slice a4 m.proj.stripes.length c4) := h.pb.cell 13
  clear h
  go_enter Tryz.func77, Tryz.ntmps77
  go_wp2_with fail
  refine HV.out.mono ?_
  rintro r w1 ⟨rfl, hst⟩
  have HST := hid hst
  clear hst
  go_wp2_with fail
  first | go_end0 | refine bodyPost_ret (results_none rfl _ _ _) rfl ?_
  exact ⟨rfl, HST.out⟩

set_option maxRecDepth 100000 in
set_option maxHeartbeats 6400000 in
theorem put_has1 {w : World} {g base most : Nat} {J : List UInt8} {a : Option Addr} {c A B : Nat} {m : Msg} {a1 : Option Addr} {c1 : Nat} {a2 : Option Addr} {c2 : Nat} {a3 : Option Addr} {c3 : Nat} {a4 : Option Addr} {c4 : Nat} (h : PutI w g base most J a c A B m a1 c1 a2 c2 a3 c3 a4 c4) (X : List UInt8) (HC : hasK m.kind 1 = true → ∀ W : World, Below w.heap.size w W → Calls Tryz.prog 63 #[.pointer (some ⟨A, 0, none⟩), .pointer (some ⟨B, 0, none⟩)] W fun r w' => r = .returned (.tuple #[]) ∧ PenStep W g base most (J ++ X) a w') :
    Calls Tryz.prog 61 #[.int .i64 1, .func (Fn.func 63) #[] #[.pointer (some ⟨A, 0, none⟩), .pointer (some ⟨B, 0, none⟩)], .pointer (some ⟨B, 0, none⟩)] w fun r w' => r = .returned (.tuple #[]) ∧ PenStep w g base most (J ++ partB (hasK m.kind 1) X) a w' := by
  have HH := hid (kind_has m.kind 1 (by unfold isPart; decide) w)
  have HCC := hid HC
  have HP := hid h.pen
  have y0 : w.cell? ⟨B, 0, none⟩ = some (.int .i64 m.kind) := h.pb.cell 0
  clear h HC
  generalize hasK m.kind 1 = H at *
  go_enter Tryz.func61, Tryz.ntmps61
  go_wp2_with fail
  refine HH.out.mono ?_
  rintro r w1 ⟨rfl, hb1⟩
  have HB := hid hb1
  clear hb1
  cases H
  · go_wp2_with fail
    first | go_end0 | refine bodyPost_ret (results_none rfl _ _ _) rfl ?_
    refine ⟨rfl, ?_⟩
    have := PenStep.later HB.out (PenStep.refl (HP.out.later HB.out))
    simpa [partB] using this
  · have HD := hid (HCC.out rfl w1 HB.out)
    go_wp2_with fail
    refine HD.out.mono ?_
    rintro r w2 ⟨rfl, hst⟩
    have HST := hid (PenStep.later HB.out hst)
    clear hst
    go_wp2_with fail
    first | go_end0 | refine bodyPost_ret (results_none rfl _ _ _) rfl ?_
    exact ⟨rfl, HST.out⟩

set_option maxRecDepth 100000 in
set_option maxHeartbeats 6400000 in
theorem put_has2 {w : World} {g base most : Nat} {J : List UInt8} {a : Option Addr} {c A B : Nat} {m : Msg} {a1 : Option Addr} {c1 : Nat} {a2 : Option Addr} {c2 : Nat} {a3 : Option Addr} {c3 : Nat} {a4 : Option Addr} {c4 : Nat} (h : PutI w g base most J a c A B m a1 c1 a2 c2 a3 c3 a4 c4) (X : List UInt8) (HC : hasK m.kind 2 = true → ∀ W : World, Below w.heap.size w W → Calls Tryz.prog 65 #[.pointer (some ⟨A, 0, none⟩), .pointer (some ⟨B, 0, none⟩)] W fun r w' => r = .returned (.tuple #[]) ∧ PenStep W g base most (J ++ X) a w') :
    Calls Tryz.prog 61 #[.int .i64 2, .func (Fn.func 65) #[] #[.pointer (some ⟨A, 0, none⟩), .pointer (some ⟨B, 0, none⟩)], .pointer (some ⟨B, 0, none⟩)] w fun r w' => r = .returned (.tuple #[]) ∧ PenStep w g base most (J ++ partB (hasK m.kind 2) X) a w' := by
  have HH := hid (kind_has m.kind 2 (by unfold isPart; decide) w)
  have HCC := hid HC
  have HP := hid h.pen
  have y0 : w.cell? ⟨B, 0, none⟩ = some (.int .i64 m.kind) := h.pb.cell 0
  clear h HC
  generalize hasK m.kind 2 = H at *
  go_enter Tryz.func61, Tryz.ntmps61
  go_wp2_with fail
  refine HH.out.mono ?_
  rintro r w1 ⟨rfl, hb1⟩
  have HB := hid hb1
  clear hb1
  cases H
  · go_wp2_with fail
    first | go_end0 | refine bodyPost_ret (results_none rfl _ _ _) rfl ?_
    refine ⟨rfl, ?_⟩
    have := PenStep.later HB.out (PenStep.refl (HP.out.later HB.out))
    simpa [partB] using this
  · have HD := hid (HCC.out rfl w1 HB.out)
    go_wp2_with fail
    refine HD.out.mono ?_
    rintro r w2 ⟨rfl, hst⟩
    have HST := hid (PenStep.later HB.out hst)
    clear hst
    go_wp2_with fail
    first | go_end0 | refine bodyPost_ret (results_none rfl _ _ _) rfl ?_
    exact ⟨rfl, HST.out⟩

set_option maxRecDepth 100000 in
set_option maxHeartbeats 6400000 in
theorem put_has4 {w : World} {g base most : Nat} {J : List UInt8} {a : Option Addr} {c A B : Nat} {m : Msg} {a1 : Option Addr} {c1 : Nat} {a2 : Option Addr} {c2 : Nat} {a3 : Option Addr} {c3 : Nat} {a4 : Option Addr} {c4 : Nat} (h : PutI w g base most J a c A B m a1 c1 a2 c2 a3 c3 a4 c4) (X : List UInt8) (HC : hasK m.kind 4 = true → ∀ W : World, Below w.heap.size w W → Calls Tryz.prog 67 #[.pointer (some ⟨A, 0, none⟩), .pointer (some ⟨B, 0, none⟩)] W fun r w' => r = .returned (.tuple #[]) ∧ PenStep W g base most (J ++ X) a w') :
    Calls Tryz.prog 61 #[.int .i64 4, .func (Fn.func 67) #[] #[.pointer (some ⟨A, 0, none⟩), .pointer (some ⟨B, 0, none⟩)], .pointer (some ⟨B, 0, none⟩)] w fun r w' => r = .returned (.tuple #[]) ∧ PenStep w g base most (J ++ partB (hasK m.kind 4) X) a w' := by
  have HH := hid (kind_has m.kind 4 (by unfold isPart; decide) w)
  have HCC := hid HC
  have HP := hid h.pen
  have y0 : w.cell? ⟨B, 0, none⟩ = some (.int .i64 m.kind) := h.pb.cell 0
  clear h HC
  generalize hasK m.kind 4 = H at *
  go_enter Tryz.func61, Tryz.ntmps61
  go_wp2_with fail
  refine HH.out.mono ?_
  rintro r w1 ⟨rfl, hb1⟩
  have HB := hid hb1
  clear hb1
  cases H
  · go_wp2_with fail
    first | go_end0 | refine bodyPost_ret (results_none rfl _ _ _) rfl ?_
    refine ⟨rfl, ?_⟩
    have := PenStep.later HB.out (PenStep.refl (HP.out.later HB.out))
    simpa [partB] using this
  · have HD := hid (HCC.out rfl w1 HB.out)
    go_wp2_with fail
    refine HD.out.mono ?_
    rintro r w2 ⟨rfl, hst⟩
    have HST := hid (PenStep.later HB.out hst)
    clear hst
    go_wp2_with fail
    first | go_end0 | refine bodyPost_ret (results_none rfl _ _ _) rfl ?_
    exact ⟨rfl, HST.out⟩

set_option maxRecDepth 100000 in
set_option maxHeartbeats 6400000 in
theorem put_has8 {w : World} {g base most : Nat} {J : List UInt8} {a : Option Addr} {c A B : Nat} {m : Msg} {a1 : Option Addr} {c1 : Nat} {a2 : Option Addr} {c2 : Nat} {a3 : Option Addr} {c3 : Nat} {a4 : Option Addr} {c4 : Nat} (h : PutI w g base most J a c A B m a1 c1 a2 c2 a3 c3 a4 c4) (X : List UInt8) (HC : hasK m.kind 8 = true → ∀ W : World, Below w.heap.size w W → Calls Tryz.prog 69 #[.pointer (some ⟨A, 0, none⟩), .pointer (some ⟨B, 0, none⟩)] W fun r w' => r = .returned (.tuple #[]) ∧ PenStep W g base most (J ++ X) a w') :
    Calls Tryz.prog 61 #[.int .i64 8, .func (Fn.func 69) #[] #[.pointer (some ⟨A, 0, none⟩), .pointer (some ⟨B, 0, none⟩)], .pointer (some ⟨B, 0, none⟩)] w fun r w' => r = .returned (.tuple #[]) ∧ PenStep w g base most (J ++ partB (hasK m.kind 8) X) a w' := by
  have HH := hid (kind_has m.kind 8 (by unfold isPart; decide) w)
  have HCC := hid HC
  have HP := hid h.pen
  have y0 : w.cell? ⟨B, 0, none⟩ = some (.int .i64 m.kind) := h.pb.cell 0
  clear h HC
  generalize hasK m.kind 8 = H at *
  go_enter Tryz.func61, Tryz.ntmps61
  go_wp2_with fail
  refine HH.out.mono ?_
  rintro r w1 ⟨rfl, hb1⟩
  have HB := hid hb1
  clear hb1
  cases H
  · go_wp2_with fail
    first | go_end0 | refine bodyPost_ret (results_none rfl _ _ _) rfl ?_
    refine ⟨rfl, ?_⟩
    have := PenStep.later HB.out (PenStep.refl (HP.out.later HB.out))
    simpa [partB] using this
  · have HD := hid (HCC.out rfl w1 HB.out)
    go_wp2_with fail
    refine HD.out.mono ?_
    rintro r w2 ⟨rfl, hst⟩
    have HST := hid (PenStep.later HB.out hst)
    clear hst
    go_wp2_with fail
    first | go_end0 | refine bodyPost_ret (results_none rfl _ _ _) rfl ?_
    exact ⟨rfl, HST.out⟩

set_option maxRecDepth 100000 in
set_option maxHeartbeats 6400000 in
theorem put_has16 {w : World} {g base most : Nat} {J : List UInt8} {a : Option Addr} {c A B : Nat} {m : Msg} {a1 : Option Addr} {c1 : Nat} {a2 : Option Addr} {c2 : Nat} {a3 : Option Addr} {c3 : Nat} {a4 : Option Addr} {c4 : Nat} (h : PutI w g base most J a c A B m a1 c1 a2 c2 a3 c3 a4 c4) (X : List UInt8) (HC : hasK m.kind 16 = true → ∀ W : World, Below w.heap.size w W → Calls Tryz.prog 71 #[.pointer (some ⟨A, 0, none⟩), .pointer (some ⟨B, 0, none⟩)] W fun r w' => r = .returned (.tuple #[]) ∧ PenStep W g base most (J ++ X) a w') :
    Calls Tryz.prog 61 #[.int .i64 16, .func (Fn.func 71) #[] #[.pointer (some ⟨A, 0, none⟩), .pointer (some ⟨B, 0, none⟩)], .pointer (some ⟨B, 0, none⟩)] w fun r w' => r = .returned (.tuple #[]) ∧ PenStep w g base most (J ++ partB (hasK m.kind 16) X) a w' := by
  have HH := hid (kind_has m.kind 16 (by unfold isPart; decide) w)
  have HCC := hid HC
  have HP := hid h.pen
  have y0 : w.cell? ⟨B, 0, none⟩ = some (.int .i64 m.kind) := h.pb.cell 0
  clear h HC
  generalize hasK m.kind 16 = H at *
  go_enter Tryz.func61, Tryz.ntmps61
  go_wp2_with fail
  refine HH.out.mono ?_
  rintro r w1 ⟨rfl, hb1⟩
  have HB := hid hb1
  clear hb1
  cases H
  · go_wp2_with fail
    first | go_end0 | refine bodyPost_ret (results_none rfl _ _ _) rfl ?_
    refine ⟨rfl, ?_⟩
    have := PenStep.later HB.out (PenStep.refl (HP.out.later HB.out))
    simpa [partB] using this
  · have HD := hid (HCC.out rfl w1 HB.out)
    go_wp2_with fail
    refine HD.out.mono ?_
    rintro r w2 ⟨rfl, hst⟩
    have HST := hid (PenStep.later HB.out hst)
    clear hst
    go_wp2_with fail
    first | go_end0 | refine bodyPost_ret (results_none rfl _ _ _) rfl ?_
    exact ⟨rfl, HST.out⟩

set_option maxRecDepth 100000 in
set_option maxHeartbeats 6400000 in
theorem put_has64 {w : World} {g base most : Nat} {J : List UInt8} {a : Option Addr} {c A B : Nat} {m : Msg} {a1 : Option Addr} {c1 : Nat} {a2 : Option Addr} {c2 : Nat} {a3 : Option Addr} {c3 : Nat} {a4 : Option Addr} {c4 : Nat} (h : PutI w g base most J a c A B m a1 c1 a2 c2 a3 c3 a4 c4) (X : List UInt8) (HC : hasK m.kind 64 = true → ∀ W : World, Below w.heap.size w W → Calls Tryz.prog 75 #[.pointer (some ⟨A, 0, none⟩), .pointer (some ⟨B, 0, none⟩)] W fun r w' => r = .returned (.tuple #[]) ∧ PenStep W g base most (J ++ X) a w') :
    Calls Tryz.prog 61 #[.int .i64 64, .func (Fn.func 75) #[] #[.pointer (some ⟨A, 0, none⟩), .pointer (some ⟨B, 0, none⟩)], .pointer (some ⟨B, 0, none⟩)] w fun r w' => r = .returned (.tuple #[]) ∧ PenStep w g base most (J ++ partB (hasK m.kind 64) X) a w' := by
  have HH := hid (kind_has m.kind 64 (by unfold isPart; decide) w)
  have HCC := hid HC
  have HP := hid h.pen
  have y0 : w.cell? ⟨B, 0, none⟩ = some (.int .i64 m.kind) := h.pb.cell 0
  clear h HC
  generalize hasK m.kind 64 = H at *
  go_enter Tryz.func61, Tryz.ntmps61
  go_wp2_with fail
  refine HH.out.mono ?_
  rintro r w1 ⟨rfl, hb1⟩
  have HB := hid hb1
  clear hb1
  cases H
  · go_wp2_with fail
    first | go_end0 | refine bodyPost_ret (results_none rfl _ _ _) rfl ?_
    refine ⟨rfl, ?_⟩
    have := PenStep.later HB.out (PenStep.refl (HP.out.later HB.out))
    simpa [partB] using this
  · have HD := hid (HCC.out rfl w1 HB.out)
    go_wp2_with fail
    refine HD.out.mono ?_
    rintro r w2 ⟨rfl, hst⟩
    have HST := hid (PenStep.later HB.out hst)
    clear hst
    go_wp2_with fail
    first | go_end0 | refine bodyPost_ret (results_none rfl _ _ _) rfl ?_
    exact ⟨rfl, HST.out⟩

set_option maxRecDepth 100000 in
set_option maxHeartbeats 6400000 in
theorem put_has128 {w : World} {g base most : Nat} {J : List UInt8} {a : Option Addr} {c A B : Nat} {m : Msg} {a1 : Option Addr} {c1 : Nat} {a2 : Option Addr} {c2 : Nat} {a3 : Option Addr} {c3 : Nat} {a4 : Option Addr} {c4 : Nat} (h : PutI w g base most J a c A B m a1 c1 a2 c2 a3 c3 a4 c4) (X : List UInt8) (HC : hasK m.kind 128 = true → ∀ W : World, Below w.heap.size w W → Calls Tryz.prog 77 #[.pointer (some ⟨A, 0, none⟩), .pointer (some ⟨B, 0, none⟩)] W fun r w' => r = .returned (.tuple #[]) ∧ PenStep W g base most (J ++ X) a w') :
    Calls Tryz.prog 61 #[.int .i64 128, .func (Fn.func 77) #[] #[.pointer (some ⟨A, 0, none⟩), .pointer (some ⟨B, 0, none⟩)], .pointer (some ⟨B, 0, none⟩)] w fun r w' => r = .returned (.tuple #[]) ∧ PenStep w g base most (J ++ partB (hasK m.kind 128) X) a w' := by
  have HH := hid (kind_has m.kind 128 (by unfold isPart; decide) w)
  have HCC := hid HC
  have HP := hid h.pen
  have y0 : w.cell? ⟨B, 0, none⟩ = some (.int .i64 m.kind) := h.pb.cell 0
  clear h HC
  generalize hasK m.kind 128 = H at *
  go_enter Tryz.func61, Tryz.ntmps61
  go_wp2_with fail
  refine HH.out.mono ?_
  rintro r w1 ⟨rfl, hb1⟩
  have HB := hid hb1
  clear hb1
  cases H
  · go_wp2_with fail
    first | go_end0 | refine bodyPost_ret (results_none rfl _ _ _) rfl ?_
    refine ⟨rfl, ?_⟩
    have := PenStep.later HB.out (PenStep.refl (HP.out.later HB.out))
    simpa [partB] using this
  · have HD := hid (HCC.out rfl w1 HB.out)
    go_wp2_with fail
    refine HD.out.mono ?_
    rintro r w2 ⟨rfl, hst⟩
    have HST := hid (PenStep.later HB.out hst)
    clear hst
    go_wp2_with fail
    first | go_end0 | refine bodyPost_ret (results_none rfl _ _ _) rfl ?_
    exact ⟨rfl, HST.out⟩

theorem mostK_le (k : Int) : mostK k ≤ 20 := by unfold mostK; split <;> omega
theorem partB_true {h : Bool} {X : List UInt8} (hh : h = true) : (partB h X).length = X.length := by rw [hh]; rfl

set_option maxRecDepth 100000 in
set_option maxHeartbeats 6400000 in
theorem body_put (w : World) {g base most : Nat} {J : List UInt8} {a : Option Addr} {c : Nat} (h : PenAt w g base most J a c) (m : Msg) (a1 : Option Addr) (c1 : Nat) (a2 : Option Addr) (c2 : Nat) (a3 : Option Addr) (c3 : Nat) (a4 : Option Addr) (c4 : Nat) (hd : MsgIn (fun q => q < w.heap.size ∧ ¬ PenF g a q) w m a1 c1 a2 c2 a3 c3 a4 c4)
    (hbk : ∀ x ∈ m.links, x.backs.length ≤ 1000000) (hR : msgR m = true) (hfit : J.length + (msgB m).length ≤ most) (hln : J.length + (msgB m).length ≤ 100000000000000) :
    Calls Tryz.prog 16 #[.pointer (some ⟨g, 0, none⟩), .agg #[.int .i64 m.kind, .int .u64 m.epoch, .int .u64 m.seq, .int .u64 m.pos, .int .i64 m.count, .int .i64 m.state, .slice a1 m.streams.length c1, .slice a2 m.links.length c2, .slice a3 m.data.length c3, .int .u64 m.sea.epoch, .int .u64 m.sea.node, .int .u64 m.sea.tail, .int .u64 m.proj.epoch, .slice a4 m.proj.stripes.length c4]] w fun r w' => r = .returned (.tuple #[]) ∧ PenStep w g base most (J ++ msgB m) a w' := by
  have hml : (msgB m).length = (partB (hasK m.kind 1) (varB m.pos.toNat)).length + (partB (hasK m.kind 2) (varB m.count.toNat)).length + (partB (hasK m.kind 4) ([UInt8.ofNat m.state.toNat])).length + (partB (hasK m.kind 8) (setB m.streams)).length + (partB (hasK m.kind 16) (linksB m.pos m.links)).length + (partB (blockK m.kind m.state) (blockB m.data)).length + (partB (hasK m.kind 64) (sealB m.sea)).length + (partB (hasK m.kind 128) (projB m.proj)).length := by simp only [msgB, List.length_append]
  rw [hml] at hfit hln
  have hmb : msgB m = partB (hasK m.kind 1) (varB m.pos.toNat) ++ partB (hasK m.kind 2) (varB m.count.toNat) ++ partB (hasK m.kind 4) ([UInt8.ofNat m.state.toNat]) ++ partB (hasK m.kind 8) (setB m.streams) ++ partB (hasK m.kind 16) (linksB m.pos m.links) ++ partB (blockK m.kind m.state) (blockB m.data) ++ partB (hasK m.kind 64) (sealB m.sea) ++ partB (hasK m.kind 128) (projB m.proj) := rfl
  have HRT := hid (fun (W : World) (hW : Below w.heap.size w W) => body_right m a1 c1 a2 c2 a3 c3 a4 c4 W (MsgIn.lift (MsgIn.low hd) hW) (fun x hx => by have := hbk x hx; omega))
  rw [hR] at HRT
  have HHD := hid (fun (W : World) => body_hasdata m a1 c1 a2 c2 a3 c3 a4 c4 W)
  have HM := hid (msgR_parts hR)
  have HBK := hid hbk
  have HP := hid h
  have HD := hid hd
  have HLT := hid (fun q (hq : PenF g a q) => (h.own_lt hq).2)
  have hdl := HM.out.data
  clear h hd hR hbk hml
  go_enter Tryz.func16, Tryz.ntmps16
  go_wp2_with fail
  refine (HRT.out _ (by (repeat (first | with_reducible exact Below.refl _ _ | with_reducible assumption | (with_reducible refine below_alloc ?_ _) | (with_reducible refine Below.setCell ?_ (by first | omega | (simp; done) | (simp; omega)) _) | (with_reducible refine Below.drew ?_) | (with_reducible refine below_drewN ?_ _) | (refine below_then (by with_reducible assumption) ?_))))).mono ?_
  rintro r w1 ⟨rfl, hb1⟩
  have hbw1 : Below w.heap.size w w1 := by (repeat (first | with_reducible exact Below.refl _ _ | with_reducible assumption | (with_reducible refine below_alloc ?_ _) | (with_reducible refine Below.setCell ?_ (by first | omega | (simp; done) | (simp; omega)) _) | (with_reducible refine Below.drew ?_) | (with_reducible refine below_drewN ?_ _) | (refine below_then (by with_reducible assumption) ?_)))
  have hI1 : PutI w1 g base most J a c w.heap.size (w.heap.size + 1) m a1 c1 a2 c2 a3 c3 a4 c4 := ⟨HP.out.later hbw1, Blk.later ((Blk.newAt w 38 #[.pointer (some ⟨g, 0, none⟩)] rfl).alloc _) hb1, Blk.later (Blk.newAt _ 32 #[.int .i64 m.kind, .int .u64 m.epoch, .int .u64 m.seq, .int .u64 m.pos, .int .i64 m.count, .int .i64 m.state, .slice a1 m.streams.length c1, .slice a2 m.links.length c2, .slice a3 m.data.length c3, .int .u64 m.sea.epoch, .int .u64 m.sea.node, .int .u64 m.sea.tail, .int .u64 m.proj.epoch, .slice a4 m.proj.stripes.length c4] (by simp)) hb1, fun hf => by have := HLT.out _ hf; omega, fun hf => by have := HLT.out _ hf; omega, MsgIn.tr (fun A cs x hx => pen_later hbw1 hx) HD.out⟩
  have HBW1 := hid hbw1
  clear hb1 hbw1
  have q1_0 : w1.cell? ⟨w.heap.size, 0, none⟩ = some (.pointer (some ⟨g, 0, none⟩)) := hI1.pa.cell 0
  have HC1 := hid (put_has1 hI1 (varB m.pos.toNat) (fun hh W hW => put_pos (hI1.later hW) (HM.out.pos hh) (by (try simp only [List.length_append]); have := partB_true (X := (varB m.pos.toNat)) hh; omega) (by (try simp only [List.length_append]); have := partB_true (X := (varB m.pos.toNat)) hh; omega)))
  have HI1 := hid hI1
  clear hI1
  go_wp2_with fail
  refine HC1.out.mono ?_
  rintro r w2 ⟨rfl, hst⟩
  obtain ⟨a2', c2', hI2, ht, ha⟩ := HI1.out.step hst
  have HT1 := hid (And.intro ht ha)
  clear hst ht ha
  have q2_0 : w2.cell? ⟨w.heap.size, 0, none⟩ = some (.pointer (some ⟨g, 0, none⟩)) := hI2.pa.cell 0
  have HC2 := hid (put_has2 hI2 (varB m.count.toNat) (fun hh W hW => put_count (hI2.later hW) (HM.out.count hh) (by (try simp only [List.length_append]); have := partB_true (X := (varB m.count.toNat)) hh; omega) (by (try simp only [List.length_append]); have := partB_true (X := (varB m.count.toNat)) hh; omega)))
  have HI2 := hid hI2
  clear hI2
  go_wp2_with fail
  refine HC2.out.mono ?_
  rintro r w3 ⟨rfl, hst⟩
  obtain ⟨a3', c3', hI3, ht, ha⟩ := HI2.out.step hst
  have HT2 := hid (And.intro ht ha)
  clear hst ht ha
  have q3_0 : w3.cell? ⟨w.heap.size, 0, none⟩ = some (.pointer (some ⟨g, 0, none⟩)) := hI3.pa.cell 0
  have HC3 := hid (put_has4 hI3 ([UInt8.ofNat m.state.toNat]) (fun hh W hW => put_state (hI3.later hW) (by have := HM.out.state hh; have := mostK_le m.kind; omega) (by (try simp only [List.length_append]); have := partB_true (X := ([UInt8.ofNat m.state.toNat])) hh; omega) (by (try simp only [List.length_append]); have := partB_true (X := ([UInt8.ofNat m.state.toNat])) hh; omega)))
  have HI3 := hid hI3
  clear hI3
  go_wp2_with fail
  refine HC3.out.mono ?_
  rintro r w4 ⟨rfl, hst⟩
  obtain ⟨a4', c4', hI4, ht, ha⟩ := HI3.out.step hst
  have HT3 := hid (And.intro ht ha)
  clear hst ht ha
  have q4_0 : w4.cell? ⟨w.heap.size, 0, none⟩ = some (.pointer (some ⟨g, 0, none⟩)) := hI4.pa.cell 0
  have HC4 := hid (put_has8 hI4 (setB m.streams) (fun hh W hW => put_streams (hI4.later hW) (HM.out.streams hh) (by (try simp only [List.length_append]); have := partB_true (X := (setB m.streams)) hh; omega) (by (try simp only [List.length_append]); have := partB_true (X := (setB m.streams)) hh; omega)))
  have HI4 := hid hI4
  clear hI4
  go_wp2_with fail
  refine HC4.out.mono ?_
  rintro r w5 ⟨rfl, hst⟩
  obtain ⟨a5', c5', hI5, ht, ha⟩ := HI4.out.step hst
  have HT4 := hid (And.intro ht ha)
  clear hst ht ha
  have q5_0 : w5.cell? ⟨w.heap.size, 0, none⟩ = some (.pointer (some ⟨g, 0, none⟩)) := hI5.pa.cell 0
  have HC5 := hid (put_has16 hI5 (linksB m.pos m.links) (fun hh W hW => put_links (hI5.later hW) HBK.out (HM.out.links hh) (by (try simp only [List.length_append]); have := partB_true (X := (linksB m.pos m.links)) hh; omega) (by (try simp only [List.length_append]); have := partB_true (X := (linksB m.pos m.links)) hh; omega)))
  have HI5 := hid hI5
  clear hI5
  go_wp2_with fail
  refine HC5.out.mono ?_
  rintro r w6 ⟨rfl, hst⟩
  obtain ⟨a6', c6', hI6, ht, ha⟩ := HI5.out.step hst
  have HT5 := hid (And.intro ht ha)
  clear hst ht ha
  have q6_0 : w6.cell? ⟨w.heap.size, 0, none⟩ = some (.pointer (some ⟨g, 0, none⟩)) := hI6.pa.cell 0
  have z6_0 : w6.cell? ⟨w.heap.size + 1, 0, none⟩ = some (.int .i64 m.kind) := hI6.pb.cell 0
  have z6_1 : w6.cell? ⟨w.heap.size + 1, 1, none⟩ = some (.int .u64 m.epoch) := hI6.pb.cell 1
  have z6_2 : w6.cell? ⟨w.heap.size + 1, 2, none⟩ = some (.int .u64 m.seq) := hI6.pb.cell 2
  have z6_3 : w6.cell? ⟨w.heap.size + 1, 3, none⟩ = some (.int .u64 m.pos) := hI6.pb.cell 3
  have z6_4 : w6.cell? ⟨w.heap.size + 1, 4, none⟩ = some (.int .i64 m.count) := hI6.pb.cell 4
  have z6_5 : w6.cell? ⟨w.heap.size + 1, 5, none⟩ = some (.int .i64 m.state) := hI6.pb.cell 5
  have z6_6 : w6.cell? ⟨w.heap.size + 1, 6, none⟩ = some (.slice a1 m.streams.length c1) := hI6.pb.cell 6
  have z6_7 : w6.cell? ⟨w.heap.size + 1, 7, none⟩ = some (.slice a2 m.links.length c2) := hI6.pb.cell 7
  have z6_8 : w6.cell? ⟨w.heap.size + 1, 8, none⟩ = some (.slice a3 m.data.length c3) := hI6.pb.cell 8
  have z6_9 : w6.cell? ⟨w.heap.size + 1, 9, none⟩ = some (.int .u64 m.sea.epoch) := hI6.pb.cell 9
  have z6_10 : w6.cell? ⟨w.heap.size + 1, 10, none⟩ = some (.int .u64 m.sea.node) := hI6.pb.cell 10
  have z6_11 : w6.cell? ⟨w.heap.size + 1, 11, none⟩ = some (.int .u64 m.sea.tail) := hI6.pb.cell 11
  have z6_12 : w6.cell? ⟨w.heap.size + 1, 12, none⟩ = some (.int .u64 m.proj.epoch) := hI6.pb.cell 12
  have z6_13 : w6.cell? ⟨w.heap.size + 1, 13, none⟩ = some (.slice a4 m.proj.stripes.length c4) := hI6.pb.cell 13
  have HI6 := hid hI6
  clear hI6
  go_wp2_with fail
  refine (HHD.out _).mono ?_
  rintro r v6 ⟨rfl, hb6⟩
  have hJ6 := HI6.out.later hb6
  clear z6_0 z6_1 z6_2 z6_3 z6_4 z6_5 z6_6 z6_7 z6_8 z6_9 z6_10 z6_11 z6_12 z6_13
  have u6_0 : v6.cell? ⟨w.heap.size, 0, none⟩ = some (.pointer (some ⟨g, 0, none⟩)) := hJ6.pa.cell 0
  have u6_8 : v6.cell? ⟨w.heap.size + 1, 8, none⟩ = some (.slice a3 m.data.length c3) := hJ6.pb.cell 8
  have HK6 : Hid (blockK m.kind m.state = true → Calls Tryz.prog 74 #[.pointer (some ⟨g, 0, none⟩), .slice a3 m.data.length c3] v6 fun r w' => r = .returned (.tuple #[]) ∧ PenStep v6 g base most (J ++ partB (hasK m.kind 1) (varB m.pos.toNat) ++ partB (hasK m.kind 2) (varB m.count.toNat) ++ partB (hasK m.kind 4) ([UInt8.ofNat m.state.toNat]) ++ partB (hasK m.kind 8) (setB m.streams) ++ partB (hasK m.kind 16) (linksB m.pos m.links) ++ blockB m.data) a6' w') := hid (fun hh => block_put v6 hJ6.pen m.data a3 _ c3 hJ6.data.data hdl (by (try simp only [List.length_append]); have := partB_true (X := (blockB m.data)) hh; omega) (by (try simp only [List.length_append]); have := partB_true (X := (blockB m.data)) hh; omega))
  have HJ6 := hid hJ6
  have HB6 := hid hb6
  clear hJ6 hb6
  go_upto_if 27 with (fail)
  go_cut [27] from 28 to 31 (fun s27 V => ∃ a' c', PutI V g base most (J ++ partB (hasK m.kind 1) (varB m.pos.toNat) ++ partB (hasK m.kind 2) (varB m.count.toNat) ++ partB (hasK m.kind 4) ([UInt8.ofNat m.state.toNat]) ++ partB (hasK m.kind 8) (setB m.streams) ++ partB (hasK m.kind 16) (linksB m.pos m.links) ++ partB (blockK m.kind m.state) (blockB m.data)) a' c' w.heap.size (w.heap.size + 1) m a1 c1 a2 c2 a3 c3 a4 c4 ∧ Tch (PenF g a6') v6 V ∧ (a'.map Addr.block = a6'.map Addr.block ∨ ∃ q, a'.map Addr.block = some q ∧ v6.heap.size ≤ q))
  case first =>
    have HK := HK6.out
    have hq : blockK m.kind m.state = true ∨ blockK m.kind m.state = false := by cases blockK m.kind m.state <;> simp
    rcases hq with hq | hq
    · have HKK := hid (HK hq)
      clear HK
      rw [hq]
      go_wp2_with fail
      refine HKK.out.mono ?_
      rintro r x1 ⟨rfl, hst⟩
      obtain ⟨a', c', hI, ht, ha⟩ := HJ6.out.step hst
      go_wp2_with fail
      go_meet
      case rel => exact ⟨a', c', by simpa [partB, hq] using hI, ht, ha⟩
    · clear HK
      rw [hq]
      go_wp2_with fail
      go_meet
      case rel => exact ⟨a6', c6', by simpa [partB, hq] using HJ6.out, Tch.refl _ _, .inl rfl⟩
  case rest =>
  obtain ⟨a7', c7', hI7, ht, ha⟩ := hcut
  obtain ⟨w7, hwn⟩ : ∃ W : World, W = wc := ⟨_, rfl⟩
  subst hwn
  have HT6 := hid (And.intro ht ha)
  clear ht ha
  have q7_0 : w7.cell? ⟨w.heap.size, 0, none⟩ = some (.pointer (some ⟨g, 0, none⟩)) := hI7.pa.cell 0
  have HC7 := hid (put_has64 hI7 (sealB m.sea) (fun hh W hW => put_seal (hI7.later hW) (HM.out.seal_ hh) (by (try simp only [List.length_append]); have := partB_true (X := (sealB m.sea)) hh; omega) (by (try simp only [List.length_append]); have := partB_true (X := (sealB m.sea)) hh; omega)))
  have HI7 := hid hI7
  clear hI7
  go_wp2_with fail
  refine HC7.out.mono ?_
  rintro r w8 ⟨rfl, hst⟩
  obtain ⟨a8', c8', hI8, ht, ha⟩ := HI7.out.step hst
  have HT7 := hid (And.intro ht ha)
  clear hst ht ha
  have q8_0 : w8.cell? ⟨w.heap.size, 0, none⟩ = some (.pointer (some ⟨g, 0, none⟩)) := hI8.pa.cell 0
  have HC8 := hid (put_has128 hI8 (projB m.proj) (fun hh W hW => put_proj (hI8.later hW) (HM.out.proj hh) (by (try simp only [List.length_append]); have := partB_true (X := (projB m.proj)) hh; omega) (by (try simp only [List.length_append]); have := partB_true (X := (projB m.proj)) hh; omega)))
  have HI8 := hid hI8
  clear hI8
  go_wp2_with fail
  refine HC8.out.mono ?_
  rintro r w9 ⟨rfl, hst⟩
  obtain ⟨a9', c9', hI9, ht, ha⟩ := HI8.out.step hst
  have HT8 := hid (And.intro ht ha)
  clear hst ht ha
  have hn := PenStep.refl hI9.pen
  have hn := PenStep.trans (J := J) HT8.out.1 HT8.out.2 hn
  have hn := PenStep.trans (J := J) HT7.out.1 HT7.out.2 hn
  have hn := PenStep.trans (J := J) HT6.out.1 HT6.out.2 hn
  have hn := PenStep.later HB6.out hn
  have hn := PenStep.trans (J := J) HT5.out.1 HT5.out.2 hn
  have hn := PenStep.trans (J := J) HT4.out.1 HT4.out.2 hn
  have hn := PenStep.trans (J := J) HT3.out.1 HT3.out.2 hn
  have hn := PenStep.trans (J := J) HT2.out.1 HT2.out.2 hn
  have hn := PenStep.trans (J := J) HT1.out.1 HT1.out.2 hn
  have hn := PenStep.later HBW1.out hn
  have HST := hid hn
  clear hn hI9
  go_wp2_with fail
  first | go_end0 | refine bodyPost_ret (results_none rfl _ _ _) rfl ?_
  refine ⟨rfl, ?_⟩
  have := HST.out
  rw [hmb]
  simpa only [List.append_assoc] using this
end Go.Proofs.YtlbffbkbkajciaaGreat
namespace Go.Proofs.YtlbffbkbkajciaaGreat
open Go.RowKit Go.Bs Go.Maps
set_option linter.unusedVariables false
set_option linter.unusedSimpArgs false

set_option maxRecDepth 100000 in
set_option maxHeartbeats 6400000 in
theorem body_put_bad (w : World) {g base most : Nat} {J : List UInt8} {a : Option Addr} {c : Nat} (h : PenAt w g base most J a c) (m : Msg) (a1 : Option Addr) (c1 : Nat) (a2 : Option Addr) (c2 : Nat) (a3 : Option Addr) (c3 : Nat) (a4 : Option Addr) (c4 : Nat) (hd : MsgIn (· < w.heap.size) w m a1 c1 a2 c2 a3 c3 a4 c4)
    (hbk : ∀ x ∈ m.links, x.backs.length ≤ 1000000) (hR : msgR m = false) :
    Calls Tryz.prog 16 #[.pointer (some ⟨g, 0, none⟩), .agg #[.int .i64 m.kind, .int .u64 m.epoch, .int .u64 m.seq, .int .u64 m.pos, .int .i64 m.count, .int .i64 m.state, .slice a1 m.streams.length c1, .slice a2 m.links.length c2, .slice a3 m.data.length c3, .int .u64 m.sea.epoch, .int .u64 m.sea.node, .int .u64 m.sea.tail, .int .u64 m.proj.epoch, .slice a4 m.proj.stripes.length c4]] w fun r w' => r = .returned (.tuple #[]) ∧ Blk w' g 87 #[.int .i64 most, .slice a J.length c, .int .i64 3] ∧ Tch (· = g) w w' := by
  have HRT := hid (fun (W : World) (hW : Below w.heap.size w W) => body_right m a1 c1 a2 c2 a3 c3 a4 c4 W (MsgIn.lift hd hW) (fun x hx => by have := hbk x hx; omega))
  rw [hR] at HRT
  have HF := hid (fun (W : World) (hW : Below w.heap.size w W) => pen_fail W (h.later hW) 3)
  clear h hd hR hbk
  go_enter Tryz.func16, Tryz.ntmps16
  go_wp2_with fail
  refine (HRT.out _ (by (repeat (first | with_reducible exact Below.refl _ _ | with_reducible assumption | (with_reducible refine below_alloc ?_ _) | (with_reducible refine Below.setCell ?_ (by first | omega | (simp; done) | (simp; omega)) _) | (with_reducible refine Below.drew ?_) | (with_reducible refine below_drewN ?_ _) | (refine below_then (by with_reducible assumption) ?_))))).mono ?_
  rintro r w1 ⟨rfl, hb1⟩
  have hbw1 : Below w.heap.size w w1 := by (repeat (first | with_reducible exact Below.refl _ _ | with_reducible assumption | (with_reducible refine below_alloc ?_ _) | (with_reducible refine Below.setCell ?_ (by first | omega | (simp; done) | (simp; omega)) _) | (with_reducible refine Below.drew ?_) | (with_reducible refine below_drewN ?_ _) | (refine below_then (by with_reducible assumption) ?_)))
  have p0 := hb1.cell (p := ⟨w.heap.size, 0, none⟩) (by simp; omega)
  simp at p0
  clear hb1
  go_wp2_with fail
  refine (HF.out _ hbw1).mono ?_
  rintro r w2 ⟨rfl, hB2, hT2⟩
  have HB2 := hid hB2
  have HT2 := hid hT2
  clear hB2 hT2 p0
  go_wp2_with fail
  first | go_end0 | refine bodyPost_ret (results_none rfl _ _ _) rfl ?_
  exact ⟨rfl, HB2.out, Tch.trans (F := (· = g)) (Tch.of_later hbw1) HT2.out (fun _ _ h => h)⟩

/-- What body.Bytes gives. -/
def msgBytes (m : Msg) : List UInt8 × Int := if msgR m = true then (msgB m, 0) else ([], 3)
set_option maxRecDepth 100000 in
set_option maxHeartbeats 6400000 in
theorem body_bytes (w : World) (m : Msg) (a1 : Option Addr) (c1 : Nat) (a2 : Option Addr) (c2 : Nat) (a3 : Option Addr) (c3 : Nat) (a4 : Option Addr) (c4 : Nat) (hd : MsgIn (· < w.heap.size) w m a1 c1 a2 c2 a3 c3 a4 c4) (hbk : ∀ x ∈ m.links, x.backs.length ≤ 1000000) (hln : m.data.length ≤ 10000000000) :
    Calls Tryz.prog 14 #[.agg #[.int .i64 m.kind, .int .u64 m.epoch, .int .u64 m.seq, .int .u64 m.pos, .int .i64 m.count, .int .i64 m.state, .slice a1 m.streams.length c1, .slice a2 m.links.length c2, .slice a3 m.data.length c3, .int .u64 m.sea.epoch, .int .u64 m.sea.node, .int .u64 m.sea.tail, .int .u64 m.proj.epoch, .slice a4 m.proj.stripes.length c4]] w fun r w' => ∃ v, r = .returned (.tuple #[v, .int .i64 (msgBytes m).2]) ∧ rBytes.r (fun q => w.heap.size ≤ q ∧ q < w'.heap.size) w' [v] (msgBytes m).1 ∧ Below w.heap.size w w' := by
  have HD := hid hd
  have hmo : (65536 : Int) + (m.data.length : Int) = ((65536 + m.data.length : Nat) : Int) := by omega
  have HN := hid (fun W : World => (by have := pen_new W (65536 + m.data.length) (by omega); rw [← hmo] at this; exact this : Calls Tryz.prog 15 #[.int .i64 ((65536 : Int) + (m.data.length : Int))] W fun r w' => r = .returned (.pointer (some ⟨W.heap.size, 0, none⟩)) ∧ PenAt w' W.heap.size W.heap.size (65536 + m.data.length) [] none 0 ∧ Below W.heap.size W w'))
  unfold msgBytes
  have HBX : Hid (Blk (w.alloc (.cells #[.int .i64 m.kind, .int .u64 m.epoch, .int .u64 m.seq, .int .u64 m.pos, .int .i64 m.count, .int .i64 m.state, .slice a1 m.streams.length c1, .slice a2 m.links.length c2, .slice a3 m.data.length c3, .int .u64 m.sea.epoch, .int .u64 m.sea.node, .int .u64 m.sea.tail, .int .u64 m.proj.epoch, .slice a4 m.proj.stripes.length c4] 32)) w.heap.size 32 #[.int .i64 m.kind, .int .u64 m.epoch, .int .u64 m.seq, .int .u64 m.pos, .int .i64 m.count, .int .i64 m.state, .slice a1 m.streams.length c1, .slice a2 m.links.length c2, .slice a3 m.data.length c3, .int .u64 m.sea.epoch, .int .u64 m.sea.node, .int .u64 m.sea.tail, .int .u64 m.proj.epoch, .slice a4 m.proj.stripes.length c4]) := hid (Blk.new w _ _)
  have hb0 : Below w.heap.size w (w.alloc (.cells #[.int .i64 m.kind, .int .u64 m.epoch, .int .u64 m.seq, .int .u64 m.pos, .int .i64 m.count, .int .i64 m.state, .slice a1 m.streams.length c1, .slice a2 m.links.length c2, .slice a3 m.data.length c3, .int .u64 m.sea.epoch, .int .u64 m.sea.node, .int .u64 m.sea.tail, .int .u64 m.proj.epoch, .slice a4 m.proj.stripes.length c4] 32)) := by (repeat (first | exact Below.refl _ _ | assumption | (refine below_alloc ?_ _) | (refine Below.setCell ?_ (by first | omega | (simp; done) | (simp; omega)) _) | (refine Below.drew ?_) | (refine below_drewN ?_ _) | (refine below_then (by assumption) ?_)))
  cases hR : msgR m
  · rw [if_neg (by simp)]
    have HPT := hid (fun (W : World) {g base most : Nat} {a : Option Addr} {c : Nat} (h : PenAt W g base most [] a c) (hW : Below w.heap.size w W) => body_put_bad W h m a1 c1 a2 c2 a3 c3 a4 c4 (MsgIn.lift HD.out hW) hbk hR)
    clear hd hR hbk hmo
    go_enter Tryz.func14, Tryz.ntmps14
    go_wp2_with fail
    generalize w.alloc (.cells #[.int .i64 m.kind, .int .u64 m.epoch, .int .u64 m.seq, .int .u64 m.pos, .int .i64 m.count, .int .i64 m.state, .slice a1 m.streams.length c1, .slice a2 m.links.length c2, .slice a3 m.data.length c3, .int .u64 m.sea.epoch, .int .u64 m.sea.node, .int .u64 m.sea.tail, .int .u64 m.proj.epoch, .slice a4 m.proj.stripes.length c4] 32) = w0 at *
    refine (HN.out _).mono ?_
    rintro r w2 ⟨rfl, hp2, hb2⟩
    have hB2 := HBX.out.later hb2
    have y0 : w2.cell? ⟨w.heap.size, 0, none⟩ = some (.int .i64 m.kind) := hB2.cell 0
    have y1 : w2.cell? ⟨w.heap.size, 1, none⟩ = some (.int .u64 m.epoch) := hB2.cell 1
    have y2 : w2.cell? ⟨w.heap.size, 2, none⟩ = some (.int .u64 m.seq) := hB2.cell 2
    have y3 : w2.cell? ⟨w.heap.size, 3, none⟩ = some (.int .u64 m.pos) := hB2.cell 3
    have y4 : w2.cell? ⟨w.heap.size, 4, none⟩ = some (.int .i64 m.count) := hB2.cell 4
    have y5 : w2.cell? ⟨w.heap.size, 5, none⟩ = some (.int .i64 m.state) := hB2.cell 5
    have y6 : w2.cell? ⟨w.heap.size, 6, none⟩ = some (.slice a1 m.streams.length c1) := hB2.cell 6
    have y7 : w2.cell? ⟨w.heap.size, 7, none⟩ = some (.slice a2 m.links.length c2) := hB2.cell 7
    have y8 : w2.cell? ⟨w.heap.size, 8, none⟩ = some (.slice a3 m.data.length c3) := hB2.cell 8
    have y9 : w2.cell? ⟨w.heap.size, 9, none⟩ = some (.int .u64 m.sea.epoch) := hB2.cell 9
    have y10 : w2.cell? ⟨w.heap.size, 10, none⟩ = some (.int .u64 m.sea.node) := hB2.cell 10
    have y11 : w2.cell? ⟨w.heap.size, 11, none⟩ = some (.int .u64 m.sea.tail) := hB2.cell 11
    have y12 : w2.cell? ⟨w.heap.size, 12, none⟩ = some (.int .u64 m.proj.epoch) := hB2.cell 12
    have y13 : w2.cell? ⟨w.heap.size, 13, none⟩ = some (.slice a4 m.proj.stripes.length c4) := hB2.cell 13
    have hbw2 := below_then hb2 hb0
    have hs1 := hb0.size
    have HP2 := hid (HPT.out w2 hp2 hbw2)
    clear hp2 hB2
    go_wp2_with fail
    refine HP2.out.mono ?_
    rintro r w3 ⟨rfl, hB3, hT3⟩
    have hbw3 : Below w.heap.size w w3 := hbw2.trans (hT3.to_below hbw2.size (fun q _ e => by omega))
    have HB := hid (pen_bytes_bad w3 (k := 3) (by omega) hB3)
    clear hB3 hT3 y0 y1 y2 y3 y4 y5 y6 y7 y8 y9 y10 y11 y12 y13
    go_wp2_with fail
    refine HB.out.mono ?_
    rintro r w4 ⟨rfl, rfl⟩
    go_wp2_with fail
    go_ret2
    exact ⟨_, rfl, empty_bytes2 rfl rfl (by omega), hbw3⟩
  · rw [if_pos rfl]
    have hbl := msgB_len hR
    have HPT := hid (fun (W : World) {g base most : Nat} {a : Option Addr} {c : Nat} (h : PenAt W g base most [] a c) (hW : MsgIn (fun q => q < W.heap.size ∧ ¬ PenF g a q) W m a1 c1 a2 c2 a3 c3 a4 c4) (hf : (msgB m).length ≤ most) => body_put W h m a1 c1 a2 c2 a3 c3 a4 c4 hW hbk hR (by simpa using hf) (by simp; omega))
    have hfit : (msgB m).length ≤ 65536 + m.data.length := by omega
    generalize msgB m = K at *
    clear hd hR hbk hmo hbl
    go_enter Tryz.func14, Tryz.ntmps14
    go_wp2_with fail
    generalize w.alloc (.cells #[.int .i64 m.kind, .int .u64 m.epoch, .int .u64 m.seq, .int .u64 m.pos, .int .i64 m.count, .int .i64 m.state, .slice a1 m.streams.length c1, .slice a2 m.links.length c2, .slice a3 m.data.length c3, .int .u64 m.sea.epoch, .int .u64 m.sea.node, .int .u64 m.sea.tail, .int .u64 m.proj.epoch, .slice a4 m.proj.stripes.length c4] 32) = w0 at *
    refine (HN.out _).mono ?_
    rintro r w2 ⟨rfl, hp2, hb2⟩
    have hB2 := HBX.out.later hb2
    have y0 : w2.cell? ⟨w.heap.size, 0, none⟩ = some (.int .i64 m.kind) := hB2.cell 0
    have y1 : w2.cell? ⟨w.heap.size, 1, none⟩ = some (.int .u64 m.epoch) := hB2.cell 1
    have y2 : w2.cell? ⟨w.heap.size, 2, none⟩ = some (.int .u64 m.seq) := hB2.cell 2
    have y3 : w2.cell? ⟨w.heap.size, 3, none⟩ = some (.int .u64 m.pos) := hB2.cell 3
    have y4 : w2.cell? ⟨w.heap.size, 4, none⟩ = some (.int .i64 m.count) := hB2.cell 4
    have y5 : w2.cell? ⟨w.heap.size, 5, none⟩ = some (.int .i64 m.state) := hB2.cell 5
    have y6 : w2.cell? ⟨w.heap.size, 6, none⟩ = some (.slice a1 m.streams.length c1) := hB2.cell 6
    have y7 : w2.cell? ⟨w.heap.size, 7, none⟩ = some (.slice a2 m.links.length c2) := hB2.cell 7
    have y8 : w2.cell? ⟨w.heap.size, 8, none⟩ = some (.slice a3 m.data.length c3) := hB2.cell 8
    have y9 : w2.cell? ⟨w.heap.size, 9, none⟩ = some (.int .u64 m.sea.epoch) := hB2.cell 9
    have y10 : w2.cell? ⟨w.heap.size, 10, none⟩ = some (.int .u64 m.sea.node) := hB2.cell 10
    have y11 : w2.cell? ⟨w.heap.size, 11, none⟩ = some (.int .u64 m.sea.tail) := hB2.cell 11
    have y12 : w2.cell? ⟨w.heap.size, 12, none⟩ = some (.int .u64 m.proj.epoch) := hB2.cell 12
    have y13 : w2.cell? ⟨w.heap.size, 13, none⟩ = some (.slice a4 m.proj.stripes.length c4) := hB2.cell 13
    have hbw2 := below_then hb2 hb0
    have hs1 := hb0.size
    have HPA := hid hp2
    have HP2 := hid (HPT.out w2 hp2 (MsgIn.tr (fun A cs x hx => A.mono (A.keep hx fun q hq => hbw2.block q hq) fun q hq => ⟨by have := hbw2.size; omega, fun hf => by have := (hp2.own_lt hf).1; omega⟩) HD.out) hfit)
    clear hp2 hB2
    go_wp2_with fail
    refine HP2.out.mono ?_
    rintro r w3 ⟨rfl, hst⟩
    rw [List.nil_append] at hst
    have hbw3 : Below w.heap.size w w3 := hbw2.trans (HPA.out.below hs1 hbw2.size hst)
    obtain ⟨a9, c9, hp3, _, _⟩ := hst
    have HB := hid (pen_bytes w3 hp3)
    have hs3 := hbw3.size
    clear hp3 y0 y1 y2 y3 y4 y5 y6 y7 y8 y9 y10 y11 y12 y13
    go_wp2_with fail
    refine HB.out.mono ?_
    rintro r w4 ⟨v, rfl, hv, hb4⟩
    have hbe := below_then hb4 hbw3
    have HV := hid (rBytes.mono (S' := fun q => w.heap.size ≤ q ∧ q < w4.heap.size) hv fun q hq => ⟨by have := hq.1; omega, hq.2⟩)
    clear hv
    go_wp2_with fail
    go_ret2
    exact ⟨_, rfl, HV.out, hbe⟩
end Go.Proofs.YtlbffbkbkajciaaGreat
namespace Go.Proofs.YtlbffbkbkajciaaGreat
open Go.RowKit Go.Bs
set_option linter.unusedVariables false
set_option linter.unusedSimpArgs false

/-- More than K things, or one of the first K ones is too long. -/
def longG {α : Type} (K : Nat) (p : α → Bool) (l : List α) : Bool := decide (K < l.length) || (l.take K).any p
def longGAt {α : Type} (K : Nat) (p : α → Bool) (l : List α) (k : Nat) : Bool := decide (K < l.length) || ((l.take K).drop k).any p
theorem longG_no {α : Type} {K : Nat} {p : α → Bool} {l : List α} (h : longG K p l = false) : l.length ≤ K ∧ ∀ x ∈ l, p x = false := by
  simp only [longG, Bool.or_eq_false_iff, decide_eq_false_iff_not, List.any_eq_false] at h
  obtain ⟨h1, h2⟩ := h
  rw [List.take_of_length_le (by omega)] at h2
  exact ⟨by omega, fun x hx => by simpa using h2 x hx⟩
theorem longGAt_step {α : Type} (K : Nat) (p : α → Bool) (l : List α) (k : Nat) (h : k < l.length) (h2 : k < K) : longGAt K p l k = (p l[k] || longGAt K p l (k + 1)) := by
  unfold longGAt
  have e : (l.take K)[k]'(by simp; omega) = l[k] := by simp
  rw [List.drop_eq_getElem_cons (show k < (l.take K).length by simp; omega), List.any_cons, e]
  cases decide (K < l.length) <;> cases p l[k] <;> simp
theorem longGAt_end {α : Type} (K : Nat) (p : α → Bool) (l : List α) (k : Nat) (h : l.length ≤ k ∨ K ≤ k) : longGAt K p l k = decide (K < l.length) := by
  unfold longGAt
  rw [List.drop_of_length_le (by simp; omega)]
  simp

def long23 (l : List Link) : Bool := longG 50 (fun x => decide (50 < x.backs.length)) l
set_option maxRecDepth 100000 in
set_option maxHeartbeats 1600000 in
theorem law23_long (l : List Link) (a : Option Addr) (n c : Nat) (w : World) (hl : rLinks.r (· < w.heap.size) w [.slice a n c] l) :
    Calls Tryz.prog 58 #[.slice a n c] w fun r w' => r = .returned (.bool (long23 l)) ∧ Below w.heap.size w w' := by
  obtain ⟨rfl, hm, _, _⟩ := sl_len hl
  have HL := hid hl; clear hl
  go_enter Tryz.func58, Tryz.ntmps58
  go_wp2_with fail
  go_loop [3] (fun i => ∃ k : Nat, k ≤ l.length ∧ k ≤ 50 ∧ i = .int .i64 k ∧ Hid (long23 l = longGAt 50 (fun x => decide (50 < x.backs.length)) l k)) (fun i => l.length - (intOf i).toNat)
  case atStart => exact ⟨0, Nat.zero_le _, Nat.zero_le _, rfl, hid rfl⟩
  case round =>
    obtain ⟨k, hk, hk2, rfl, hf⟩ := hrel
    by_cases hlt : k < l.length
    · by_cases h450 : k < 50
      · obtain ⟨b, o, hA, hbb, a1, c1, X0, X1, _, _⟩ := link_at HL.out hlt
        subst hA
        have hst := hid (longGAt_step 50 (fun x => decide (50 < x.backs.length)) l k hlt h450)
        generalize l[k] = x at *
        generalize x.stream = xs at *
        generalize x.backs.length = n1 at *
        by_cases h3 : 50 < n1
        · have hff : Hid (long23 l = true) := hid (by rw [hf.out, hst.out]; simp [h3])
          have d3 : decide ((50 : Int) < (n1 : Int)) = true := by simp; omega
          clear h3
          go_wp2
          go_ret
          exact ⟨by rw [hff.out]; rfl, by (repeat (first | exact Below.refl _ _ | assumption | (refine below_alloc ?_ _) | (refine Below.setCell ?_ (by first | omega | (simp; done) | (simp; omega)) _) | (refine Below.drew ?_) | (refine below_drewN ?_ _) | (refine below_then (by assumption) ?_)))⟩
        · have hff : Hid (long23 l = longGAt 50 (fun x => decide (50 < x.backs.length)) l (k + 1)) := hid (by rw [hf.out, hst.out]; simp [h3])
          have d3 : decide ((50 : Int) < (n1 : Int)) = false := by simp; omega
          clear h3
          go_wp2
          go_round
          case rel => exact ⟨k + 1, by omega, by omega, by go_num, hff⟩
          case measure => simp [intOf]; omega
      · have hff : Hid (long23 l = decide ((50 : Int) < (l.length : Int))) := hid (by rw [hf.out, longGAt_end _ _ l k (.inr (by omega))]; simp only [decide_eq_decide]; omega)
        go_wp2
        go_ret
        exact ⟨by rw [hff.out]; rfl, by (repeat (first | exact Below.refl _ _ | assumption | (refine below_alloc ?_ _) | (refine Below.setCell ?_ (by first | omega | (simp; done) | (simp; omega)) _) | (refine Below.drew ?_) | (refine below_drewN ?_ _) | (refine below_then (by assumption) ?_)))⟩
    · have hff : Hid (long23 l = decide ((50 : Int) < (l.length : Int))) := hid (by rw [hf.out, longGAt_end _ _ l k (.inl (by omega))]; simp only [decide_eq_decide]; omega)
      go_wp2
      go_ret
      exact ⟨by rw [hff.out]; rfl, by (repeat (first | exact Below.refl _ _ | assumption | (refine below_alloc ?_ _) | (refine Below.setCell ?_ (by first | omega | (simp; done) | (simp; omega)) _) | (refine Below.drew ?_) | (refine below_drewN ?_ _) | (refine below_then (by assumption) ?_)))⟩

end Go.Proofs.YtlbffbkbkajciaaGreat
namespace Go.Proofs.YtlbffbkbkajciaaGreat
open Go.RowKit Go.Bs Go.Maps
set_option linter.unusedVariables false
set_option linter.unusedSimpArgs false

def long19 (l : List (List Int)) : Bool := longG 20 (fun x => decide (20 < x.length)) l
def long20 (l : List Stripe) : Bool := longG 70 (fun x => long19 x.sets) l
def long28 (m : Msg) : Bool := decide (50 < m.streams.length) || (long23 m.links || (decide (300 < m.data.length) || long20 m.proj.stripes))
structure Short (m : Msg) : Prop where
  streams : m.streams.length ≤ 50
  links : m.links.length ≤ 50
  backs : ∀ x ∈ m.links, x.backs.length ≤ 50
  data : m.data.length ≤ 300
  stripes : m.proj.stripes.length ≤ 70
  sets : ∀ s ∈ m.proj.stripes, s.sets.length ≤ 20 ∧ ∀ x ∈ s.sets, x.length ≤ 20
theorem long28_no {m : Msg} (h : long28 m = false) : Short m := by
  simp only [long28, Bool.or_eq_false_iff, decide_eq_false_iff_not] at h
  obtain ⟨h1, h2, h3, h4⟩ := h
  obtain ⟨l1, l2⟩ := longG_no h2
  obtain ⟨s1, s2⟩ := longG_no h4
  refine ⟨by omega, l1, fun x hx => by have := l2 x hx; simp only [decide_eq_false_iff_not] at this; omega, by omega, s1, fun s hs => ?_⟩
  obtain ⟨t1, t2⟩ := longG_no (s2 s hs)
  exact ⟨t1, fun x hx => by have := t2 x hx; simp only [decide_eq_false_iff_not] at this; omega⟩

set_option maxRecDepth 100000 in
set_option maxHeartbeats 3200000 in
theorem law19_long (lo hp : Int) (l : List (List Int)) (a : Option Addr) (n c : Nat) (w : World) (hl : rSets.r (· < w.heap.size) w [.slice a n c] l) :
    Calls Tryz.prog 144 #[.agg #[.int .u64 lo, .int .u64 hp, .slice a n c]] w fun r w' => r = .returned (.bool (long19 l)) ∧ Below w.heap.size w w' := by
  obtain ⟨rfl, hm, _, _⟩ := sl_len hl
  have hb0 : Below w.heap.size w (w.alloc (.cells #[.int .u64 lo, .int .u64 hp, .slice a l.length c] 155)) := by (repeat (first | exact Below.refl _ _ | assumption | (refine below_alloc ?_ _) | (refine Below.setCell ?_ (by first | omega | (simp; done) | (simp; omega)) _) | (refine Below.drew ?_) | (refine below_drewN ?_ _) | (refine below_then (by assumption) ?_)))
  have x2 : (w.alloc (.cells #[.int .u64 lo, .int .u64 hp, .slice a l.length c] 155)).cell? ⟨w.heap.size, 2, none⟩ = some (.slice a l.length c) := by simp
  go_enter Tryz.func144, Tryz.ntmps144
  go_wp2_with fail
  generalize w.alloc (.cells #[.int .u64 lo, .int .u64 hp, .slice a l.length c] 155) = w0 at *
  have HL := hid (lift hl hb0)
  clear hl
  go_loop [3] (fun i => ∃ k : Nat, k ≤ l.length ∧ k ≤ 20 ∧ i = .int .i64 k ∧ Hid (long19 l = longGAt 20 (fun x => decide (20 < x.length)) l k)) (fun i => l.length - (intOf i).toNat)
  case atStart => exact ⟨0, Nat.zero_le _, Nat.zero_le _, rfl, hid rfl⟩
  case round =>
    obtain ⟨k, hk, hk2, rfl, hf⟩ := hrel
    by_cases hlt : k < l.length
    · have i1 : (k : Int) < (l.length : Int) := by omega
      have e1 : decide ((k : Int) < (l.length : Int)) = true := decide_eq_true i1
      by_cases h20 : k < 20
      · have e2 : decide ((k : Int) < 20) = true := decide_eq_true (by omega)
        obtain ⟨b, o, hA, hbb, ak, ck, X0, _⟩ := set_at HL.out hlt
        subst hA
        have hst := hid (longGAt_step 20 (fun x => decide (20 < x.length)) l k hlt h20)
        generalize l[k] = x at *
        generalize x.length = n1 at *
        by_cases h3 : 20 < n1
        · have hff : Hid (long19 l = true) := hid (by rw [hf.out, hst.out]; simp [h3])
          have d3 : decide ((20 : Int) < (n1 : Int)) = true := decide_eq_true (by omega)
          clear h3
          go_wp2_with fail
          go_ret
          exact ⟨by rw [hff.out]; rfl, hb0⟩
        · have hff : Hid (long19 l = longGAt 20 (fun x => decide (20 < x.length)) l (k + 1)) := hid (by rw [hf.out, hst.out]; simp [h3])
          have d3 : decide ((20 : Int) < (n1 : Int)) = false := decide_eq_false (by omega)
          clear h3
          go_wp2_with fail
          go_round
          case rel => exact ⟨k + 1, by omega, by omega, by go_num, hff⟩
          case measure => (simp [intOf]; try omega)
      · have e2 : decide ((k : Int) < 20) = false := decide_eq_false (by omega)
        have hff : Hid (long19 l = decide ((20 : Int) < (l.length : Int))) := hid (by rw [hf.out, longGAt_end _ _ l k (.inr (by omega))]; simp only [decide_eq_decide]; omega)
        go_wp2_with fail
        go_ret
        exact ⟨by rw [hff.out]; rfl, hb0⟩
    · have e1 : decide ((k : Int) < (l.length : Int)) = false := decide_eq_false (by omega)
      have hff : Hid (long19 l = decide ((20 : Int) < (l.length : Int))) := hid (by rw [hf.out, longGAt_end _ _ l k (.inl (by omega))]; simp only [decide_eq_decide]; omega)
      go_wp2_with fail
      go_ret
      exact ⟨by rw [hff.out]; rfl, hb0⟩

set_option maxRecDepth 100000 in
set_option maxHeartbeats 3200000 in
theorem law20_long (ep : Int) (l : List Stripe) (a : Option Addr) (n c : Nat) (w : World) (hl : rStripes.r (· < w.heap.size) w [.slice a n c] l) :
    Calls Tryz.prog 59 #[.agg #[.int .u64 ep, .slice a n c]] w fun r w' => r = .returned (.bool (long20 l)) ∧ Below w.heap.size w w' := by
  obtain ⟨rfl, hm, _, _⟩ := sl_len hl
  have hb0 : Below w.heap.size w (w.alloc (.cells #[.int .u64 ep, .slice a l.length c] 30)) := by (repeat (first | exact Below.refl _ _ | assumption | (refine below_alloc ?_ _) | (refine Below.setCell ?_ (by first | omega | (simp; done) | (simp; omega)) _) | (refine Below.drew ?_) | (refine below_drewN ?_ _) | (refine below_then (by assumption) ?_)))
  have x1 : (w.alloc (.cells #[.int .u64 ep, .slice a l.length c] 30)).cell? ⟨w.heap.size, 1, none⟩ = some (.slice a l.length c) := by simp
  have hs0 : w.heap.size < (w.alloc (.cells #[.int .u64 ep, .slice a l.length c] 30)).heap.size := by simp
  go_enter Tryz.func59, Tryz.ntmps59
  go_wp2_with fail
  generalize w.alloc (.cells #[.int .u64 ep, .slice a l.length c] 30) = w0 at *
  have HL := hid (lift hl hb0)
  have HB0 := hid hb0
  clear hl hb0
  go_loopw [3] (fun i wr => ∃ k : Nat, k ≤ l.length ∧ k ≤ 70 ∧ i = .int .i64 k ∧ Hid (long20 l = longGAt 70 (fun x => long19 x.sets) l k) ∧ Below w0.heap.size w0 wr) (fun i _ => l.length - (intOf i).toNat)
  case atStart => exact ⟨0, Nat.zero_le _, Nat.zero_le _, rfl, hid rfl, Below.refl _ _⟩
  case round =>
    obtain ⟨k, hk, hk2, rfl, hf, hb⟩ := hrel
    have X1 := (hb.cell (p := ⟨w.heap.size, 1, none⟩) hs0).trans x1
    have HBE := hid (HB0.out.trans (hb.mono HB0.out.size))
    by_cases hlt : k < l.length
    · have i1 : (k : Int) < (l.length : Int) := by omega
      have e1 : decide ((k : Int) < (l.length : Int)) = true := decide_eq_true i1
      by_cases h20 : k < 70
      · have e2 : decide ((k : Int) < 70) = true := decide_eq_true (by omega)
        obtain ⟨b, o, hA, hbb, ak, ck, u0, u1, u2, _, _, xl⟩ := stripe_at (lift HL.out hb) hlt
        subst hA
        have hst := hid (longGAt_step 70 (fun x => long19 x.sets) l k hlt h20)
        have HC := hid (law19_long l[k].lo l[k].hi l[k].sets ak _ ck wr xl)
        have HB := hid hb
        clear xl hb
        generalize l[k] = x at *
        (try dsimp only at hst)
        cases h3 : long19 x.sets
        · have hff : Hid (long20 l = longGAt 70 (fun x => long19 x.sets) l (k + 1)) := hid (by rw [hf.out, hst.out, h3]; simp)
          rw [h3] at HC
          clear h3
          go_wp2_with fail
          refine HC.out.mono ?_
          rintro r w3 ⟨rfl, hb3⟩
          have hbe := below_then hb3 HB.out
          go_wp2_with fail
          go_roundw
          case rel => exact ⟨k + 1, by omega, by omega, by go_num, hff, hbe⟩
          case measure => (simp [intOf]; try omega)
        · have hff : Hid (long20 l = true) := hid (by rw [hf.out, hst.out, h3]; rfl)
          rw [h3] at HC
          clear h3
          go_wp2_with fail
          refine HC.out.mono ?_
          rintro r w3 ⟨rfl, hb3⟩
          have hbe := below_then hb3 HBE.out
          go_wp2_with fail
          go_ret
          exact ⟨by rw [hff.out]; rfl, hbe⟩
      · have e2 : decide ((k : Int) < 70) = false := decide_eq_false (by omega)
        have hff : Hid (long20 l = decide ((70 : Int) < (l.length : Int))) := hid (by rw [hf.out, longGAt_end _ _ l k (.inr (by omega))]; simp only [decide_eq_decide]; omega)
        clear hb
        go_wp2_with fail
        go_ret
        exact ⟨by rw [hff.out]; rfl, HBE.out⟩
    · have e1 : decide ((k : Int) < (l.length : Int)) = false := decide_eq_false (by omega)
      have hff : Hid (long20 l = decide ((70 : Int) < (l.length : Int))) := hid (by rw [hf.out, longGAt_end _ _ l k (.inl (by omega))]; simp only [decide_eq_decide]; omega)
      clear hb
      go_wp2_with fail
      go_ret
      exact ⟨by rw [hff.out]; rfl, HBE.out⟩

set_option maxRecDepth 100000 in
set_option maxHeartbeats 3200000 in
theorem law28_long (m : Msg) (a1 : Option Addr) (c1 : Nat) (a2 : Option Addr) (c2 : Nat) (a3 : Option Addr) (c3 : Nat) (a4 : Option Addr) (c4 : Nat) (w : World) (hm : MsgIn (· < w.heap.size) w m a1 c1 a2 c2 a3 c3 a4 c4) :
    Calls Tryz.prog 12 #[.agg #[.int .i64 m.kind, .int .u64 m.epoch, .int .u64 m.seq, .int .u64 m.pos, .int .i64 m.count, .int .i64 m.state, .slice a1 m.streams.length c1, .slice a2 m.links.length c2, .slice a3 m.data.length c3, .int .u64 m.sea.epoch, .int .u64 m.sea.node, .int .u64 m.sea.tail, .int .u64 m.proj.epoch, .slice a4 m.proj.stripes.length c4]] w fun r w' => r = .returned (.bool (long28 m)) ∧ Below w.heap.size w w' := by
  have H23 := hid (fun (W : World) (hW : Below w.heap.size w W) => law23_long m.links a2 _ c2 W (lift hm.links hW))
  have H20 := hid (fun (W : World) (hW : Below w.heap.size w W) => law20_long m.proj.epoch m.proj.stripes a4 _ c4 W (lift hm.stripes hW))
  have hl : long28 m = (decide (50 < m.streams.length) || (long23 m.links || (decide (300 < m.data.length) || long20 m.proj.stripes))) := rfl
  have HBX : Hid (Blk (w.alloc (.cells #[.int .i64 m.kind, .int .u64 m.epoch, .int .u64 m.seq, .int .u64 m.pos, .int .i64 m.count, .int .i64 m.state, .slice a1 m.streams.length c1, .slice a2 m.links.length c2, .slice a3 m.data.length c3, .int .u64 m.sea.epoch, .int .u64 m.sea.node, .int .u64 m.sea.tail, .int .u64 m.proj.epoch, .slice a4 m.proj.stripes.length c4] 32)) w.heap.size 32 #[.int .i64 m.kind, .int .u64 m.epoch, .int .u64 m.seq, .int .u64 m.pos, .int .i64 m.count, .int .i64 m.state, .slice a1 m.streams.length c1, .slice a2 m.links.length c2, .slice a3 m.data.length c3, .int .u64 m.sea.epoch, .int .u64 m.sea.node, .int .u64 m.sea.tail, .int .u64 m.proj.epoch, .slice a4 m.proj.stripes.length c4]) := hid (Blk.new w _ _)
  have hb0 : Below w.heap.size w (w.alloc (.cells #[.int .i64 m.kind, .int .u64 m.epoch, .int .u64 m.seq, .int .u64 m.pos, .int .i64 m.count, .int .i64 m.state, .slice a1 m.streams.length c1, .slice a2 m.links.length c2, .slice a3 m.data.length c3, .int .u64 m.sea.epoch, .int .u64 m.sea.node, .int .u64 m.sea.tail, .int .u64 m.proj.epoch, .slice a4 m.proj.stripes.length c4] 32)) := by (repeat (first | exact Below.refl _ _ | assumption | (refine below_alloc ?_ _) | (refine Below.setCell ?_ (by first | omega | (simp; done) | (simp; omega)) _) | (refine Below.drew ?_) | (refine below_drewN ?_ _) | (refine below_then (by assumption) ?_)))
  generalize long28 m = L at *
  clear hm
  by_cases h1 : 50 < m.streams.length
  · have d1 : decide ((50 : Int) < (m.streams.length : Int)) = true := decide_eq_true (by omega)
    have hff : Hid (L = true) := hid (by rw [hl, decide_eq_true h1]; rfl)
    clear hl h1
    go_enter Tryz.func12, Tryz.ntmps12
    go_wp2_with fail
    go_ret
    exact ⟨by rw [hff.out]; rfl, hb0⟩
  · have d1 : decide ((50 : Int) < (m.streams.length : Int)) = false := decide_eq_false (by omega)
    rw [decide_eq_false h1, Bool.false_or] at hl
    clear h1
    go_enter Tryz.func12, Tryz.ntmps12
    go_wp2_with fail
    generalize w.alloc (.cells #[.int .i64 m.kind, .int .u64 m.epoch, .int .u64 m.seq, .int .u64 m.pos, .int .i64 m.count, .int .i64 m.state, .slice a1 m.streams.length c1, .slice a2 m.links.length c2, .slice a3 m.data.length c3, .int .u64 m.sea.epoch, .int .u64 m.sea.node, .int .u64 m.sea.tail, .int .u64 m.proj.epoch, .slice a4 m.proj.stripes.length c4] 32) = w0 at *
    refine (H23.out _ hb0).mono ?_
    rintro r w1 ⟨rfl, hb1⟩
    have hb01 := below_then hb1 hb0
    cases h2 : long23 m.links
    · have X1 := hid (HBX.out.later hb1)
      have y8 : w1.cell? ⟨w.heap.size, 8, none⟩ = some (.slice a3 m.data.length c3) := X1.out.cell 8
      have y12 : w1.cell? ⟨w.heap.size, 12, none⟩ = some (.int .u64 m.proj.epoch) := X1.out.cell 12
      have y13 : w1.cell? ⟨w.heap.size, 13, none⟩ = some (.slice a4 m.proj.stripes.length c4) := X1.out.cell 13
      rw [h2, Bool.false_or] at hl
      clear h2
      by_cases h3 : 300 < m.data.length
      · have d3 : decide ((300 : Int) < (m.data.length : Int)) = true := decide_eq_true (by omega)
        have hff : Hid (L = true) := hid (by rw [hl, decide_eq_true h3]; rfl)
        clear hl h3
        go_wp2_with fail
        go_ret
        exact ⟨by rw [hff.out]; rfl, hb01⟩
      · have d3 : decide ((300 : Int) < (m.data.length : Int)) = false := decide_eq_false (by omega)
        have hff : Hid (L = long20 m.proj.stripes) := hid (by rw [hl, decide_eq_false h3]; rfl)
        clear hl h3
        go_wp2_with fail
        refine (H20.out _ hb01).mono ?_
        rintro r w2 ⟨rfl, hb2⟩
        have hbe := below_then hb2 hb01
        go_wp2_with fail
        go_ret
        exact ⟨by rw [hff.out]; rfl, hbe⟩
    · have hff : Hid (L = true) := hid (by rw [hl, h2]; rfl)
      clear hl h2
      go_wp2_with fail
      go_ret
      exact ⟨by rw [hff.out]; rfl, hb01⟩

theorem msgIn_bare {S : Nat → Prop} {w : World} {m : Msg} (hk : inI m.kind) (he : inU m.epoch) (hs : inU m.seq) (hp : inU m.pos) (hc : inI m.count) (ht : inI m.state) (h1 : m.streams = []) (h2 : m.links = []) (h3 : m.data = []) (h4 : inU m.sea.epoch ∧ inU m.sea.node ∧ inU m.sea.tail) (h5 : inU m.proj.epoch) (h6 : m.proj.stripes = []) : MsgIn S w m none 0 none 0 none 0 none 0 := by
  refine ⟨hk, he, hs, hp, hc, ht, h4.1, h4.2.1, h4.2.2, h5, ?_, ?_, ?_, ?_⟩
  · rw [h1]; exact rSl_mk (xs := []) rfl (Nat.zero_le _) (Nat.zero_le _) (.inl rfl)
  · rw [h2]; exact rSl_mk (xs := []) rfl (Nat.zero_le _) (Nat.zero_le _) (.inl rfl)
  · rw [h3]; exact rSl_mk (xs := []) rfl (Nat.zero_le _) (Nat.zero_le _) (.inl rfl)
  · rw [h6]; exact rSl_mk (xs := []) rfl (Nat.zero_le _) (Nat.zero_le _) (.inl rfl)
def live28A : Msg := ⟨1, 0, 0, 300, 0, 0, [], [], [], ⟨0, 0, 0⟩, ⟨0, []⟩⟩
def live28B : Msg := ⟨9, 0, 0, 0, 0, 2, [], [], [], ⟨0, 0, 0⟩, ⟨0, []⟩⟩
theorem live28A_bytes : msgBytes live28A = ([172, 2], 0) := by decide +kernel
theorem live28B_bytes : msgBytes live28B = ([2], 0) := by decide +kernel
set_option maxRecDepth 100000 in
set_option maxHeartbeats 3200000 in
theorem live28 (w : World) : Calls Tryz.prog 13 #[] w fun r w' => r = .returned (.bool true) ∧ Below w.heap.size w w' := by
  have HA := hid (fun W : World => (by
    have := body_bytes W live28A none 0 none 0 none 0 none 0 (msgIn_bare ⟨by decide, by decide⟩ ⟨by decide, by decide⟩ ⟨by decide, by decide⟩ ⟨by decide, by decide⟩ ⟨by decide, by decide⟩ ⟨by decide, by decide⟩ rfl rfl rfl ⟨⟨by decide, by decide⟩, ⟨by decide, by decide⟩, ⟨by decide, by decide⟩⟩ ⟨by decide, by decide⟩ rfl) (fun x hx => by simp [live28A] at hx) (by decide)
    rw [live28A_bytes] at this
    exact this : Calls Tryz.prog 14 #[.agg #[.int .i64 1, .int .u64 0, .int .u64 0, .int .u64 300, .int .i64 0, .int .i64 0, .slice none 0 0, .slice none 0 0, .slice none 0 0, .int .u64 0, .int .u64 0, .int .u64 0, .int .u64 0, .slice none 0 0]] W fun r w' => ∃ v, r = .returned (.tuple #[v, .int .i64 0]) ∧ rBytes.r (fun q => W.heap.size ≤ q ∧ q < w'.heap.size) w' [v] [172, 2] ∧ Below W.heap.size W w'))
  have HB := hid (fun W : World => (by
    have := body_bytes W live28B none 0 none 0 none 0 none 0 (msgIn_bare ⟨by decide, by decide⟩ ⟨by decide, by decide⟩ ⟨by decide, by decide⟩ ⟨by decide, by decide⟩ ⟨by decide, by decide⟩ ⟨by decide, by decide⟩ rfl rfl rfl ⟨⟨by decide, by decide⟩, ⟨by decide, by decide⟩, ⟨by decide, by decide⟩⟩ ⟨by decide, by decide⟩ rfl) (fun x hx => by simp [live28B] at hx) (by decide)
    rw [live28B_bytes] at this
    exact this : Calls Tryz.prog 14 #[.agg #[.int .i64 9, .int .u64 0, .int .u64 0, .int .u64 0, .int .i64 0, .int .i64 2, .slice none 0 0, .slice none 0 0, .slice none 0 0, .int .u64 0, .int .u64 0, .int .u64 0, .int .u64 0, .slice none 0 0]] W fun r w' => ∃ v, r = .returned (.tuple #[v, .int .i64 0]) ∧ rBytes.r (fun q => W.heap.size ≤ q ∧ q < w'.heap.size) w' [v] [2] ∧ Below W.heap.size W w'))
  go_enter Tryz.func13, Tryz.ntmps13
  go_wp2_with fail
  refine (HA.out _).mono ?_
  rintro r w1 ⟨v1, rfl, hr1, hb1⟩
  obtain ⟨e1, d1, hv1, hs1, _⟩ := sl_form hr1
  simp only [List.cons.injEq, and_true] at hv1
  subst hv1
  have HS1 := hid (rBytes.mono hs1 (S' := (· < w1.heap.size)) fun q hq => hq.2)
  have hbw1 : Below w.heap.size w w1 := by (repeat (first | with_reducible exact Below.refl _ _ | with_reducible assumption | (with_reducible refine below_alloc ?_ _) | (with_reducible refine Below.setCell ?_ (by first | omega | (simp; done) | (simp; omega)) _) | (with_reducible refine Below.drew ?_) | (with_reducible refine below_drewN ?_ _) | (refine below_then (by with_reducible assumption) ?_)))
  clear hr1 hs1
  go_wp2_with fail
  refine (HB.out _).mono ?_
  rintro r w2 ⟨v2, rfl, hr2, hb2⟩
  obtain ⟨e2, d2, hv2, hs2, _⟩ := sl_form hr2
  simp only [List.cons.injEq, and_true] at hv2
  subst hv2
  have HS2 := hid (rBytes.mono hs2 (S' := (· < w2.heap.size)) fun q hq => hq.2)
  have HS1b := hid (lift HS1.out hb2)
  have hbw2 := below_then hb2 hbw1
  clear hr2 hs2 hb1 hb2 hbw1
  go_wp2_with fail
  have hsa := same_bytes [172, 2] [172, 2] e1 (some ⟨w2.heap.size, 0, none⟩) _ d1 2 2 (w2.alloc (.cells #[.int .u8 172, .int .u8 2] 5)) (lift HS1b.out (by clear hbw2; (repeat (first | exact Below.refl _ _ | assumption | (refine below_alloc ?_ _) | (refine Below.setCell ?_ (by first | omega | (simp; done) | (simp; omega)) _) | (refine Below.drew ?_) | (refine below_drewN ?_ _) | (refine below_then (by assumption) ?_))))) (lit_bytes (l := [172, 2]) (cs := #[.int .u8 172, .int .u8 2]) rfl (by decide) (World.alloc_heap_new w2 _))
  simp only [decide_true] at hsa
  refine hsa.mono ?_
  rintro r w3 ⟨rfl, rfl⟩
  have hbw3 : Below w.heap.size w (w2.alloc (.cells #[.int .u8 172, .int .u8 2] 5)) := below_alloc hbw2 _
  have HS2b := hid (lift HS2.out (below_alloc (Below.refl _ _) (.cells #[.int .u8 172, .int .u8 2] 5)))
  clear hsa hbw2
  generalize w2.alloc (.cells #[.int .u8 172, .int .u8 2] 5) = w3 at *
  go_wp2_with fail
  have hsb := same_bytes [2] [2] e2 (some ⟨w3.heap.size, 0, none⟩) _ d2 1 1 (w3.alloc (.cells #[.int .u8 2] 5)) (lift HS2b.out (by clear hbw3; (repeat (first | exact Below.refl _ _ | assumption | (refine below_alloc ?_ _) | (refine Below.setCell ?_ (by first | omega | (simp; done) | (simp; omega)) _) | (refine Below.drew ?_) | (refine below_drewN ?_ _) | (refine below_then (by assumption) ?_))))) (lit_bytes (l := [2]) (cs := #[.int .u8 2]) rfl (by decide) (World.alloc_heap_new w3 _))
  simp only [decide_true] at hsb
  refine hsb.mono ?_
  rintro r w4 ⟨rfl, rfl⟩
  have hbw4 : Below w.heap.size w (w3.alloc (.cells #[.int .u8 2] 5)) := below_alloc hbw3 _
  clear hsb
  generalize w3.alloc (.cells #[.int .u8 2] 5) = w4 at *
  go_wp2_with fail
  go_ret
  exact ⟨rfl, hbw4⟩
end Go.Proofs.YtlbffbkbkajciaaGreat
