/- Needed by batchOnce_walk, part 9: texts put together by shake.py; no condition. -/
import Derived.Test.YtkipiefcnjfdjaaGreatP6
import Derived.Test.YtkipiefcnjfdjaaGreatP5
import Derived.Lib.SlBytesConst
import Derived.Deep.RegionHeld3
import Derived.Test.YtkipiefcnjfdjaaGreatP8
import Derived.Test.YtkipiefcnjfdjaaGreatP4
import Derived.Test.YtkipiefcnjfdjaaGreatP3
import Derived.Test.YtkipiefcnjfdjaaGreatP1
namespace Go.Proofs.YtkipiefcnjfdjaaGreat
open Go.RowKit Go.Bs Go.Maps
set_option linter.unusedVariables false
set_option linter.unusedSimpArgs false

theorem headsB_len (l : List Entry) (p : Int) (hR : entriesR p l = true) : (headsB p l).length ≤ 1000 * l.length := by
  induction l generalizing p with
  | nil => simp [headsB]
  | cons e l ih =>
    simp only [entriesR, Bool.and_eq_true] at hR
    have h1 := headN_le p e
    unfold headN at h1
    rw [if_pos hR.1] at h1
    have h2 := ih (p + 1) hR.2
    simp only [headsB, List.length_append, List.length_cons]
    omega
theorem batchB_len {b : Batch} (hR : batchR b = true) : (batchB b).length ≤ 21 + (headsB b.base b.entries).length + (blockB (joined b.entries)).length ∧ (batchB b).length ≤ 40 + (varB (total b.entries)).length + total b.entries + (headsB b.base b.entries).length ∧ (headsB b.base b.entries).length ≤ 16000 := by
  have hR' := hR
  simp only [batchR, Bool.and_eq_true, fitsR, decide_eq_true_eq] at hR'
  have h1 := (varB_len b.epoch.toNat).1
  have h2 := (varB_len b.base.toNat).1
  have h3 := varB_len_small (x := b.entries.length) (by omega)
  have h4 := blockB_len (joined b.entries)
  rw [joined_length] at h4
  have h5 := headsB_len b.entries b.base hR'.2.2.2
  simp only [batchB, aheadB, List.length_append]
  omega

set_option maxRecDepth 100000 in
set_option maxHeartbeats 6400000 in
theorem batch_put (w : World) {g base most : Nat} {J : List UInt8} {a : Option Addr} {c : Nat} (h : PenAt w g base most J a c) (b : Batch) (al : Option Addr) (nl cl : Nat) (hN : batchN b)
    (hl : rEntries.r (fun q => q < w.heap.size ∧ ¬ PenF g a q) w [.slice al nl cl] b.entries) (hR : batchR b = true) (ht : TameE b.entries) (hfit : J.length + (batchB b).length ≤ most) (hln2 : J.length + (batchB b).length ≤ 100000000000000) :
    Calls Tryz.prog 19 #[.pointer (some ⟨g, 0, none⟩), .agg #[.int .u64 b.epoch, .int .u64 b.base, .slice al nl cl]] w fun r w' => r = .returned (.tuple #[]) ∧ PenStep w g base most (J ++ batchB b) a w' := by
  obtain ⟨rfl, hm, _, _⟩ := sl_len hl
  obtain ⟨h0, h1, _⟩ := hN
  have HRT := hid (fun (W : World) (hW : Below w.heap.size w W) => batch_right b al _ cl W h0 h1 (lift (pen_low hl) hW) ht.fair)
  rw [hR] at HRT
  have hR' := hR
  simp only [batchR, Bool.and_eq_true, decide_eq_true_eq] at hR'
  obtain ⟨hep, hfits, htot, hent⟩ := hR'
  have hfits' := hfits
  simp only [fitsR, decide_eq_true_eq] at hfits'
  have hbl : (batchB b).length = (varB b.epoch.toNat).length + (varB b.base.toNat).length + (varB b.entries.length).length + (headsB b.base b.entries).length + (blockB (joined b.entries)).length := by simp only [batchB, aheadB, List.length_append]
  rw [hbl] at hfit hln2
  have hbb : batchB b = varB b.epoch.toNat ++ varB b.base.toNat ++ varB b.entries.length ++ headsB b.base b.entries ++ blockB (joined b.entries) := rfl
  rw [hbb]
  have HE := hid (fun (W : World) (hW : Below w.heap.size w W) => (by have := epoch_put W (h.later hW) b.epoch.toNat (by rw [toNat_cast h0.1]; exact hep) (by omega) (by omega); rw [toNat_cast h0.1] at this; exact this : Calls Tryz.prog 71 #[.pointer (some ⟨g, 0, none⟩), .int .u64 b.epoch] W fun r w' => r = .returned (.tuple #[]) ∧ PenStep W g base most (J ++ varB b.epoch.toNat) a w'))
  have hpo : poR b.base = true := by unfold poR; exact decide_eq_true (by omega)
  have HJL := hid (joined_length b.entries)
  have HP := hid h
  have HL := hid hl
  have HBK := hid ht.backs
  have HEA := hid (fun (k : Nat) (hk : k < b.entries.length) => entriesR_at b.entries b.base k hk hent)
  have HHS := hid (fun (k : Nat) (hk : k < b.entries.length) => headsB_step b.entries b.base k hk)
  have HHL := hid (fun k => headsB_le b.entries b.base k)
  have hto := ht.tot
  obtain ⟨ep, bs, l⟩ := b
  dsimp only at *
  clear h hl hR hbl hbb hep hent hfits ht
  go_enter Tryz.func19, Tryz.ntmps19
  go_wp2_with fail
  refine (HRT.out _ (by (repeat (first | with_reducible exact Below.refl _ _ | with_reducible assumption | (with_reducible refine below_alloc ?_ _) | (with_reducible refine Below.setCell ?_ (by first | omega | (simp; done) | (simp; omega)) _) | (with_reducible refine Below.drew ?_) | (with_reducible refine below_drewN ?_ _) | (refine below_then (by with_reducible assumption) ?_))))).mono ?_
  rintro r w1 ⟨rfl, hb1⟩
  have B1 := Blk.later (Blk.newAt w 25 #[.int .u64 ep, .int .u64 bs, .slice al l.length cl] rfl) hb1
  obtain ⟨x0, x1, x2, _, _, _, l1⟩ := b_blk B1
  have hbw1 : Below w.heap.size w w1 := by (repeat (first | with_reducible exact Below.refl _ _ | with_reducible assumption | (with_reducible refine below_alloc ?_ _) | (with_reducible refine Below.setCell ?_ (by first | omega | (simp; done) | (simp; omega)) _) | (with_reducible refine Below.drew ?_) | (with_reducible refine below_drewN ?_ _) | (refine below_then (by with_reducible assumption) ?_)))
  have HLT := hid (fun q (hq : PenF g a q) => (HP.out.own_lt hq).2)
  have HB1 := hid B1
  have HL1 := hid (pen_later hbw1 HL.out)
  have hs1 := hbw1.size
  clear B1 hb1
  go_wp2_with fail
  refine (HE.out _ hbw1).mono ?_
  rintro r w2 ⟨rfl, a2, c2, hp2, ht2, ha2⟩
  have B2 := HB1.out.tch ht2 (fun hf => by have := HLT.out _ hf; omega)
  obtain ⟨y0, y1, y2, _, _, _, l2⟩ := b_blk B2
  have HV2 := hid ((by have := epoch_putpos w2 hp2 bs.toNat (by rw [toNat_cast h1.1]; exact hpo) (by simp only [List.length_append]; omega) (by simp only [List.length_append]; omega); rw [toNat_cast h1.1] at this; exact this : Calls Tryz.prog 72 #[.pointer (some ⟨g, 0, none⟩), .int .u64 bs] w2 fun r w' => r = .returned (.tuple #[]) ∧ PenStep w2 g base most (J ++ varB ep.toNat ++ varB bs.toNat) a2 w'))
  have HT2 := hid (And.intro ht2 ha2)
  have HL2 := hid (pen_data ht2 ha2 HL1.out)
  have HB2 := hid B2
  have HNF2 := hid (fun (hf : PenF g a2 w.heap.size) => penF_old ha2 HB1.out.lt (fun hf => by have := HLT.out _ hf; omega) hf)
  have hs2 := ht2.size
  clear B2 hp2 ht2 ha2 x0 x1 x2
  go_wp2_with fail
  refine HV2.out.mono ?_
  rintro r w3 ⟨rfl, a3, c3, hp3, ht3, ha3⟩
  have B3 := HB2.out.tch ht3 (fun hf => HNF2.out hf)
  obtain ⟨x0, x1, x2, _, _, _, l3⟩ := b_blk B3
  have HV3 := hid (varint_put w3 hp3 l.length (by omega) (by simp only [List.length_append]; omega) (by simp only [List.length_append]; omega))
  have HT3 := hid (And.intro ht3 ha3)
  have HL3 := hid (pen_data ht3 ha3 HL2.out)
  have HB3 := hid B3
  have HNF3 := hid (fun (hf : PenF g a3 w.heap.size) => penF_old ha3 HB2.out.lt (fun hf => HNF2.out hf) hf)
  have hs3 := ht3.size
  clear B3 hp3 ht3 ha3 y0 y1 y2
  go_wp2_with fail
  refine HV3.out.mono ?_
  rintro r w4 ⟨rfl, a4, c4, hp4, ht4, ha4⟩
  have B4 := HB3.out.tch ht4 (fun hf => HNF3.out hf)
  obtain ⟨y0, y1, y2, _, _, _, l4⟩ := b_blk B4
  have HT4 := hid (And.intro ht4 ha4)
  have HL4 := hid (pen_data ht4 ha4 HL3.out)
  have HB4 := hid B4
  have HNF4 := hid (fun (hf : PenF g a4 w.heap.size) => penF_old ha4 HB3.out.lt (fun hf => HNF3.out hf) hf)
  have HP4 := hid hp4
  have hs4 := ht4.size
  clear B4 hp4 ht4 ha4 x0 x1 x2
  go_wp2_with fail
  clear y0 y1 y2
  go_loopw [28] (fun i wr => ∃ k : Nat, k ≤ l.length ∧ i = .int .i64 k ∧ Hid (PenStep w4 g base most (J ++ varB ep.toNat ++ varB bs.toNat ++ varB l.length ++ headsB bs (l.take k)) a4 wr)) (fun i _ => l.length - (intOf i).toNat)
  case atStart => exact ⟨0, Nat.zero_le _, rfl, hid (by simpa [headsB] using PenStep.refl HP4.out)⟩
  case round =>
    obtain ⟨k, hk, rfl, hp⟩ := hrel
    obtain ⟨a5, c5, hp5, ht5, ha5⟩ := hp.out
    have B5 := HB4.out.tch ht5 (fun hf => HNF4.out hf)
    obtain ⟨x0, x1, x2, _, _, _, l5⟩ := b_blk B5
    have hd5 := pen_data ht5 ha5 HL4.out
    have hhl := HHL.out (k + 1)
    rcases Nat.lt_or_ge k l.length with hlt | hge
    · obtain ⟨bb, o, hA, hbb, a6, c6, a7, c7, z0, z1, hlk, hd⟩ := entry_at hd5 hlt
      subst hA
      have hbl : bb < wr.heap.size := World.block_lt_of_cell? _ _ z0
      have hst := HHS.out k hlt
      rw [hst, List.length_append] at hhl
      have i1 : (k : Int) < (l.length : Int) := by omega
      have d1 : decide ((k : Int) < (l.length : Int)) = true := decide_eq_true i1
      have hJ5 := hp5.len
      simp only [List.length_append] at hJ5
      have hPT := fun (W : World) (hW : Below wr.heap.size wr W) => entry_puthead W (hp5.later hW) (bs + k) (by omega) l[k] a6 a7 _ c6 _ c7 (pen_later hW hlk) (lift (pen_low hd) hW) (HEA.out k hlt) (HBK.out l[k] (List.getElem_mem hlt)) (by simp only [List.length_append]; omega) (by simp only [List.length_append]; omega)
      have HPT := hid hPT
      have HT5 := hid (And.intro ht5 ha5)
      have HST := hid hst
      generalize l[k] = y at *
      clear hPT hp5 ht5 ha5 hp hst hlk hd hd5 hhl hJ5 B5
      go_wp2_with fail
      have hbW : Below wr.heap.size wr (wr.alloc (.cells #[.slice a6 y.links.length c6, .slice a7 y.data.length c7] 75)) := by (repeat (first | with_reducible exact Below.refl _ _ | with_reducible assumption | (with_reducible refine below_alloc ?_ _) | (with_reducible refine Below.setCell ?_ (by first | omega | (simp; done) | (simp; omega)) _) | (with_reducible refine Below.drew ?_) | (with_reducible refine below_drewN ?_ _) | (refine below_then (by with_reducible assumption) ?_)))
      refine (HPT.out _ hbW).mono ?_
      rintro r w6 ⟨rfl, hst6⟩
      have hn := PenStep.trans (J := J) HT5.out.1 HT5.out.2 (PenStep.later hbW hst6)
      rw [List.append_assoc _ (headsB bs (l.take k)), ← HST.out] at hn
      have HN := hid hn
      clear hst6 hn x0 x1 x2
      go_wp2
      go_roundw
      case rel => exact ⟨k + 1, by omega, by go_num, HN⟩
      case measure => simp [intOf]; omega
    · obtain rfl : k = l.length := by omega
      have d1 : decide ((l.length : Int) < (l.length : Int)) = false := decide_eq_false (by omega)
      rw [List.take_length] at hp5
      have HJN := hid (fun (W : World) (hW : rEntries.r (· < W.heap.size) W [.slice al l.length cl] l) => entry_join l al _ cl W hW (by omega))
      have HPW := hid hp5
      have HD5 := hid hd5
      have HT5 := hid (And.intro ht5 ha5)
      clear hp ht5 ha5 hp5 hd5 B5
      go_wp2_with fail
      refine (HJN.out _ (pen_low HD5.out)).mono ?_
      rintro r w6 ⟨v6, rfl, hr6, hb6⟩
      obtain ⟨a8, c8, hv6, hr6', _⟩ := sl_form hr6
      simp only [List.cons.injEq, and_true] at hv6
      subst hv6
      have HBP := hid (block_put w6 (HPW.out.later hb6) (joined l) a8 _ c8 (pen_new_data HPW.out hr6') (by rw [HJL.out]; omega) (by simp only [List.length_append]; omega) (by simp only [List.length_append]; omega))
      clear hr6 hr6' x0 x1 x2
      go_wp2_with fail
      refine HBP.out.mono ?_
      rintro r w7 ⟨rfl, hst7⟩
      have hn := PenStep.later hbw1 (PenStep.trans (J := J) HT2.out.1 HT2.out.2 (PenStep.trans (J := J) HT3.out.1 HT3.out.2 (PenStep.trans (J := J) HT4.out.1 HT4.out.2 (PenStep.trans (J := J) HT5.out.1 HT5.out.2 (PenStep.later hb6 hst7)))))
      have HN : Hid (PenStep w g base most (J ++ (varB ep.toNat ++ varB bs.toNat ++ varB l.length ++ headsB bs l ++ blockB (joined l))) a w7) := hid (by simpa only [List.append_assoc] using hn)
      clear hst7 hn
      go_wp2
      first | go_end0 | refine bodyPost_ret (results_none rfl _ _ _) rfl ?_
      exact ⟨rfl, HN.out⟩

set_option maxRecDepth 100000 in
set_option maxHeartbeats 3200000 in
theorem batch_put_bad (w : World) {g base most : Nat} {J : List UInt8} {a : Option Addr} {c : Nat} (h : PenAt w g base most J a c) (b : Batch) (al : Option Addr) (nl cl : Nat) (hN : batchN b)
    (hl : rEntries.r (· < w.heap.size) w [.slice al nl cl] b.entries) (hR : batchR b = false) (ht : TameE b.entries) :
    Calls Tryz.prog 19 #[.pointer (some ⟨g, 0, none⟩), .agg #[.int .u64 b.epoch, .int .u64 b.base, .slice al nl cl]] w fun r w' => r = .returned (.tuple #[]) ∧ Blk w' g 109 #[.int .i64 most, .slice a J.length c, .int .i64 3] ∧ Tch (· = g) w w' := by
  obtain ⟨rfl, hm, _, _⟩ := sl_len hl
  obtain ⟨h0, h1, _⟩ := hN
  have HRT := hid (fun (W : World) (hW : Below w.heap.size w W) => batch_right b al _ cl W h0 h1 (lift hl hW) ht.fair)
  rw [hR] at HRT
  have HF := hid (fun (W : World) (hW : Below w.heap.size w W) => pen_fail W (h.later hW) 3)
  obtain ⟨ep, bs, l⟩ := b
  dsimp only at *
  clear h hl hR ht
  go_enter Tryz.func19, Tryz.ntmps19
  go_wp2_with fail
  refine (HRT.out _ (by (repeat (first | with_reducible exact Below.refl _ _ | with_reducible assumption | (with_reducible refine below_alloc ?_ _) | (with_reducible refine Below.setCell ?_ (by first | omega | (simp; done) | (simp; omega)) _) | (with_reducible refine Below.drew ?_) | (with_reducible refine below_drewN ?_ _) | (refine below_then (by with_reducible assumption) ?_))))).mono ?_
  rintro r w1 ⟨rfl, hb1⟩
  have hbw1 : Below w.heap.size w w1 := by (repeat (first | with_reducible exact Below.refl _ _ | with_reducible assumption | (with_reducible refine below_alloc ?_ _) | (with_reducible refine Below.setCell ?_ (by first | omega | (simp; done) | (simp; omega)) _) | (with_reducible refine Below.drew ?_) | (with_reducible refine below_drewN ?_ _) | (refine below_then (by with_reducible assumption) ?_)))
  go_wp2_with fail
  refine (HF.out _ hbw1).mono ?_
  rintro r w2 ⟨rfl, hB2, hT2⟩
  have HB2 := hid hB2
  have HT2 := hid hT2
  clear hB2 hT2
  go_wp2
  first | go_end0 | refine bodyPost_ret (results_none rfl _ _ _) rfl ?_
  exact ⟨rfl, HB2.out, Tch.trans (F := (· = g)) (Tch.of_later hbw1) HT2.out (fun _ _ h => h)⟩

/-- What batch.Bytes gives. -/
def batchBytes (b : Batch) : List UInt8 × Int := if batchR b = true then (batchB b, 0) else ([], 3)
set_option maxRecDepth 100000 in
set_option maxHeartbeats 3200000 in
theorem batch_bytes (w : World) (b : Batch) (al : Option Addr) (nl cl : Nat) (hN : batchN b) (hl : rEntries.r (· < w.heap.size) w [.slice al nl cl] b.entries) (ht : TameE b.entries) :
    Calls Tryz.prog 17 #[.agg #[.int .u64 b.epoch, .int .u64 b.base, .slice al nl cl]] w fun r w' => ∃ v, r = .returned (.tuple #[v, .int .i64 (batchBytes b).2]) ∧ rBytes.r (fun q => w.heap.size ≤ q ∧ q < w'.heap.size) w' [v] (batchBytes b).1 ∧ Below w.heap.size w w' := by
  obtain ⟨rfl, hm, _, _⟩ := sl_len hl
  have HRM := hid (fun (W : World) (hW : Below w.heap.size w W) => batch_room W b al _ cl hN.1 hN.2.1 (lift hl hW) ht)
  have HL := hid hl
  unfold batchBytes
  cases hR : batchR b
  · rw [if_neg (by simp)]
    have HPT := hid (fun (W : World) {g base most : Nat} {a : Option Addr} {c : Nat} (h : PenAt W g base most [] a c) (hW : Below w.heap.size w W) => batch_put_bad W h b al _ cl hN (lift HL.out hW) hR ht)
    obtain ⟨ep, bs, l⟩ := b
    dsimp only at *
    clear hl hR ht hN
    go_enter Tryz.func17, Tryz.ntmps17
    go_wp2_with fail
    refine (HRM.out _ (by (repeat (first | with_reducible exact Below.refl _ _ | with_reducible assumption | (with_reducible refine below_alloc ?_ _) | (with_reducible refine Below.setCell ?_ (by first | omega | (simp; done) | (simp; omega)) _) | (with_reducible refine Below.drew ?_) | (with_reducible refine below_drewN ?_ _) | (refine below_then (by with_reducible assumption) ?_))))).mono ?_
    rintro r w1 ⟨M, rfl, hM, _, hb1⟩
    have B1 := Blk.later (Blk.newAt w 25 #[.int .u64 ep, .int .u64 bs, .slice al l.length cl] rfl) hb1
    have hbw1 : Below w.heap.size w w1 := by (repeat (first | with_reducible exact Below.refl _ _ | with_reducible assumption | (with_reducible refine below_alloc ?_ _) | (with_reducible refine Below.setCell ?_ (by first | omega | (simp; done) | (simp; omega)) _) | (with_reducible refine Below.drew ?_) | (with_reducible refine below_drewN ?_ _) | (refine below_then (by with_reducible assumption) ?_)))
    have HN := hid (pen_new w1 M (by omega))
    clear hb1
    go_wp2_with fail
    refine HN.out.mono ?_
    rintro r w2 ⟨rfl, hp2, hb2⟩
    have B2 := B1.later hb2
    obtain ⟨x0, x1, x2, _, _, _, l2⟩ := b_blk B2
    have hbw2 := below_then hb2 hbw1
    have HP2 := hid (HPT.out w2 hp2 hbw2)
    have hs1 := hbw1.size
    clear hp2 B1 B2
    go_wp2_with fail
    refine HP2.out.mono ?_
    rintro r w3 ⟨rfl, hB3, hT3⟩
    have hbw3 : Below w.heap.size w w3 := hbw2.trans (hT3.to_below hbw2.size (fun q _ e => by omega))
    have HB := hid (pen_bytes_bad w3 (k := 3) (by omega) hB3)
    clear hB3 hT3 x0 x1 x2
    go_wp2_with fail
    refine HB.out.mono ?_
    rintro r w4 ⟨rfl, rfl⟩
    go_wp2
    go_ret2
    exact ⟨_, rfl, empty_bytes2 rfl rfl (by omega), hbw3⟩
  · rw [if_pos rfl]
    have hbl := batchB_len hR
    have HPT := hid (fun (W : World) {g base most : Nat} {a : Option Addr} {c : Nat} (h : PenAt W g base most [] a c) (hW : rEntries.r (fun q => q < W.heap.size ∧ ¬ PenF g a q) W [.slice al b.entries.length cl] b.entries) (hf : (batchB b).length ≤ most) => batch_put W h b al _ cl hN hW hR ht (by simpa using hf) (by have := ht.tot; have := (varB_len (total b.entries)).1; simp; omega))
    have HRR := hid hR
    generalize batchB b = K at *
    obtain ⟨ep, bs, l⟩ := b
    dsimp only at *
    have HBL := hid hbl
    clear hl hR ht hN hbl
    go_enter Tryz.func17, Tryz.ntmps17
    go_wp2_with fail
    refine (HRM.out _ (by (repeat (first | with_reducible exact Below.refl _ _ | with_reducible assumption | (with_reducible refine below_alloc ?_ _) | (with_reducible refine Below.setCell ?_ (by first | omega | (simp; done) | (simp; omega)) _) | (with_reducible refine Below.drew ?_) | (with_reducible refine below_drewN ?_ _) | (refine below_then (by with_reducible assumption) ?_))))).mono ?_
    rintro r w1 ⟨M, rfl, hM, hM2, hb1⟩
    have hfit : K.length ≤ M := by have := hM2 HRR.out; have := HBL.out.2.1; omega
    have B1 := Blk.later (Blk.newAt w 25 #[.int .u64 ep, .int .u64 bs, .slice al l.length cl] rfl) hb1
    have hbw1 : Below w.heap.size w w1 := by (repeat (first | with_reducible exact Below.refl _ _ | with_reducible assumption | (with_reducible refine below_alloc ?_ _) | (with_reducible refine Below.setCell ?_ (by first | omega | (simp; done) | (simp; omega)) _) | (with_reducible refine Below.drew ?_) | (with_reducible refine below_drewN ?_ _) | (refine below_then (by with_reducible assumption) ?_)))
    have HN := hid (pen_new w1 M (by omega))
    clear hb1 hM2
    go_wp2_with fail
    refine HN.out.mono ?_
    rintro r w2 ⟨rfl, hp2, hb2⟩
    have B2 := B1.later hb2
    obtain ⟨x0, x1, x2, _, _, _, l2⟩ := b_blk B2
    have hbw2 := below_then hb2 hbw1
    have hs1 := hbw1.size
    have HPA := hid hp2
    have HP2 := hid (HPT.out w2 hp2 (rEntries.mono (rEntries.keep HL.out fun q hq => hbw2.block q hq) fun q hq => ⟨by have := hbw2.size; omega, fun hf => by have := (hp2.own_lt hf).1; omega⟩) hfit)
    clear hp2 B1 B2
    go_wp2_with fail
    refine HP2.out.mono ?_
    rintro r w3 ⟨rfl, hst⟩
    rw [List.nil_append] at hst
    have hbw3 : Below w.heap.size w w3 := hbw2.trans (HPA.out.below hs1 hbw2.size hst)
    obtain ⟨a3, c3, hp3, _, _⟩ := hst
    have HB := hid (pen_bytes w3 hp3)
    have hs3 := hbw3.size
    clear hp3 x0 x1 x2
    go_wp2_with fail
    refine HB.out.mono ?_
    rintro r w4 ⟨v, rfl, hv, hb4⟩
    have hbe := below_then hb4 hbw3
    have HV := hid (rBytes.mono (S' := fun q => w.heap.size ≤ q ∧ q < w4.heap.size) hv fun q hq => ⟨by have := hq.1; omega, hq.2⟩)
    clear hv
    go_wp2
    go_ret2
    exact ⟨_, rfl, HV.out, hbe⟩
end Go.Proofs.YtkipiefcnjfdjaaGreat
namespace Go.Proofs.YtkipiefcnjfdjaaGreat
open Go.RowKit Go.Bs Go.Maps
set_option linter.unusedVariables false
set_option linter.unusedSimpArgs false

def live25E : Entry := ⟨[], [7, 8]⟩
def live25B : Batch := ⟨3, 10, [live25E]⟩
theorem live25_bytes : batchBytes live25B = ([3, 10, 1, 0, 2, 2, 0, 7, 8], 0) := by decide +kernel
def want25 : Array Value := #[.int .u8 3, .int .u8 10, .int .u8 1, .int .u8 0, .int .u8 2, .int .u8 2, .int .u8 0, .int .u8 7, .int .u8 8]
theorem want25_is : want25 = (byteCells [3, 10, 1, 0, 2, 2, 0, 7, 8]).toArray := by rfl
theorem live25_entries {w : World} {g h : Nat} (hg : Blk w g 5 #[.int .u8 7, .int .u8 8]) (hh : Blk w h 75 #[.slice none 0 0, .slice (some ⟨g, 0, none⟩) 2 2]) :
    rEntries.r (· < w.heap.size) w [.slice (some ⟨h, 0, none⟩) 1 1] [live25E] := by
  refine rSl_mk (xs := [live25E]) rfl (Nat.le_refl _) (by decide) (.inr ⟨h, 0, rfl, hh.lt, fun i x hi => ?_⟩)
  have hi0 : i = 0 := by
    rcases i with _ | i
    · rfl
    · simp at hi
  subst hi0
  simp at hi
  subst hi
  refine ⟨[.slice none 0 0, .slice (some ⟨g, 0, none⟩) 2 2], rfl, fun j v hj => ?_, entry_mk (x := live25E) ?_ ?_⟩
  · rcases j with _ | _ | j
    · simp at hj; subst hj; exact hh.cell 0
    · simp at hj; subst hj; exact hh.cell 1
    · simp at hj
  · exact rSl_mk (xs := []) rfl (Nat.le_refl _) (Nat.zero_le _) (.inl rfl)
  · exact lit_bytes (l := [7, 8]) (cs := #[.int .u8 7, .int .u8 8]) rfl (by decide) hg
set_option maxRecDepth 100000 in
set_option maxHeartbeats 1600000 in
theorem live25 (w : World) : Calls Tryz.prog 16 #[] w fun r w' => r = .returned (.bool true) ∧ Below w.heap.size w w' := by
  have HB := hid (fun (W : World) (a : Option Addr) (h : rEntries.r (· < W.heap.size) W [.slice a 1 1] [live25E]) => (by
    have := batch_bytes W live25B a 1 1 ⟨by decide, by decide, fun e he => by simp [live25B] at he; subst he; exact fun x hx => by simp [live25E] at hx⟩ h ⟨by decide, by decide, fun e he => by simp [live25B] at he; subst he; exact fun x hx => by simp [live25E] at hx⟩
    rw [live25_bytes] at this
    exact this : Calls Tryz.prog 17 #[.agg #[.int .u64 3, .int .u64 10, .slice a 1 1]] W fun r w' => ∃ v, r = .returned (.tuple #[v, .int .i64 0]) ∧ rBytes.r (fun q => W.heap.size ≤ q ∧ q < w'.heap.size) w' [v] [3, 10, 1, 0, 2, 2, 0, 7, 8] ∧ Below W.heap.size W w'))
  go_enter Tryz.func16, Tryz.ntmps16
  go_wp2_with fail
  refine (HB.out _ _ (live25_entries ((Blk.newAt w _ _ rfl).alloc _) (Blk.newAt _ _ _ (by simp)))).mono ?_
  rintro r w1 ⟨v, rfl, hr, hb1⟩
  obtain ⟨a1, c1, hv, hr2, _⟩ := sl_form hr
  simp only [List.cons.injEq, and_true] at hv
  subst hv
  have HR := hid (rBytes.mono hr2 (S' := (· < w1.heap.size)) fun q hq => hq.2)
  have hbw : Below w.heap.size w w1 := by (repeat (first | exact Below.refl _ _ | assumption | (refine below_alloc ?_ _) | (refine Below.setCell ?_ (by first | omega | (simp; done) | (simp; omega)) _) | (refine Below.drew ?_) | (refine below_drewN ?_ _) | (refine below_then (by assumption) ?_)))
  clear hr hr2 hb1
  go_wp2_with fail
  have hs1 := same_bytes [3, 10, 1, 0, 2, 2, 0, 7, 8] [3, 10, 1, 0, 2, 2, 0, 7, 8] a1 (some ⟨w1.heap.size, 0, none⟩) _ c1 9 9 (w1.alloc (.cells want25 5)) (lift HR.out (by clear hbw; (repeat (first | exact Below.refl _ _ | assumption | (refine below_alloc ?_ _) | (refine Below.setCell ?_ (by first | omega | (simp; done) | (simp; omega)) _) | (refine Below.drew ?_) | (refine below_drewN ?_ _) | (refine below_then (by assumption) ?_))))) (lit_bytes want25_is (by decide) (World.alloc_heap_new w1 _))
  simp only [decide_true] at hs1
  refine hs1.mono ?_
  rintro r w3 ⟨rfl, rfl⟩
  have hbe : Below w.heap.size w (w1.alloc (.cells want25 5)) := below_alloc hbw _
  clear hs1
  generalize w1.alloc (.cells want25 5) = w3 at *
  go_wp2
  go_ret
  exact ⟨rfl, hbe⟩
end Go.Proofs.YtkipiefcnjfdjaaGreat
namespace Go.Proofs.YtkipiefcnjfdjaaGreat
open Go.RowKit Go.Bs Go.Maps
set_option linter.unusedVariables false
set_option linter.unusedSimpArgs false

theorem Rs.loose_bad2 {B : List UInt8} {s : Rs} {most : Int} (h : (s.loose B most).1.k ≠ 0) : (s.loose B most).2.1 = [] ∧ (s.loose B most).2.2 = false := by
  unfold Rs.loose at *
  by_cases h1 : ((s.int B (min most 1048576)).1.byte B).1.k = 0
  · rw [if_pos h1] at h ⊢
    by_cases h2 : ((s.int B (min most 1048576)).1.byte B).2.toNat = 0
    · rw [if_pos h2] at h ⊢
      by_cases h3 : (((s.int B (min most 1048576)).1.byte B).1.take B ((s.int B (min most 1048576)).2 : Int)).1.k = 0
      · rw [if_pos h3] at h; exact absurd h3 h
      · rw [if_neg h3]; exact ⟨rfl, rfl⟩
    · rw [if_neg h2] at h ⊢
      by_cases h4 : ((s.int B (min most 1048576)).1.byte B).2.toNat = 1
      · rw [if_pos h4] at h ⊢
        by_cases h3 : (((s.int B (min most 1048576)).1.byte B).1.unp B (s.int B (min most 1048576)).2).1.k = 0
        · rw [if_pos h3] at h; exact absurd h3 h
        · rw [if_neg h3]; exact ⟨rfl, rfl⟩
      · rw [if_neg h4]; exact ⟨rfl, rfl⟩
  · rw [if_neg h1]; exact ⟨rfl, rfl⟩
theorem Rs.loose_written2 {B : List UInt8} {s : Rs} {m : Int} (h : (s.loose B m).2.2 = true) : blockB (s.loose B m).2.1 = (B.drop s.p).take ((s.loose B m).1.p - s.p) := by
  unfold Rs.loose at *
  by_cases h1 : ((s.int B (min m 1048576)).1.byte B).1.k = 0
  · simp only [if_pos h1] at h ⊢
    by_cases h2 : ((s.int B (min m 1048576)).1.byte B).2.toNat = 0
    · simp only [if_pos h2] at h ⊢
      by_cases h3 : (((s.int B (min m 1048576)).1.byte B).1.take B ((s.int B (min m 1048576)).2 : Int)).1.k = 0
      · simp only [if_pos h3] at h ⊢
        exact of_decide_eq_true h
      · simp only [if_neg h3] at h; cases h
    · simp only [if_neg h2] at h ⊢
      by_cases h4 : ((s.int B (min m 1048576)).1.byte B).2.toNat = 1
      · simp only [if_pos h4] at h ⊢
        by_cases h3 : (((s.int B (min m 1048576)).1.byte B).1.unp B (s.int B (min m 1048576)).2).1.k = 0
        · simp only [if_pos h3] at h ⊢
          exact of_decide_eq_true h
        · simp only [if_neg h3] at h; cases h
      · simp only [if_neg h4] at h; cases h
  · simp only [if_neg h1] at h; cases h
/-- The strict reader and the loose one. -/
theorem blk_rel {B : List UInt8} (t : Rs) : ((blkS B t).1 = (blkL B t).1 ∧ (blkS B t).2.1 = (blkL B t).2.1 ∧ ((blkL B t).1.k = 0 → (blkL B t).2.2 = true)) ∨ ((blkS B t).1.k = 12 ∧ (blkL B t).1.k = 0 ∧ (blkL B t).2.2 = false) := by
  have hb := Rs.loose_bad2 (B := B) (s := t) (most := 1048576)
  unfold blkS blkL Rs.strict
  generalize t.loose B 1048576 = L at *
  obtain ⟨s, D, q⟩ := L
  dsimp only at *
  by_cases h : s.k = 0
  · rw [if_pos h]
    cases q
    · right
      refine ⟨?_, h, rfl⟩
      simp [Rs.fail, h]
    · left
      simp
  · rw [if_neg h]
    left
    exact ⟨rfl, (hb h).1.symm, fun e => absurd e h⟩
/-- What is behind the heads. -/
def finB (e p : Int) (H : List (List Link × Nat)) (o : Nat) (T : Rs × List UInt8 × Bool) : Rs × Batch × Bool :=
  let u : Rs := if sizesN H = T.2.1.length then T.1 else T.1.fail 3 o
  if u.k = 0 then (u, ⟨e, p, dealE H T.2.1⟩, T.2.2) else (u, noBatch, false)
theorem batch_fin {B : List UInt8} {blk : Rs → Rs × List UInt8 × Bool} {s : Rs} : Rs.batch B blk s = if (s.bfront B).1.k = 0 then finB ((s.bfront B).2.1 : Int) ((s.bfront B).2.2.1 : Int) (Rs.heads B (s.bfront B).2.2.2 (s.bfront B).1 ((s.bfront B).2.2.1 : Int) 1048576 []).2 (Rs.heads B (s.bfront B).2.2.2 (s.bfront B).1 ((s.bfront B).2.2.1 : Int) 1048576 []).1.p (blk (Rs.heads B (s.bfront B).2.2.2 (s.bfront B).1 ((s.bfront B).2.2.1 : Int) 1048576 []).1) else ((s.bfront B).1, noBatch, false) := rfl
theorem finB_bad {e p : Int} {H : List (List Link × Nat)} {o : Nat} {T : Rs × List UInt8 × Bool} (h : T.1.k ≠ 0) : finB e p H o T = (T.1, noBatch, false) := by
  have hu : (if sizesN H = T.2.1.length then T.1 else T.1.fail 3 o) = T.1 := by
    split
    · rfl
    · exact Rs.fail_of_bad h
  unfold finB
  dsimp only
  simp only [hu]
  rw [if_neg h]
theorem finB_good {e p : Int} {H : List (List Link × Nat)} {o : Nat} {T : Rs × List UInt8 × Bool} (h : T.1.k = 0) : finB e p H o T = if sizesN H = T.2.1.length then (T.1, ⟨e, p, dealE H T.2.1⟩, T.2.2) else (T.1.fail 3 o, noBatch, false) := by
  unfold finB
  dsimp only
  by_cases h2 : sizesN H = T.2.1.length
  · simp only [if_pos h2, if_pos h]
  · have hk : (T.1.fail 3 (o : Int)).k ≠ 0 := Rs.fail_k (by omega)
    simp only [if_neg h2, if_neg hk]
theorem batch_rel {B : List UInt8} (s : Rs) : ((Rs.batch B (blkS B) s).1 = (Rs.batch B (blkL B) s).1 ∧ (Rs.batch B (blkS B) s).2.1 = (Rs.batch B (blkL B) s).2.1 ∧ ((Rs.batch B (blkL B) s).1.k = 0 → (Rs.batch B (blkL B) s).2.2 = true)) ∨ ((Rs.batch B (blkS B) s).1.k = 12 ∧ ((Rs.batch B (blkL B) s).1.k = 0 → (Rs.batch B (blkL B) s).2.2 = false)) := by
  rw [batch_fin, batch_fin]
  by_cases h1 : (s.bfront B).1.k = 0
  · rw [if_pos h1, if_pos h1]
    generalize Rs.heads B (s.bfront B).2.2.2 (s.bfront B).1 ((s.bfront B).2.2.1 : Int) 1048576 [] = H
    rcases blk_rel (B := B) H.1 with ⟨e1, e2, e3⟩ | ⟨e1, e2, e3⟩
    · left
      generalize blkS B H.1 = S at *
      generalize blkL B H.1 = L at *
      obtain ⟨s1, D1, q1⟩ := S
      obtain ⟨s2, D2, q2⟩ := L
      dsimp only at e1 e2 e3
      subst e1 e2
      by_cases h2 : s1.k = 0
      · have hq := e3 h2
        subst hq
        rw [finB_good h2, finB_good h2]
        dsimp only
        by_cases h3 : sizesN H.2 = D1.length
        · simp only [if_pos h3]
          exact ⟨trivial, trivial, fun _ => trivial⟩
        · have hk : (s1.fail 3 (H.1.p : Int)).k ≠ 0 := Rs.fail_k (by omega)
          simp only [if_neg h3]
          exact ⟨trivial, trivial, fun e => absurd e hk⟩
      · rw [finB_bad h2, finB_bad h2]
        exact ⟨rfl, rfl, fun e => absurd e h2⟩
    · right
      have hb : (blkS B H.1).1.k ≠ 0 := by rw [e1]; decide
      rw [finB_bad hb, finB_good e2]
      refine ⟨e1, fun h => ?_⟩
      by_cases h3 : sizesN H.2 = (blkL B H.1).2.1.length
      · simp only [if_pos h3]; exact e3
      · have hk : ((blkL B H.1).1.fail 3 (H.1.p : Int)).k ≠ 0 := Rs.fail_k (by omega)
        simp only [if_neg h3] at h
        exact absurd h hk
  · rw [if_neg h1, if_neg h1]
    left
    exact ⟨rfl, rfl, fun e => absurd e h1⟩
theorem fin_k {L : Nat} {s : Rs} (h : (s.fin L).k = 0) : s.k = 0 ∧ L ≤ s.p ∧ s.fin L = s := by
  unfold Rs.fin at *
  by_cases h1 : s.p < L
  · rw [if_pos h1] at h; exact absurd h (Rs.fail_k (by omega))
  · rw [if_neg h1] at h ⊢; exact ⟨h, by omega, rfl⟩
theorem fin_bad {L : Nat} {s : Rs} (h : s.k ≠ 0) : s.fin L = s := by
  unfold Rs.fin
  split
  · exact Rs.fail_of_bad h
  · rfl
theorem dec_rel (B : List UInt8) : ((decB B (blkS B)).1 = (decB B (blkL B)).1 ∧ (decB B (blkS B)).2.1 = (decB B (blkL B)).2.1 ∧ ((decB B (blkL B)).1.k = 0 → (decB B (blkL B)).2.2 = true)) ∨ ((decB B (blkS B)).1.k = 12 ∧ ((decB B (blkL B)).1.k = 0 → (decB B (blkL B)).2.2 = false)) := by
  unfold decB
  rcases batch_rel (B := B) ⟨0, 0, 0⟩ with ⟨e1, e2, e3⟩ | ⟨e1, e2⟩
  · left
    generalize Rs.batch B (blkS B) ⟨0, 0, 0⟩ = S at *
    generalize Rs.batch B (blkL B) ⟨0, 0, 0⟩ = L at *
    obtain ⟨s1, b1, q1⟩ := S
    obtain ⟨s2, b2, q2⟩ := L
    dsimp only at *
    subst e1 e2
    by_cases h : (s1.fin B.length).k = 0
    · simp only [if_pos h]
      exact ⟨trivial, trivial, fun _ => e3 (fin_k h).1⟩
    · simp only [if_neg h]
      exact ⟨trivial, trivial, fun e => absurd e h⟩
  · right
    have hb : (Rs.batch B (blkS B) ⟨0, 0, 0⟩).1.k ≠ 0 := by rw [e1]; decide
    have hb2 : ((Rs.batch B (blkS B) ⟨0, 0, 0⟩).1.fin B.length).k ≠ 0 := by rw [fin_bad hb]; exact hb
    simp only [if_neg hb2]
    refine ⟨by rw [fin_bad hb]; exact e1, fun h => ?_⟩
    by_cases h2 : ((Rs.batch B (blkL B) ⟨0, 0, 0⟩).1.fin B.length).k = 0
    · simp only [if_pos h2]
      exact e2 (fin_k h2).1
    · simp only [if_neg h2] at h; exact absurd h h2
theorem dec_none {B : List UInt8} {blk : Rs → Rs × List UInt8 × Bool} (h : (decB B blk).1.k ≠ 0) : (decB B blk).2 = (noBatch, false) := by
  unfold decB at *
  by_cases h2 : ((Rs.batch B blk ⟨0, 0, 0⟩).1.fin B.length).k = 0
  · simp only [if_pos h2] at h; exact absurd h2 h
  · simp only [if_neg h2]
theorem blkS_k {B : List UInt8} (t : Rs) (h : (blkS B t).1.k = 0) : t.k = 0 := by
  by_cases hk : t.k = 0
  · exact hk
  · have : (blkS B t).1 = t := by
      unfold blkS
      rw [Rs.loose_of_bad hk]
      unfold Rs.strict
      rw [if_neg hk]
    rw [this] at h
    exact h
theorem blkL_k {B : List UInt8} (t : Rs) (h : (blkL B t).1.k = 0) : t.k = 0 := by
  by_cases hk : t.k = 0
  · exact hk
  · unfold blkL at h
    rw [Rs.loose_of_bad hk] at h
    exact h
/-- What is decoded is well-formed. -/
theorem dec_right {B : List UInt8} {blk : Rs → Rs × List UInt8 × Bool} (hk : ∀ t : Rs, (blk t).1.k = 0 → t.k = 0) (hl : ∀ t, (blk t).2.1.length ≤ 1048576) (h : (decB B blk).1.k = 0) : batchR (decB B blk).2.1 = true ∧ batchN (decB B blk).2.1 := by
  unfold decB at *
  by_cases h2 : ((Rs.batch B blk ⟨0, 0, 0⟩).1.fin B.length).k = 0
  · simp only [if_pos h2]
    have := Rs.batch_canon (s := ⟨0, 0, 0⟩) ⟨Nat.zero_le _, fun _ => rfl⟩ (fin_k h2).1 hk hl
    exact ⟨this.1, this.2.1⟩
  · simp only [if_neg h2] at h; exact absurd h h2
/-- What is decoded strictly is put so again. -/
theorem dec_canon {B : List UInt8} (h : (decB B (blkS B)).1.k = 0) : batchB (decB B (blkS B)).2.1 = B := by
  unfold decB at *
  by_cases h2 : ((Rs.batch B (blkS B) ⟨0, 0, 0⟩).1.fin B.length).k = 0
  · simp only [if_pos h2]
    obtain ⟨k1, k2, k3⟩ := fin_k h2
    obtain ⟨_, _, t, ht, e1, e2, e3, _, hk⟩ := Rs.batch_canon (s := ⟨0, 0, 0⟩) ⟨Nat.zero_le _, fun _ => rfl⟩ k1 blkS_k blkS_len
    rw [e2] at k1 k2
    rcases blk_rel (B := B) t with ⟨f1, f2, f3⟩ | ⟨f1, _, _⟩
    · have hL : (blkL B t).1.k = 0 := by rw [← f1]; exact k1
      have hw := Rs.loose_written2 (f3 hL)
      have hle : (blkS B t).1.p ≤ B.length := by
        rw [f1]
        exact (Rs.loose_ok ht 1048576).le
      have hp : (blkS B t).1.p = B.length := by omega
      have hD : (t.loose B 1048576).2.1 = (blkS B t).2.1 := f2.symm
      have hP : (t.loose B 1048576).1.p = B.length := by rw [← hp, f1]; rfl
      rw [hD, hP] at hw
      have hfull : (B.drop t.p).take (B.length - t.p) = B.drop t.p := by
        apply List.take_of_length_le
        simp
      rw [hfull] at hw
      unfold batchB
      rw [e3, hw, ← e1]
      rfl
    · rw [f1] at k1; exact absurd k1 (by decide)
  · simp only [if_neg h2] at h; exact absurd h h2
theorem tame_of {b : Batch} (h : batchR b = true) : TameE b.entries := by
  simp only [batchR, Bool.and_eq_true, decide_eq_true_eq] at h
  obtain ⟨_, hf, ht, he⟩ := h
  simp only [fitsR, decide_eq_true_eq] at hf
  refine ⟨by omega, by omega, ?_⟩
  have key : ∀ (l : List Entry) (p : Int), entriesR p l = true → ∀ e ∈ l, ∀ x ∈ e.links, x.backs.length ≤ 1000000 := by
    intro l
    induction l with
    | nil => intro p _ e he; simp at he
    | cons a l ih =>
      intro p h e he x hx
      simp only [entriesR, Bool.and_eq_true] at h
      rcases List.mem_cons.1 he with rfl | he
      · have h1 := h.1
        simp only [entryR, linksR, Bool.and_eq_true, decide_eq_true_eq, List.all_eq_true] at h1
        have := h1.1.2.2 x hx
        simp only [linkR, Bool.and_eq_true, decide_eq_true_eq] at this
        omega
      · exact ih _ h.2 e he x hx
  exact key _ _ he
/-- One of some bytes, a great one: whether or not. -/
theorem law25_great (w : World) (B : List UInt8) (a : Option Addr) (n c : Nat) (hl : rBytes.r (· < w.heap.size) w [.slice a n c] B) (hB : B.length ≤ 1000000000) :
    Calls Tryz.prog 29 #[.slice a n c] w fun r w' => ∃ q : Bool, r = .returned (.bool q) ∧ w = w' := by
  obtain ⟨rfl, hm, _, _⟩ := sl_len hl
  have HL := hid hl
  clear hl
  go_enter Tryz.func29, Tryz.ntmps29
  go_wp2
  go_loop [3] (fun i => ∃ k : Nat, k ≤ B.length ∧ i = .int .i64 k) (fun i => B.length + 1 - (intOf i).toNat)
  case atStart => exact ⟨0, Nat.zero_le _, rfl⟩
  case round =>
    obtain ⟨k, hk, rfl⟩ := hrel
    by_cases h1 : k + 1 < B.length
    · obtain ⟨b1, o1, hA1, hb1, hx1⟩ := byte_at HL.out (i := k) (by omega)
      obtain ⟨b2, o2, hA2, hb2, hx2⟩ := byte_at HL.out (i := k + 1) h1
      subst hA1
      simp only [Option.some.injEq, Addr.mk.injEq, and_true] at hA2
      obtain ⟨rfl, rfl⟩ := hA2
      have e1 : decide ((k : Int) + 1 < (B.length : Int)) = true := decide_eq_true (by omega)
      have i1 : (k : Int) < (B.length : Int) := by omega
      have i2 : (k : Int) + 1 < (B.length : Int) := by omega
      generalize B[k].toNat = x at *
      generalize B[k + 1].toNat = y at *
      by_cases c1 : 128 ≤ x
      · have d1 : decide ((128 : Int) ≤ (x : Int)) = true := decide_eq_true (by omega)
        have d1' : decide (128 ≤ x) = true := decide_eq_true c1
        by_cases c2 : 3 ≤ y
        · have d2 : decide ((3 : Int) ≤ (y : Int)) = true := decide_eq_true (by omega)
          have d2' : decide (3 ≤ y) = true := decide_eq_true c2
          go_wp2
          go_ret
          first | exact ⟨.inl rfl, rfl⟩ | exact ⟨.inr rfl, rfl⟩
        · have d2 : decide ((3 : Int) ≤ (y : Int)) = false := decide_eq_false (by omega)
          have d2' : decide (3 ≤ y) = false := decide_eq_false c2
          go_wp2
          go_round
          case rel => exact ⟨k + 1, by omega, by go_num⟩
          case measure => simp [intOf]; omega
      · have d1 : decide ((128 : Int) ≤ (x : Int)) = false := decide_eq_false (by omega)
        have d1' : decide (128 ≤ x) = false := decide_eq_false c1
        go_wp2
        go_round
        case rel => exact ⟨k + 1, by omega, by go_num⟩
        case measure => simp [intOf]; omega
    · have e1 : decide ((k : Int) + 1 < (B.length : Int)) = false := decide_eq_false (by omega)
      go_wp2
      go_ret
      first | exact ⟨.inl rfl, rfl⟩ | exact ⟨.inr rfl, rfl⟩
end Go.Proofs.YtkipiefcnjfdjaaGreat
namespace Go.Proofs.YtkipiefcnjfdjaaGreat
open Go.RowKit Go.Bs Go.Maps
set_option linter.unusedVariables false
set_option linter.unusedSimpArgs false

set_option maxRecDepth 100000 in
set_option maxHeartbeats 12800000 in
theorem batchOnce_c (B : List UInt8) (a : Option Addr) (n c : Nat) (w : World) (hl : rBytes.r (· < w.heap.size) w [.slice a n c] B) :
    Calls Tryz.prog 6 #[.slice a n c] w fun r w' => r = .returned (.bool true) ∧ Below w.heap.size w w' := by
  obtain ⟨rfl, hm, _, _⟩ := sl_len hl
  have HL := hid hl
  by_cases h300 : B.length ≤ 300
  · have d0 : decide ((300 : Int) < (B.length : Int)) = false := decide_eq_false (by omega)
    have HG := hid (fun (W : World) (hW : Below w.heap.size w W) => law25_great W B a B.length c (lift HL.out hW) (by omega))
    have hS := fun (W : World) (hW : Below w.heap.size w W) => batch_decode W B a _ c (lift HL.out hW) (by omega)
    have hLo := fun (W : World) (hW : Below w.heap.size w W) => batch_decodeloose W B a _ c (lift HL.out hW) (by omega)
    have hrel := dec_rel B
    have hnS := dec_none (B := B) (blk := blkS B)
    have hnL := dec_none (B := B) (blk := blkL B)
    have hrS := dec_right (B := B) (blk := blkS B) blkS_k blkS_len
    have hrL := dec_right (B := B) (blk := blkL B) blkL_k (fun t => Rs.loose_len)
    have hcan := dec_canon (B := B)
    generalize decB B (blkS B) = S at *
    generalize decB B (blkL B) = L at *
    obtain ⟨u, b, qs⟩ := S
    obtain ⟨u', l, q⟩ := L
    dsimp only at *
    have HS := hid hS
    have HLO := hid hLo
    clear hl hS hLo
    by_cases hk : u.k = 0
    · obtain ⟨hR, hN⟩ := hrS hk
      have hcn := hcan hk
      have hA : u' = u ∧ l = b ∧ q = true := by
        rcases hrel with ⟨e1, e2, e3⟩ | ⟨e1, _⟩
        · exact ⟨e1.symm, e2.symm, e3 (e1 ▸ hk)⟩
        · rw [e1] at hk; exact absurd hk (by decide)
      obtain ⟨rfl, rfl, rfl⟩ := hA
      have dk : (u'.k == (0 : Int)) = true := by simp [hk]
      have hbb : batchBytes l = (B, 0) := by unfold batchBytes; rw [if_pos hR, hcn]
      have ht := tame_of hR
      have HBY := hid (fun (W : World) (a' : Option Addr) (c' : Nat) (h : rEntries.r (· < W.heap.size) W [.slice a' l.entries.length c'] l.entries) => (by have := batch_bytes W l a' _ c' hN h ht; rw [hbb] at this; exact this : Calls Tryz.prog 17 #[.agg #[.int .u64 l.epoch, .int .u64 l.base, .slice a' l.entries.length c']] W fun r w' => ∃ v, r = .returned (.tuple #[v, .int .i64 0]) ∧ rBytes.r (fun q => W.heap.size ≤ q ∧ q < w'.heap.size) w' [v] B ∧ Below W.heap.size W w'))
      have HRT := hid (fun (W : World) (a' : Option Addr) (c' : Nat) (h : rEntries.r (· < W.heap.size) W [.slice a' l.entries.length c'] l.entries) => (by have := ref25_right l a' _ c' W hN.1 hN.2.1 h ht.fair; rw [hR] at this; exact this : Calls Tryz.prog 23 #[.agg #[.int .u64 l.epoch, .int .u64 l.base, .slice a' l.entries.length c']] W fun r w' => r = .returned (.bool true) ∧ Below W.heap.size W w'))
      have HSM := hid (fun (W : World) (a1 a2 : Option Addr) (c1 c2 : Nat) (h1 : rEntries.r (· < W.heap.size) W [.slice a1 l.entries.length c1] l.entries) (h2 : rEntries.r (· < W.heap.size) W [.slice a2 l.entries.length c2] l.entries) => (by have := ref25_same l l a1 a2 _ c1 _ c2 W h1 h2; simp only [decide_true] at this; exact this : Calls Tryz.prog 26 #[.agg #[.int .u64 l.epoch, .int .u64 l.base, .slice a1 l.entries.length c1], .agg #[.int .u64 l.epoch, .int .u64 l.base, .slice a2 l.entries.length c2]] W fun r w' => r = .returned (.bool true) ∧ Below W.heap.size W w'))
      clear hk hR hN hcn hbb ht hrel hnS hnL hrS hrL hcan
      go_enter Tryz.func6, Tryz.ntmps6
      go_wp2_with fail
      refine (HG.out w (Below.refl _ _)).mono ?_
      rintro r w0 ⟨q0, rfl, rfl⟩
      cases q0
      · go_wp2_with fail
        refine (HS.out w (Below.refl _ _)).mono ?_
        rintro r w1 ⟨v1, rfl, hv1, hb1⟩
        obtain ⟨a1, c1, hfv, hv1', _⟩ := sl_form (entriesW_entries hv1)
        simp only [List.cons.injEq, and_true] at hfv
        subst hfv
        have HV1 := hid (rEntries.mono hv1' (S' := (· < w1.heap.size)) fun q hq => hq.2)
        clear hv1 hv1'
        go_wp2_with fail
        have B1 : Blk ((w1.alloc (.cells #[.int .u64 l.epoch, .int .u64 l.base, .slice a1 l.entries.length c1] 25)).alloc (.cells #[.int .i64 u'.k, .int .i64 u'.f] 48)) w1.heap.size 25 #[.int .u64 l.epoch, .int .u64 l.base, .slice a1 l.entries.length c1] := by (repeat (first | assumption | exact Blk.newAt _ _ _ (by first | (simp; done) | (simp; omega)) | refine Blk.alloc ?_ _ | refine Blk.drew ?_ | refine Blk.drewN ?_ _ | refine Blk.far ?_ (by first | (simp; done) | (simp; omega)) _))
        have F1 : Blk ((w1.alloc (.cells #[.int .u64 l.epoch, .int .u64 l.base, .slice a1 l.entries.length c1] 25)).alloc (.cells #[.int .i64 u'.k, .int .i64 u'.f] 48)) (w1.heap.size + 1) 48 #[.int .i64 u'.k, .int .i64 u'.f] := by (repeat (first | assumption | exact Blk.newAt _ _ _ (by first | (simp; done) | (simp; omega)) | refine Blk.alloc ?_ _ | refine Blk.drew ?_ | refine Blk.drewN ?_ _ | refine Blk.far ?_ (by first | (simp; done) | (simp; omega)) _))
        have hb1' : Below w.heap.size w ((w1.alloc (.cells #[.int .u64 l.epoch, .int .u64 l.base, .slice a1 l.entries.length c1] 25)).alloc (.cells #[.int .i64 u'.k, .int .i64 u'.f] 48)) := by (repeat (first | with_reducible exact Below.refl _ _ | with_reducible assumption | (with_reducible refine below_alloc ?_ _) | (with_reducible refine Below.setCell ?_ (by first | omega | (simp; done) | (simp; omega)) _) | (with_reducible refine Below.drew ?_) | (with_reducible refine below_drewN ?_ _) | (refine below_then (by with_reducible assumption) ?_)))
        have HV1' := hid (lift HV1.out (show Below w1.heap.size w1 ((w1.alloc (.cells #[.int .u64 l.epoch, .int .u64 l.base, .slice a1 l.entries.length c1] 25)).alloc (.cells #[.int .i64 u'.k, .int .i64 u'.f] 48)) from by (repeat (first | with_reducible exact Below.refl _ _ | with_reducible assumption | (with_reducible refine below_alloc ?_ _) | (with_reducible refine Below.setCell ?_ (by first | omega | (simp; done) | (simp; omega)) _) | (with_reducible refine Below.drew ?_) | (with_reducible refine below_drewN ?_ _) | (refine below_then (by with_reducible assumption) ?_)))))
        have hz1 : (((w1.alloc (.cells #[.int .u64 l.epoch, .int .u64 l.base, .slice a1 l.entries.length c1] 25)).alloc (.cells #[.int .i64 u'.k, .int .i64 u'.f] 48))).heap.size = w1.heap.size + 2 := by simp
        generalize ((w1.alloc (.cells #[.int .u64 l.epoch, .int .u64 l.base, .slice a1 l.entries.length c1] 25)).alloc (.cells #[.int .i64 u'.k, .int .i64 u'.f] 48)) = v1 at *
        clear hb1
        refine (HLO.out v1 hb1').mono ?_
        rintro r w2 ⟨v2, rfl, hv2, hb2⟩
        obtain ⟨a2, c2, hfv, hv2', _⟩ := sl_form (entriesW_entries hv2)
        simp only [List.cons.injEq, and_true] at hfv
        subst hfv
        have HV2 := hid (rEntries.mono hv2' (S' := (· < w2.heap.size)) fun q hq => hq.2)
        have HV12 := hid (lift HV1'.out hb2)
        have B2 := B1.later hb2
        have F2 := F1.later hb2
        have hbw2 := below_then hb2 hb1'
        have hs2 := hb2.size
        clear hv2 hv2' hb2 B1 F1
        obtain ⟨x0, x1, x2, _, _, _, l0⟩ := b_blk B2
        obtain ⟨y0, y1, _, _, l1⟩ := f_blk F2

        go_wp2_with fail

        have L3 : Blk ((w2.alloc (.cells #[.int .u64 l.epoch, .int .u64 l.base, .slice a2 l.entries.length c2] 25)).alloc (.cells #[.int .i64 u'.k, .int .i64 u'.f] 48)) w2.heap.size 25 #[.int .u64 l.epoch, .int .u64 l.base, .slice a2 l.entries.length c2] := by (repeat (first | assumption | exact Blk.newAt _ _ _ (by first | (simp; done) | (simp; omega)) | refine Blk.alloc ?_ _ | refine Blk.drew ?_ | refine Blk.drewN ?_ _ | refine Blk.far ?_ (by first | (simp; done) | (simp; omega)) _))
        have G3 : Blk ((w2.alloc (.cells #[.int .u64 l.epoch, .int .u64 l.base, .slice a2 l.entries.length c2] 25)).alloc (.cells #[.int .i64 u'.k, .int .i64 u'.f] 48)) (w2.heap.size + 1) 48 #[.int .i64 u'.k, .int .i64 u'.f] := by (repeat (first | assumption | exact Blk.newAt _ _ _ (by first | (simp; done) | (simp; omega)) | refine Blk.alloc ?_ _ | refine Blk.drew ?_ | refine Blk.drewN ?_ _ | refine Blk.far ?_ (by first | (simp; done) | (simp; omega)) _))
        have B3 : Blk ((w2.alloc (.cells #[.int .u64 l.epoch, .int .u64 l.base, .slice a2 l.entries.length c2] 25)).alloc (.cells #[.int .i64 u'.k, .int .i64 u'.f] 48)) w1.heap.size 25 #[.int .u64 l.epoch, .int .u64 l.base, .slice a1 l.entries.length c1] := Blk.later B2 (by (repeat (first | with_reducible exact Below.refl _ _ | with_reducible assumption | (with_reducible refine below_alloc ?_ _) | (with_reducible refine Below.setCell ?_ (by first | omega | (simp; done) | (simp; omega)) _) | (with_reducible refine Below.drew ?_) | (with_reducible refine below_drewN ?_ _) | (refine below_then (by with_reducible assumption) ?_))) : Below w2.heap.size w2 _)
        have F3 : Blk ((w2.alloc (.cells #[.int .u64 l.epoch, .int .u64 l.base, .slice a2 l.entries.length c2] 25)).alloc (.cells #[.int .i64 u'.k, .int .i64 u'.f] 48)) (w1.heap.size + 1) 48 #[.int .i64 u'.k, .int .i64 u'.f] := Blk.later F2 (by (repeat (first | with_reducible exact Below.refl _ _ | with_reducible assumption | (with_reducible refine below_alloc ?_ _) | (with_reducible refine Below.setCell ?_ (by first | omega | (simp; done) | (simp; omega)) _) | (with_reducible refine Below.drew ?_) | (with_reducible refine below_drewN ?_ _) | (refine below_then (by with_reducible assumption) ?_))) : Below w2.heap.size w2 _)
        have hb23 : Below w2.heap.size w2 ((w2.alloc (.cells #[.int .u64 l.epoch, .int .u64 l.base, .slice a2 l.entries.length c2] 25)).alloc (.cells #[.int .i64 u'.k, .int .i64 u'.f] 48)) := by (repeat (first | with_reducible exact Below.refl _ _ | with_reducible assumption | (with_reducible refine below_alloc ?_ _) | (with_reducible refine Below.setCell ?_ (by first | omega | (simp; done) | (simp; omega)) _) | (with_reducible refine Below.drew ?_) | (with_reducible refine below_drewN ?_ _) | (refine below_then (by with_reducible assumption) ?_)))
        have hbw3 := below_then hb23 hbw2
        have HB3 := hid (lift HV12.out hb23)
        have HL3 := hid (lift HV2.out hb23)
        have hz3 : (((w2.alloc (.cells #[.int .u64 l.epoch, .int .u64 l.base, .slice a2 l.entries.length c2] 25)).alloc (.cells #[.int .i64 u'.k, .int .i64 u'.f] 48))).heap.size = w2.heap.size + 2 := by simp
        generalize ((w2.alloc (.cells #[.int .u64 l.epoch, .int .u64 l.base, .slice a2 l.entries.length c2] 25)).alloc (.cells #[.int .i64 u'.k, .int .i64 u'.f] 48)) = v3 at *
        clear hb23 hbw2 x0 x1 x2 l0 y0 y1 l1 B2 F2

        obtain ⟨x0, x1, x2, _, _, _, l0⟩ := b_blk B3
        obtain ⟨y0, y1, _, _, l1⟩ := f_blk F3
        obtain ⟨z0, z1, z2, _, _, _, l2⟩ := b_blk L3
        obtain ⟨t0, t1, _, _, l3⟩ := f_blk G3

        refine (HBY.out _ a1 c1 HB3.out).mono ?_
        rintro r w4 ⟨v4, rfl, hv4, hb4⟩
        obtain ⟨a4, c4, hfv, hv4', _⟩ := sl_form hv4
        simp only [List.cons.injEq, and_true] at hfv
        subst hfv
        have HV4 := hid (rBytes.mono hv4' (S' := (· < w4.heap.size)) fun q hq => hq.2)
        have B4 := B3.later hb4; have F4 := F3.later hb4; have L4 := L3.later hb4; have G4 := G3.later hb4
        have hbw4 := below_then hb4 hbw3
        have HB4 := hid (lift HB3.out hb4); have HL4 := hid (lift HL3.out hb4)
        clear hv4 hv4' hb4 B3 F3 L3 G3 HB3 HL3 x0 x1 x2 l0 y0 y1 l1 z0 z1 z2 l2 t0 t1 l3

        obtain ⟨x0, x1, x2, _, _, _, l0⟩ := b_blk B4
        obtain ⟨y0, y1, _, _, l1⟩ := f_blk F4
        obtain ⟨z0, z1, z2, _, _, _, l2⟩ := b_blk L4
        obtain ⟨t0, t1, _, _, l3⟩ := f_blk G4

        go_wp2_with fail
        refine (HRT.out _ a1 c1 HB4.out).mono ?_
        rintro r w5 ⟨rfl, hb5⟩
        have HV5 := hid (lift HV4.out hb5)
        have B5 := B4.later hb5; have F5 := F4.later hb5; have L5 := L4.later hb5; have G5 := G4.later hb5
        have hbw5 := below_then hb5 hbw4
        have HB5 := hid (lift HB4.out hb5); have HL5 := hid (lift HL4.out hb5)
        clear hb5 B4 F4 L4 G4 HB4 HL4 x0 x1 x2 l0 y0 y1 l1 z0 z1 z2 l2 t0 t1 l3

        obtain ⟨x0, x1, x2, _, _, _, l0⟩ := b_blk B5
        obtain ⟨y0, y1, _, _, l1⟩ := f_blk F5
        obtain ⟨z0, z1, z2, _, _, _, l2⟩ := b_blk L5
        obtain ⟨t0, t1, _, _, l3⟩ := f_blk G5

        have hsame := same_bytes B B a4 a _ c4 _ c w5 HV5.out (lift HL.out hbw5)
        simp only [decide_true] at hsame
        have HSAME := hid hsame
        clear hsame
        go_wp2_with fail
        refine HSAME.out.mono ?_
        rintro r w6 ⟨rfl, rfl⟩

        go_wp2_with fail
        refine (HSM.out _ a2 a1 c2 c1 HL5.out HB5.out).mono ?_
        rintro r w6 ⟨rfl, hb6⟩

        have B6 := B5.later hb6; have F6 := F5.later hb6; have L6 := L5.later hb6; have G6 := G5.later hb6
        have hbw6 := below_then hb6 hbw5
        have HB6 := hid (lift HB5.out hb6); have HL6 := hid (lift HL5.out hb6)
        clear hb6 B5 F5 L5 G5 HB5 HL5 x0 x1 x2 l0 y0 y1 l1 z0 z1 z2 l2 t0 t1 l3

        obtain ⟨x0, x1, x2, _, _, _, l0⟩ := b_blk B6
        obtain ⟨y0, y1, _, _, l1⟩ := f_blk F6
        obtain ⟨z0, z1, z2, _, _, _, l2⟩ := b_blk L6
        obtain ⟨t0, t1, _, _, l3⟩ := f_blk G6

        go_wp2_with fail
        refine (live25 _).mono ?_
        rintro r w99 ⟨rfl, hb99⟩
        have hbe := below_then hb99 hbw6
        go_wp2
        go_ret
        exact ⟨rfl, hbe⟩

      · go_wp2_with fail
        refine (live25 _).mono ?_
        rintro r w99 ⟨rfl, hb99⟩
        have hbe := hb99
        go_wp2
        go_ret
        exact ⟨rfl, hbe⟩
    · have hb := congrArg Prod.fst (hnS hk)
      dsimp only at hb
      by_cases hk' : u'.k = 0
      · have hB : u.k = 12 ∧ q = false := by
          rcases hrel with ⟨e1, _, _⟩ | ⟨e1, e2⟩
          · rw [e1] at hk; exact absurd hk' hk
          · exact ⟨e1, e2 hk'⟩
        obtain ⟨hR, hN⟩ := hrL hk'
        have ht := tame_of hR
        have dk : (u.k == (0 : Int)) = false := by simp [hk]
        have dk' : (u'.k == (0 : Int)) = true := by simp [hk']
        have dq : (u.k == (12 : Int)) = true := by simp [hB.1]
        obtain ⟨hB1, rfl⟩ := hB
        have HRT := hid (fun (W : World) (a' : Option Addr) (c' : Nat) (h : rEntries.r (· < W.heap.size) W [.slice a' l.entries.length c'] l.entries) => (by have := ref25_right l a' _ c' W hN.1 hN.2.1 h ht.fair; rw [hR] at this; exact this : Calls Tryz.prog 23 #[.agg #[.int .u64 l.epoch, .int .u64 l.base, .slice a' l.entries.length c']] W fun r w' => r = .returned (.bool true) ∧ Below W.heap.size W w'))
        clear hk hk' hB1 hR hN ht hrel hnS hnL hrS hrL hcan hb
        go_enter Tryz.func6, Tryz.ntmps6
        go_wp2_with fail
        refine (HG.out w (Below.refl _ _)).mono ?_
        rintro r w0 ⟨q0, rfl, rfl⟩
        cases q0
        · go_wp2_with fail
          refine (HS.out w (Below.refl _ _)).mono ?_
          rintro r w1 ⟨v1, rfl, hv1, hb1⟩
          obtain ⟨a1, c1, hfv, hv1', _⟩ := sl_form (entriesW_entries hv1)
          simp only [List.cons.injEq, and_true] at hfv
          subst hfv
          have HV1 := hid (rEntries.mono hv1' (S' := (· < w1.heap.size)) fun q hq => hq.2)
          clear hv1 hv1'
          go_wp2_with fail
          have B1 : Blk ((w1.alloc (.cells #[.int .u64 b.epoch, .int .u64 b.base, .slice a1 b.entries.length c1] 25)).alloc (.cells #[.int .i64 u.k, .int .i64 u.f] 48)) w1.heap.size 25 #[.int .u64 b.epoch, .int .u64 b.base, .slice a1 b.entries.length c1] := by (repeat (first | assumption | exact Blk.newAt _ _ _ (by first | (simp; done) | (simp; omega)) | refine Blk.alloc ?_ _ | refine Blk.drew ?_ | refine Blk.drewN ?_ _ | refine Blk.far ?_ (by first | (simp; done) | (simp; omega)) _))
          have F1 : Blk ((w1.alloc (.cells #[.int .u64 b.epoch, .int .u64 b.base, .slice a1 b.entries.length c1] 25)).alloc (.cells #[.int .i64 u.k, .int .i64 u.f] 48)) (w1.heap.size + 1) 48 #[.int .i64 u.k, .int .i64 u.f] := by (repeat (first | assumption | exact Blk.newAt _ _ _ (by first | (simp; done) | (simp; omega)) | refine Blk.alloc ?_ _ | refine Blk.drew ?_ | refine Blk.drewN ?_ _ | refine Blk.far ?_ (by first | (simp; done) | (simp; omega)) _))
          have hb1' : Below w.heap.size w ((w1.alloc (.cells #[.int .u64 b.epoch, .int .u64 b.base, .slice a1 b.entries.length c1] 25)).alloc (.cells #[.int .i64 u.k, .int .i64 u.f] 48)) := by (repeat (first | with_reducible exact Below.refl _ _ | with_reducible assumption | (with_reducible refine below_alloc ?_ _) | (with_reducible refine Below.setCell ?_ (by first | omega | (simp; done) | (simp; omega)) _) | (with_reducible refine Below.drew ?_) | (with_reducible refine below_drewN ?_ _) | (refine below_then (by with_reducible assumption) ?_)))
          have HV1' := hid (lift HV1.out (show Below w1.heap.size w1 ((w1.alloc (.cells #[.int .u64 b.epoch, .int .u64 b.base, .slice a1 b.entries.length c1] 25)).alloc (.cells #[.int .i64 u.k, .int .i64 u.f] 48)) from by (repeat (first | with_reducible exact Below.refl _ _ | with_reducible assumption | (with_reducible refine below_alloc ?_ _) | (with_reducible refine Below.setCell ?_ (by first | omega | (simp; done) | (simp; omega)) _) | (with_reducible refine Below.drew ?_) | (with_reducible refine below_drewN ?_ _) | (refine below_then (by with_reducible assumption) ?_)))))
          have hz1 : (((w1.alloc (.cells #[.int .u64 b.epoch, .int .u64 b.base, .slice a1 b.entries.length c1] 25)).alloc (.cells #[.int .i64 u.k, .int .i64 u.f] 48))).heap.size = w1.heap.size + 2 := by simp
          generalize ((w1.alloc (.cells #[.int .u64 b.epoch, .int .u64 b.base, .slice a1 b.entries.length c1] 25)).alloc (.cells #[.int .i64 u.k, .int .i64 u.f] 48)) = v1 at *
          clear hb1
          refine (HLO.out v1 hb1').mono ?_
          rintro r w2 ⟨v2, rfl, hv2, hb2⟩
          obtain ⟨a2, c2, hfv, hv2', _⟩ := sl_form (entriesW_entries hv2)
          simp only [List.cons.injEq, and_true] at hfv
          subst hfv
          have HV2 := hid (rEntries.mono hv2' (S' := (· < w2.heap.size)) fun q hq => hq.2)
          have HV12 := hid (lift HV1'.out hb2)
          have B2 := B1.later hb2
          have F2 := F1.later hb2
          have hbw2 := below_then hb2 hb1'
          have hs2 := hb2.size
          clear hv2 hv2' hb2 B1 F1
          obtain ⟨x0, x1, x2, _, _, _, l0⟩ := b_blk B2
          obtain ⟨y0, y1, _, _, l1⟩ := f_blk F2

          go_wp2_with fail

          have L3 : Blk ((w2.alloc (.cells #[.int .u64 l.epoch, .int .u64 l.base, .slice a2 l.entries.length c2] 25)).alloc (.cells #[.int .i64 u'.k, .int .i64 u'.f] 48)) w2.heap.size 25 #[.int .u64 l.epoch, .int .u64 l.base, .slice a2 l.entries.length c2] := by (repeat (first | assumption | exact Blk.newAt _ _ _ (by first | (simp; done) | (simp; omega)) | refine Blk.alloc ?_ _ | refine Blk.drew ?_ | refine Blk.drewN ?_ _ | refine Blk.far ?_ (by first | (simp; done) | (simp; omega)) _))
          have G3 : Blk ((w2.alloc (.cells #[.int .u64 l.epoch, .int .u64 l.base, .slice a2 l.entries.length c2] 25)).alloc (.cells #[.int .i64 u'.k, .int .i64 u'.f] 48)) (w2.heap.size + 1) 48 #[.int .i64 u'.k, .int .i64 u'.f] := by (repeat (first | assumption | exact Blk.newAt _ _ _ (by first | (simp; done) | (simp; omega)) | refine Blk.alloc ?_ _ | refine Blk.drew ?_ | refine Blk.drewN ?_ _ | refine Blk.far ?_ (by first | (simp; done) | (simp; omega)) _))
          have B3 : Blk ((w2.alloc (.cells #[.int .u64 l.epoch, .int .u64 l.base, .slice a2 l.entries.length c2] 25)).alloc (.cells #[.int .i64 u'.k, .int .i64 u'.f] 48)) w1.heap.size 25 #[.int .u64 b.epoch, .int .u64 b.base, .slice a1 b.entries.length c1] := Blk.later B2 (by (repeat (first | with_reducible exact Below.refl _ _ | with_reducible assumption | (with_reducible refine below_alloc ?_ _) | (with_reducible refine Below.setCell ?_ (by first | omega | (simp; done) | (simp; omega)) _) | (with_reducible refine Below.drew ?_) | (with_reducible refine below_drewN ?_ _) | (refine below_then (by with_reducible assumption) ?_))) : Below w2.heap.size w2 _)
          have F3 : Blk ((w2.alloc (.cells #[.int .u64 l.epoch, .int .u64 l.base, .slice a2 l.entries.length c2] 25)).alloc (.cells #[.int .i64 u'.k, .int .i64 u'.f] 48)) (w1.heap.size + 1) 48 #[.int .i64 u.k, .int .i64 u.f] := Blk.later F2 (by (repeat (first | with_reducible exact Below.refl _ _ | with_reducible assumption | (with_reducible refine below_alloc ?_ _) | (with_reducible refine Below.setCell ?_ (by first | omega | (simp; done) | (simp; omega)) _) | (with_reducible refine Below.drew ?_) | (with_reducible refine below_drewN ?_ _) | (refine below_then (by with_reducible assumption) ?_))) : Below w2.heap.size w2 _)
          have hb23 : Below w2.heap.size w2 ((w2.alloc (.cells #[.int .u64 l.epoch, .int .u64 l.base, .slice a2 l.entries.length c2] 25)).alloc (.cells #[.int .i64 u'.k, .int .i64 u'.f] 48)) := by (repeat (first | with_reducible exact Below.refl _ _ | with_reducible assumption | (with_reducible refine below_alloc ?_ _) | (with_reducible refine Below.setCell ?_ (by first | omega | (simp; done) | (simp; omega)) _) | (with_reducible refine Below.drew ?_) | (with_reducible refine below_drewN ?_ _) | (refine below_then (by with_reducible assumption) ?_)))
          have hbw3 := below_then hb23 hbw2
          have HB3 := hid (lift HV12.out hb23)
          have HL3 := hid (lift HV2.out hb23)
          have hz3 : (((w2.alloc (.cells #[.int .u64 l.epoch, .int .u64 l.base, .slice a2 l.entries.length c2] 25)).alloc (.cells #[.int .i64 u'.k, .int .i64 u'.f] 48))).heap.size = w2.heap.size + 2 := by simp
          generalize ((w2.alloc (.cells #[.int .u64 l.epoch, .int .u64 l.base, .slice a2 l.entries.length c2] 25)).alloc (.cells #[.int .i64 u'.k, .int .i64 u'.f] 48)) = v3 at *
          clear hb23 hbw2 x0 x1 x2 l0 y0 y1 l1 B2 F2

          obtain ⟨x0, x1, x2, _, _, _, l0⟩ := b_blk B3
          obtain ⟨y0, y1, _, _, l1⟩ := f_blk F3
          obtain ⟨z0, z1, z2, _, _, _, l2⟩ := b_blk L3
          obtain ⟨t0, t1, _, _, l3⟩ := f_blk G3

          refine (HRT.out _ a2 c2 HL3.out).mono ?_
          rintro r w4 ⟨rfl, hb4⟩

          have B4 := B3.later hb4; have F4 := F3.later hb4; have L4 := L3.later hb4; have G4 := G3.later hb4
          have hbw4 := below_then hb4 hbw3
          have HB4 := hid (lift HB3.out hb4); have HL4 := hid (lift HL3.out hb4)
          clear hb4 B3 F3 L3 G3 HB3 HL3 x0 x1 x2 l0 y0 y1 l1 z0 z1 z2 l2 t0 t1 l3

          obtain ⟨x0, x1, x2, _, _, _, l0⟩ := b_blk B4
          obtain ⟨y0, y1, _, _, l1⟩ := f_blk F4
          obtain ⟨z0, z1, z2, _, _, _, l2⟩ := b_blk L4
          obtain ⟨t0, t1, _, _, l3⟩ := f_blk G4

          go_wp2_with fail
          refine (live25 _).mono ?_
          rintro r w99 ⟨rfl, hb99⟩
          have hbe := below_then hb99 hbw4
          go_wp2
          go_ret
          exact ⟨rfl, hbe⟩

        · go_wp2_with fail
          refine (live25 _).mono ?_
          rintro r w99 ⟨rfl, hb99⟩
          have hbe := hb99
          go_wp2
          go_ret
          exact ⟨rfl, hbe⟩
      · have hb' := congrArg Prod.fst (hnL hk')
        dsimp only at hb'
        subst hb hb'
        rw [show noBatch = ⟨0, 0, []⟩ from rfl] at HS HLO
        dsimp only at HS HLO
        have dk : (u.k == (0 : Int)) = false := by simp [hk]
        have dk' : (u'.k == (0 : Int)) = false := by simp [hk']
        have hAB : (u = u') ∨ (u.k = 12) := by
          rcases hrel with ⟨e1, _, _⟩ | ⟨e1, e2⟩
          · exact .inl e1
          · exact .inr e1
        clear hrel hnS hnL hrS hrL hcan hk hk'
        rcases hAB with rfl | h12
        · skip
          go_enter Tryz.func6, Tryz.ntmps6
          go_wp2_with fail
          refine (HG.out w (Below.refl _ _)).mono ?_
          rintro r w0 ⟨q0, rfl, rfl⟩
          cases q0
          · go_wp2_with fail
            refine (HS.out w (Below.refl _ _)).mono ?_
            rintro r w1 ⟨v1, rfl, hv1, hb1⟩
            obtain ⟨a1, c1, hfv, hv1', _⟩ := sl_form (entriesW_entries hv1)
            simp only [List.cons.injEq, and_true] at hfv
            subst hfv
            simp only [List.length_nil] at hv1'
            have HV1 := hid (rEntries.mono hv1' (S' := (· < w1.heap.size)) fun q hq => hq.2)
            clear hv1 hv1'
            go_wp2_with fail
            have B1 : Blk ((w1.alloc (.cells #[.int .u64 0, .int .u64 0, .slice a1 0 c1] 25)).alloc (.cells #[.int .i64 u.k, .int .i64 u.f] 48)) w1.heap.size 25 #[.int .u64 0, .int .u64 0, .slice a1 0 c1] := by (repeat (first | assumption | exact Blk.newAt _ _ _ (by first | (simp; done) | (simp; omega)) | refine Blk.alloc ?_ _ | refine Blk.drew ?_ | refine Blk.drewN ?_ _ | refine Blk.far ?_ (by first | (simp; done) | (simp; omega)) _))
            have F1 : Blk ((w1.alloc (.cells #[.int .u64 0, .int .u64 0, .slice a1 0 c1] 25)).alloc (.cells #[.int .i64 u.k, .int .i64 u.f] 48)) (w1.heap.size + 1) 48 #[.int .i64 u.k, .int .i64 u.f] := by (repeat (first | assumption | exact Blk.newAt _ _ _ (by first | (simp; done) | (simp; omega)) | refine Blk.alloc ?_ _ | refine Blk.drew ?_ | refine Blk.drewN ?_ _ | refine Blk.far ?_ (by first | (simp; done) | (simp; omega)) _))
            have hb1' : Below w.heap.size w ((w1.alloc (.cells #[.int .u64 0, .int .u64 0, .slice a1 0 c1] 25)).alloc (.cells #[.int .i64 u.k, .int .i64 u.f] 48)) := by (repeat (first | with_reducible exact Below.refl _ _ | with_reducible assumption | (with_reducible refine below_alloc ?_ _) | (with_reducible refine Below.setCell ?_ (by first | omega | (simp; done) | (simp; omega)) _) | (with_reducible refine Below.drew ?_) | (with_reducible refine below_drewN ?_ _) | (refine below_then (by with_reducible assumption) ?_)))
            have HV1' := hid (lift HV1.out (show Below w1.heap.size w1 ((w1.alloc (.cells #[.int .u64 0, .int .u64 0, .slice a1 0 c1] 25)).alloc (.cells #[.int .i64 u.k, .int .i64 u.f] 48)) from by (repeat (first | with_reducible exact Below.refl _ _ | with_reducible assumption | (with_reducible refine below_alloc ?_ _) | (with_reducible refine Below.setCell ?_ (by first | omega | (simp; done) | (simp; omega)) _) | (with_reducible refine Below.drew ?_) | (with_reducible refine below_drewN ?_ _) | (refine below_then (by with_reducible assumption) ?_)))))
            have hz1 : (((w1.alloc (.cells #[.int .u64 0, .int .u64 0, .slice a1 0 c1] 25)).alloc (.cells #[.int .i64 u.k, .int .i64 u.f] 48))).heap.size = w1.heap.size + 2 := by simp
            generalize ((w1.alloc (.cells #[.int .u64 0, .int .u64 0, .slice a1 0 c1] 25)).alloc (.cells #[.int .i64 u.k, .int .i64 u.f] 48)) = v1 at *
            clear hb1
            refine (HLO.out v1 hb1').mono ?_
            rintro r w2 ⟨v2, rfl, hv2, hb2⟩
            obtain ⟨a2, c2, hfv, hv2', _⟩ := sl_form (entriesW_entries hv2)
            simp only [List.cons.injEq, and_true] at hfv
            subst hfv
            simp only [List.length_nil] at hv2'
            have HV2 := hid (rEntries.mono hv2' (S' := (· < w2.heap.size)) fun q hq => hq.2)
            have HV12 := hid (lift HV1'.out hb2)
            have B2 := B1.later hb2
            have F2 := F1.later hb2
            have hbw2 := below_then hb2 hb1'
            have hs2 := hb2.size
            clear hv2 hv2' hb2 B1 F1
            obtain ⟨x0, x1, x2, _, _, _, l0⟩ := b_blk B2
            obtain ⟨y0, y1, _, _, l1⟩ := f_blk F2
            have hbw2' : Below w.heap.size w ((w2.alloc (.cells #[.int .u64 0, .int .u64 0, .slice a2 0 c2] 25)).alloc (.cells #[.int .i64 u.k, .int .i64 u.f] 48)) := by (repeat (first | with_reducible exact Below.refl _ _ | with_reducible assumption | (with_reducible refine below_alloc ?_ _) | (with_reducible refine Below.setCell ?_ (by first | omega | (simp; done) | (simp; omega)) _) | (with_reducible refine Below.drew ?_) | (with_reducible refine below_drewN ?_ _) | (refine below_then (by with_reducible assumption) ?_)))

            go_wp2_with fail
            refine (live25 _).mono ?_
            rintro r w99 ⟨rfl, hb99⟩
            have hbe := below_then hb99 hbw2'
            go_wp2
            go_ret
            exact ⟨rfl, hbe⟩

          · go_wp2_with fail
            refine (live25 _).mono ?_
            rintro r w99 ⟨rfl, hb99⟩
            have hbe := hb99
            go_wp2
            go_ret
            exact ⟨rfl, hbe⟩
        · have dq : (u.k == (12 : Int)) = true := by simp [h12]
          by_cases e1 : u.k = u'.k
          · rw [e1] at HS dk dq
            by_cases e2 : u.f = u'.f
            · rw [e2] at HS
              clear e1 e2 h12
              go_enter Tryz.func6, Tryz.ntmps6
              go_wp2_with fail
              refine (HG.out w (Below.refl _ _)).mono ?_
              rintro r w0 ⟨q0, rfl, rfl⟩
              cases q0
              · go_wp2_with fail
                refine (HS.out w (Below.refl _ _)).mono ?_
                rintro r w1 ⟨v1, rfl, hv1, hb1⟩
                obtain ⟨a1, c1, hfv, hv1', _⟩ := sl_form (entriesW_entries hv1)
                simp only [List.cons.injEq, and_true] at hfv
                subst hfv
                simp only [List.length_nil] at hv1'
                have HV1 := hid (rEntries.mono hv1' (S' := (· < w1.heap.size)) fun q hq => hq.2)
                clear hv1 hv1'
                go_wp2_with fail
                have B1 : Blk ((w1.alloc (.cells #[.int .u64 0, .int .u64 0, .slice a1 0 c1] 25)).alloc (.cells #[.int .i64 u'.k, .int .i64 u'.f] 48)) w1.heap.size 25 #[.int .u64 0, .int .u64 0, .slice a1 0 c1] := by (repeat (first | assumption | exact Blk.newAt _ _ _ (by first | (simp; done) | (simp; omega)) | refine Blk.alloc ?_ _ | refine Blk.drew ?_ | refine Blk.drewN ?_ _ | refine Blk.far ?_ (by first | (simp; done) | (simp; omega)) _))
                have F1 : Blk ((w1.alloc (.cells #[.int .u64 0, .int .u64 0, .slice a1 0 c1] 25)).alloc (.cells #[.int .i64 u'.k, .int .i64 u'.f] 48)) (w1.heap.size + 1) 48 #[.int .i64 u'.k, .int .i64 u'.f] := by (repeat (first | assumption | exact Blk.newAt _ _ _ (by first | (simp; done) | (simp; omega)) | refine Blk.alloc ?_ _ | refine Blk.drew ?_ | refine Blk.drewN ?_ _ | refine Blk.far ?_ (by first | (simp; done) | (simp; omega)) _))
                have hb1' : Below w.heap.size w ((w1.alloc (.cells #[.int .u64 0, .int .u64 0, .slice a1 0 c1] 25)).alloc (.cells #[.int .i64 u'.k, .int .i64 u'.f] 48)) := by (repeat (first | with_reducible exact Below.refl _ _ | with_reducible assumption | (with_reducible refine below_alloc ?_ _) | (with_reducible refine Below.setCell ?_ (by first | omega | (simp; done) | (simp; omega)) _) | (with_reducible refine Below.drew ?_) | (with_reducible refine below_drewN ?_ _) | (refine below_then (by with_reducible assumption) ?_)))
                have HV1' := hid (lift HV1.out (show Below w1.heap.size w1 ((w1.alloc (.cells #[.int .u64 0, .int .u64 0, .slice a1 0 c1] 25)).alloc (.cells #[.int .i64 u'.k, .int .i64 u'.f] 48)) from by (repeat (first | with_reducible exact Below.refl _ _ | with_reducible assumption | (with_reducible refine below_alloc ?_ _) | (with_reducible refine Below.setCell ?_ (by first | omega | (simp; done) | (simp; omega)) _) | (with_reducible refine Below.drew ?_) | (with_reducible refine below_drewN ?_ _) | (refine below_then (by with_reducible assumption) ?_)))))
                have hz1 : (((w1.alloc (.cells #[.int .u64 0, .int .u64 0, .slice a1 0 c1] 25)).alloc (.cells #[.int .i64 u'.k, .int .i64 u'.f] 48))).heap.size = w1.heap.size + 2 := by simp
                generalize ((w1.alloc (.cells #[.int .u64 0, .int .u64 0, .slice a1 0 c1] 25)).alloc (.cells #[.int .i64 u'.k, .int .i64 u'.f] 48)) = v1 at *
                clear hb1
                refine (HLO.out v1 hb1').mono ?_
                rintro r w2 ⟨v2, rfl, hv2, hb2⟩
                obtain ⟨a2, c2, hfv, hv2', _⟩ := sl_form (entriesW_entries hv2)
                simp only [List.cons.injEq, and_true] at hfv
                subst hfv
                simp only [List.length_nil] at hv2'
                have HV2 := hid (rEntries.mono hv2' (S' := (· < w2.heap.size)) fun q hq => hq.2)
                have HV12 := hid (lift HV1'.out hb2)
                have B2 := B1.later hb2
                have F2 := F1.later hb2
                have hbw2 := below_then hb2 hb1'
                have hs2 := hb2.size
                clear hv2 hv2' hb2 B1 F1
                obtain ⟨x0, x1, x2, _, _, _, l0⟩ := b_blk B2
                obtain ⟨y0, y1, _, _, l1⟩ := f_blk F2
                have hbw2' : Below w.heap.size w ((w2.alloc (.cells #[.int .u64 0, .int .u64 0, .slice a2 0 c2] 25)).alloc (.cells #[.int .i64 u'.k, .int .i64 u'.f] 48)) := by (repeat (first | with_reducible exact Below.refl _ _ | with_reducible assumption | (with_reducible refine below_alloc ?_ _) | (with_reducible refine Below.setCell ?_ (by first | omega | (simp; done) | (simp; omega)) _) | (with_reducible refine Below.drew ?_) | (with_reducible refine below_drewN ?_ _) | (refine below_then (by with_reducible assumption) ?_)))

                go_wp2_with fail
                refine (live25 _).mono ?_
                rintro r w99 ⟨rfl, hb99⟩
                have hbe := below_then hb99 hbw2'
                go_wp2
                go_ret
                exact ⟨rfl, hbe⟩

              · go_wp2_with fail
                refine (live25 _).mono ?_
                rintro r w99 ⟨rfl, hb99⟩
                have hbe := hb99
                go_wp2
                go_ret
                exact ⟨rfl, hbe⟩
            · have ef : (u.f == u'.f) = false := by simp [e2]
              have ef' : decide (u.f = u'.f) = false := decide_eq_false e2
              clear e1 e2 h12
              go_enter Tryz.func6, Tryz.ntmps6
              go_wp2_with fail
              refine (HG.out w (Below.refl _ _)).mono ?_
              rintro r w0 ⟨q0, rfl, rfl⟩
              cases q0
              · go_wp2_with fail
                refine (HS.out w (Below.refl _ _)).mono ?_
                rintro r w1 ⟨v1, rfl, hv1, hb1⟩
                obtain ⟨a1, c1, hfv, hv1', _⟩ := sl_form (entriesW_entries hv1)
                simp only [List.cons.injEq, and_true] at hfv
                subst hfv
                simp only [List.length_nil] at hv1'
                have HV1 := hid (rEntries.mono hv1' (S' := (· < w1.heap.size)) fun q hq => hq.2)
                clear hv1 hv1'
                go_wp2_with fail
                have B1 : Blk ((w1.alloc (.cells #[.int .u64 0, .int .u64 0, .slice a1 0 c1] 25)).alloc (.cells #[.int .i64 u'.k, .int .i64 u.f] 48)) w1.heap.size 25 #[.int .u64 0, .int .u64 0, .slice a1 0 c1] := by (repeat (first | assumption | exact Blk.newAt _ _ _ (by first | (simp; done) | (simp; omega)) | refine Blk.alloc ?_ _ | refine Blk.drew ?_ | refine Blk.drewN ?_ _ | refine Blk.far ?_ (by first | (simp; done) | (simp; omega)) _))
                have F1 : Blk ((w1.alloc (.cells #[.int .u64 0, .int .u64 0, .slice a1 0 c1] 25)).alloc (.cells #[.int .i64 u'.k, .int .i64 u.f] 48)) (w1.heap.size + 1) 48 #[.int .i64 u'.k, .int .i64 u.f] := by (repeat (first | assumption | exact Blk.newAt _ _ _ (by first | (simp; done) | (simp; omega)) | refine Blk.alloc ?_ _ | refine Blk.drew ?_ | refine Blk.drewN ?_ _ | refine Blk.far ?_ (by first | (simp; done) | (simp; omega)) _))
                have hb1' : Below w.heap.size w ((w1.alloc (.cells #[.int .u64 0, .int .u64 0, .slice a1 0 c1] 25)).alloc (.cells #[.int .i64 u'.k, .int .i64 u.f] 48)) := by (repeat (first | with_reducible exact Below.refl _ _ | with_reducible assumption | (with_reducible refine below_alloc ?_ _) | (with_reducible refine Below.setCell ?_ (by first | omega | (simp; done) | (simp; omega)) _) | (with_reducible refine Below.drew ?_) | (with_reducible refine below_drewN ?_ _) | (refine below_then (by with_reducible assumption) ?_)))
                have HV1' := hid (lift HV1.out (show Below w1.heap.size w1 ((w1.alloc (.cells #[.int .u64 0, .int .u64 0, .slice a1 0 c1] 25)).alloc (.cells #[.int .i64 u'.k, .int .i64 u.f] 48)) from by (repeat (first | with_reducible exact Below.refl _ _ | with_reducible assumption | (with_reducible refine below_alloc ?_ _) | (with_reducible refine Below.setCell ?_ (by first | omega | (simp; done) | (simp; omega)) _) | (with_reducible refine Below.drew ?_) | (with_reducible refine below_drewN ?_ _) | (refine below_then (by with_reducible assumption) ?_)))))
                have hz1 : (((w1.alloc (.cells #[.int .u64 0, .int .u64 0, .slice a1 0 c1] 25)).alloc (.cells #[.int .i64 u'.k, .int .i64 u.f] 48))).heap.size = w1.heap.size + 2 := by simp
                generalize ((w1.alloc (.cells #[.int .u64 0, .int .u64 0, .slice a1 0 c1] 25)).alloc (.cells #[.int .i64 u'.k, .int .i64 u.f] 48)) = v1 at *
                clear hb1
                refine (HLO.out v1 hb1').mono ?_
                rintro r w2 ⟨v2, rfl, hv2, hb2⟩
                obtain ⟨a2, c2, hfv, hv2', _⟩ := sl_form (entriesW_entries hv2)
                simp only [List.cons.injEq, and_true] at hfv
                subst hfv
                simp only [List.length_nil] at hv2'
                have HV2 := hid (rEntries.mono hv2' (S' := (· < w2.heap.size)) fun q hq => hq.2)
                have HV12 := hid (lift HV1'.out hb2)
                have B2 := B1.later hb2
                have F2 := F1.later hb2
                have hbw2 := below_then hb2 hb1'
                have hs2 := hb2.size
                clear hv2 hv2' hb2 B1 F1
                obtain ⟨x0, x1, x2, _, _, _, l0⟩ := b_blk B2
                obtain ⟨y0, y1, _, _, l1⟩ := f_blk F2
                have hbw2' : Below w.heap.size w ((w2.alloc (.cells #[.int .u64 0, .int .u64 0, .slice a2 0 c2] 25)).alloc (.cells #[.int .i64 u'.k, .int .i64 u'.f] 48)) := by (repeat (first | with_reducible exact Below.refl _ _ | with_reducible assumption | (with_reducible refine below_alloc ?_ _) | (with_reducible refine Below.setCell ?_ (by first | omega | (simp; done) | (simp; omega)) _) | (with_reducible refine Below.drew ?_) | (with_reducible refine below_drewN ?_ _) | (refine below_then (by with_reducible assumption) ?_)))

                go_wp2_with fail
                refine (live25 _).mono ?_
                rintro r w99 ⟨rfl, hb99⟩
                have hbe := below_then hb99 hbw2'
                go_wp2
                go_ret
                exact ⟨rfl, hbe⟩

              · go_wp2_with fail
                refine (live25 _).mono ?_
                rintro r w99 ⟨rfl, hb99⟩
                have hbe := hb99
                go_wp2
                go_ret
                exact ⟨rfl, hbe⟩
          · have ef : (u.k == u'.k) = false := by simp [e1]
            have ef' : decide (u.k = u'.k) = false := decide_eq_false e1
            clear e1 h12
            go_enter Tryz.func6, Tryz.ntmps6
            go_wp2_with fail
            refine (HG.out w (Below.refl _ _)).mono ?_
            rintro r w0 ⟨q0, rfl, rfl⟩
            cases q0
            · go_wp2_with fail
              refine (HS.out w (Below.refl _ _)).mono ?_
              rintro r w1 ⟨v1, rfl, hv1, hb1⟩
              obtain ⟨a1, c1, hfv, hv1', _⟩ := sl_form (entriesW_entries hv1)
              simp only [List.cons.injEq, and_true] at hfv
              subst hfv
              simp only [List.length_nil] at hv1'
              have HV1 := hid (rEntries.mono hv1' (S' := (· < w1.heap.size)) fun q hq => hq.2)
              clear hv1 hv1'
              go_wp2_with fail
              have B1 : Blk ((w1.alloc (.cells #[.int .u64 0, .int .u64 0, .slice a1 0 c1] 25)).alloc (.cells #[.int .i64 u.k, .int .i64 u.f] 48)) w1.heap.size 25 #[.int .u64 0, .int .u64 0, .slice a1 0 c1] := by (repeat (first | assumption | exact Blk.newAt _ _ _ (by first | (simp; done) | (simp; omega)) | refine Blk.alloc ?_ _ | refine Blk.drew ?_ | refine Blk.drewN ?_ _ | refine Blk.far ?_ (by first | (simp; done) | (simp; omega)) _))
              have F1 : Blk ((w1.alloc (.cells #[.int .u64 0, .int .u64 0, .slice a1 0 c1] 25)).alloc (.cells #[.int .i64 u.k, .int .i64 u.f] 48)) (w1.heap.size + 1) 48 #[.int .i64 u.k, .int .i64 u.f] := by (repeat (first | assumption | exact Blk.newAt _ _ _ (by first | (simp; done) | (simp; omega)) | refine Blk.alloc ?_ _ | refine Blk.drew ?_ | refine Blk.drewN ?_ _ | refine Blk.far ?_ (by first | (simp; done) | (simp; omega)) _))
              have hb1' : Below w.heap.size w ((w1.alloc (.cells #[.int .u64 0, .int .u64 0, .slice a1 0 c1] 25)).alloc (.cells #[.int .i64 u.k, .int .i64 u.f] 48)) := by (repeat (first | with_reducible exact Below.refl _ _ | with_reducible assumption | (with_reducible refine below_alloc ?_ _) | (with_reducible refine Below.setCell ?_ (by first | omega | (simp; done) | (simp; omega)) _) | (with_reducible refine Below.drew ?_) | (with_reducible refine below_drewN ?_ _) | (refine below_then (by with_reducible assumption) ?_)))
              have HV1' := hid (lift HV1.out (show Below w1.heap.size w1 ((w1.alloc (.cells #[.int .u64 0, .int .u64 0, .slice a1 0 c1] 25)).alloc (.cells #[.int .i64 u.k, .int .i64 u.f] 48)) from by (repeat (first | with_reducible exact Below.refl _ _ | with_reducible assumption | (with_reducible refine below_alloc ?_ _) | (with_reducible refine Below.setCell ?_ (by first | omega | (simp; done) | (simp; omega)) _) | (with_reducible refine Below.drew ?_) | (with_reducible refine below_drewN ?_ _) | (refine below_then (by with_reducible assumption) ?_)))))
              have hz1 : (((w1.alloc (.cells #[.int .u64 0, .int .u64 0, .slice a1 0 c1] 25)).alloc (.cells #[.int .i64 u.k, .int .i64 u.f] 48))).heap.size = w1.heap.size + 2 := by simp
              generalize ((w1.alloc (.cells #[.int .u64 0, .int .u64 0, .slice a1 0 c1] 25)).alloc (.cells #[.int .i64 u.k, .int .i64 u.f] 48)) = v1 at *
              clear hb1
              refine (HLO.out v1 hb1').mono ?_
              rintro r w2 ⟨v2, rfl, hv2, hb2⟩
              obtain ⟨a2, c2, hfv, hv2', _⟩ := sl_form (entriesW_entries hv2)
              simp only [List.cons.injEq, and_true] at hfv
              subst hfv
              simp only [List.length_nil] at hv2'
              have HV2 := hid (rEntries.mono hv2' (S' := (· < w2.heap.size)) fun q hq => hq.2)
              have HV12 := hid (lift HV1'.out hb2)
              have B2 := B1.later hb2
              have F2 := F1.later hb2
              have hbw2 := below_then hb2 hb1'
              have hs2 := hb2.size
              clear hv2 hv2' hb2 B1 F1
              obtain ⟨x0, x1, x2, _, _, _, l0⟩ := b_blk B2
              obtain ⟨y0, y1, _, _, l1⟩ := f_blk F2
              have hbw2' : Below w.heap.size w ((w2.alloc (.cells #[.int .u64 0, .int .u64 0, .slice a2 0 c2] 25)).alloc (.cells #[.int .i64 u'.k, .int .i64 u'.f] 48)) := by (repeat (first | with_reducible exact Below.refl _ _ | with_reducible assumption | (with_reducible refine below_alloc ?_ _) | (with_reducible refine Below.setCell ?_ (by first | omega | (simp; done) | (simp; omega)) _) | (with_reducible refine Below.drew ?_) | (with_reducible refine below_drewN ?_ _) | (refine below_then (by with_reducible assumption) ?_)))

              go_wp2_with fail
              refine (live25 _).mono ?_
              rintro r w99 ⟨rfl, hb99⟩
              have hbe := below_then hb99 hbw2'
              go_wp2
              go_ret
              exact ⟨rfl, hbe⟩

            · go_wp2_with fail
              refine (live25 _).mono ?_
              rintro r w99 ⟨rfl, hb99⟩
              have hbe := hb99
              go_wp2
              go_ret
              exact ⟨rfl, hbe⟩
  · have d0 : decide ((300 : Int) < (B.length : Int)) = true := decide_eq_true (by omega)
    clear h300 hl
    go_enter Tryz.func6, Tryz.ntmps6

    go_wp2_with fail
    refine (live25 _).mono ?_
    rintro r w99 ⟨rfl, hb99⟩
    have hbe := hb99
    go_wp2
    go_ret
    exact ⟨rfl, hbe⟩

set_option maxRecDepth 100000 in
theorem batchOnce_walk {H : Type} (enc : TypeId × Value → H) (W : World) (base : Nat) (v0 : Value) (d0 : DataW H) (p0 : List MemPlace)
    (k0 : DataW.Trod enc Tryz.prog W 0 (fun _ => true) true 28 v0 d0 p0) (o0 : Value.okWide Tryz.prog W .any base 28 v0) :
    Calls Tryz.prog 6 #[v0] W fun e w' => e = .returned (.bool true) ∧ Below W.heap.size W w' := by
  obtain ⟨fuel, hf⟩ := k0
  obtain ⟨a, len, cap, rfl⟩ := Go.WideShapes.okWide_slice Tryz.underlying28 o0
  obtain ⟨b, hb⟩ := o_bytes enc W fuel _ _ hf
  exact batchOnce_c b a len cap W hb
end Go.Proofs.YtkipiefcnjfdjaaGreat
