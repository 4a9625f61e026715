/- Needed by segmentWrites_walk, part 4: texts put together by shake.py; no condition. -/
import Derived.Test.YtkipiefcnjfdjaaGreatF5
import Derived.Test.YtkipiefcnjfdjaaGreatE3
import Derived.Laws.MakeOwn
import Derived.Lib.ConvBytes
import Derived.Laws.AppendOwn
import Derived.Laws.BitsAllLaws
import Derived.Test.YtkipiefcnjfdjaaGreatRows
import Derived.Deep.AppendLies
import Derived.Test.YtkipiefcnjfdjaaGreatE1
import Derived.Maps.AppendAt
import Derived.RegionTactic
import Derived.BigRegion
import Derived.Deep.Cut
import Derived.Deep.RegionHeld3
import Derived.IntWalk
import Derived.ScopeJumps
import Derived.WalkMore
import Derived.Lib.SlBytesConst
import Derived.Test.YtkipiefcnjfdjaaGreatE2
import Derived.Laws.Bits64
namespace Go.Proofs.YtkipiefcnjfdjaaGreat
open Go.RowKit Go.Bs Go.Maps
set_option linter.unusedVariables false
set_option linter.unusedSimpArgs false

theorem upsL_bounds (l : List Link) (hri : risesB (l.map Link.stream) = true) (hx : ∀ x ∈ l, 0 ≤ x.stream ∧ x.stream ≤ 18446744073709551615) : ∀ k, (h : k < l.length) → 0 ≤ (upsL none l)[k]'(by rw [upsL_len]; exact h) ∧ (upsL none l)[k]'(by rw [upsL_len]; exact h) ≤ 18446744073709551615 := by
  intro k h
  rw [upsL_get l none k h]
  have hk := hx l[k] (List.getElem_mem h)
  split
  · exact hk
  · rename_i h0
    have h1 := hx (l[k - 1]'(by omega)) (List.getElem_mem _)
    have h2 := rises_at (l.map Link.stream) (k - 1) (by simp; omega) hri
    simp only [List.getElem_map, Nat.sub_add_cancel (show 1 ≤ k by omega)] at h2
    omega
theorem links_bounds {S : Nat → Prop} {w : World} {a : Option Addr} {n c : Nat} {l : List Link} (h : rLinks.r S w [.slice a n c] l) : ∀ x ∈ l, linkN x := by
  intro x hx
  obtain ⟨i, hi, rfl⟩ := List.getElem_of_mem hx
  obtain ⟨b, o, _, _, a2, c2, _, _, hs, xl⟩ := link_at h hi
  exact ⟨hs, fun y hy => (u64s_bounds xl y hy).1⟩
set_option maxRecDepth 100000 in
set_option maxHeartbeats 3200000 in
theorem link_put (w : World) {g base most : Nat} {J : List UInt8} {a : Option Addr} {c : Nat} (h : PenAt w g base most J a c) (pos : Int) (hpos : 0 ≤ pos ∧ pos ≤ 18446744073709551615) (l : List Link) (al : Option Addr) (nl cl : Nat)
    (hl : rLinks.r (fun q => q < w.heap.size ∧ ¬ PenF g a q) w [.slice al nl cl] l) (hR : linksR pos l = true) (hbk : ∀ x ∈ l, x.backs.length ≤ 1000000) (hfit : J.length + (linksB pos l).length ≤ most) (hln2 : J.length + (linksB pos l).length ≤ 100000000000000) :
    Calls Tryz.prog 135 #[.pointer (some ⟨g, 0, none⟩), .int .u64 pos, .slice al nl cl] w fun r w' => r = .returned (.tuple #[]) ∧ PenStep w g base most (J ++ linksB pos l) a w' := by
  obtain ⟨rfl, hm, _, _⟩ := sl_len hl
  have hN := links_bounds hl
  have HRT := hid (link_right pos l al _ cl w hpos (pen_low hl) (fun x hx => by have := hbk x hx; omega))
  have hR' := hR
  simp only [linksR, Bool.and_eq_true, decide_eq_true_eq, List.all_eq_true] at hR'
  rw [hR] at HRT
  have hlk : ∀ x ∈ l, fallsB pos x.backs = true := fun x hx => by have := hR'.2.2 x hx; simp only [linkR, Bool.and_eq_true] at this; exact this.2
  have HLK := hid hlk
  have HBK := hid hbk
  have hup := hid (upsL_bounds l hR'.2.1 (fun x hx => (hN x hx).1))
  have hul := upsL_len none l
  have hzl := linkZ_len pos none l
  have HSP := hid (fun (W : World) (hW : rLinks.r (· < W.heap.size) W [.slice al l.length cl] l) => link_steps W l al _ cl hW hR'.2.1 (by omega))
  have hdl : (linksB pos l).length = (varB l.length).length + ((linkZ pos none l).flatten).length := by unfold linksB; rw [List.length_append, linksF_zip]
  rw [hdl] at hfit hln2
  unfold linksB
  rw [linksF_zip]
  have HP := hid h
  have HL := hid hl
  have hvl := varB_len l.length
  have HV := hid (fun (W : World) (hW : Below w.heap.size w W) => varint_put W (h.later hW) l.length (by omega) (by omega) (by omega))
  have HMO := hid (fun k => flat_take_le (linkZ pos none l) k)
  have HNS := hid (fun (k : Nat) (h : k < l.length) => (by have := flat_step (linkZ pos none l) k (by omega); rw [linkZ_get pos l k h] at this; exact this : ((linkZ pos none l).take (k + 1)).flatten = ((linkZ pos none l).take k).flatten ++ (varB ((upsL none l)[k]'(by rw [upsL_len]; exact h)).toNat ++ deltaB pos l[k].backs)))
  generalize linkZ pos none l = Z at *
  have hll : l.length ≤ 16 := hR'.1
  clear h hl hR hR' hlk hbk hN hdl
  go_enter Tryz.func135, Tryz.ntmps135
  go_wp2_with fail
  refine HRT.out.mono ?_
  rintro r w1 ⟨rfl, hb1⟩
  go_wp2_with fail
  refine (HV.out _ hb1).mono ?_
  rintro r w2 ⟨rfl, a2, c2, hp2, ht2, ha2⟩
  have hd2 := pen_data ht2 ha2 (pen_later hb1 HL.out)
  have HP2 := hid hp2
  have HD2 := hid hd2
  have HT2 := hid (And.intro ht2 ha2)
  clear hp2 hd2 ht2 ha2
  go_wp2_with fail
  refine (HSP.out w2 (pen_low HD2.out)).mono ?_
  rintro r w3 ⟨v3, rfl, hr3, hb3⟩
  obtain ⟨a3, c3, hv3, hr3', _⟩ := sl_form hr3
  simp only [List.cons.injEq, and_true] at hv3
  subst hv3
  have HR3 := hid (pen_new_data HP2.out hr3')
  have HD3 := hid (pen_later hb3 HD2.out)
  have HP3 := hid (HP2.out.later hb3)
  rw [hul] at HR3 ⊢
  clear hr3 hr3'
  go_wp2_with fail
  go_loopw [22] (fun i wr => ∃ k : Nat, k ≤ l.length ∧ i = .int .i64 k ∧ Hid (PenStep w3 g base most (J ++ varB l.length ++ (Z.take k).flatten) a2 wr)) (fun i _ => l.length - (intOf i).toNat)
  case atStart => exact ⟨0, Nat.zero_le _, rfl, hid (by simpa using PenStep.refl HP3.out)⟩
  case round =>
    obtain ⟨k, hk, rfl, hp⟩ := hrel
    obtain ⟨a4, c4, hp4, ht4, ha4⟩ := hp.out
    rcases Nat.lt_or_ge k l.length with hlt | hge
    · have hr4 := pen_data ht4 ha4 HR3.out
      have hd4 := pen_data ht4 ha4 HD3.out
      obtain ⟨b, o, hA, hbb, hc, hx0, hx1⟩ := u64_at hr4 (show k < (upsL none l).length by omega)
      obtain ⟨b', o', hA', hbb', a5, c5, y0, y1, hs, yl⟩ := link_at hd4 hlt
      subst hA hA'
      have hst := HNS.out k hlt
      have hfk := HMO.out (k + 1)
      rw [hst, List.length_append, List.length_append] at hfk
      have hvk := (varB_len ((upsL none l)[k]'(by omega)).toNat).1
      have hJ4 := hp4.len
      simp only [List.length_append] at hJ4
      have hV := varint_put wr hp4 ((upsL none l)[k]'(by omega)).toNat (by omega) (by simp only [List.length_append]; omega) (by simp only [List.length_append]; omega)
      rw [toNat_cast hx0] at hV
      have HV4 := hid hV
      have HT4 := hid (And.intro ht4 ha4)
      have HYL := hid yl
      have HST := hid hst
      have HFK := hid hfk
      have hfl := HLK.out l[k] (List.getElem_mem hlt)
      have hbl := HBK.out l[k] (List.getElem_mem hlt)
      have HFL := hid hfl
      have HDY := hid (And.intro hbb' y1)
      have i1 : (k : Int) < (l.length : Int) := by omega
      have d1 : decide ((k : Int) < (l.length : Int)) = true := decide_eq_true i1
      clear hV hr4 hd4 hst hp4 ht4 ha4 hp hfk hvk hJ4 hfl y0 yl y1 hbb'
      generalize (upsL none l)[k]'(by omega) = u at *
      generalize l[k] = y at *
      go_wp2_with fail
      refine HV4.out.mono ?_
      rintro r w5 ⟨rfl, a6, c6, hp5, ht5, ha5⟩
      have Y1 : w5.cell? ⟨b', o' + k * 2 + 1, none⟩ = some (.slice a5 y.backs.length c5) := (ht5.cell (p := ⟨b', o' + k * 2 + 1, none⟩) HDY.out.1.1 HDY.out.1.2).trans HDY.out.2
      have hy5 := pen_low (pen_data ht5 ha5 HYL.out)
      have HD5 := hid (delta_put w5 hp5 pos hpos y.backs a5 _ c5 hy5 HFL.out hbl (by have := HFK.out; simp only [List.length_append]; omega) (by have := HFK.out; simp only [List.length_append]; omega))
      have HT5 := hid (And.intro ht5 ha5)
      clear hy5 hp5 ht5 ha5 hc
      go_wp2_with fail
      refine HD5.out.mono ?_
      rintro r w6 ⟨rfl, hst6⟩
      have hn := PenStep.trans (J := J) HT4.out.1 HT4.out.2 (PenStep.trans (J := J) HT5.out.1 HT5.out.2 hst6)
      rw [List.append_assoc, List.append_assoc (J ++ varB l.length), ← HST.out] at hn
      have HN := hid hn
      clear hst6 hn Y1
      go_wp2
      go_roundw
      case rel => exact ⟨k + 1, by omega, by go_num, HN⟩
      case measure => simp [intOf]; omega
    · obtain rfl : k = l.length := by omega
      have d1 : decide ((l.length : Int) < (l.length : Int)) = false := decide_eq_false (by omega)
      rw [List.take_of_length_le (by omega)] at hp
      have hn := PenStep.later hb1 (PenStep.trans (J := J) HT2.out.1 HT2.out.2 (PenStep.later hb3 hp.out))
      rw [List.append_assoc] at hn
      have HN := hid hn
      clear hp hp4 ht4 ha4 hn
      go_wp2
      first | go_end0 | refine bodyPost_ret (results_none rfl _ _ _) rfl ?_
      exact ⟨rfl, HN.out⟩
end Go.Proofs.YtkipiefcnjfdjaaGreat
namespace Go.Proofs.YtkipiefcnjfdjaaGreat
open Go.RowKit Go.Bs Go.Maps
set_option linter.unusedVariables false
set_option linter.unusedSimpArgs false

set_option maxRecDepth 100000 in
set_option maxHeartbeats 3200000 in
theorem link_size (w : World) (pos : Int) (hpos : 0 ≤ pos ∧ pos ≤ 18446744073709551615) (l : List Link) (al : Option Addr) (nl cl : Nat)
    (hl : rLinks.r (· < w.heap.size) w [.slice al nl cl] l) (hR : linksR pos l = true) (hbk : ∀ x ∈ l, x.backs.length ≤ 1000000) :
    Calls Tryz.prog 192 #[.int .u64 pos, .slice al nl cl] w fun r w' => r = .returned (.int .i64 ((linksB pos l).length : Int)) ∧ Below w.heap.size w w' := by
  obtain ⟨rfl, hm, _, _⟩ := sl_len hl
  have hN := links_bounds hl
  have HRT := hid (link_right pos l al _ cl w hpos hl (fun x hx => by have := hbk x hx; omega))
  have hR' := hR
  simp only [linksR, Bool.and_eq_true, decide_eq_true_eq, List.all_eq_true] at hR'
  rw [hR] at HRT
  have hlk : ∀ x ∈ l, fallsB pos x.backs = true := fun x hx => by have := hR'.2.2 x hx; simp only [linkR, Bool.and_eq_true] at this; exact this.2
  have HLK := hid hlk
  have HBK := hid hbk
  have hul := upsL_len none l
  have hzl := linkZ_len pos none l
  have HSP := hid (fun (W : World) (hW : rLinks.r (· < W.heap.size) W [.slice al l.length cl] l) => link_steps W l al _ cl hW hR'.2.1 (by omega))
  have hdl : (linksB pos l).length = (varB l.length).length + ((linkZ pos none l).flatten).length := by unfold linksB; rw [List.length_append, linksF_zip]
  have hle := linkZ_len_le pos l hR
  rw [linksF_zip] at hle
  rw [hdl]
  have HL := hid hl
  have hvl := varB_len l.length
  have HV := hid (fun (W : World) => varint_size l.length (by omega) W)
  have HMO := hid (fun k => flat_take_le (linkZ pos none l) k)
  have HNS := hid (fun (k : Nat) (h : k < l.length) => (by have := flat_step (linkZ pos none l) k (by omega); rw [linkZ_get pos l k h] at this; exact this : ((linkZ pos none l).take (k + 1)).flatten = ((linkZ pos none l).take k).flatten ++ (varB ((upsL none l)[k]'(by rw [upsL_len]; exact h)).toNat ++ deltaB pos l[k].backs)))
  generalize linkZ pos none l = Z at *
  generalize varB l.length = VL at *
  have hll : l.length ≤ 16 := hR'.1
  clear hl hR hR' hlk hbk hN hdl
  go_enter Tryz.func192, Tryz.ntmps192
  go_wp2_with fail
  refine HRT.out.mono ?_
  rintro r w1 ⟨rfl, hb1⟩
  go_wp2_with fail
  refine (HV.out w1).mono ?_
  rintro r w2 ⟨rfl, hb2⟩
  have hb12 := below_then hb2 hb1
  go_wp2_with fail
  refine (HSP.out w2 (lift HL.out hb12)).mono ?_
  rintro r w3 ⟨v3, rfl, hr3, hb3⟩
  obtain ⟨a3, c3, hv3, hr3', _⟩ := sl_form hr3
  simp only [List.cons.injEq, and_true] at hv3
  subst hv3
  have HR3 := hid (rBytesless hr3')
  have hbw3 := below_then hb3 hb12
  rw [hul] at HR3 ⊢
  clear hr3 hr3'
  go_wp2_with fail
  go_loopw [5, 19] (fun n i wr => ∃ k m : Nat, k ≤ l.length ∧ i = .int .i64 k ∧ n = .int .i64 m ∧ Hid (m = VL.length + (Z.take k).flatten.length) ∧ Below w3.heap.size w3 wr) (fun _ i _ => l.length - (intOf i).toNat)
  case atStart => exact ⟨0, VL.length, Nat.zero_le _, rfl, rfl, hid (by simp), Below.refl _ _⟩
  case round =>
    obtain ⟨k, m, hk, rfl, rfl, hmm, hb⟩ := hrel
    have hmo := HMO.out k
    have hmk := hmm.out
    rcases Nat.lt_or_ge k l.length with hlt | hge
    · obtain ⟨b, o, hA, hbb, hc, hx0, hx1⟩ := u64_at (lift HR3.out hb) (show k < (upsL none l).length by omega)
      have hbw := below_then hb hbw3
      obtain ⟨b', o', hA', hbb', a5, c5, y0, y1, hs, yl⟩ := link_at (lift HL.out hbw) hlt
      subst hA hA'
      have hst := HNS.out k hlt
      have hfk := HMO.out (k + 1)
      rw [hst, List.length_append, List.length_append] at hfk
      have HV4 := hid (fun (W : World) => (by have := varint_size ((upsL none l)[k]'(by omega)).toNat (by omega) W; rw [toNat_cast hx0] at this; exact this : Calls Tryz.prog 191 #[.int .u64 ((upsL none l)[k]'(by omega))] W fun r w' => r = .returned (.int .i64 (varB ((upsL none l)[k]'(by omega)).toNat).length) ∧ Below W.heap.size W w'))
      have hfl := HLK.out l[k] (List.getElem_mem hlt)
      have hbl := HBK.out l[k] (List.getElem_mem hlt)
      have HD4 := hid (fun s : Later wr => delta_size s.at_ pos hpos l[k].backs a5 _ c5 (lift yl s.below) hfl hbl)
      have HV5 := hid (fun s : Later wr => HV4.out s.at_)
      have HM : Hid (m + ((varB ((upsL none l)[k]'(by omega)).toNat).length + (deltaB pos l[k].backs).length) = VL.length + (Z.take (k + 1)).flatten.length) := hid (by rw [hst]; simp only [List.length_append]; omega)
      have hmb : m ≤ 1000000 := by omega
      have hd1 : (varB ((upsL none l)[k]'(by omega)).toNat).length ≤ 1000000 ∧ (deltaB pos l[k].backs).length ≤ 1000000 := by omega
      have i1 : (k : Int) < (l.length : Int) := by omega
      have d1 : decide ((k : Int) < (l.length : Int)) = true := decide_eq_true i1
      have Y1 := fun s : Later wr => s.cell y1
      generalize varB ((upsL none l)[k]'(by omega)).toNat = VK at *
      generalize deltaB pos l[k].backs = DK at *
      generalize (upsL none l)[k]'(by omega) = u at *
      generalize l[k] = y at *
      clear HV4 hst hmo hmk hmm hfk hfl yl y0
      go_wp2_with fail
      refine wp_region_later (by kernel_rfl) (by kernel_rfl) ?_
      repeat (go_big_quiet_step ((first | (go_at_call 191; with_reducible exact later_of (HV5.out _)) | (go_at_call 243; with_reducible exact later_of (HD4.out _)))))
      refine wpQuiet_nil ?_
      rintro W5 ⟨⟨W5', hb5⟩, rfl⟩
      have hbw5 := below_then hb5 hb
      clear Y1
      go_wp2
      go_roundw
      case rel => exact ⟨k + 1, m + (VK.length + DK.length), by omega, by go_num, by go_num, HM, hbw5⟩
      case measure => simp [intOf]; omega
    · obtain rfl : k = l.length := by omega
      have d1 : decide ((l.length : Int) < (l.length : Int)) = false := decide_eq_false (by omega)
      have hfin : Hid (m = VL.length + Z.flatten.length) := hid (by rw [hmk, List.take_of_length_le (by omega)])
      clear hmo hmk hmm
      go_wp2
      go_ret
      exact ⟨by rw [hfin.out]; simp, below_then hb hbw3⟩

theorem e_blk {w : World} {g : Nat} {t : TypeId} {v0 v1 : Value} (h : Blk w g t #[v0, v1]) : w.cell? ⟨g, 0, none⟩ = some v0 ∧ w.cell? ⟨g, 1, none⟩ = some v1 ∧ g < w.heap.size :=
  ⟨h.cell 0, h.cell 1, h.lt⟩
set_option maxRecDepth 100000 in
set_option maxHeartbeats 3200000 in
theorem entry_headsize (w : World) (pos : Int) (hpos : 0 ≤ pos ∧ pos ≤ 18446744073709551615) (e : Entry) (a1 a2 : Option Addr) (n1 c1 n2 c2 : Nat)
    (hl : rLinks.r (· < w.heap.size) w [.slice a1 n1 c1] e.links) (hd : rBytes.r (· < w.heap.size) w [.slice a2 n2 c2] e.data) (hbk : ∀ x ∈ e.links, x.backs.length ≤ 1000000) :
    Calls Tryz.prog 130 #[.int .u64 pos, .agg #[.slice a1 n1 c1, .slice a2 n2 c2]] w fun r w' => r = .returned (.int .i64 (headN pos e : Int)) ∧ Below w.heap.size w w' := by
  obtain ⟨rfl, hm1, _, _⟩ := sl_len hl
  obtain ⟨rfl, hm2, _, _⟩ := sl_len hd
  have HER := hid (fun (W : World) (hW : Below w.heap.size w W) => entry_right pos e a1 a2 _ c1 _ c2 W hpos (fun x hx => by have := hbk x hx; omega) (lift hl hW) (lift hd hW))
  unfold headN
  cases hR : entryR pos e
  · rw [hR] at HER
    rw [if_neg (by simp)]
    go_enter Tryz.func130, Tryz.ntmps130
    go_wp2_with fail
    refine (HER.out _ (by (repeat (first | with_reducible exact Below.refl _ _ | with_reducible assumption | (with_reducible refine below_alloc ?_ _) | (with_reducible refine Below.setCell ?_ (by first | omega | (simp; done) | (simp; omega)) _) | (with_reducible refine Below.drew ?_) | (with_reducible refine below_drewN ?_ _) | (refine below_then (by with_reducible assumption) ?_))))).mono ?_
    rintro r w1 ⟨rfl, hb1⟩
    go_wp2
    go_ret
    exact ⟨rfl, by (repeat (first | with_reducible exact Below.refl _ _ | with_reducible assumption | (with_reducible refine below_alloc ?_ _) | (with_reducible refine Below.setCell ?_ (by first | omega | (simp; done) | (simp; omega)) _) | (with_reducible refine Below.drew ?_) | (with_reducible refine below_drewN ?_ _) | (refine below_then (by with_reducible assumption) ?_)))⟩
  · rw [hR] at HER
    rw [if_pos rfl]
    have hR' := hR
    simp only [entryR, Bool.and_eq_true, decide_eq_true_eq] at hR'
    have hbl : (headB pos e).length = (linksB pos e.links).length + (varB e.data.length).length := by unfold headB; rw [List.length_append]
    have hle := headN_le pos e
    unfold headN at hle
    rw [if_pos hR, hbl] at hle
    rw [hbl]
    have HLS := hid (fun (W : World) (hW : Below w.heap.size w W) => link_size W pos hpos e.links a1 _ c1 (lift hl hW) hR'.1 hbk)
    have HVS := hid (fun (W : World) => varint_size e.data.length (by omega) W)
    have hdl := hR'.2
    generalize varB e.data.length = V at *
    generalize linksB pos e.links = LB at *
    clear hl hd hR hR' hbl
    go_enter Tryz.func130, Tryz.ntmps130
    go_wp2_with fail
    refine (HER.out _ (by (repeat (first | with_reducible exact Below.refl _ _ | with_reducible assumption | (with_reducible refine below_alloc ?_ _) | (with_reducible refine Below.setCell ?_ (by first | omega | (simp; done) | (simp; omega)) _) | (with_reducible refine Below.drew ?_) | (with_reducible refine below_drewN ?_ _) | (refine below_then (by with_reducible assumption) ?_))))).mono ?_
    rintro r w1 ⟨rfl, hb1⟩
    have B1 := Blk.later (Blk.newAt w 75 #[.slice a1 e.links.length c1, .slice a2 e.data.length c2] rfl) hb1
    have hbw1 : Below w.heap.size w w1 := by (repeat (first | with_reducible exact Below.refl _ _ | with_reducible assumption | (with_reducible refine below_alloc ?_ _) | (with_reducible refine Below.setCell ?_ (by first | omega | (simp; done) | (simp; omega)) _) | (with_reducible refine Below.drew ?_) | (with_reducible refine below_drewN ?_ _) | (refine below_then (by with_reducible assumption) ?_)))
    have C0 := fun s : Later w1 => s.cell (B1.cell 0)
    have C1 := fun s : Later w1 => s.cell (B1.cell 1)
    simp at C0 C1
    have HS1 := hid (fun s : Later w1 => HLS.out s.at_ (below_then s.below hbw1))
    have HS2 := hid (fun s : Later w1 => HVS.out s.at_)
    clear B1 hb1
    go_wp2_with fail
    refine wp_region_later (by kernel_rfl) (by kernel_rfl) ?_
    repeat (go_big_quiet_step ((first | (go_at_call 192; with_reducible exact later_of (HS1.out _)) | (go_at_call 191; with_reducible exact later_of (HS2.out _)))))
    refine wpQuiet_nil ?_
    rintro W5 ⟨⟨W5', hb5⟩, rfl⟩
    clear C0 C1
    go_wp2
    go_ret
    exact ⟨by simp, below_then hb5 hbw1⟩

set_option maxRecDepth 100000 in
set_option maxHeartbeats 3200000 in
theorem entry_puthead (w : World) {g base most : Nat} {J : List UInt8} {a : Option Addr} {c : Nat} (h : PenAt w g base most J a c) (pos : Int) (hpos : 0 ≤ pos ∧ pos ≤ 18446744073709551615) (e : Entry) (a1 a2 : Option Addr) (n1 c1 n2 c2 : Nat)
    (hl : rLinks.r (fun q => q < w.heap.size ∧ ¬ PenF g a q) w [.slice a1 n1 c1] e.links) (hd : rBytes.r (· < w.heap.size) w [.slice a2 n2 c2] e.data) (hR : entryR pos e = true) (hbk : ∀ x ∈ e.links, x.backs.length ≤ 1000000) (hfit : J.length + (headB pos e).length ≤ most) (hln2 : J.length + (headB pos e).length ≤ 100000000000000) :
    Calls Tryz.prog 74 #[.pointer (some ⟨g, 0, none⟩), .int .u64 pos, .agg #[.slice a1 n1 c1, .slice a2 n2 c2]] w fun r w' => r = .returned (.tuple #[]) ∧ PenStep w g base most (J ++ headB pos e) a w' := by
  obtain ⟨rfl, hm1, _, _⟩ := sl_len hl
  obtain ⟨rfl, hm2, _, _⟩ := sl_len hd
  have HER := hid (fun (W : World) (hW : Below w.heap.size w W) => entry_right pos e a1 a2 _ c1 _ c2 W hpos (fun x hx => by have := hbk x hx; omega) (lift (pen_low hl) hW) (lift hd hW))
  rw [hR] at HER
  have hR' := hR
  simp only [entryR, Bool.and_eq_true, decide_eq_true_eq] at hR'
  have hbl : (headB pos e).length = (linksB pos e.links).length + (varB e.data.length).length := by unfold headB; rw [List.length_append]
  rw [hbl] at hfit hln2
  have hhb : headB pos e = linksB pos e.links ++ varB e.data.length := rfl
  rw [hhb]
  have HPT := hid (fun (W : World) (hW : Below w.heap.size w W) => link_put W (h.later hW) pos hpos e.links a1 _ c1 (pen_later hW hl) hR'.1 hbk (by omega) (by omega))
  have HP := hid h
  have hdl := hR'.2
  generalize linksB pos e.links = LB at *
  clear h hl hd hR hR' hbl hhb
  go_enter Tryz.func74, Tryz.ntmps74
  go_wp2_with fail
  refine (HER.out _ (by (repeat (first | with_reducible exact Below.refl _ _ | with_reducible assumption | (with_reducible refine below_alloc ?_ _) | (with_reducible refine Below.setCell ?_ (by first | omega | (simp; done) | (simp; omega)) _) | (with_reducible refine Below.drew ?_) | (with_reducible refine below_drewN ?_ _) | (refine below_then (by with_reducible assumption) ?_))))).mono ?_
  rintro r w1 ⟨rfl, hb1⟩
  have B1 := Blk.later (Blk.newAt w 75 #[.slice a1 e.links.length c1, .slice a2 e.data.length c2] rfl) hb1
  obtain ⟨x0, x1, l1⟩ := e_blk B1
  have hbw1 : Below w.heap.size w w1 := by (repeat (first | with_reducible exact Below.refl _ _ | with_reducible assumption | (with_reducible refine below_alloc ?_ _) | (with_reducible refine Below.setCell ?_ (by first | omega | (simp; done) | (simp; omega)) _) | (with_reducible refine Below.drew ?_) | (with_reducible refine below_drewN ?_ _) | (refine below_then (by with_reducible assumption) ?_)))
  have hgl := HP.out.blk.lt
  have HLT := hid (fun q (hq : PenF g a q) => (HP.out.own_lt hq).2)
  have HB1 := hid B1
  clear B1 hb1
  go_wp2_with fail
  refine (HPT.out _ hbw1).mono ?_
  rintro r w2 ⟨rfl, a3, c3, hp2, ht2, ha2⟩
  have B2 := HB1.out.tch ht2 (fun hf => by have := HLT.out _ hf; omega)
  obtain ⟨y0, y1, l2⟩ := e_blk B2
  have HV := hid (varint_put w2 hp2 e.data.length (by omega) (by simp only [List.length_append]; omega) (by simp only [List.length_append]; omega))
  have HT := hid (And.intro ht2 ha2)
  clear B2 hp2 ht2 ha2 x0 x1
  go_wp2_with fail
  refine HV.out.mono ?_
  rintro r w3 ⟨rfl, hst⟩
  have hn := PenStep.later hbw1 (PenStep.trans (J := J) HT.out.1 HT.out.2 hst)
  rw [List.append_assoc] at hn
  have HN := hid hn
  clear hst hn
  go_wp2
  first | go_end0 | refine bodyPost_ret (results_none rfl _ _ _) rfl ?_
  exact ⟨rfl, HN.out⟩

end Go.Proofs.YtkipiefcnjfdjaaGreat
namespace Go.Proofs.YtkipiefcnjfdjaaGreat
open Go.RowKit Go.Bs Go.Maps
set_option linter.unusedVariables false
set_option linter.unusedSimpArgs false

theorem b_blk {w : World} {g : Nat} {t : TypeId} {v0 v1 v2 : Value} (h : Blk w g t #[v0, v1, v2]) : w.cell? ⟨g, 0, none⟩ = some v0 ∧ w.cell? ⟨g, 1, none⟩ = some v1 ∧ w.cell? ⟨g, 2, none⟩ = some v2 ∧ w.frozen? ⟨g, 0, none⟩ = false ∧ w.frozen? ⟨g, 1, none⟩ = false ∧ w.frozen? ⟨g, 2, none⟩ = false ∧ g < w.heap.size :=
  ⟨h.cell 0, h.cell 1, h.cell 2, h.free 0, h.free 1, h.free 2, h.lt⟩
theorem empty_bytes2 {S : Nat → Prop} {w : World} {a : Option Addr} {m c : Nat} {l : List UInt8} (hl : l = []) (hm : m = 0) (hc : c ≤ 9223372036854775807) : rBytes.r S w [.slice a m c] l := by
  subst hl hm
  exact rSl_mk (xs := []) rfl (Nat.zero_le _) hc (.inl rfl)
theorem pen_fail (w : World) {g base most : Nat} {J : List UInt8} {a : Option Addr} {c : Nat} (h : PenAt w g base most J a c) (k : Int) :
    Calls Tryz.prog 70 #[.pointer (some ⟨g, 0, none⟩), .int .i64 k] w fun r w' => r = .returned (.tuple #[]) ∧ Blk w' g 109 #[.int .i64 most, .slice a J.length c, .int .i64 k] ∧ Tch (· = g) w w' := by
  have HC := hid (pen_code w h)
  have HB := hid h.blk
  have c2 : w.cell? ⟨g, 2, none⟩ = some (.int .i64 0) := h.blk.cell 2
  have f2 := h.blk.free 2
  have hgl := h.blk.lt
  clear h
  go_enter Tryz.func70, Tryz.ntmps70
  go_wp2_with fail
  refine HC.out.mono ?_
  rintro r w1 ⟨rfl, rfl⟩
  go_wp2
  first | go_end0 | refine bodyPost_ret (results_none rfl _ _ _) rfl ?_
  exact ⟨rfl, HB.out.set 2 _, Tch.setCell (F := (· = g)) (p := ⟨g, 2, none⟩) (Tch.refl _ _) (fun _ => rfl) _⟩
theorem pen_bytes_bad (w : World) {g : Nat} {v0 v1 : Value} {k : Int} (hk : k ≠ 0) (h : Blk w g 109 #[v0, v1, .int .i64 k]) :
    Calls Tryz.prog 20 #[.pointer (some ⟨g, 0, none⟩)] w fun r w' => r = .returned (.tuple #[.slice none 0 0, .int .i64 k]) ∧ w = w' := by
  have HC : Hid (Calls Tryz.prog 77 #[.pointer (some ⟨g, 0, none⟩)] w fun r w' => r = .returned (.int .i64 k) ∧ w = w') := hid (by
    have c2 : w.cell? ⟨g, 2, none⟩ = some (.int .i64 k) := h.cell 2
    clear h
    go_enter Tryz.func77, Tryz.ntmps77
    go_wp2
    go_ret
    exact ⟨rfl, rfl⟩)
  have d1 : (k == (0 : Int)) = false := by simp [hk]
  have d2 : (k != (0 : Int)) = true := by simp [hk]
  clear h hk
  go_enter Tryz.func20, Tryz.ntmps20
  go_wp2_with fail
  refine HC.out.mono ?_
  rintro r w1 ⟨rfl, rfl⟩
  go_wp2
  go_ret2
  exact ⟨rfl, rfl⟩

theorem own_make {base : Nat} {e : TypeId} {size : Nat} {W : World} {g cap : Nat} {cs : Array Value} (h : Blk W g e cs) (hb : base ≤ g) (hc : cap ≤ maxLen) (hs : cs.size = cap * size) : W.ownsRow base e size (.slice (some ⟨g, 0, none⟩) 0 cap) 0 [] :=
  ⟨by simp, .inr ⟨g, cap, cs, rfl, hb, h, Nat.zero_le _, hc, by simpa using hs, by simp⟩⟩
set_option maxRecDepth 100000 in
set_option maxHeartbeats 1600000 in
theorem entry_join (l : List Entry) (a : Option Addr) (n c : Nat) (w : World) (hl : rEntries.r (· < w.heap.size) w [.slice a n c] l) (ht : total l ≤ 1000000000000) :
    Calls Tryz.prog 76 #[.slice a n c] w fun r w' => ∃ v, r = .returned v ∧ rBytes.r (fun q => w.heap.size ≤ q ∧ q < w'.heap.size) w' [v] (joined l) ∧ Below w.heap.size w w' := by
  obtain ⟨rfl, hm, _, _⟩ := sl_len hl
  obtain ⟨i0, hi, hz0, hz1, hz2⟩ := info_parts info8
  have HT := hid (entry_total l a _ c w hl ht)
  have HL := hid hl; clear hl
  obtain ⟨T, hT⟩ : ∃ T, T = total l := ⟨_, rfl⟩
  have hmk : ∀ W : World, (Instr.makeSlice 28 (.int .i64 0) (.int .i64 (T : Int))).run Tryz.prog W = .ok (.slice (some ⟨W.heap.size, 0, none⟩) 0 T) (W.alloc (.cells (madeCells #[Value.int .u8 0] T) 5)) := fun W => by
    have := run_make (P := Tryz.prog) (w := W) 28 5 i0 (.int .u8 0) Tryz.underlying28 hi hz0 .i64 .i64 0 (T : Int) (by omega) (by omega) (by rw [hz2]; omega) (by omega)
    rw [hz1] at this
    simp only [Int.toNat_natCast, Int.toNat_zero, Nat.mul_one] at this
    exact this
  have HJ := hid (joined_length l)
  rw [← hT] at HT
  have hTt := hid hT
  have hTb : T ≤ 1000000000000 := by omega
  clear hT
  go_enter Tryz.func76, Tryz.ntmps76
  go_wp2_with fail
  refine HT.out.mono ?_
  rintro r w1 ⟨rfl, hb1⟩
  go_wp2_with fail
  have hbW : Below w1.heap.size w1 (w1.alloc (.cells (madeCells #[Value.int .u8 0] T) 5)) := by (repeat (first | with_reducible exact Below.refl _ _ | with_reducible assumption | (with_reducible refine below_alloc ?_ _) | (with_reducible refine Below.setCell ?_ (by first | omega | (simp; done) | (simp; omega)) _) | (with_reducible refine Below.drew ?_) | (with_reducible refine below_drewN ?_ _) | (refine below_then (by with_reducible assumption) ?_)))
  have hown0 : (w1.alloc (.cells (madeCells #[Value.int .u8 0] T) 5)).ownsRow w.heap.size 5 1 (.slice (some ⟨w1.heap.size, 0, none⟩) 0 T) 0 [] := own_make (Blk.newAt _ _ _ rfl) hb1.size (by simp only [maxLen]; omega) (by rw [size_madeCells]; omega)
  have HOWN0 := hid hown0
  have HBW := hid hbW
  clear hown0 hbW
  generalize w1.alloc (.cells (madeCells #[Value.int .u8 0] T) 5) = W at *
  go_loopw [3, 11] (fun v i wr => ∃ k : Nat, k ≤ l.length ∧ i = .int .i64 k ∧ wr.ownsRow w.heap.size 5 1 v (total (l.take k)) (byteCells (joined (l.take k))) ∧ Below w.heap.size w wr) (fun _ i _ => l.length - (intOf i).toNat)
  case atStart => exact ⟨0, Nat.zero_le _, rfl, by simpa [total, joined, byteCells] using HOWN0.out, below_then HBW.out hb1⟩
  case round =>
    obtain ⟨k, hk, rfl, hown, hb⟩ := hrel
    obtain ⟨av, cv, rfl⟩ := own_form hown
    by_cases hlt : k < l.length
    · obtain ⟨b, o, hA, hbb, a1, c1, a2, c2, hc0, hc1, _, hd⟩ := entry_at (lift HL.out hb) hlt
      subst hA
      have hbl : b < wr.heap.size := World.block_lt_of_cell? _ _ hc0
      have hs := hid (total_step l k hlt)
      have hj := hid (joined_step l k hlt)
      have h1 := total_take_le l (k + 1)
      rw [hs.out, ← hTt.out] at h1
      have hbW2 : Below wr.heap.size wr (wr.alloc (.cells #[.slice a1 l[k].links.length c1, .slice a2 l[k].data.length c2] 75)) := by (repeat (first | with_reducible exact Below.refl _ _ | with_reducible assumption | (with_reducible refine below_alloc ?_ _) | (with_reducible refine Below.setCell ?_ (by first | omega | (simp; done) | (simp; omega)) _) | (with_reducible refine Below.drew ?_) | (with_reducible refine below_drewN ?_ _) | (refine below_then (by with_reducible assumption) ?_)))
      have hsrc := src_bytes (lift hd hbW2)
      have hone := byteCells_one l[k].data
      have HO := hid (own_below hown hbW2)
      have hbz : Below w.heap.size wr (wr.alloc (.cells #[.slice a1 l[k].links.length c1, .slice a2 l[k].data.length c2] 75)) := hbW2.mono hb.size
      generalize l[k].data = D at *
      generalize l[k].links = LK at *
      generalize joined (l.take k) = J at *
      generalize total (l.take k) = t at *
      have HSRC := hid hsrc; clear hsrc hd
      have HONE := hid hone; clear hone hown hbW2
      have hbs := hb.size
      have i1 : (k : Int) < (l.length : Int) := by omega
      have d1 : decide ((k : Int) < (l.length : Int)) = true := decide_eq_true i1
      have HBZ := hid hbz
      clear hbz
      go_wp2_with (at_builtin; go_loud (refine wpList_append_src rfl _ _ _ rfl w.heap.size 5 i0 (.int .u8 0) 1 1 Tryz.underlying28 hi hz0 hz1 hz2 rfl (by decide) (.slice av t cv) t _ rfl HO.out a2 D.length c2 (byteCells D) rfl HSRC.out HONE.out (by simp only [maxLen]; omega) (by omega) (by simp; omega) ?_; intro v' w3 hown3 hgrow3 hat3; obtain ⟨a3, c3, rfl⟩ := own_form hown3; have HO3 := hid hown3; have hb3 : Below w.heap.size wr w3 := (Below.grown HBZ.out hgrow3 (by simp; omega) (fun g e => (HO.out.lt g e).1)); clear hown3 hgrow3 hat3))
      have ho3 := HO3.out
      have HO4 : Hid (w3.ownsRow w.heap.size 5 1 (.slice a3 (t + D.length) c3) (total (l.take (k + 1))) (byteCells (joined (l.take (k + 1))))) := hid (by rw [hs.out, hj.out, byteCells, List.map_append]; exact ho3)
      clear ho3 hc0 hc1
      go_roundw
      case rel => exact ⟨k + 1, by omega, by go_num, HO4.out, hb.trans hb3⟩
      case measure => simp [intOf]; omega
    · obtain rfl : k = l.length := by omega
      have d1 : decide ((l.length : Int) < (l.length : Int)) = false := decide_eq_false (by omega)
      rw [List.take_length] at hown ⊢
      have HV := hid (own_bytes2 (joined_length l).symm hown)
      clear hown
      go_wp2
      go_ret
      exact ⟨_, rfl, HV.out, hb⟩

theorem entriesR_at : ∀ (l : List Entry) (p : Int) (k : Nat) (h : k < l.length), entriesR p l = true → entryR (p + k) l[k] = true
  | [], p, k, h, _ => by simp at h
  | e :: l, p, 0, h, hR => by simp only [entriesR, Bool.and_eq_true] at hR; simpa using hR.1
  | e :: l, p, k + 1, h, hR => by
    simp only [entriesR, Bool.and_eq_true] at hR
    have := entriesR_at l (p + 1) k (by simpa using h) hR.2
    rw [List.getElem_cons_succ, show p + ((k + 1 : Nat) : Int) = p + 1 + (k : Int) by omega]
    exact this
theorem headsB_step : ∀ (l : List Entry) (p : Int) (k : Nat) (h : k < l.length), headsB p (l.take (k + 1)) = headsB p (l.take k) ++ headB (p + k) l[k]
  | [], p, k, h => by simp at h
  | e :: l, p, 0, h => by simp [headsB]
  | e :: l, p, k + 1, h => by
    have := headsB_step l (p + 1) k (by simpa using h)
    simp only [List.take_succ_cons, headsB, List.getElem_cons_succ]
    rw [this, show p + ((k + 1 : Nat) : Int) = p + 1 + (k : Int) by omega, List.append_assoc]
theorem headsB_le (l : List Entry) (p : Int) : ∀ k, (headsB p (l.take k)).length ≤ (headsB p l).length := by
  intro k
  induction l generalizing p k with
  | nil => simp
  | cons e l ih =>
    cases k with
    | zero => simp [headsB]
    | succ k => simp only [List.take_succ_cons, headsB, List.length_append]; have := ih (p + 1) k; omega
/-- Entries that are not too many, nor their links' backs. -/
structure TameE (l : List Entry) : Prop where
  len : l.length ≤ 1000
  tot : total l ≤ 10000000
  backs : ∀ e ∈ l, ∀ x ∈ e.links, x.backs.length ≤ 1000000
theorem TameE.fair {l : List Entry} (h : TameE l) : Fair l := ⟨by have := h.tot; omega, by have := h.len; omega, fun e he x hx => by have := h.backs e he x hx; omega⟩

set_option maxRecDepth 100000 in
set_option maxHeartbeats 6400000 in
theorem batch_room (w : World) (b : Batch) (a : Option Addr) (n c : Nat) (h0 : 0 ≤ b.epoch ∧ b.epoch ≤ 18446744073709551615) (h1 : 0 ≤ b.base ∧ b.base ≤ 18446744073709551615) (hl : rEntries.r (· < w.heap.size) w [.slice a n c] b.entries) (ht : TameE b.entries) :
    Calls Tryz.prog 69 #[.agg #[.int .u64 b.epoch, .int .u64 b.base, .slice a n c]] w fun r w' => ∃ M : Nat, r = .returned (.int .i64 (M : Int)) ∧ M ≤ 100000000 ∧ (batchR b = true → 40 + (varB (total b.entries)).length + total b.entries + (headsB b.base b.entries).length ≤ M) ∧ Below w.heap.size w w' := by
  obtain ⟨rfl, hm, _, _⟩ := sl_len hl
  have hle := ht.len
  have hto := ht.tot
  have HTO := hid (fun (W : World) (hW : Below w.heap.size w W) => entry_total b.entries a _ c W (lift hl hW) (by omega))
  have HBS := hid (fun (W : World) => blob_size (total b.entries) (by omega) W)
  have hvb := (varB_len (total b.entries)).1
  have HBK := hid ht.backs
  have HRE := hid (fun (h : batchR b = true) (k : Nat) (hk : k < b.entries.length) => (by simp only [batchR, Bool.and_eq_true] at h; exact ⟨entriesR_at b.entries b.base k hk h.2.2.2, by have := h.2.1; simp only [fitsR, decide_eq_true_eq] at this; omega⟩ : entryR (b.base + k) b.entries[k] = true ∧ b.base + b.entries.length ≤ 4611686018427387904))
  have HHS := hid (fun (k : Nat) (hk : k < b.entries.length) => headsB_step b.entries b.base k hk)
  have HL := hid hl
  obtain ⟨ep, bs, l⟩ := b
  dsimp only at *
  generalize hRR : batchR ⟨ep, bs, l⟩ = R at *
  generalize varB (total l) = VT at *
  generalize total l = T at *
  clear hl ht hRR
  go_enter Tryz.func69, Tryz.ntmps69
  go_wp2_with fail
  refine (HTO.out _ (by (repeat (first | with_reducible exact Below.refl _ _ | with_reducible assumption | (with_reducible refine below_alloc ?_ _) | (with_reducible refine Below.setCell ?_ (by first | omega | (simp; done) | (simp; omega)) _) | (with_reducible refine Below.drew ?_) | (with_reducible refine below_drewN ?_ _) | (refine below_then (by with_reducible assumption) ?_))))).mono ?_
  rintro r w1 ⟨rfl, hb1⟩
  have B1 := Blk.later (Blk.newAt w 25 #[.int .u64 ep, .int .u64 bs, .slice a l.length c] rfl) hb1
  have hbw1 : Below w.heap.size w w1 := by (repeat (first | with_reducible exact Below.refl _ _ | with_reducible assumption | (with_reducible refine below_alloc ?_ _) | (with_reducible refine Below.setCell ?_ (by first | omega | (simp; done) | (simp; omega)) _) | (with_reducible refine Below.drew ?_) | (with_reducible refine below_drewN ?_ _) | (refine below_then (by with_reducible assumption) ?_)))
  clear hb1
  go_wp2_with fail
  refine (HBS.out _).mono ?_
  rintro r w2 ⟨rfl, hb2⟩
  have B2 := B1.later hb2
  have hbw2 := below_then hb2 hbw1
  obtain ⟨x0, x1, x2, _, _, _, l2⟩ := b_blk B2
  have HB2 := hid B2
  clear B1 hb2 B2
  go_wp2_with fail
  clear x0 x1 x2
  go_loopw [3, 14] (fun m i wr => ∃ k M : Nat, k ≤ l.length ∧ i = .int .i64 k ∧ m = .int .i64 M ∧ M ≤ 20000000 + 1000 * k ∧ Hid (R = true → 40 + VT.length + T + (headsB bs (l.take k)).length ≤ M) ∧ Below w2.heap.size w2 wr) (fun _ i _ => l.length - (intOf i).toNat)
  case atStart => exact ⟨0, 40 + (VT.length + T), Nat.zero_le _, rfl, by go_num, by omega, hid (fun _ => by simp [headsB]; omega), Below.refl _ _⟩
  case round =>
    obtain ⟨k, M, hk, rfl, rfl, hM, hMM, hb⟩ := hrel
    have hbw := below_then hb hbw2
    have B3 := HB2.out.later hb
    obtain ⟨x0, x1, x2, _, _, _, l3⟩ := b_blk B3
    by_cases hlt : k < l.length
    · obtain ⟨b, o, hA, hbb, a1, c1, a2, c2, y0, y1, hlk, hd⟩ := entry_at (lift HL.out hbw) hlt
      subst hA
      have hbl : b < wr.heap.size := World.block_lt_of_cell? _ _ y0
      have i1 : (k : Int) < (l.length : Int) := by omega
      have d1 : decide ((k : Int) < (l.length : Int)) = true := decide_eq_true i1
      have hbk := HBK.out l[k] (List.getElem_mem hlt)
      have HHZ := hid (fun (W : World) (hW : Below wr.heap.size wr W) (pos : Int) (hp : 0 ≤ pos ∧ pos ≤ 18446744073709551615) => entry_headsize W pos hp l[k] a1 a2 _ c1 _ c2 (lift hlk hW) (lift hd hW) hbk)
      have hHN := hid (fun pos => headN_le pos l[k])
      have hst := HHS.out k hlt
      have HX := hid (fun (h : R = true) => (by
        obtain ⟨h1, h2⟩ := HRE.out h k hlt
        refine ⟨?_, by omega⟩
        unfold headN
        rw [if_pos h1] : headN (bs + k) l[k] = (headB (bs + k) l[k]).length ∧ bs + k ≤ 18446744073709551615))
      have HSTP : Hid (∀ m, m = (headB (bs + k) l[k]).length → (headsB bs (l.take (k + 1))).length = (headsB bs (l.take k)).length + m) := hid (fun m e => by rw [hst, List.length_append, e])
      generalize l[k] = y at *
      clear hst hlk hd hbk
      by_cases hwr : bs + (k : Int) ≤ 18446744073709551615
      · have HZ2 := hid (fun (W : World) (hW : Below wr.heap.size wr W) => HHZ.out W hW (bs + k) (by omega))
        have hn := hHN.out (bs + k)
        generalize hN : headN (bs + (k : Int)) y = N at *
        have HN := hid hN
        clear hN
        go_wp2_with fail
        refine (HZ2.out _ (by (repeat (first | with_reducible exact Below.refl _ _ | with_reducible assumption | (with_reducible refine below_alloc ?_ _) | (with_reducible refine Below.setCell ?_ (by first | omega | (simp; done) | (simp; omega)) _) | (with_reducible refine Below.drew ?_) | (with_reducible refine below_drewN ?_ _) | (refine below_then (by with_reducible assumption) ?_))))).mono ?_
        rintro r w5 ⟨rfl, hb5⟩
        have hbw5 : Below w2.heap.size w2 w5 := by (repeat (first | with_reducible exact Below.refl _ _ | with_reducible assumption | (with_reducible refine below_alloc ?_ _) | (with_reducible refine Below.setCell ?_ (by first | omega | (simp; done) | (simp; omega)) _) | (with_reducible refine Below.drew ?_) | (with_reducible refine below_drewN ?_ _) | (refine below_then (by with_reducible assumption) ?_)))
        go_wp2
        go_roundw
        case rel =>
          refine ⟨k + 1, M + N, by omega, by go_num, by go_num, by omega, hid (fun h => ?_), hbw5⟩
          have e1 := hMM.out h
          have e2 := HSTP.out N (HX.out h).1
          omega
        case measure => simp [intOf]; omega
      · obtain ⟨p', hp', hpb⟩ : ∃ p' : Int, IntKind.u64.wrap (bs + (k : Int)) = p' ∧ 0 ≤ p' ∧ p' ≤ 18446744073709551615 := ⟨_, rfl, by simp only [IntKind.wrap_u64]; omega⟩
        have HZ2 := hid (fun (W : World) (hW : Below wr.heap.size wr W) => HHZ.out W hW p' hpb)
        have hn := hHN.out p'
        generalize headN p' y = N at *
        have HPP := hid hp'
        have HWR := hid hwr
        clear hp' hwr
        go_wp2_with fail
        rw [HPP.out]
        refine (HZ2.out _ (by (repeat (first | with_reducible exact Below.refl _ _ | with_reducible assumption | (with_reducible refine below_alloc ?_ _) | (with_reducible refine Below.setCell ?_ (by first | omega | (simp; done) | (simp; omega)) _) | (with_reducible refine Below.drew ?_) | (with_reducible refine below_drewN ?_ _) | (refine below_then (by with_reducible assumption) ?_))))).mono ?_
        rintro r w5 ⟨rfl, hb5⟩
        have hbw5 : Below w2.heap.size w2 w5 := by (repeat (first | with_reducible exact Below.refl _ _ | with_reducible assumption | (with_reducible refine below_alloc ?_ _) | (with_reducible refine Below.setCell ?_ (by first | omega | (simp; done) | (simp; omega)) _) | (with_reducible refine Below.drew ?_) | (with_reducible refine below_drewN ?_ _) | (refine below_then (by with_reducible assumption) ?_)))
        go_wp2
        go_roundw
        case rel => exact ⟨k + 1, M + N, by omega, by go_num, by go_num, by omega, hid (fun h => absurd (HX.out h).2 (by have := HWR.out; omega)), hbw5⟩
        case measure => simp [intOf]; omega
    · obtain rfl : k = l.length := by omega
      have d1 : decide ((l.length : Int) < (l.length : Int)) = false := decide_eq_false (by omega)
      have hfin : Hid (R = true → 40 + VT.length + T + (headsB bs l).length ≤ M) := hid (fun h => by have := hMM.out h; rwa [List.take_length] at this)
      clear x0 x1 x2
      go_wp2
      go_ret
      exact ⟨M, rfl, by omega, hfin.out, hbw⟩
end Go.Proofs.YtkipiefcnjfdjaaGreat
namespace Go.Proofs.YtkipiefcnjfdjaaGreat
open Go.RowKit Go.Bs Go.Maps
set_option linter.unusedVariables false
set_option linter.unusedSimpArgs false

theorem stepsL_get : ∀ (l : List Int) (p : Int) (k : Nat) (h : k < l.length), (stepsL p l)[k]'(by rw [stepsL_len]; exact h) = ahead p l k - l[k] - 1
  | [], p, k, h => by simp at h
  | x :: l, p, 0, h => by simp [stepsL, ahead]
  | x :: l, p, k + 1, h => by
    simp only [stepsL, List.getElem_cons_succ]
    rw [stepsL_get l x k (by simpa using h)]
    congr 2
    unfold ahead
    cases k with
    | zero => simp
    | succ k => simp
theorem falls_at : ∀ (l : List Int) (p : Int) (k : Nat) (h : k < l.length), fallsB p l = true → l[k] < ahead p l k
  | [], p, k, h, _ => by simp at h
  | x :: l, p, 0, h, hf => by simp only [fallsB, Bool.and_eq_true, decide_eq_true_eq] at hf; simpa [ahead] using hf.1
  | x :: l, p, k + 1, h, hf => by
    simp only [fallsB, Bool.and_eq_true, decide_eq_true_eq] at hf
    have := falls_at l x k (by simpa using h) hf.2
    rw [List.getElem_cons_succ]
    unfold ahead at this ⊢
    cases k with
    | zero => simpa using this
    | succ k => simpa using this

set_option maxRecDepth 100000 in
set_option maxHeartbeats 3200000 in
theorem ref22_steps (w : World) (pos : Int) (hpos : 0 ≤ pos ∧ pos ≤ 18446744073709551615) (l : List Int) (al : Option Addr) (nl cl : Nat) (hl : rU64s.r (· < w.heap.size) w [.slice al nl cl] l) (hf : fallsB pos l = true) (hlen : l.length ≤ 1000000) :
    Calls Tryz.prog 278 #[.int .u64 pos, .slice al nl cl] w fun r w' => ∃ v, r = .returned v ∧ rU64s.r (fun q => w.heap.size ≤ q ∧ q < w'.heap.size) w' [v] (stepsL pos l) ∧ Below w.heap.size w w' := by
  obtain ⟨rfl, hm, _, _⟩ := sl_len hl
  obtain ⟨i0, hi, hz0, hz1, hz2⟩ := info_parts infoU
  have HL := hid hl
  have hxs := u64s_bounds hl
  have hul := stepsL_len pos l
  have HU := hid (fun (k : Nat) (h : k < l.length) => stepsL_get l pos k h)
  have HF := hid (fun (k : Nat) (h : k < l.length) => falls_at l pos k h hf)
  have HXB := hid (fun (k : Nat) (h : k < l.length) => hxs l[k] (List.getElem_mem h))
  clear hl hf hxs
  go_enter Tryz.func278, Tryz.ntmps278
  go_wp2_with fail
  go_loopw [5, 6] (fun v i wr => ∃ k : Nat, k ≤ l.length ∧ i = .int .i64 k ∧ wr.ownsRow w.heap.size 22 1 v k (u64Cells ((stepsL pos l).take k)) ∧ Hid (∀ x ∈ (stepsL pos l).take k, 0 ≤ x ∧ x ≤ 18446744073709551615) ∧ Below w.heap.size w wr) (fun _ i _ => l.length - (intOf i).toNat)
  case atStart => exact ⟨0, Nat.zero_le _, rfl, ⟨rfl, .inl ⟨rfl, rfl⟩⟩, hid (by simp), Below.refl _ _⟩
  case round =>
    obtain ⟨k, hk, rfl, hown, hbd, hb⟩ := hrel
    obtain ⟨av, cv, rfl⟩ := own_form hown
    rcases Nat.lt_or_ge k l.length with hlt | hge
    · obtain ⟨b, o, hA, hbb, x0, hx⟩ := u64_at (lift HL.out hb) hlt
      subst hA
      have hu := HU.out k hlt
      have hfa := HF.out k hlt
      have i1 : (k : Int) < (l.length : Int) := by omega
      have d1 : decide ((k : Int) < (l.length : Int)) = true := decide_eq_true i1
      have htk : u64Cells ((stepsL pos l).take (k + 1)) = u64Cells ((stepsL pos l).take k) ++ [.int .u64 ((stepsL pos l)[k]'(by omega))] := by
        rw [List.take_succ_eq_append_getElem (by omega)]; unfold u64Cells; rw [List.map_append]; rfl
      have hnb : ∀ y : Int, (stepsL pos l)[k]'(by omega) = y → (0 ≤ y ∧ y ≤ 18446744073709551615) → ∀ x ∈ (stepsL pos l).take (k + 1), 0 ≤ x ∧ x ≤ 18446744073709551615 := fun y e hy x hx => by
        rw [List.take_succ_eq_append_getElem (by omega), List.mem_append, List.mem_singleton] at hx
        rcases hx with hx | rfl
        · exact hbd.out x hx
        · rw [e]; exact hy
      have HTK := hid htk
      have HNB := hid hnb
      have HO := hid hown
      have hz := hb.size
      rw [hu] at HTK
      rcases Nat.eq_zero_or_pos k with rfl | hk0
      · rw [ahead_zero] at hu hfa HTK
        have HBD := hid (HNB.out _ hu (by omega))
        simp only [Nat.zero_mul, Nat.add_zero, Nat.zero_add] at x0
        generalize l[0] = y at *
        have w1 : 0 ≤ pos - 1 - y := by omega
        have w2 : 0 ≤ pos - 1 := by omega
        rw [show pos - y - 1 = pos - 1 - y by omega] at HTK
        clear hu htk hnb hbd hown
        go_wp2_with (at_builtin; go_loud (refine wpList_append_src rfl _ _ _ rfl w.heap.size 22 i0 (.int .u64 0) 1 8 Tryz.underlying207 hi hz0 hz1 hz2 rfl (by decide) (.slice av 0 cv) 0 _ rfl (own_below HO.out (by (repeat (first | with_reducible exact Below.refl _ _ | with_reducible assumption | (with_reducible refine below_alloc ?_ _) | (with_reducible refine Below.setCell ?_ (by first | omega | (simp; done) | (simp; omega)) _) | (with_reducible refine Below.drew ?_) | (with_reducible refine below_drewN ?_ _) | (refine below_then (by with_reducible assumption) ?_))))) (some ⟨wr.heap.size, 0, none⟩) 1 1 [.int .u64 (pos - 1 - y)] rfl (src_new1 _ 22 _ rfl (by simp) rfl) (by simp [Value.oneCell']) (by simp only [maxLen]; omega) (by omega) (by simp; omega) ?_; intro v' w3 hown3 hgrow3 hat3; obtain ⟨a3, c3, rfl⟩ := own_form hown3; have HO3 := hid hown3; have hb3 : Below w.heap.size wr w3 := (Below.grown ((by (repeat (first | with_reducible exact Below.refl _ _ | with_reducible assumption | (with_reducible refine below_alloc ?_ _) | (with_reducible refine Below.setCell ?_ (by first | omega | (simp; done) | (simp; omega)) _) | (with_reducible refine Below.drew ?_) | (with_reducible refine below_drewN ?_ _) | (refine below_then (by with_reducible assumption) ?_))) : Below wr.heap.size wr _).mono hz) hgrow3 (by simp; omega) (fun g e => (HO.out.lt g e).1)); clear hown3 hgrow3 hat3))
        have ho3 := HO3.out
        rw [← HTK.out] at ho3
        have HO4 := hid ho3
        clear ho3 x0
        go_roundw
        case rel => exact ⟨1, by omega, by go_num, by simpa using HO4.out, HBD, hb.trans hb3⟩
        case measure => simp [intOf]; omega
      · obtain ⟨m, rfl⟩ : ∃ m, k = m + 1 := ⟨k - 1, by omega⟩
        obtain ⟨b', o', hA', hbb', y0, hy⟩ := u64_at (lift HL.out hb) (show m < l.length by omega)
        simp only [Option.some.injEq, Addr.mk.injEq] at hA'
        obtain ⟨rfl, rfl, _⟩ := hA'
        rw [ahead_succ pos l m (by omega)] at hu hfa HTK
        have hm0 := HXB.out m (by omega)
        have hm1 := HXB.out (m + 1) hlt
        have HBD := hid (HNB.out _ hu (by omega))
        have i1' : (m : Int) + 1 < (l.length : Int) := by omega
        have i2 : (m : Int) < (l.length : Int) := by omega
        have d2 : decide ((m : Int) + 1 < (l.length : Int)) = true := decide_eq_true i1'
        have d3 : decide (m + 1 < l.length) = true := decide_eq_true hlt
        generalize l[m + 1] = y at *
        generalize l[m]'(by omega) = z at *
        have w1 : 0 ≤ z - 1 - y := by omega
        have w2 : 0 ≤ z - 1 := by omega
        rw [show z - y - 1 = z - 1 - y by omega] at HTK
        clear hu htk hnb hbd hown
        go_wp2_with (at_builtin; go_loud (refine wpList_append_src rfl _ _ _ rfl w.heap.size 22 i0 (.int .u64 0) 1 8 Tryz.underlying207 hi hz0 hz1 hz2 rfl (by decide) (.slice av (m + 1) cv) (m + 1) _ rfl (own_below HO.out (by (repeat (first | with_reducible exact Below.refl _ _ | with_reducible assumption | (with_reducible refine below_alloc ?_ _) | (with_reducible refine Below.setCell ?_ (by first | omega | (simp; done) | (simp; omega)) _) | (with_reducible refine Below.drew ?_) | (with_reducible refine below_drewN ?_ _) | (refine below_then (by with_reducible assumption) ?_))))) (some ⟨wr.heap.size, 0, none⟩) 1 1 [.int .u64 (z - 1 - y)] rfl (src_new1 _ 22 _ rfl (by simp) rfl) (by simp [Value.oneCell']) (by simp only [maxLen]; omega) (by omega) (by simp; omega) ?_; intro v' w3 hown3 hgrow3 hat3; obtain ⟨a3, c3, rfl⟩ := own_form hown3; have HO3 := hid hown3; have hb3 : Below w.heap.size wr w3 := (Below.grown ((by (repeat (first | with_reducible exact Below.refl _ _ | with_reducible assumption | (with_reducible refine below_alloc ?_ _) | (with_reducible refine Below.setCell ?_ (by first | omega | (simp; done) | (simp; omega)) _) | (with_reducible refine Below.drew ?_) | (with_reducible refine below_drewN ?_ _) | (refine below_then (by with_reducible assumption) ?_))) : Below wr.heap.size wr _).mono hz) hgrow3 (by simp; omega) (fun g e => (HO.out.lt g e).1)); clear hown3 hgrow3 hat3))
        have ho3 := HO3.out
        rw [← HTK.out] at ho3
        have HO4 := hid ho3
        clear ho3 x0 y0
        go_roundw
        case rel => exact ⟨m + 1 + 1, by omega, by go_num, HO4.out, HBD, hb.trans hb3⟩
        case measure => simp [intOf]; omega
    · obtain rfl : k = l.length := by omega
      have d1 : decide ((l.length : Int) < (l.length : Int)) = false := decide_eq_false (by omega)
      have hv := hown
      rw [List.take_of_length_le (by omega)] at hv hbd
      have HV := hid (own_ints64 hbd.out (by omega) hv)
      clear hv hown
      go_wp2
      go_ret
      exact ⟨_, rfl, HV.out, hb⟩

set_option maxRecDepth 100000 in
set_option maxHeartbeats 3200000 in
theorem ref22_bytes (w : World) (pos : Int) (hpos : 0 ≤ pos ∧ pos ≤ 18446744073709551615) (l : List Int) (al : Option Addr) (nl cl : Nat) (hl : rU64s.r (· < w.heap.size) w [.slice al nl cl] l) (hf : fallsB pos l = true) (hlen : l.length ≤ 1000000) :
    Calls Tryz.prog 250 #[.int .u64 pos, .slice al nl cl] w fun r w' => ∃ v, r = .returned v ∧ OwnB w' w.heap.size v (deltaB pos l) ∧ Below w.heap.size w w' := by
  obtain ⟨rfl, hm, _, _⟩ := sl_len hl
  obtain ⟨i0, hi, hz0, hz1, hz2⟩ := info_parts info8
  have HS := hid (fun (W : World) (hW : Below w.heap.size w W) => ref22_steps W pos hpos l al _ cl (lift hl hW) hf hlen)
  have HV := hid (ref04_own l.length (by omega) w)
  have hsl := stepsL_len pos l
  have hnb := numsB_len (stepsL pos l)
  have hvl := (varB_len l.length).1
  unfold deltaB
  have HMO := hid (fun k => numsB_take_le (stepsL pos l) k)
  have HNS := hid (fun (k : Nat) (h : k < (stepsL pos l).length) => numsB_step (stepsL pos l) k h)
  generalize stepsL pos l = T at *
  generalize varB l.length = V at *
  clear hl hf
  go_enter Tryz.func250, Tryz.ntmps250
  go_wp2_with fail
  refine HV.out.mono ?_
  rintro r w1 ⟨v1, rfl, hv1, hb1⟩
  obtain ⟨a1, c1, rfl⟩ := own_form hv1
  have HO1 := hid hv1
  clear hv1
  go_wp2_with fail
  refine (HS.out _ hb1).mono ?_
  rintro r w2 ⟨v2, rfl, hr2, hb2⟩
  obtain ⟨a2, c2, hv2, hr2', _⟩ := sl_form hr2
  simp only [List.cons.injEq, and_true] at hv2
  subst hv2
  have HT := hid (rU64s.mono (S' := fun q => w1.heap.size ≤ q ∧ q < w2.heap.size) hr2' fun q hq => hq)
  have HO2 := hid (own_below HO1.out hb2)
  have hbw2 := below_then hb2 hb1
  have hsz2 := hb2.size
  clear hr2 hr2'
  go_wp2_with fail
  go_loopw [5, 7] (fun v i wr => ∃ (k : Nat) (J : List UInt8), k ≤ T.length ∧ i = .int .i64 k ∧ OwnB wr w.heap.size v J ∧ Hid (J = V ++ numsB (T.take k)) ∧ (∃ aJ cJ, v = .slice aJ J.length cJ) ∧ Below w.heap.size w wr ∧ w2.heap.size ≤ wr.heap.size ∧ rU64s.r (fun q => w1.heap.size ≤ q ∧ q < w2.heap.size) wr [.slice a2 T.length c2] T ∧ Hid (∀ q, v.ownBlock = some q → ¬ (w1.heap.size ≤ q ∧ q < w2.heap.size))) (fun _ i _ => T.length - (intOf i).toNat)
  case atStart => exact ⟨0, V, Nat.zero_le _, rfl, HO2.out, hid (by simp [numsB]), ⟨_, _, rfl⟩, hbw2, Nat.le_refl _, HT.out, hid (fun q e h => by have := (HO1.out.lt q e).2; omega)⟩
  case round =>
    obtain ⟨k, J, hk, rfl, hown, hJ, ⟨aJ, cJ, rfl⟩, hb, hsz, hT, hav⟩ := hrel
    rcases Nat.lt_or_ge k T.length with hlt | hge
    · obtain ⟨b, o, hA, hbb, x0, hx0, hx1⟩ := u64_at hT hlt
      subst hA
      have hst := HNS.out k hlt
      have hmo := HMO.out (k + 1)
      rw [hst, List.length_append] at hmo
      have hJl : J.length + (varB T[k].toNat).length ≤ 20000000 := by have := congrArg List.length hJ.out; rw [List.length_append] at this; omega
      have HN := hid (fun (W : World) => (by have := ref04_own T[k].toNat (by omega) W; rw [toNat_cast hx0] at this; exact this : Calls Tryz.prog 144 #[.int .u64 T[k]] W fun r w' => ∃ v, r = .returned v ∧ w'.ownsRow W.heap.size 5 1 v (varB T[k].toNat).length (byteCells (varB T[k].toNat)) ∧ Below W.heap.size W w'))
      have HJ1 : Hid (J ++ varB T[k].toNat = V ++ numsB (T.take (k + 1))) := hid (by rw [hst, hJ.out, List.append_assoc])
      have HO := hid hown
      have HTT := hid hT
      have i1 : (k : Int) < (T.length : Int) := by omega
      have d1 : decide ((k : Int) < (T.length : Int)) = true := decide_eq_true i1
      generalize varB T[k].toNat = VK at *
      have HONE := hid (byteCells_one VK)
      generalize T[k] = y at *
      clear hst hmo hJ hown hT
      go_wp2_with fail
      refine (HN.out _).mono ?_
      rintro r w3 ⟨v3, rfl, hv3, hb3⟩
      obtain ⟨a3, c3, rfl⟩ := own_form hv3
      have HS3 := hid (src_bytes (own_bytes rfl hv3))
      have HO3 := hid (own_below HO.out hb3)
      have hz := hb.size
      have hz3 := hb3.size
      clear hv3
      go_wp2_with (at_builtin; go_loud (refine wpList_append_src rfl _ _ _ rfl w.heap.size 5 i0 (.int .u8 0) 1 1 Tryz.underlying28 hi hz0 hz1 hz2 rfl (by decide) (.slice aJ J.length cJ) J.length (byteCells J) rfl HO3.out a3 VK.length c3 (byteCells VK) rfl HS3.out HONE.out (by simp only [maxLen]; omega) (by omega) (by omega) ?_; intro v' w4 hown4 hgrow4 hat4; obtain ⟨a4, c4, rfl⟩ := own_form hown4; have HO4 := hid hown4; have HGR4 := hid hgrow4; have HA4 := hid hat4; clear hown4 hgrow4 hat4))
      have ho4 := OwnB.app HO4.out
      have hb4 : Below w.heap.size w3 w4 := (Below.grown (Below.refl _ _) HGR4.out (by omega) (fun g e => (HO3.out.lt g e).1))
      have hg4 : rU64s.r (fun q => w1.heap.size ≤ q ∧ q < w2.heap.size) w4 [.slice (some ⟨b, o, none⟩) T.length c2] T := rU64s.keep HTT.out fun q hq => by
        have hq' : w1.heap.size ≤ q ∧ q < w2.heap.size := hq
        exact (HGR4.out.block q (by omega) (fun e => hav.out q e.symm hq')).trans (hb3.block q (by omega))
      have HO5 := hid ho4
      have HG4 := hid hg4
      clear ho4 hg4
      go_roundw
      case rel => exact ⟨k + 1, J ++ VK, by omega, by go_num, HO5.out, HJ1, ⟨_, _, by rw [List.length_append]⟩, hb.trans ((hb3.mono hb.size).trans hb4), by have := hb4.size; omega, HG4.out, hid (fun q e h => by
        rcases HA4.out with h1 | h1
        · exact hav.out q (h1 ▸ e) h
        · rw [h1] at e; simp at e; omega)⟩
      case measure => simp [intOf]; omega
    · obtain rfl : k = T.length := by omega
      have d1 : decide ((T.length : Int) < (T.length : Int)) = false := decide_eq_false (by omega)
      have hfin : Hid (J = V ++ numsB T) := hid (by have := hJ.out; rwa [List.take_length] at this)
      have HO := hid hown
      clear hown hJ
      go_wp2
      go_ret
      rw [← hfin.out]
      exact ⟨_, rfl, HO.out, hb⟩
end Go.Proofs.YtkipiefcnjfdjaaGreat
namespace Go.Proofs.YtkipiefcnjfdjaaGreat
open Go.RowKit Go.Bs Go.Maps
set_option linter.unusedVariables false
set_option linter.unusedSimpArgs false

theorem infoMark : (Tryz.prog.info? 160).map (fun i => (i.zero, i.size, i.bytes)) = some (some (.agg #[.int .u64 0, .int .i64 0, .int .i64 0]), 3, 24) := by kernel_rfl
end Go.Proofs.YtkipiefcnjfdjaaGreat
namespace Go.Proofs.YtkipiefcnjfdjaaGreat
open Go.RowKit Go.Bs Go.Maps
set_option linter.unusedVariables false
set_option linter.unusedSimpArgs false

set_option maxRecDepth 100000 in
set_option maxHeartbeats 6400000 in
theorem batch_put (w : World) {g base most : Nat} {J : List UInt8} {a : Option Addr} {c : Nat} (h : PenAt w g base most J a c) (b : Batch) (al : Option Addr) (nl cl : Nat) (hN : batchN b)
    (hl : rEntries.r (fun q => q < w.heap.size ∧ ¬ PenF g a q) w [.slice al nl cl] b.entries) (hR : batchR b = true) (ht : TameE b.entries) (hfit : J.length + (batchB b).length ≤ most) (hln2 : J.length + (batchB b).length ≤ 100000000000000) :
    Calls Tryz.prog 19 #[.pointer (some ⟨g, 0, none⟩), .agg #[.int .u64 b.epoch, .int .u64 b.base, .slice al nl cl]] w fun r w' => r = .returned (.tuple #[]) ∧ PenStep w g base most (J ++ batchB b) a w' := by
  obtain ⟨rfl, hm, _, _⟩ := sl_len hl
  obtain ⟨h0, h1, _⟩ := hN
  have HRT := hid (fun (W : World) (hW : Below w.heap.size w W) => batch_right b al _ cl W h0 h1 (lift (pen_low hl) hW) ht.fair)
  rw [hR] at HRT
  have hR' := hR
  simp only [batchR, Bool.and_eq_true, decide_eq_true_eq] at hR'
  obtain ⟨hep, hfits, htot, hent⟩ := hR'
  have hfits' := hfits
  simp only [fitsR, decide_eq_true_eq] at hfits'
  have hbl : (batchB b).length = (varB b.epoch.toNat).length + (varB b.base.toNat).length + (varB b.entries.length).length + (headsB b.base b.entries).length + (blockB (joined b.entries)).length := by simp only [batchB, aheadB, List.length_append]
  rw [hbl] at hfit hln2
  have hbb : batchB b = varB b.epoch.toNat ++ varB b.base.toNat ++ varB b.entries.length ++ headsB b.base b.entries ++ blockB (joined b.entries) := rfl
  rw [hbb]
  have HE := hid (fun (W : World) (hW : Below w.heap.size w W) => (by have := epoch_put W (h.later hW) b.epoch.toNat (by rw [toNat_cast h0.1]; exact hep) (by omega) (by omega); rw [toNat_cast h0.1] at this; exact this : Calls Tryz.prog 71 #[.pointer (some ⟨g, 0, none⟩), .int .u64 b.epoch] W fun r w' => r = .returned (.tuple #[]) ∧ PenStep W g base most (J ++ varB b.epoch.toNat) a w'))
  have hpo : poR b.base = true := by unfold poR; exact decide_eq_true (by omega)
  have HJL := hid (joined_length b.entries)
  have HP := hid h
  have HL := hid hl
  have HBK := hid ht.backs
  have HEA := hid (fun (k : Nat) (hk : k < b.entries.length) => entriesR_at b.entries b.base k hk hent)
  have HHS := hid (fun (k : Nat) (hk : k < b.entries.length) => headsB_step b.entries b.base k hk)
  have HHL := hid (fun k => headsB_le b.entries b.base k)
  have hto := ht.tot
  obtain ⟨ep, bs, l⟩ := b
  dsimp only at *
  clear h hl hR hbl hbb hep hent hfits ht
  go_enter Tryz.func19, Tryz.ntmps19
  go_wp2_with fail
  refine (HRT.out _ (by (repeat (first | with_reducible exact Below.refl _ _ | with_reducible assumption | (with_reducible refine below_alloc ?_ _) | (with_reducible refine Below.setCell ?_ (by first | omega | (simp; done) | (simp; omega)) _) | (with_reducible refine Below.drew ?_) | (with_reducible refine below_drewN ?_ _) | (refine below_then (by with_reducible assumption) ?_))))).mono ?_
  rintro r w1 ⟨rfl, hb1⟩
  have B1 := Blk.later (Blk.newAt w 25 #[.int .u64 ep, .int .u64 bs, .slice al l.length cl] rfl) hb1
  obtain ⟨x0, x1, x2, _, _, _, l1⟩ := b_blk B1
  have hbw1 : Below w.heap.size w w1 := by (repeat (first | with_reducible exact Below.refl _ _ | with_reducible assumption | (with_reducible refine below_alloc ?_ _) | (with_reducible refine Below.setCell ?_ (by first | omega | (simp; done) | (simp; omega)) _) | (with_reducible refine Below.drew ?_) | (with_reducible refine below_drewN ?_ _) | (refine below_then (by with_reducible assumption) ?_)))
  have HLT := hid (fun q (hq : PenF g a q) => (HP.out.own_lt hq).2)
  have HB1 := hid B1
  have HL1 := hid (pen_later hbw1 HL.out)
  have hs1 := hbw1.size
  clear B1 hb1
  go_wp2_with fail
  refine (HE.out _ hbw1).mono ?_
  rintro r w2 ⟨rfl, a2, c2, hp2, ht2, ha2⟩
  have B2 := HB1.out.tch ht2 (fun hf => by have := HLT.out _ hf; omega)
  obtain ⟨y0, y1, y2, _, _, _, l2⟩ := b_blk B2
  have HV2 := hid ((by have := epoch_putpos w2 hp2 bs.toNat (by rw [toNat_cast h1.1]; exact hpo) (by simp only [List.length_append]; omega) (by simp only [List.length_append]; omega); rw [toNat_cast h1.1] at this; exact this : Calls Tryz.prog 72 #[.pointer (some ⟨g, 0, none⟩), .int .u64 bs] w2 fun r w' => r = .returned (.tuple #[]) ∧ PenStep w2 g base most (J ++ varB ep.toNat ++ varB bs.toNat) a2 w'))
  have HT2 := hid (And.intro ht2 ha2)
  have HL2 := hid (pen_data ht2 ha2 HL1.out)
  have HB2 := hid B2
  have HNF2 := hid (fun (hf : PenF g a2 w.heap.size) => penF_old ha2 HB1.out.lt (fun hf => by have := HLT.out _ hf; omega) hf)
  have hs2 := ht2.size
  clear B2 hp2 ht2 ha2 x0 x1 x2
  go_wp2_with fail
  refine HV2.out.mono ?_
  rintro r w3 ⟨rfl, a3, c3, hp3, ht3, ha3⟩
  have B3 := HB2.out.tch ht3 (fun hf => HNF2.out hf)
  obtain ⟨x0, x1, x2, _, _, _, l3⟩ := b_blk B3
  have HV3 := hid (varint_put w3 hp3 l.length (by omega) (by simp only [List.length_append]; omega) (by simp only [List.length_append]; omega))
  have HT3 := hid (And.intro ht3 ha3)
  have HL3 := hid (pen_data ht3 ha3 HL2.out)
  have HB3 := hid B3
  have HNF3 := hid (fun (hf : PenF g a3 w.heap.size) => penF_old ha3 HB2.out.lt (fun hf => HNF2.out hf) hf)
  have hs3 := ht3.size
  clear B3 hp3 ht3 ha3 y0 y1 y2
  go_wp2_with fail
  refine HV3.out.mono ?_
  rintro r w4 ⟨rfl, a4, c4, hp4, ht4, ha4⟩
  have B4 := HB3.out.tch ht4 (fun hf => HNF3.out hf)
  obtain ⟨y0, y1, y2, _, _, _, l4⟩ := b_blk B4
  have HT4 := hid (And.intro ht4 ha4)
  have HL4 := hid (pen_data ht4 ha4 HL3.out)
  have HB4 := hid B4
  have HNF4 := hid (fun (hf : PenF g a4 w.heap.size) => penF_old ha4 HB3.out.lt (fun hf => HNF3.out hf) hf)
  have HP4 := hid hp4
  have hs4 := ht4.size
  clear B4 hp4 ht4 ha4 x0 x1 x2
  go_wp2_with fail
  clear y0 y1 y2
  go_loopw [28] (fun i wr => ∃ k : Nat, k ≤ l.length ∧ i = .int .i64 k ∧ Hid (PenStep w4 g base most (J ++ varB ep.toNat ++ varB bs.toNat ++ varB l.length ++ headsB bs (l.take k)) a4 wr)) (fun i _ => l.length - (intOf i).toNat)
  case atStart => exact ⟨0, Nat.zero_le _, rfl, hid (by simpa [headsB] using PenStep.refl HP4.out)⟩
  case round =>
    obtain ⟨k, hk, rfl, hp⟩ := hrel
    obtain ⟨a5, c5, hp5, ht5, ha5⟩ := hp.out
    have B5 := HB4.out.tch ht5 (fun hf => HNF4.out hf)
    obtain ⟨x0, x1, x2, _, _, _, l5⟩ := b_blk B5
    have hd5 := pen_data ht5 ha5 HL4.out
    have hhl := HHL.out (k + 1)
    rcases Nat.lt_or_ge k l.length with hlt | hge
    · obtain ⟨bb, o, hA, hbb, a6, c6, a7, c7, z0, z1, hlk, hd⟩ := entry_at hd5 hlt
      subst hA
      have hbl : bb < wr.heap.size := World.block_lt_of_cell? _ _ z0
      have hst := HHS.out k hlt
      rw [hst, List.length_append] at hhl
      have i1 : (k : Int) < (l.length : Int) := by omega
      have d1 : decide ((k : Int) < (l.length : Int)) = true := decide_eq_true i1
      have hJ5 := hp5.len
      simp only [List.length_append] at hJ5
      have hPT := fun (W : World) (hW : Below wr.heap.size wr W) => entry_puthead W (hp5.later hW) (bs + k) (by omega) l[k] a6 a7 _ c6 _ c7 (pen_later hW hlk) (lift (pen_low hd) hW) (HEA.out k hlt) (HBK.out l[k] (List.getElem_mem hlt)) (by simp only [List.length_append]; omega) (by simp only [List.length_append]; omega)
      have HPT := hid hPT
      have HT5 := hid (And.intro ht5 ha5)
      have HST := hid hst
      generalize l[k] = y at *
      clear hPT hp5 ht5 ha5 hp hst hlk hd hd5 hhl hJ5 B5
      go_wp2_with fail
      have hbW : Below wr.heap.size wr (wr.alloc (.cells #[.slice a6 y.links.length c6, .slice a7 y.data.length c7] 75)) := by (repeat (first | with_reducible exact Below.refl _ _ | with_reducible assumption | (with_reducible refine below_alloc ?_ _) | (with_reducible refine Below.setCell ?_ (by first | omega | (simp; done) | (simp; omega)) _) | (with_reducible refine Below.drew ?_) | (with_reducible refine below_drewN ?_ _) | (refine below_then (by with_reducible assumption) ?_)))
      refine (HPT.out _ hbW).mono ?_
      rintro r w6 ⟨rfl, hst6⟩
      have hn := PenStep.trans (J := J) HT5.out.1 HT5.out.2 (PenStep.later hbW hst6)
      rw [List.append_assoc _ (headsB bs (l.take k)), ← HST.out] at hn
      have HN := hid hn
      clear hst6 hn x0 x1 x2
      go_wp2
      go_roundw
      case rel => exact ⟨k + 1, by omega, by go_num, HN⟩
      case measure => simp [intOf]; omega
    · obtain rfl : k = l.length := by omega
      have d1 : decide ((l.length : Int) < (l.length : Int)) = false := decide_eq_false (by omega)
      rw [List.take_length] at hp5
      have HJN := hid (fun (W : World) (hW : rEntries.r (· < W.heap.size) W [.slice al l.length cl] l) => entry_join l al _ cl W hW (by omega))
      have HPW := hid hp5
      have HD5 := hid hd5
      have HT5 := hid (And.intro ht5 ha5)
      clear hp ht5 ha5 hp5 hd5 B5
      go_wp2_with fail
      refine (HJN.out _ (pen_low HD5.out)).mono ?_
      rintro r w6 ⟨v6, rfl, hr6, hb6⟩
      obtain ⟨a8, c8, hv6, hr6', _⟩ := sl_form hr6
      simp only [List.cons.injEq, and_true] at hv6
      subst hv6
      have HBP := hid (block_put w6 (HPW.out.later hb6) (joined l) a8 _ c8 (pen_new_data HPW.out hr6') (by rw [HJL.out]; omega) (by simp only [List.length_append]; omega) (by simp only [List.length_append]; omega))
      clear hr6 hr6' x0 x1 x2
      go_wp2_with fail
      refine HBP.out.mono ?_
      rintro r w7 ⟨rfl, hst7⟩
      have hn := PenStep.later hbw1 (PenStep.trans (J := J) HT2.out.1 HT2.out.2 (PenStep.trans (J := J) HT3.out.1 HT3.out.2 (PenStep.trans (J := J) HT4.out.1 HT4.out.2 (PenStep.trans (J := J) HT5.out.1 HT5.out.2 (PenStep.later hb6 hst7)))))
      have HN : Hid (PenStep w g base most (J ++ (varB ep.toNat ++ varB bs.toNat ++ varB l.length ++ headsB bs l ++ blockB (joined l))) a w7) := hid (by simpa only [List.append_assoc] using hn)
      clear hst7 hn
      go_wp2
      first | go_end0 | refine bodyPost_ret (results_none rfl _ _ _) rfl ?_
      exact ⟨rfl, HN.out⟩

set_option maxRecDepth 100000 in
set_option maxHeartbeats 3200000 in
theorem batch_put_bad (w : World) {g base most : Nat} {J : List UInt8} {a : Option Addr} {c : Nat} (h : PenAt w g base most J a c) (b : Batch) (al : Option Addr) (nl cl : Nat) (hN : batchN b)
    (hl : rEntries.r (· < w.heap.size) w [.slice al nl cl] b.entries) (hR : batchR b = false) (ht : TameE b.entries) :
    Calls Tryz.prog 19 #[.pointer (some ⟨g, 0, none⟩), .agg #[.int .u64 b.epoch, .int .u64 b.base, .slice al nl cl]] w fun r w' => r = .returned (.tuple #[]) ∧ Blk w' g 109 #[.int .i64 most, .slice a J.length c, .int .i64 3] ∧ Tch (· = g) w w' := by
  obtain ⟨rfl, hm, _, _⟩ := sl_len hl
  obtain ⟨h0, h1, _⟩ := hN
  have HRT := hid (fun (W : World) (hW : Below w.heap.size w W) => batch_right b al _ cl W h0 h1 (lift hl hW) ht.fair)
  rw [hR] at HRT
  have HF := hid (fun (W : World) (hW : Below w.heap.size w W) => pen_fail W (h.later hW) 3)
  obtain ⟨ep, bs, l⟩ := b
  dsimp only at *
  clear h hl hR ht
  go_enter Tryz.func19, Tryz.ntmps19
  go_wp2_with fail
  refine (HRT.out _ (by (repeat (first | with_reducible exact Below.refl _ _ | with_reducible assumption | (with_reducible refine below_alloc ?_ _) | (with_reducible refine Below.setCell ?_ (by first | omega | (simp; done) | (simp; omega)) _) | (with_reducible refine Below.drew ?_) | (with_reducible refine below_drewN ?_ _) | (refine below_then (by with_reducible assumption) ?_))))).mono ?_
  rintro r w1 ⟨rfl, hb1⟩
  have hbw1 : Below w.heap.size w w1 := by (repeat (first | with_reducible exact Below.refl _ _ | with_reducible assumption | (with_reducible refine below_alloc ?_ _) | (with_reducible refine Below.setCell ?_ (by first | omega | (simp; done) | (simp; omega)) _) | (with_reducible refine Below.drew ?_) | (with_reducible refine below_drewN ?_ _) | (refine below_then (by with_reducible assumption) ?_)))
  go_wp2_with fail
  refine (HF.out _ hbw1).mono ?_
  rintro r w2 ⟨rfl, hB2, hT2⟩
  have HB2 := hid hB2
  have HT2 := hid hT2
  clear hB2 hT2
  go_wp2
  first | go_end0 | refine bodyPost_ret (results_none rfl _ _ _) rfl ?_
  exact ⟨rfl, HB2.out, Tch.trans (F := (· = g)) (Tch.of_later hbw1) HT2.out (fun _ _ h => h)⟩

/-- What batch.Bytes gives. -/
def batchBytes (b : Batch) : List UInt8 × Int := if batchR b = true then (batchB b, 0) else ([], 3)
set_option maxRecDepth 100000 in
set_option maxHeartbeats 3200000 in
theorem batch_bytes (w : World) (b : Batch) (al : Option Addr) (nl cl : Nat) (hN : batchN b) (hl : rEntries.r (· < w.heap.size) w [.slice al nl cl] b.entries) (ht : TameE b.entries) :
    Calls Tryz.prog 17 #[.agg #[.int .u64 b.epoch, .int .u64 b.base, .slice al nl cl]] w fun r w' => ∃ v, r = .returned (.tuple #[v, .int .i64 (batchBytes b).2]) ∧ rBytes.r (fun q => w.heap.size ≤ q ∧ q < w'.heap.size) w' [v] (batchBytes b).1 ∧ Below w.heap.size w w' := by
  obtain ⟨rfl, hm, _, _⟩ := sl_len hl
  have HRM := hid (fun (W : World) (hW : Below w.heap.size w W) => batch_room W b al _ cl hN.1 hN.2.1 (lift hl hW) ht)
  have HL := hid hl
  unfold batchBytes
  cases hR : batchR b
  · rw [if_neg (by simp)]
    have HPT := hid (fun (W : World) {g base most : Nat} {a : Option Addr} {c : Nat} (h : PenAt W g base most [] a c) (hW : Below w.heap.size w W) => batch_put_bad W h b al _ cl hN (lift HL.out hW) hR ht)
    obtain ⟨ep, bs, l⟩ := b
    dsimp only at *
    clear hl hR ht hN
    go_enter Tryz.func17, Tryz.ntmps17
    go_wp2_with fail
    refine (HRM.out _ (by (repeat (first | with_reducible exact Below.refl _ _ | with_reducible assumption | (with_reducible refine below_alloc ?_ _) | (with_reducible refine Below.setCell ?_ (by first | omega | (simp; done) | (simp; omega)) _) | (with_reducible refine Below.drew ?_) | (with_reducible refine below_drewN ?_ _) | (refine below_then (by with_reducible assumption) ?_))))).mono ?_
    rintro r w1 ⟨M, rfl, hM, _, hb1⟩
    have B1 := Blk.later (Blk.newAt w 25 #[.int .u64 ep, .int .u64 bs, .slice al l.length cl] rfl) hb1
    have hbw1 : Below w.heap.size w w1 := by (repeat (first | with_reducible exact Below.refl _ _ | with_reducible assumption | (with_reducible refine below_alloc ?_ _) | (with_reducible refine Below.setCell ?_ (by first | omega | (simp; done) | (simp; omega)) _) | (with_reducible refine Below.drew ?_) | (with_reducible refine below_drewN ?_ _) | (refine below_then (by with_reducible assumption) ?_)))
    have HN := hid (pen_new w1 M (by omega))
    clear hb1
    go_wp2_with fail
    refine HN.out.mono ?_
    rintro r w2 ⟨rfl, hp2, hb2⟩
    have B2 := B1.later hb2
    obtain ⟨x0, x1, x2, _, _, _, l2⟩ := b_blk B2
    have hbw2 := below_then hb2 hbw1
    have HP2 := hid (HPT.out w2 hp2 hbw2)
    have hs1 := hbw1.size
    clear hp2 B1 B2
    go_wp2_with fail
    refine HP2.out.mono ?_
    rintro r w3 ⟨rfl, hB3, hT3⟩
    have hbw3 : Below w.heap.size w w3 := hbw2.trans (hT3.to_below hbw2.size (fun q _ e => by omega))
    have HB := hid (pen_bytes_bad w3 (k := 3) (by omega) hB3)
    clear hB3 hT3 x0 x1 x2
    go_wp2_with fail
    refine HB.out.mono ?_
    rintro r w4 ⟨rfl, rfl⟩
    go_wp2
    go_ret2
    exact ⟨_, rfl, empty_bytes2 rfl rfl (by omega), hbw3⟩
  · rw [if_pos rfl]
    have hbl := batchB_len hR
    have HPT := hid (fun (W : World) {g base most : Nat} {a : Option Addr} {c : Nat} (h : PenAt W g base most [] a c) (hW : rEntries.r (fun q => q < W.heap.size ∧ ¬ PenF g a q) W [.slice al b.entries.length cl] b.entries) (hf : (batchB b).length ≤ most) => batch_put W h b al _ cl hN hW hR ht (by simpa using hf) (by have := ht.tot; have := (varB_len (total b.entries)).1; simp; omega))
    have HRR := hid hR
    generalize batchB b = K at *
    obtain ⟨ep, bs, l⟩ := b
    dsimp only at *
    have HBL := hid hbl
    clear hl hR ht hN hbl
    go_enter Tryz.func17, Tryz.ntmps17
    go_wp2_with fail
    refine (HRM.out _ (by (repeat (first | with_reducible exact Below.refl _ _ | with_reducible assumption | (with_reducible refine below_alloc ?_ _) | (with_reducible refine Below.setCell ?_ (by first | omega | (simp; done) | (simp; omega)) _) | (with_reducible refine Below.drew ?_) | (with_reducible refine below_drewN ?_ _) | (refine below_then (by with_reducible assumption) ?_))))).mono ?_
    rintro r w1 ⟨M, rfl, hM, hM2, hb1⟩
    have hfit : K.length ≤ M := by have := hM2 HRR.out; have := HBL.out.2.1; omega
    have B1 := Blk.later (Blk.newAt w 25 #[.int .u64 ep, .int .u64 bs, .slice al l.length cl] rfl) hb1
    have hbw1 : Below w.heap.size w w1 := by (repeat (first | with_reducible exact Below.refl _ _ | with_reducible assumption | (with_reducible refine below_alloc ?_ _) | (with_reducible refine Below.setCell ?_ (by first | omega | (simp; done) | (simp; omega)) _) | (with_reducible refine Below.drew ?_) | (with_reducible refine below_drewN ?_ _) | (refine below_then (by with_reducible assumption) ?_)))
    have HN := hid (pen_new w1 M (by omega))
    clear hb1 hM2
    go_wp2_with fail
    refine HN.out.mono ?_
    rintro r w2 ⟨rfl, hp2, hb2⟩
    have B2 := B1.later hb2
    obtain ⟨x0, x1, x2, _, _, _, l2⟩ := b_blk B2
    have hbw2 := below_then hb2 hbw1
    have hs1 := hbw1.size
    have HPA := hid hp2
    have HP2 := hid (HPT.out w2 hp2 (rEntries.mono (rEntries.keep HL.out fun q hq => hbw2.block q hq) fun q hq => ⟨by have := hbw2.size; omega, fun hf => by have := (hp2.own_lt hf).1; omega⟩) hfit)
    clear hp2 B1 B2
    go_wp2_with fail
    refine HP2.out.mono ?_
    rintro r w3 ⟨rfl, hst⟩
    rw [List.nil_append] at hst
    have hbw3 : Below w.heap.size w w3 := hbw2.trans (HPA.out.below hs1 hbw2.size hst)
    obtain ⟨a3, c3, hp3, _, _⟩ := hst
    have HB := hid (pen_bytes w3 hp3)
    have hs3 := hbw3.size
    clear hp3 x0 x1 x2
    go_wp2_with fail
    refine HB.out.mono ?_
    rintro r w4 ⟨v, rfl, hv, hb4⟩
    have hbe := below_then hb4 hbw3
    have HV := hid (rBytes.mono (S' := fun q => w.heap.size ≤ q ∧ q < w4.heap.size) hv fun q hq => ⟨by have := hq.1; omega, hq.2⟩)
    clear hv
    go_wp2
    go_ret2
    exact ⟨_, rfl, HV.out, hbe⟩
end Go.Proofs.YtkipiefcnjfdjaaGreat
namespace Go.Bs
open Go.RowKit
set_option linter.unusedVariables false
end Go.Bs
namespace Go.Proofs.YtkipiefcnjfdjaaGreat
open Go.RowKit Go.Bs Go.Maps
set_option linter.unusedVariables false
set_option linter.unusedSimpArgs false

theorem segGo_step (J : List UInt8) (M : List MarkD) (l : List Batch) (k : Nat) (h : k < l.length) : segGo J M (l.drop k) = segGo (J ++ recB 1 (batchB l[k])) (M ++ [⟨l[k].base, l[k].entries.length, J.length⟩]) (l.drop (k + 1)) := by
  rw [List.drop_eq_getElem_cons h]; rfl
end Go.Proofs.YtkipiefcnjfdjaaGreat
namespace Go.Proofs.YtkipiefcnjfdjaaGreat
open Go.RowKit Go.Bs Go.Maps
set_option linter.unusedVariables false
set_option linter.unusedSimpArgs false

theorem vget_varF (rest : List UInt8) : ∀ (f i x y : Nat), f + i = 9 → (0 < i → 0 < x) → x * 128 ^ i < 18446744073709551616 → vget i y (varF f x ++ rest) = (y + x * 128 ^ i, i + (varF f x).length, 0)
  | 0, i, x, y, h, hp, hx => by
    obtain rfl : i = 9 := by omega
    have hx2 : x < 2 := by omega
    have ht : (UInt8.ofNat x).toNat = x := by simp; omega
    have := hp (by omega)
    simp only [varF, List.cons_append, List.nil_append, List.length_cons, List.length_nil]
    unfold vget
    rw [ht, if_neg (by omega), if_neg (by omega), if_pos (by omega)]
  | f + 1, i, x, y, h, hp, hx => by
    simp only [varF]
    by_cases h128 : x < 128
    · rw [if_pos h128]
      have ht : (UInt8.ofNat x).toNat = x := by simp; omega
      simp only [List.cons_append, List.nil_append, List.length_cons, List.length_nil]
      unfold vget
      rw [ht, if_neg (by omega), if_neg (by omega), if_pos (by omega)]
    · rw [if_neg h128]
      have ht : (UInt8.ofNat (128 + x % 128)).toNat = 128 + x % 128 := by simp; omega
      simp only [List.cons_append, List.length_cons]
      unfold vget
      rw [ht, if_neg (by omega), if_neg (by omega), if_neg (by omega)]
      have hdm : x = 128 * (x / 128) + x % 128 := (Nat.div_add_mod x 128).symm
      have he : x / 128 * 128 ^ (i + 1) + x % 128 * 128 ^ i = x * 128 ^ i := by
        rw [Nat.pow_succ]
        generalize 128 ^ i = k
        conv => rhs; rw [hdm]
        rw [Nat.add_mul, Nat.mul_comm k 128, ← Nat.mul_assoc, Nat.mul_comm 128]
      rw [vget_varF rest f (i + 1) (x / 128) _ (by omega) (fun _ => by omega) (by omega)]
      refine Prod.ext ?_ (Prod.ext ?_ rfl)
      · dsimp only
        rw [show (128 + x % 128) % 128 = x % 128 by omega]
        omega
      · dsimp only; omega
theorem vget_varB (x : Nat) (rest : List UInt8) (hx : x < 18446744073709551616) : vget 0 0 (varB x ++ rest) = (x, (varB x).length, 0) := by
  have := vget_varF rest 9 0 x 0 rfl (fun h => by omega) (by simpa using hx)
  unfold varB
  rw [this]; simp
theorem Rs.num_varB {B rest : List UInt8} {p x : Nat} (hx : x < 18446744073709551616) (h : B.drop p = varB x ++ rest) : (⟨p, 0, 0⟩ : Rs).num B = (⟨p + (varB x).length, 0, 0⟩, x) := by
  unfold Rs.num
  rw [if_pos rfl]
  dsimp only
  rw [h, vget_varB x rest hx]
  rfl
theorem drop_more {B D rest : List UInt8} {p : Nat} (h : B.drop p = D ++ rest) : B.drop (p + D.length) = rest := by
  rw [← List.drop_drop, h]; simp
theorem drop_room {B D rest : List UInt8} {p : Nat} (h : B.drop p = D ++ rest) (hp : p ≤ B.length) : p + D.length + rest.length = B.length := by
  have := congrArg List.length h
  simp at this
  omega
theorem Rs.int_pre {B rest : List UInt8} {p x : Nat} {m : Int} (hx : x < 18446744073709551616) (h : B.drop p = varB x ++ rest) (hm : (x : Int) ≤ m) : (⟨p, 0, 0⟩ : Rs).int B m = (⟨p + (varB x).length, 0, 0⟩, x) := by
  unfold Rs.int Rs.most
  rw [if_pos (by omega), Rs.num_varB hx h, if_neg (by dsimp only; omega)]
end Go.Proofs.YtkipiefcnjfdjaaGreat
namespace Go.Proofs.YtkipiefcnjfdjaaGreat
open Go.RowKit Go.Bs Go.Maps
set_option linter.unusedVariables false
set_option linter.unusedSimpArgs false

theorem Rs.falls_put {B rest : List UInt8} : ∀ (l : List Int) (below : Int) (p : Nat) (out : List Int), fallsB below l = true → (∀ x ∈ l, 0 ≤ x) → below ≤ 18446744073709551615 → B.drop p = numsB (stepsL below l) ++ rest → p ≤ B.length →
    Rs.falls B l.length ⟨p, 0, 0⟩ below out = (⟨p + (numsB (stepsL below l)).length, 0, 0⟩, out ++ l)
  | [], below, p, out, _, _, _, _, _ => by simp [Rs.falls, stepsL, numsB]
  | x :: l, below, p, out, hf, hx, hb, h, hp => by
    simp only [fallsB, Bool.and_eq_true, decide_eq_true_eq] at hf
    have h0 := hx x (by simp)
    simp only [stepsL] at h ⊢
    rw [numsB_cons, List.append_assoc] at h
    have hn : (below - x - 1).toNat < 18446744073709551616 := by omega
    have hN := Rs.num_varB hn h
    have hd := drop_more h
    have hr := drop_room h hp
    simp only [List.length_cons, Rs.falls]
    rw [hN]
    dsimp only
    rw [if_pos rfl, toNat_cast (by omega), if_neg (by omega), show below - (below - x - 1) - 1 = x by omega, Rs.falls_put l x _ _ hf.2 (fun y hy => hx y (by simp [hy])) (by omega) hd (by omega), numsB_cons, List.length_append]
    simp [Nat.add_assoc]
theorem Rs.delta_put {B rest : List UInt8} {l : List Int} {pos : Int} {p : Nat} {most : Int} (hf : fallsB pos l = true) (hx : ∀ x ∈ l, 0 ≤ x) (hb : pos ≤ 18446744073709551615) (h : B.drop p = deltaB pos l ++ rest) (hp : p ≤ B.length) (hm : (l.length : Int) ≤ most) (hl : l.length < 18446744073709551616) :
    (⟨p, 0, 0⟩ : Rs).delta B pos most = (⟨p + (deltaB pos l).length, 0, 0⟩, l) := by
  unfold deltaB at h ⊢
  rw [List.append_assoc] at h
  have hd := drop_more h
  have hr := drop_room h hp
  unfold Rs.delta
  rw [Rs.int_pre hl h hm]
  dsimp only
  rw [Rs.falls_put l pos _ _ hf hx hb hd (by omega)]
  simp [Nat.add_assoc]
theorem Rs.linksF_put {B rest : List UInt8} {pos : Int} (hpos : pos ≤ 18446744073709551615) : ∀ (l : List Link) (prev : Option Int) (p : Nat) (out : List Link), (∀ x ∈ l, linkR pos x = true ∧ (0 ≤ x.stream ∧ x.stream ≤ 18446744073709551615) ∧ ∀ y ∈ x.backs, 0 ≤ y) → (∀ q, prev = some q → 0 ≤ q ∧ risesB (q :: l.map Link.stream) = true) → risesB (l.map Link.stream) = true → B.drop p = lnkF pos prev l ++ rest → p ≤ B.length →
    Rs.linksF B pos l.length ⟨p, 0, 0⟩ prev out = (⟨p + (lnkF pos prev l).length, 0, 0⟩, out ++ l)
  | [], prev, p, out, _, _, _, _, _ => by simp [Rs.linksF, lnkF]
  | x :: l, prev, p, out, hx, hq, hri, h, hp => by
    obtain ⟨hr1, hs, hbk⟩ := hx x (by simp)
    simp only [linkR, Bool.and_eq_true, decide_eq_true_eq] at hr1
    have hnext : ∀ q, some x.stream = some q → 0 ≤ q ∧ risesB (q :: l.map Link.stream) = true := fun q e => by
      simp only [Option.some.injEq] at e
      subst e
      exact ⟨hs.1, hri⟩
    have hri2 : risesB (l.map Link.stream) = true := by
      simp only [List.map_cons] at hri
      cases hl : l.map Link.stream with
      | nil => rfl
      | cons y r => rw [hl] at hri; simp only [risesB, Bool.and_eq_true] at hri; exact hri.2
    have key : ∃ y : Int, 0 ≤ y ∧ y ≤ 18446744073709551615 ∧ lnkF pos prev (x :: l) = varB y.toNat ++ (deltaB pos x.backs ++ lnkF pos (some x.stream) l) ∧ (B.drop p = varB y.toNat ++ ((deltaB pos x.backs ++ lnkF pos (some x.stream) l) ++ rest) → (⟨p, 0, 0⟩ : Rs).stream B prev = (⟨p + (varB y.toNat).length, 0, 0⟩, x.stream)) := by
      cases prev with
      | none =>
        refine ⟨x.stream, hs.1, hs.2, by simp [lnkF], fun h => ?_⟩
        unfold Rs.stream
        dsimp only
        rw [Rs.num_varB (by omega) h]
        dsimp only
        rw [toNat_cast hs.1]
      | some q =>
        obtain ⟨h0, hq1⟩ := hq q rfl
        simp only [List.map_cons, risesB, Bool.and_eq_true, decide_eq_true_eq] at hq1
        refine ⟨x.stream - q - 1, by omega, by omega, by simp [lnkF], fun h => ?_⟩
        unfold Rs.stream
        dsimp only
        rw [Rs.num_varB (by omega) h]
        dsimp only
        rw [toNat_cast (by omega), if_neg (by omega)]
        refine Prod.ext rfl ?_
        dsimp only
        omega
    obtain ⟨y, hy0, hy1, he, hst⟩ := key
    rw [he] at h ⊢
    rw [List.append_assoc] at h
    have hS := hst h
    have hd := drop_more h
    have hr := drop_room h hp
    rw [List.append_assoc] at hd
    have hD := Rs.delta_put (most := 4) hr1.2 hbk hpos hd (by omega) (by omega) (by omega)
    have hd2 := drop_more hd
    have hr2 := drop_room hd (by omega)
    simp only [List.length_cons, Rs.linksF]
    rw [hS]
    dsimp only
    rw [hD]
    dsimp only
    rw [if_pos rfl, Rs.linksF_put hpos l (some x.stream) _ _ (fun z hz => hx z (by simp [hz])) hnext hri2 hd2 (by omega)]
    simp [Nat.add_assoc]
theorem Rs.links_put {B rest : List UInt8} {pos : Int} {l : List Link} {p : Nat} (hpos : pos ≤ 18446744073709551615) (hR : linksR pos l = true) (hx : ∀ x ∈ l, (0 ≤ x.stream ∧ x.stream ≤ 18446744073709551615) ∧ ∀ y ∈ x.backs, 0 ≤ y) (h : B.drop p = linksB pos l ++ rest) (hp : p ≤ B.length) :
    (⟨p, 0, 0⟩ : Rs).links B pos = (⟨p + (linksB pos l).length, 0, 0⟩, l) := by
  simp only [linksR, Bool.and_eq_true, decide_eq_true_eq, List.all_eq_true] at hR
  unfold linksB at h ⊢
  rw [List.append_assoc] at h
  have hd := drop_more h
  have hr := drop_room h hp
  unfold Rs.links
  rw [Rs.int_pre (by omega) h (by omega)]
  dsimp only
  rw [Rs.linksF_put hpos l none _ _ (fun x h => ⟨hR.2.2 x h, hx x h⟩) (fun q e => by cases e) hR.2.1 hd (by omega)]
  simp [Nat.add_assoc]
theorem Rs.ehead_put {B rest : List UInt8} {pos most : Int} {e : Entry} {p : Nat} (hpos : pos ≤ 18446744073709551615) (hR : entryR pos e = true) (hx : entryN e) (h : B.drop p = headB pos e ++ rest) (hp : p ≤ B.length) (hm : (e.data.length : Int) ≤ most) :
    (⟨p, 0, 0⟩ : Rs).ehead B pos most = (⟨p + (headB pos e).length, 0, 0⟩, e.links, e.data.length) := by
  simp only [entryR, Bool.and_eq_true, decide_eq_true_eq] at hR
  unfold headB at h ⊢
  rw [List.append_assoc] at h
  have hd := drop_more h
  have hr := drop_room h hp
  have hL := Rs.links_put hpos hR.1 hx h hp
  unfold Rs.ehead
  rw [hL]
  dsimp only
  rw [Rs.int_pre (by omega) hd hm]
  dsimp only
  rw [if_pos rfl]
  simp [Nat.add_assoc]
def headsOf (l : List Entry) : List (List Link × Nat) := l.map fun e => (e.links, e.data.length)
theorem Rs.heads_put {B rest : List UInt8} : ∀ (l : List Entry) (pos left : Int) (p : Nat) (out : List (List Link × Nat)), entriesR pos l = true → (∀ e ∈ l, entryN e) → pos + l.length ≤ 18446744073709551615 → (total l : Int) ≤ left → B.drop p = headsB pos l ++ rest → p ≤ B.length →
    Rs.heads B l.length ⟨p, 0, 0⟩ pos left out = (⟨p + (headsB pos l).length, 0, 0⟩, out ++ headsOf l)
  | [], pos, left, p, out, _, _, _, _, _, _ => by simp [Rs.heads, headsB, headsOf]
  | e :: l, pos, left, p, out, hR, hx, hpos, hlt, h, hp => by
    simp only [entriesR, Bool.and_eq_true] at hR
    simp only [List.length_cons] at hpos
    have ht : total (e :: l) = e.data.length + total l := by simp [total]
    rw [ht] at hlt
    simp only [headsB] at h ⊢
    rw [List.append_assoc] at h
    have hd := drop_more h
    have hr := drop_room h hp
    have hE := Rs.ehead_put (most := left) (by omega) hR.1 (hx e (by simp)) h hp (by omega)
    simp only [List.length_cons, Rs.heads]
    rw [hE]
    dsimp only
    rw [if_pos rfl, Rs.heads_put l (pos + 1) _ _ _ hR.2 (fun z hz => hx z (by simp [hz])) (by omega) (by omega) hd (by omega)]
    simp [headsOf, Nat.add_assoc]
theorem sizesN_of (l : List Entry) : sizesN (headsOf l) = total l := by
  simp [sizesN, headsOf, total, List.map_map, Function.comp_def]
theorem dealE_of : ∀ (l : List Entry), dealE (headsOf l) (joined l) = l
  | [] => rfl
  | e :: l => by
    have := dealE_of l
    simp only [headsOf, List.map_cons, dealE, joined, List.flatMap_cons] at this ⊢
    rw [List.take_left, List.drop_left, this]
/-- What is put is read, either way. -/
theorem Rs.batch_put {B rest : List UInt8} {b : Batch} {p : Nat} {blk : Rs → Rs × List UInt8 × Bool} (hR : batchR b = true) (hN : batchN b) (h : B.drop p = batchB b ++ rest) (hp : p ≤ B.length)
    (hblk : ∀ q, q ≤ B.length → B.drop q = blockB (joined b.entries) ++ rest → blk ⟨q, 0, 0⟩ = (⟨q + (blockB (joined b.entries)).length, 0, 0⟩, joined b.entries, true)) :
    Rs.batch B blk ⟨p, 0, 0⟩ = (⟨p + (batchB b).length, 0, 0⟩, b, true) := by
  obtain ⟨⟨e0, e1⟩, ⟨b0, b1⟩, hen⟩ := hN
  simp only [batchR, Bool.and_eq_true, decide_eq_true_eq] at hR
  obtain ⟨hep, hfit, htot, hent⟩ := hR
  have hfit' := hfit
  simp only [fitsR, decide_eq_true_eq] at hfit'
  unfold batchB aheadB at h
  simp only [List.append_assoc] at h
  have hd1 := drop_more h
  have hr1 := drop_room h hp
  have hd2 := drop_more hd1
  have hr2 := drop_room hd1 (by omega)
  have hd3 := drop_more hd2
  have hr3 := drop_room hd2 (by omega)
  have hd4 := drop_more hd3
  have hr4 := drop_room hd3 (by omega)
  have hE : (⟨p, 0, 0⟩ : Rs).ep B = (⟨p + (varB b.epoch.toNat).length, 0, 0⟩, b.epoch.toNat) := by
    unfold Rs.ep
    rw [Rs.num_varB (by omega) h]
    dsimp only
    rw [if_pos rfl, toNat_cast e0, if_pos hep]
  have hP : (⟨p + (varB b.epoch.toNat).length, 0, 0⟩ : Rs).po B = (⟨p + (varB b.epoch.toNat).length + (varB b.base.toNat).length, 0, 0⟩, b.base.toNat) := by
    unfold Rs.po
    rw [Rs.num_varB (by omega) hd1]
    dsimp only
    rw [if_pos rfl, toNat_cast b0, if_pos (by unfold poR; exact decide_eq_true (by omega))]
  have hI := Rs.int_pre (m := 16) (by omega) hd2 (by omega)
  have hF : (⟨p, 0, 0⟩ : Rs).bfront B = (⟨p + (varB b.epoch.toNat).length + (varB b.base.toNat).length + (varB b.entries.length).length, 0, 0⟩, b.epoch.toNat, b.base.toNat, b.entries.length) := by
    unfold Rs.bfront
    rw [hE]
    dsimp only
    rw [hP]
    dsimp only
    rw [hI]
    dsimp only
    rw [toNat_cast b0, if_pos hfit]
  have hH := Rs.heads_put b.entries b.base 1048576 _ [] hent hen (by omega) (by omega) hd3 (by omega)
  have hBk := hblk _ (by omega) hd4
  have hsz : sizesN (headsOf b.entries) = (joined b.entries).length := by rw [sizesN_of, joined_length]
  generalize hq : p + (varB b.epoch.toNat).length + (varB b.base.toNat).length + (varB b.entries.length).length + (headsB b.base b.entries).length = q at *
  have hBB : Rs.bblock blk (⟨q, 0, 0⟩, headsOf b.entries) = (⟨q + (blockB (joined b.entries)).length, 0, 0⟩, b.entries, true) := by
    unfold Rs.bblock
    dsimp only
    rw [hBk]
    dsimp only
    rw [if_pos hsz, dealE_of]
  unfold Rs.batch
  dsimp only
  rw [hF]
  dsimp only
  rw [if_pos rfl, toNat_cast b0, toNat_cast e0, hH, List.nil_append, hBB]
  dsimp only
  rw [if_pos rfl, ← hq]
  simp only [batchB, aheadB, List.length_append, Nat.add_assoc]
end Go.Proofs.YtkipiefcnjfdjaaGreat
namespace Go.Proofs.YtkipiefcnjfdjaaGreat
open Go.RowKit Go.Bs Go.Maps
set_option linter.unusedVariables false
set_option linter.unusedSimpArgs false

section
variable {w W : World} {ep : Int} {a : Option Addr} {n c : Nat} {J : List UInt8} {M : List MarkD} {aJ : Option Addr} {cJ : Nat} {aM : Option Addr} {cM : Nat}
/-- The marks grow by one. -/
theorem SegI.mark (h : SegI w W ep a n c J M aJ cJ aM cM) {W2 : World} {m : MarkD} (hm : MarkN m) {aM' : Option Addr} {cM' : Nat}
    (hown : W2.ownsRow (w.heap.size + 3) 160 3 (.slice aM' (M.length + 1) cM') (M.length + 1) ((M.map markC).flatten ++ markC m)) (hg : W.grownBy W2 (Value.slice aM M.length cM).ownBlock) :
    SegI w (W2.setCell ⟨w.heap.size + 2, 1, none⟩ (.slice aM' (M.length + 1) cM')) ep a n c J (M ++ [m]) aJ cJ aM' cM' := by
  have hl : (M ++ [m]).length = M.length + 1 := by simp
  have hb2 : Below w.heap.size w W2 := h.below.grown hg h.below.size (fun g e => by have := (own_lt h.m.own g e).1; omega)
  have f2 : (Value.slice aM' (M.length + 1) cM').ownBlock ≠ some (w.heap.size + 2) := SegI.far hown (by omega)
  refine ⟨hb2.setCell (by dsimp only; omega) _, ?_, ?_, ?_, ?_, ?_, ?_⟩
  · exact (h.bx.grown hg (fun e => SegI.far h.m.own (by omega) e.symm)).far (by dsimp only; omega) _
  · exact (h.br.grown hg (fun e => SegI.far h.m.own (by omega) e.symm)).far (by dsimp only; omega) _
  · rw [hl]
    exact (h.x.grown hg (fun e => SegI.far h.m.own (by omega) e.symm)).set 1 _
  · refine own_stays (own_stays h.j fun b hv hl => hg.block b hl (fun e => h.ne b hv e.symm)) fun b hv hl => Below.heap_setCell _ _ _ _ (fun e => ?_)
    have := (own_lt h.j b hv).1
    dsimp only at e
    omega
  · rw [hl, List.map_append, List.flatten_append]
    simp only [List.map_cons, List.map_nil, List.flatten_cons, List.flatten_nil, List.append_nil]
    exact own_stays hown fun b hv hl => Below.heap_setCell _ _ _ _ (fun e => f2 (by rw [hv, e]))
  · intro x hx
    rcases List.mem_append.1 hx with hx | hx
    · exact h.m.nat x hx
    · rw [List.mem_singleton] at hx; subst hx; exact hm
end
end Go.Proofs.YtkipiefcnjfdjaaGreat
namespace Go.Proofs.YtkipiefcnjfdjaaGreat
open Go.RowKit Go.Bs Go.Maps
set_option linter.unusedVariables false
set_option linter.unusedSimpArgs false

theorem SegI.mark1 {w W : World} {ep : Int} {a : Option Addr} {n c : Nat} {J : List UInt8} {M : List MarkD} {aJ : Option Addr} {cJ : Nat} {aM : Option Addr} {cM : Nat} (h : SegI w W ep a n c J M aJ cJ aM cM) {W2 : World} {m : MarkD} (hm : MarkN m) {aM' : Option Addr} {cM' : Nat}
    (hown : W2.ownsRow (w.heap.size + 3) 160 3 (.slice aM' (M.length + 1) cM') (M.length + 1) ((M.map markC).flatten ++ markC m)) (hg : W.grownBy W2 (Value.slice aM M.length cM).ownBlock) :
    SegI w (W2.setCell ⟨w.heap.size + 1 + 1, 1, none⟩ (.slice aM' (M.length + 1) cM')) ep a n c J (M ++ [m]) aJ cJ aM' cM' := SegI.mark h hm hown hg
theorem SegI.more1 {w W : World} {ep : Int} {a : Option Addr} {n c : Nat} {J : List UInt8} {M : List MarkD} {aJ : Option Addr} {cJ : Nat} {aM : Option Addr} {cM : Nat} (h : SegI w W ep a n c J M aJ cJ aM cM) {W2 : World} {D : List UInt8} {aJ' : Option Addr} {cJ' : Nat}
    (hown : W2.ownsRow (w.heap.size + 3) 5 1 (.slice aJ' (J.length + D.length) cJ') (J.length + D.length) (byteCells J ++ byteCells D)) (hg : W.grownBy W2 (Value.slice aJ J.length cJ).ownBlock) :
    SegI w (W2.setCell ⟨w.heap.size + 1 + 1, 0, none⟩ (.slice aJ' (J.length + D.length) cJ')) ep a n c (J ++ D) M aJ' cJ' aM cM := SegI.more h hown hg

set_option maxRecDepth 100000 in
set_option maxHeartbeats 6400000 in
theorem seg_write (ep : Int) (l : List Batch) (a : Option Addr) (n c : Nat) (w : World) (hl : rBatches.r (· < w.heap.size) w [.slice a n c] l) (hR : segR ⟨ep, l⟩ = true) (hbn : ∀ b ∈ l, batchN b) (htm : ∀ b ∈ l, TameE b.entries) :
    Calls Tryz.prog 113 #[.agg #[.int .u64 ep, .slice a n c]] w fun r w' => ∃ v u, r = .returned (.agg #[v, u, .int .u64 (segF ep l).ep, .int .i64 (segF ep l).n, .int .i64 (segF ep l).en, .int .u64 (segF ep l).first, .int .u64 (segF ep l).fin, .int .i64 (segF ep l).at_, .int .i64 (segF ep l).size]) ∧ rBytes.r (fun q => w.heap.size ≤ q ∧ q < w'.heap.size) w' [v] (segB ep l) ∧ rMarks.r (fun q => w.heap.size ≤ q ∧ q < w'.heap.size) w' [u] (segW ep l).2 ∧ Below w.heap.size w w' := by
  obtain ⟨rfl, hm, _, _⟩ := sl_len hl
  obtain ⟨i0, hi, hz0, hz1, hz2⟩ := info_parts info8
  obtain ⟨j0, hj, hy0, hy1, hy2⟩ := info_parts infoMark
  have hl16 : l.length ≤ 16 := (segR_facts hR).2.1
  have HBR := hid (segR_facts hR).2.2
  have HBN := hid hbn
  have HTM := hid htm
  have HL := hid hl
  have HRR := hid hR
  have he : epR ep = true := by simp only [segR, Bool.and_eq_true] at hR; exact hR.1
  have he' := he
  simp only [epR, decide_eq_true_eq] at he'
  have hte : (ep.toNat : Int) = ep := by omega
  have HH := hid (fun W : World => (by
    have := header_bytes W 3 ep.toNat 0 (by simp only [hdrR, hte, he, poR]; decide)
    rw [hte] at this
    exact this : Calls Tryz.prog 174 #[.agg #[.int .i64 3, .int .u64 ep, .int .u64 0]] W fun r w' => ∃ x, r = .returned (.tuple #[x, .int .i64 0]) ∧ OwnB w' W.heap.size x (headHB 3 ep.toNat 0) ∧ Below W.heap.size W w'))
  have hhl := headHB_len (v := 3) (ep := ep.toNat) (bs := 0) (by omega) (by omega)
  have HW0 : Hid (segW ep l = segGo (headHB 3 ep.toNat 0) [] l) := hid rfl
  generalize headHB 3 ep.toNat 0 = H at *
  clear hR hbn htm hl he hte
  go_enter Tryz.func113, Tryz.ntmps113
  go_wp2_with fail
  refine (HH.out _).mono ?_
  rintro r w1 ⟨v1, rfl, ho1, hb1⟩
  obtain ⟨a1, c1, rfl⟩ := ho1.form
  obtain ⟨p0, p1, p2, hb0, hz3⟩ := three_blocks w _ _ _ _ _ _ hb1
  have ho1' : OwnB w1 (w.heap.size + 3) (.slice a1 H.length c1) H := ho1.low (by simp)
  have k0 : w1.cell? ⟨w.heap.size + 1 + 1, 0, none⟩ = some (.slice none 0 0) := p2.cell 0
  have k1 : w1.frozen? ⟨w.heap.size + 1 + 1, 0, none⟩ = false := p2.free 0
  have hSI : SegI w (w1.setCell ⟨w.heap.size + 2, 0, none⟩ (.slice a1 H.length c1)) ep a l.length c H [] a1 c1 none 0 := by
    have h2 : (Value.slice a1 H.length c1).ownBlock ≠ some (w.heap.size + 2) := SegI.far ho1' (by omega)
    exact ⟨hb0.setCell (by dsimp only; omega) _, p0.far (by dsimp only; omega) _, p1.far (by dsimp only; omega) _, p2.set 0 _, own_stays ho1' fun b hv hl => Below.heap_setCell _ _ _ _ (fun e => h2 (by rw [hv, e])), MarksAt.nil⟩
  have HSI := hid hSI
  have hz21 : w.heap.size + 2 < w1.heap.size := p2.lt
  have HBX := hid p0
  clear ho1 ho1' p0 p1 p2 hSI hb1 hb0
  have b1 : w1.cell? ⟨w.heap.size, 1, none⟩ = some (.slice a l.length c) := HBX.out.cell 1
  go_wp2_with fail
  refine wp_world (fun W => SegI w W ep a l.length c H [] a1 c1 none 0) HSI.out ?_
  intro W hSI
  have HSI := hid hSI
  clear k0 k1 b1 hSI
  go_loopw [24] (fun i wr => ∃ (k : Nat) (J : List UInt8) (M : List MarkD) (aJ : Option Addr) (cJ : Nat) (aM : Option Addr) (cM : Nat), k ≤ l.length ∧ i = .int .i64 k ∧ SegI w wr ep a l.length c J M aJ cJ aM cM ∧ Hid (segW ep l = segGo J M (l.drop k)) ∧ M.length ≤ k ∧ J.length ≤ 27 + 1200000 * k) (fun i _ => l.length - (intOf i).toNat)
  case atStart => exact ⟨0, H, [], a1, c1, none, 0, Nat.zero_le _, rfl, HSI.out, hid HW0.out, Nat.le_refl _, by omega⟩
  case round =>
    obtain ⟨k, J, M, aJ, cJ, aM, cM, hk, rfl, hsi, hgo, hMk, hJk⟩ := hrel
    have HSI := hid hsi
    have hzx := hsi.x.lt
    have hzr := hsi.bx.lt
    by_cases hlt : k < l.length
    · obtain ⟨b, o, hA, hbb, a1, c1, x0, x1, x2, n0, n1, hd⟩ := batch_at (lift HL.out hsi.below) hlt
      subst hA
      have hmem := List.getElem_mem hlt
      have hbr := HBR.out _ hmem
      have hbn := HBN.out _ hmem
      have htm := HTM.out _ hmem
      have hst := hid (segGo_step J M l k hlt)
      obtain ⟨_, _, e1, e2, e3, _⟩ := batchR_facts hbr
      have hble := batchB_le hbr
      have HRD := hid hd
      generalize l[k] = z at *
      have HBB := hid (fun (W : World) (hW : Below wr.heap.size wr W) => (by have := batch_bytes W z a1 _ c1 hbn (lift HRD.out hW) htm; unfold batchBytes at this; rw [if_pos hbr] at this; exact this : Calls Tryz.prog 17 #[.agg #[.int .u64 z.epoch, .int .u64 z.base, .slice a1 z.entries.length c1]] W fun r w' => ∃ v, r = .returned (.tuple #[v, .int .i64 0]) ∧ rBytes.r (fun q => W.heap.size ≤ q ∧ q < w'.heap.size) w' [v] (batchB z) ∧ Below W.heap.size W w'))
      have HRC1 := hid (fun (W : World) (a : Option Addr) (n c : Nat) h => seg_record 1 (by decide) (batchB z) a n c W h (by omega))
      have hrl := recB_len 1 (batchB z)
      have hMN : MarkN ⟨z.base, z.entries.length, J.length⟩ := ⟨n1, by dsimp only; omega, by dsimp only; omega⟩
      have HON := hid (byteCells_one (recB 1 (batchB z)))
      have i1 : (k : Int) < (l.length : Int) := by omega
      generalize hre : recB 1 (batchB z) = RB at *
      have HRE := hid hre
      generalize batchB z = BZ at *
      have HMN := hid hMN
      clear hd hmem hbr hbn htm hsi hre hMN
      go_wp2_with fail
      refine (HBB.out _ (by (repeat (first | with_reducible exact Below.refl _ _ | with_reducible assumption | (with_reducible refine below_alloc ?_ _) | (with_reducible refine Below.setCell ?_ (by first | omega | (simp; done) | (simp; omega)) _) | (with_reducible refine Below.drew ?_) | (with_reducible refine below_drewN ?_ _) | (refine below_then (by with_reducible assumption) ?_))))).mono ?_
      rintro r w1 ⟨v1, rfl, hr1, hb1⟩
      obtain ⟨a6, c6, hv6, hr6, _⟩ := sl_form hr1
      simp only [List.cons.injEq, and_true] at hv6
      subst hv6
      have hbx := (Blk.new wr 25 #[.int .u64 z.epoch, .int .u64 z.base, .slice a1 z.entries.length c1]).later hb1
      have hb1' : Below wr.heap.size wr w1 := below_then hb1 (by (repeat (first | with_reducible exact Below.refl _ _ | with_reducible assumption | (with_reducible refine below_alloc ?_ _) | (with_reducible refine Below.setCell ?_ (by first | omega | (simp; done) | (simp; omega)) _) | (with_reducible refine Below.drew ?_) | (with_reducible refine below_drewN ?_ _) | (refine below_then (by with_reducible assumption) ?_))))
      have HSI1 := hid (HSI.out.later hb1')
      have HR6 := hid (rBytes.mono (S' := fun q => wr.heap.size < q ∧ q < w1.heap.size) hr6 fun q hq => ⟨by have := hq.1; simp at this; omega, hq.2⟩)
      have HML : Hid (∀ q, (Value.slice aM M.length cM).ownBlock = some q → w.heap.size + 3 ≤ q ∧ q < wr.heap.size) := hid fun q e => own_lt HSI.out.m.own q e
      have y1 : w1.cell? ⟨wr.heap.size, 1, none⟩ = some (.int .u64 z.base) := hbx.cell 1
      have y2 : w1.cell? ⟨wr.heap.size, 2, none⟩ = some (.slice a1 z.entries.length c1) := hbx.cell 2
      have p1 : w1.cell? ⟨w.heap.size + 1 + 1, 1, none⟩ = some (.slice aM M.length cM) := HSI1.out.x.cell 1
      have p0 : w1.cell? ⟨w.heap.size + 1 + 1, 0, none⟩ = some (.slice aJ J.length cJ) := HSI1.out.x.cell 0
      have hzwr : wr.heap.size < w1.heap.size := hbx.lt
      have hx1 : w.heap.size + 1 + 1 < w1.heap.size := HSI1.out.x.lt
      have HB1 := hid hb1'
      clear hr1 hr6 hb1 hb1' hbx x0 x1 x2
      go_wp2_with (at_builtin; (have hb12 : Below w1.heap.size w1 (w1.alloc (.cells #[.int .u64 z.base, .int .i64 z.entries.length, .int .i64 J.length] 160)) := below_alloc (Below.refl _ _) _; have HSI2 := hid (HSI1.out.later hb12); refine wpList_append_src rfl _ _ _ rfl (w.heap.size + 3) 160 j0 (.agg #[.int .u64 0, .int .i64 0, .int .i64 0]) 3 24 Tryz.underlying87 hj hy0 hy1 hy2 rfl (by decide) (.slice aM M.length cM) M.length _ rfl HSI2.out.m.own (some ⟨w1.heap.size, 0, none⟩) 1 1 [.int .u64 z.base, .int .i64 z.entries.length, .int .i64 J.length] rfl (src_new1 w1 160 _ rfl rfl rfl) (by intro u hu; simp at hu; rcases hu with rfl | rfl | rfl <;> rfl) (by simp only [maxLen]; omega) (by omega) (by have := HSI2.out.x.lt; omega) ?_; intro v2 w2 hown2 hgrow2 hat2; obtain ⟨a2, c2, rfl⟩ := own_form hown2; have HSI3 := hid (HSI2.out.mark1 HMN.out hown2 hgrow2); have hXg := HSI2.out.x.grown hgrow2 (fun e => SegI.far HSI2.out.m.own (by omega) e.symm); have q1 : w2.cell? ⟨w.heap.size + 1 + 1, 1, none⟩ = some (.slice aM M.length cM) := hXg.cell 1; have q2 : w2.frozen? ⟨w.heap.size + 1 + 1, 1, none⟩ = false := hXg.free 1; have q0 : w2.cell? ⟨w.heap.size + 1 + 1, 0, none⟩ = some (.slice aJ J.length cJ) := hXg.cell 0; have HR7 := hid (rBytes.mono (S' := fun q => wr.heap.size < q ∧ q < w2.heap.size) (rBytes.keep HR6.out fun q hq => (hgrow2.block q (by have := hb12.size; omega) (fun e => by have := (HML.out q e.symm).2; omega)).trans (hb12.block q hq.2)) fun q hq => by have := hgrow2.size; have := hb12.size; omega); clear hown2 hgrow2 hat2 hXg hb12))
      have HR8 : Hid (rBytes.r (fun q => wr.heap.size < q ∧ q < (w2.setCell ⟨w.heap.size + 1 + 1, 1, none⟩ (.slice a2 (M.length + 1) c2)).heap.size) (w2.setCell ⟨w.heap.size + 1 + 1, 1, none⟩ (.slice a2 (M.length + 1) c2)) [.slice a6 BZ.length c6] BZ) := hid (rBytes.mono (rBytes.keep HR7.out fun q hq => Below.heap_setCell _ _ _ _ (by have := hq.1; first | omega | (dsimp only; omega))) fun q hq => by simpa using hq)
      have hq8 : (w2.setCell ⟨w.heap.size + 1 + 1, 1, none⟩ (.slice a2 (M.length + 1) c2)).cell? ⟨w.heap.size + 1 + 1, 0, none⟩ = some (.slice aJ J.length cJ) := HSI3.out.x.cell 0
      clear q0 q1 q2 p0 p1 y1 y2
      generalize (w2.setCell ⟨w.heap.size + 1 + 1, 1, none⟩ (.slice a2 (M.length + 1) c2)) = W8 at *
      refine wp_region_last_held (fun w' => w'.cell? ⟨w.heap.size + 1 + 1, 0, none⟩ = some (.slice aJ J.length cJ)) _ (by kernel_rfl) rfl (by kernel_rfl) hq8 (fun hHeld => ?_)
      simp only [noopLast, noopOf]
      refine wpAnyH_take (i := 0) (oi := _) (v := ?_) rfl (by decide +kernel) (by decide +kernel) (by decide +kernel) (fun _ _ _ h => h) (Or.inl ⟨by rfl, ?_⟩) (by assumption) ?_
      rotate_left
      · (intro w hSw; (try dsimp only at hSw); go_simp <;> with_reducible rfl)
      (try simp only [Act.put, List.setIfInBounds_toArray, List.set_cons_zero, List.set_cons_succ])
      refine wpAnyH_take (i := 1) (oi := _) (v := ?_) rfl (by decide +kernel) (by decide +kernel) (by decide +kernel) (fun _ _ _ h => h) (Or.inl ⟨by rfl, ?_⟩) (by assumption) ?_
      rotate_left
      · (intro w hSw; (try dsimp only at hSw); go_simp <;> with_reducible rfl)
      (try simp only [Act.put, List.setIfInBounds_toArray, List.set_cons_zero, List.set_cons_succ])
      refine wpAnyH_take (i := 2) (oi := _) (v := ?_) rfl (by decide +kernel) (by decide +kernel) (by decide +kernel) (fun _ _ _ h => h) (Or.inl ⟨by rfl, ?_⟩) (by assumption) ?_
      rotate_left
      · (intro w hSw; (try dsimp only at hSw); go_simp <;> with_reducible rfl)
      (try simp only [Act.put, List.setIfInBounds_toArray, List.set_cons_zero, List.set_cons_succ])
      refine wpAnyH_ready (rs := [3]) (by decide +kernel) (by simp) ?_
      refine AllReadyH.cons (o := _) rfl (fun K hK => ?_) AllReadyH.nil
      (go_simp; go_at_call 175; refine (HRC1.out W8.drew a6 _ c6 (rBytes.mono (S' := (· < W8.drew.heap.size)) HR8.out fun q hq => hq.2)).mono ?_; rintro e1 w3 ⟨v3, rfl, ho3, hb3⟩; have ho3' : OwnB w3 W8.drew.heap.size v3 RB := ho3; obtain ⟨a7, c7, rfl⟩ := ho3'.form; have hb83 : Below W8.heap.size W8 w3 := below_then hb3 (Below.refl _ _).drew; have HSI4 := hid (HSI3.out.later hb83); have HS7 := hid (src_bytes (own_bytes rfl ho3')); have k0 : w3.cell? ⟨w.heap.size + 1 + 1, 0, none⟩ = some (.slice aJ J.length cJ) := HSI4.out.x.cell 0; clear ho3 ho3' hb3 hb83; (try dsimp only))
      refine hK.out _ _ ?_ (fun hHeld => ?_)
      · ((try dsimp only); first | assumption | (go_keep; done))
      clear hK K
      (try simp only [Act.put, List.setIfInBounds_toArray, List.set_cons_zero, List.set_cons_succ])
      refine wpAnyH_ready (rs := [4]) (by decide +kernel) (by simp) ?_
      refine AllReadyH.cons (o := _) rfl (fun K hK => ?_) AllReadyH.nil
      (refine step_append_src (by rfl) _ _ _ (by rfl) (w.heap.size + 3) 5 i0 (.int .u8 0) 1 1 Tryz.underlying28 hi hz0 hz1 hz2 rfl (by decide) (.slice aJ J.length cJ) J.length (byteCells J) (by rfl) HSI4.out.j a7 RB.length c7 (byteCells RB) (by rfl) HS7.out HON.out (by simp only [maxLen]; omega) (by omega) (by have := HSI4.out.x.lt; omega) ?_; intro a8 c8 w8 hown8 hgrow8 hat8; have HSI5 := hid (HSI4.out.more1 hown8 hgrow8); have hXg := HSI4.out.x.grown hgrow8 (fun e => SegI.far HSI4.out.j (by omega) e.symm); have m0 : w8.cell? ⟨w.heap.size + 1 + 1, 0, none⟩ = some (.slice aJ J.length cJ) := hXg.cell 0; have m1 : w8.frozen? ⟨w.heap.size + 1 + 1, 0, none⟩ = false := hXg.free 0; clear hown8 hgrow8 hat8 hXg)
      refine hK.out _ _ ?_ (fun hHeld => ?_)
      · ((try dsimp only); first | assumption | (go_keep; done))
      clear hK K
      (try simp only [Act.put, List.setIfInBounds_toArray, List.set_cons_zero, List.set_cons_succ])
      refine wpAnyH_take (i := 5) (oi := _) (v := ?_) rfl (by decide +kernel) (by decide +kernel) (by decide +kernel) (fun _ _ _ h => h) (Or.inl ⟨by rfl, ?_⟩) (by assumption) ?_
      rotate_left
      · (intro w hSw; (try dsimp only at hSw); go_simp <;> with_reducible rfl)
      (try simp only [Act.put, List.setIfInBounds_toArray, List.set_cons_zero, List.set_cons_succ])
      refine wpAnyH_take (i := 6) (oi := _) (v := ?_) rfl (by decide +kernel) (by decide +kernel) (by decide +kernel) (fun _ _ _ h => h) (Or.inl ⟨by rfl, ?_⟩) (by assumption) ?_
      rotate_left
      · (intro w hSw; (try dsimp only at hSw); go_simp <;> with_reducible rfl)
      (try simp only [Act.put, List.setIfInBounds_toArray, List.set_cons_zero, List.set_cons_succ])
      refine wpAnyH_done (by kernel_rfl) ?_ _
      show wpList _ _ _ _ _ _
      go_wp2_with fail
      go_roundw
      case rel => exact ⟨k + 1, J ++ RB, M ++ [⟨z.base, z.entries.length, J.length⟩], a8, c8, a2, c2, by omega, by go_num, HSI5.out, hid (hgo.out.trans hst.out), by rw [List.length_append]; simp; omega, by rw [List.length_append]; omega⟩
      case measure => simp [intOf]; omega
    · obtain rfl : k = l.length := by omega
      have hJM : segW ep l = (J, M) := by have := hgo.out; rw [List.drop_length] at this; exact this
      obtain ⟨hMR, hJ5, hJ20, hMN⟩ := segW_right HRR.out HBN.out
      have hFR := segF_right HRR.out HBN.out
      have hX : segX ep l = recB 2 (indexB M) := by unfold segX; rw [hJM]
      have hF : segF ep l = footM ep M J.length (recB 2 (indexB M)).length := by unfold segF; rw [hJM, hX]
      have hB : segB ep l = J ++ recB 2 (indexB M) ++ footB (segF ep l) := by unfold segB; rw [hJM, hX]
      rw [hJM] at hMR hJ20 ⊢
      dsimp only at hMR hJ20 ⊢
      have HFB := hid (fun W : World => footer_bytes (segF ep l) hFR W)
      have HI := hid (fun (W : World) h => index_bytes W M aM M.length cM h hMR)
      have hil := indexB_len hMR
      have HRC := hid (fun (W : World) (a : Option Addr) (n c : Nat) h => seg_record 2 (by decide) (indexB M) a n c W h (by omega))
      have hxl := recB_len 2 (indexB M)
      have HFO := hid (fun (W : World) h => seg_footOf ep M J.length (recB 2 (indexB M)).length aM M.length cM W h hMR)
      rw [← hF] at HFO
      have hse := hid hB
      have hfl : (footB (segF ep l)).length ≤ 200 := by
        simp only [footB, List.length_append, trailB_len, frameB_len, blobB_len]
        have h1 := footP_len (segF ep l)
        have h2 := (varB_len (footP (segF ep l)).length).1
        omega
      have HON1 := hid (byteCells_one (recB 2 (indexB M)))
      have HON2 := hid (byteCells_one (footB (segF ep l)))
      generalize hKE : segB ep l = K at *
      have HKE := hid hKE
      generalize footB (segF ep l) = FB at *
      generalize hFE : (segF ep l) = F at *
      obtain ⟨f0, f1, f2, f3, f4, f5, f6⟩ := F
      have HFE := hid hFE
      clear hKE hFE
      simp only [FootD.val] at HFB HFO
      generalize indexB M = IB at *
      generalize hrx : recB 2 IB = RX at *
      have HJM := hid hJM
      clear hFR hX hF hB hrx hJM hMN hgo hMk hsi
      have y1 : wr.cell? ⟨w.heap.size + 1 + 1, 1, none⟩ = some (.slice aM M.length cM) := HSI.out.x.cell 1
      go_wp2_with fail
      refine (HI.out _ (rMarks.mono HSI.out.m.read fun q hq => hq.2)).mono ?_
      rintro r w2 ⟨v2, rfl, hr2, hb2⟩
      obtain ⟨a2, c2, hv2, hr2', _⟩ := sl_form hr2
      simp only [List.cons.injEq, and_true] at hv2
      subst hv2
      have HSI2 := hid (HSI.out.later hb2)
      go_wp2_with fail
      refine (HRC.out w2 a2 _ c2 (rBytes.mono hr2' fun q hq => hq.2)).mono ?_
      rintro r w3 ⟨v3, rfl, ho3, hb3⟩
      obtain ⟨a3, c3, rfl⟩ := ho3.form
      have HSI3 := hid (HSI2.out.later hb3)
      have HO3 := hid ho3
      have x3 : w3.cell? ⟨w.heap.size, 0, none⟩ = some (.int .u64 ep) := HSI3.out.bx.cell 0
      have y3 : w3.cell? ⟨w.heap.size + 1 + 1, 1, none⟩ = some (.slice aM M.length cM) := HSI3.out.x.cell 1
      have z3 : w3.cell? ⟨w.heap.size + 1 + 1, 0, none⟩ = some (.slice aJ J.length cJ) := HSI3.out.x.cell 0
      clear ho3 hr2 hr2' y1
      go_wp2_with fail
      refine (HFO.out w3 (rMarks.mono HSI3.out.m.read fun q hq => hq.2)).mono ?_
      rintro r w4 ⟨rfl, hb4⟩
      have HSI4 := hid (HSI3.out.later hb4)
      have HO4 := hid (own_below HO3.out hb4)
      have m0 : w4.cell? ⟨w.heap.size + 1 + 1, 2, none⟩ = some (.int .u64 0) := HSI4.out.x.cell 2
      have n0 : w4.frozen? ⟨w.heap.size + 1 + 1, 2, none⟩ = false := HSI4.out.x.free 2
      have m1 : w4.cell? ⟨w.heap.size + 1 + 1, 3, none⟩ = some (.int .i64 0) := HSI4.out.x.cell 3
      have n1 : w4.frozen? ⟨w.heap.size + 1 + 1, 3, none⟩ = false := HSI4.out.x.free 3
      have m2 : w4.cell? ⟨w.heap.size + 1 + 1, 4, none⟩ = some (.int .i64 0) := HSI4.out.x.cell 4
      have n2 : w4.frozen? ⟨w.heap.size + 1 + 1, 4, none⟩ = false := HSI4.out.x.free 4
      have m3 : w4.cell? ⟨w.heap.size + 1 + 1, 5, none⟩ = some (.int .u64 0) := HSI4.out.x.cell 5
      have n3 : w4.frozen? ⟨w.heap.size + 1 + 1, 5, none⟩ = false := HSI4.out.x.free 5
      have m4 : w4.cell? ⟨w.heap.size + 1 + 1, 6, none⟩ = some (.int .u64 0) := HSI4.out.x.cell 6
      have n4 : w4.frozen? ⟨w.heap.size + 1 + 1, 6, none⟩ = false := HSI4.out.x.free 6
      have m5 : w4.cell? ⟨w.heap.size + 1 + 1, 7, none⟩ = some (.int .i64 0) := HSI4.out.x.cell 7
      have n5 : w4.frozen? ⟨w.heap.size + 1 + 1, 7, none⟩ = false := HSI4.out.x.free 7
      have m6 : w4.cell? ⟨w.heap.size + 1 + 1, 8, none⟩ = some (.int .i64 0) := HSI4.out.x.cell 8
      have n6 : w4.frozen? ⟨w.heap.size + 1 + 1, 8, none⟩ = false := HSI4.out.x.free 8
      have hz4 : w.heap.size + 1 + 1 < w4.heap.size := HSI4.out.x.lt
      clear x3 y3 z3
      go_wp2_with fail
      refine (HFB.out _).mono ?_
      rintro r w5 ⟨v5, rfl, ho5, hb5⟩
      obtain ⟨a5, c5, rfl⟩ := ho5.form
      have hx4 : Blk w4 (w.heap.size + 1 + 1) 153 (.slice aJ J.length cJ :: .slice aM M.length cM :: segZ).toArray := HSI4.out.x
      have hX := ((((((((hx4).set 2 (.int .u64 f0)).set 3 (.int .i64 f1)).set 4 (.int .i64 f2)).set 5 (.int .u64 f3)).set 6 (.int .u64 f4)).set 7 (.int .i64 f5)).set 8 (.int .i64 f6)).later hb5
      have hQ : Tch (· = w.heap.size + 1 + 1) w4 w5 := (tch7 w4 (w.heap.size + 1 + 1) _ _ _ _ _ _ _).trans (Tch.of_later (F := (· = w.heap.size + 1 + 1)) hb5) fun _ _ h => h
      simp only [segZ, List.setIfInBounds_toArray, List.set_cons_zero, List.set_cons_succ] at hX
      have hj5 : w5.ownsRow (w.heap.size + 3) 5 1 (.slice aJ J.length cJ) J.length (byteCells J) := own_stays HSI4.out.j fun b hv hl => hQ.block b hl (by have := (own_lt HSI4.out.j b hv).1; omega)
      have hs2 : w.heap.size + 3 ≤ w2.heap.size := by have := HSI2.out.br.lt; have := HSI2.out.x.lt; omega
      have ho5r : w5.ownsRow w2.heap.size 5 1 (.slice a3 RX.length c3) RX.length (byteCells RX) := own_stays HO4.out fun b hv hl => hQ.block b hl (by have := (own_lt HO4.out b hv).1; omega)
      have HS5 := hid (src_bytes (own_bytes rfl ho5r))
      have hr5 : Blk w5 (w.heap.size + 1) 153 (.slice none 0 0 :: .slice none 0 0 :: segZ).toArray := HSI4.out.br.tch hQ (by omega)
      have hb05 : Below w.heap.size w w5 := HSI4.out.below.trans (hQ.to_below HSI4.out.below.size fun b _ e => by omega)
      have hfb : rBytes.r (fun q => w4.heap.size ≤ q ∧ q < w5.heap.size) w5 [.slice a5 FB.length c5] FB := rBytes.mono ho5.read fun q hq => ⟨by have := hq.1; simpa using this, hq.2⟩
      have hz45 := hQ.size
      have HJ5 := hid hj5
      have HQ := hid hQ
      have HJ4 := hid HSI4.out.j
      have HX5 := hid hX
      have HR5 := hid hr5
      have HFBR := hid hfb
      have HB05 := hid hb05
      have hz15 := hb05.size
      have hz05 : w.heap.size + 3 ≤ w5.heap.size := by have := hX.lt; omega
      clear hj5 ho5r hX hr5 hfb hQ hx4 ho5 hb5 hb05
      clear m0 n0 m1 n1 m2 n2 m3 n3 m4 n4 m5 n5 m6 n6
      have x0 : w5.cell? ⟨w.heap.size + 1 + 1, 0, none⟩ = some (.slice aJ J.length cJ) := HX5.out.cell 0
      go_wp2_with (first | (at_builtin; (refine wpList_append_src rfl _ _ _ rfl (w.heap.size + 3) 5 i0 (.int .u8 0) 1 1 Tryz.underlying28 hi hz0 hz1 hz2 rfl (by decide) (.slice aJ J.length cJ) J.length (byteCells J) rfl HJ5.out a3 RX.length c3 (byteCells RX) rfl HS5.out HON1.out (by simp only [maxLen]; omega) (by omega) (by omega) ?_; intro v6 w6 hown6 hgrow6 hat6; obtain ⟨a6, c6, rfl⟩ := own_form hown6; have HG6 := hid hgrow6; have HO6 := hid hown6; have HS6 := hid (src_bytes (rBytes.mono (S' := (· < w6.heap.size)) (rBytes.keep HFBR.out fun q hq => hgrow6.block q hq.2 (fun e => by have h9 := (own_lt HJ4.out q e.symm).2; have h8 := hq.1; omega)) fun q hq => Nat.lt_of_lt_of_le hq.2 hgrow6.size)); have hz6 := hgrow6.size; have HA6 := hid hat6; clear hgrow6 hown6 hat6)) | (at_builtin; (refine wpList_append_src rfl _ _ _ rfl (w.heap.size + 3) 5 i0 (.int .u8 0) 1 1 Tryz.underlying28 hi hz0 hz1 hz2 rfl (by decide) (.slice a6 (J.length + RX.length) c6) (J.length + RX.length) (byteCells J ++ byteCells RX) rfl HO6.out a5 FB.length c5 (byteCells FB) rfl HS6.out HON2.out (by simp only [maxLen]; omega) (by omega) (by omega) ?_; intro v7 w7 hown7 hgrow7 hat7; obtain ⟨a7, c7, rfl⟩ := own_form hown7; have HX7 := hid ((HX5.out.grown HG6.out (fun e => SegI.far HJ5.out (by omega) e.symm)).grown hgrow7 (fun e => SegI.far HO6.out (by omega) e.symm)); have HR7 := hid ((HR5.out.grown HG6.out (fun e => SegI.far HJ5.out (by omega) e.symm)).grown hgrow7 (fun e => SegI.far HO6.out (by omega) e.symm)); have HB7 := hid ((HB05.out.grown HG6.out hz15 (fun g e => by have := (own_lt HJ5.out g e).1; omega)).grown hgrow7 (by omega) (fun g e => by have := (own_lt HO6.out g e).1; omega)); have HO7 := hid hown7; have HG7 := hid hgrow7; clear hgrow7 hown7 hat7; have p0 : w7.cell? ⟨w.heap.size + 1 + 1, 0, none⟩ = some (.slice aJ J.length cJ) := HX7.out.cell 0; have q0 : w7.cell? ⟨w.heap.size + 1, 0, none⟩ = some (.slice none 0 0) := HR7.out.cell 0; have r0 := HR7.out.free 0; have p1 : w7.cell? ⟨w.heap.size + 1 + 1, 1, none⟩ = some (.slice aM M.length cM) := HX7.out.cell 1; have q1 : w7.cell? ⟨w.heap.size + 1, 1, none⟩ = some (.slice none 0 0) := HR7.out.cell 1; have r1 := HR7.out.free 1; have p2 : w7.cell? ⟨w.heap.size + 1 + 1, 2, none⟩ = some (.int .u64 f0) := HX7.out.cell 2; have q2 : w7.cell? ⟨w.heap.size + 1, 2, none⟩ = some (.int .u64 0) := HR7.out.cell 2; have r2 := HR7.out.free 2; have p3 : w7.cell? ⟨w.heap.size + 1 + 1, 3, none⟩ = some (.int .i64 f1) := HX7.out.cell 3; have q3 : w7.cell? ⟨w.heap.size + 1, 3, none⟩ = some (.int .i64 0) := HR7.out.cell 3; have r3 := HR7.out.free 3; have p4 : w7.cell? ⟨w.heap.size + 1 + 1, 4, none⟩ = some (.int .i64 f2) := HX7.out.cell 4; have q4 : w7.cell? ⟨w.heap.size + 1, 4, none⟩ = some (.int .i64 0) := HR7.out.cell 4; have r4 := HR7.out.free 4; have p5 : w7.cell? ⟨w.heap.size + 1 + 1, 5, none⟩ = some (.int .u64 f3) := HX7.out.cell 5; have q5 : w7.cell? ⟨w.heap.size + 1, 5, none⟩ = some (.int .u64 0) := HR7.out.cell 5; have r5 := HR7.out.free 5; have p6 : w7.cell? ⟨w.heap.size + 1 + 1, 6, none⟩ = some (.int .u64 f4) := HX7.out.cell 6; have q6 : w7.cell? ⟨w.heap.size + 1, 6, none⟩ = some (.int .u64 0) := HR7.out.cell 6; have r6 := HR7.out.free 6; have p7 : w7.cell? ⟨w.heap.size + 1 + 1, 7, none⟩ = some (.int .i64 f5) := HX7.out.cell 7; have q7 : w7.cell? ⟨w.heap.size + 1, 7, none⟩ = some (.int .i64 0) := HR7.out.cell 7; have r7 := HR7.out.free 7; have p8 : w7.cell? ⟨w.heap.size + 1 + 1, 8, none⟩ = some (.int .i64 f6) := HX7.out.cell 8; have q8 : w7.cell? ⟨w.heap.size + 1, 8, none⟩ = some (.int .i64 0) := HR7.out.cell 8; have r8 := HR7.out.free 8; have px := HX7.out.free 0; have hz7 : w.heap.size + 1 + 1 < w7.heap.size := HX7.out.lt)))
      have hT := tch10 w7 (w.heap.size + 1 + 1) (w.heap.size + 1) (.slice a7 (J.length + RX.length + FB.length) c7) (.slice a7 (J.length + RX.length + FB.length) c7) (.slice aM M.length cM) (.int .u64 f0) (.int .i64 f1) (.int .i64 f2) (.int .u64 f3) (.int .u64 f4) (.int .i64 f5) (.int .i64 f6)
      have hO : OwnB w7 (w.heap.size + 3) (.slice a7 (J.length + RX.length + FB.length) c7) K := by
        rw [hse.out]
        unfold OwnB
        rw [List.length_append, List.length_append, ← byteCells_app, ← byteCells_app]
        exact HO7.out
      refine bodyPost_ret (v := .agg #[.slice a7 (J.length + RX.length + FB.length) c7, .slice aM M.length cM, .int .u64 f0, .int .i64 f1, .int .i64 f2, .int .u64 f3, .int .u64 f4, .int .i64 f5, .int .i64 f6]) (by simp [results, Tryz.results113, go_sem, World.cell?_setCell_far, q0, q1, q2, q3, q4, q5, q6, q7, q8]) rfl ?_
      refine ⟨_, _, by rw [HFE.out], ?_, ?_, HB7.out.trans (hT.to_below HB7.out.size fun b _ e => by omega)⟩
      · rw [HKE.out]
        exact rBytes.mono (rBytes.keep hO.read fun b hb => hT.block b hb.2 (by have := hb.1; omega)) fun b hb => ⟨by have := hb.1; omega, Nat.lt_of_lt_of_le hb.2 hT.size⟩
      · have hml : ∀ q, (Value.slice aM M.length cM).ownBlock = some q → w.heap.size + 3 ≤ q ∧ q < w4.heap.size := fun q e => own_lt HSI4.out.m.own q e
        have hs7 := HG7.out.size
        rw [HJM.out]
        show rMarks.r _ _ _ M
        refine rMarks.mono (rMarks.keep HSI4.out.m.row fun q e => ?_) fun q e => ⟨by have := hml q e; omega, by have := hml q e; have := hT.size; omega⟩
        have h1 := hml q e
        have n1 : (Value.slice aJ J.length cJ).ownBlock ≠ some q := fun e2 => HSI4.out.ne q e2 e
        have n2 : (Value.slice a6 (J.length + RX.length) c6).ownBlock ≠ some q := fun e2 => by
          rcases HA6.out with h | h
          · exact n1 (h.symm.trans e2)
          · have := Option.some.inj (e2.symm.trans h); omega
        exact (hT.block q (by omega) (by omega)).trans ((HG7.out.block q (by omega) (fun e3 => n2 e3.symm)).trans ((HG6.out.block q (by omega) (fun e3 => n1 e3.symm)).trans (HQ.out.block q h1.2 (by omega))))
end Go.Proofs.YtkipiefcnjfdjaaGreat
namespace Go.Proofs.YtkipiefcnjfdjaaGreat
open Go.RowKit Go.Bs Go.Maps
set_option linter.unusedVariables false
set_option linter.unusedSimpArgs false

set_option maxRecDepth 100000 in
set_option maxHeartbeats 1600000 in
theorem segment_bytes (ep : Int) (l : List Batch) (a : Option Addr) (n c : Nat) (w : World) (h0 : 0 ≤ ep ∧ ep ≤ 18446744073709551615) (hl : rBatches.r (· < w.heap.size) w [.slice a n c] l) (hbn : ∀ b ∈ l, batchN b) (htm : ∀ b ∈ l, TameE b.entries) :
    Calls Tryz.prog 56 #[.agg #[.int .u64 ep, .slice a n c]] w fun r w' => ∃ v, r = .returned (.tuple #[v, .int .i64 (if segR ⟨ep, l⟩ = true then 0 else 3)]) ∧ rBytes.r (fun q => w.heap.size ≤ q ∧ q < w'.heap.size) w' [v] (if segR ⟨ep, l⟩ = true then segB ep l else []) ∧ Below w.heap.size w w' := by
  obtain ⟨rfl, hm, _, _⟩ := sl_len hl
  have HR := hid (fun (W : World) (hW : Below w.heap.size w W) => segment_right ep l a _ c W h0 (lift hl hW) (fun x hx => (htm x hx).fair))
  have HL := hid hl
  have kf := written_b
  clear hl
  cases hs : segR ⟨ep, l⟩
  · rw [hs] at HR
    simp only [Bool.false_eq_true, if_false]
    clear hs
    go_enter Tryz.func56, Tryz.ntmps56
    go_wp2_with fail
    refine (HR.out _ (by (repeat (first | exact Below.refl _ _ | assumption | (refine below_alloc ?_ _) | (refine Below.setCell ?_ (by first | omega | (simp; done) | (simp; omega)) _) | (refine Below.drew ?_) | (refine below_drewN ?_ _) | (refine below_then (by assumption) ?_))))).mono ?_
    rintro r w1 ⟨rfl, hb1⟩
    have hbw : Below w.heap.size w w1 := by (repeat (first | exact Below.refl _ _ | assumption | (refine below_alloc ?_ _) | (refine Below.setCell ?_ (by first | omega | (simp; done) | (simp; omega)) _) | (refine Below.drew ?_) | (refine below_drewN ?_ _) | (refine below_then (by assumption) ?_)))
    go_wp2
    go_ret2
    exact ⟨_, rfl, rSl_mk (xs := []) rfl (Nat.le_refl _) (Nat.zero_le _) (.inl rfl), hbw⟩
  · rw [hs] at HR
    simp only [if_true]
    have HW := hid (fun (W : World) (hW : Below w.heap.size w W) => seg_write ep l a _ c W (lift HL.out hW) hs hbn htm)
    clear hs
    go_enter Tryz.func56, Tryz.ntmps56
    go_wp2_with fail
    refine (HR.out _ (by (repeat (first | exact Below.refl _ _ | assumption | (refine below_alloc ?_ _) | (refine Below.setCell ?_ (by first | omega | (simp; done) | (simp; omega)) _) | (refine Below.drew ?_) | (refine below_drewN ?_ _) | (refine below_then (by assumption) ?_))))).mono ?_
    rintro r w1 ⟨rfl, hb1⟩
    have hB := (Blk.new w 62 #[.int .u64 ep, .slice a l.length c]).later hb1
    have c0 : w1.cell? ⟨w.heap.size, 0, none⟩ = some (.int .u64 ep) := hB.cell 0
    have c1 : w1.cell? ⟨w.heap.size, 1, none⟩ = some (.slice a l.length c) := hB.cell 1
    have hbw : Below w.heap.size w w1 := by (repeat (first | exact Below.refl _ _ | assumption | (refine below_alloc ?_ _) | (refine Below.setCell ?_ (by first | omega | (simp; done) | (simp; omega)) _) | (refine Below.drew ?_) | (refine below_drewN ?_ _) | (refine below_then (by assumption) ?_)))
    clear hB
    go_wp2_with fail
    refine (HW.out w1 hbw).mono ?_
    rintro r w2 ⟨v, u, rfl, hr, _, hb2⟩
    obtain ⟨a2, c2, hv2, hr2, _⟩ := sl_form hr
    simp only [List.cons.injEq, and_true] at hv2
    subst hv2
    have HV := hid hr2
    clear hr hr2
    go_wp2
    go_ret2
    exact ⟨_, rfl, rBytes.mono HV.out fun q hq => ⟨by have := hbw.size; omega, hq.2⟩, below_then hb2 hbw⟩
end Go.Proofs.YtkipiefcnjfdjaaGreat
