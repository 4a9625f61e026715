/- Needed by batchReads_walk, part 8: texts put together by shake.py; no condition. -/
import Derived.Test.YtkipiefcnjfdjaaGreatU7
import Derived.Laws.MakeOwn
import Derived.Test.YtkipiefcnjfdjaaGreatU5
import Derived.Laws.Bits64
import Derived.Test.YtkipiefcnjfdjaaGreatU2
namespace Go.Proofs.YtkipiefcnjfdjaaGreat
open Go.RowKit Go.Bs Go.Maps
set_option linter.unusedVariables false
set_option linter.unusedSimpArgs false
set_option maxRecDepth 100000 in
set_option maxHeartbeats 3200000 in
theorem link_size (w : World) (pos : Int) (hpos : 0 ≤ pos ∧ pos ≤ 18446744073709551615) (l : List Link) (al : Option Addr) (nl cl : Nat)
  (hl : rLinks.r (· < w.heap.size) w [.slice al nl cl] l) (hR : linksR pos l = true) (hbk : ∀ x ∈ l, x.backs.length ≤ 1000000) :
  Calls Tryz.prog 192 #[.int .u64 pos, .slice al nl cl] w fun r w' => r = .returned (.int .i64 ((linksB pos l).length : Int)) ∧ Below w.heap.size w w' := by
 obtain ⟨rfl, hm, _, _⟩ := sl_len hl
 have hN := links_bounds hl
 have HRT := hid (link_right pos l al _ cl w hpos hl (fun x hx => by have := hbk x hx; omega))
 have hR' := hR
 simp only [linksR, Bool.and_eq_true, decide_eq_true_eq, List.all_eq_true] at hR'
 rw [hR] at HRT
 have hlk : ∀ x ∈ l, fallsB pos x.backs = true := fun x hx => by have := hR'.2.2 x hx; simp only [linkR, Bool.and_eq_true] at this; exact this.2
 have HLK := hid hlk
 have HBK := hid hbk
 have hul := upsL_len none l
 have hzl := linkZ_len pos none l
 have HSP := hid (fun (W : World) (hW : rLinks.r (· < W.heap.size) W [.slice al l.length cl] l) => link_steps W l al _ cl hW hR'.2.1 (by omega))
 have hdl : (linksB pos l).length = (varB l.length).length + ((linkZ pos none l).flatten).length := by unfold linksB; rw [List.length_append, linksF_zip]
 have hle := linkZ_len_le pos l hR
 rw [linksF_zip] at hle
 rw [hdl]
 have HL := hid hl
 have hvl := varB_len l.length
 have HV := hid (fun (W : World) => varint_size l.length (by omega) W)
 have HMO := hid (fun k => flat_take_le (linkZ pos none l) k)
 have HNS := hid (fun (k : Nat) (h : k < l.length) => (by have := flat_step (linkZ pos none l) k (by omega); rw [linkZ_get pos l k h] at this; exact this : ((linkZ pos none l).take (k + 1)).flatten = ((linkZ pos none l).take k).flatten ++ (varB ((upsL none l)[k]'(by rw [upsL_len]; exact h)).toNat ++ deltaB pos l[k].backs)))
 generalize linkZ pos none l = Z at *
 generalize varB l.length = VL at *
 have hll : l.length ≤ 16 := hR'.1
 clear hl hR hR' hlk hbk hN hdl
 go_enter Tryz.func192, Tryz.ntmps192
 go_wp2_with fail
 refine HRT.out.mono ?_
 rintro r w1 ⟨rfl, hb1⟩
 go_wp2_with fail
 refine (HV.out w1).mono ?_
 rintro r w2 ⟨rfl, hb2⟩
 have hb12 := below_then hb2 hb1
 go_wp2_with fail
 refine (HSP.out w2 (lift HL.out hb12)).mono ?_
 rintro r w3 ⟨v3, rfl, hr3, hb3⟩
 obtain ⟨a3, c3, hv3, hr3', _⟩ := sl_form hr3
 simp only [List.cons.injEq, and_true] at hv3
 subst hv3
 have HR3 := hid (rBytesless hr3')
 have hbw3 := below_then hb3 hb12
 rw [hul] at HR3 ⊢
 clear hr3 hr3'
 go_wp2_with fail
 go_loopw [5, 19] (fun n i wr => ∃ k m : Nat, k ≤ l.length ∧ i = .int .i64 k ∧ n = .int .i64 m ∧ Hid (m = VL.length + (Z.take k).flatten.length) ∧ Below w3.heap.size w3 wr) (fun _ i _ => l.length - (intOf i).toNat)
 case atStart => exact ⟨0, VL.length, Nat.zero_le _, rfl, rfl, hid (by simp), Below.refl _ _⟩
 case round =>
  obtain ⟨k, m, hk, rfl, rfl, hmm, hb⟩ := hrel
  have hmo := HMO.out k
  have hmk := hmm.out
  rcases Nat.lt_or_ge k l.length with hlt | hge
  ·obtain ⟨b, o, hA, hbb, hc, hx0, hx1⟩ := u64_at (lift HR3.out hb) (show k < (upsL none l).length by omega)
   have hbw := below_then hb hbw3
   obtain ⟨b', o', hA', hbb', a5, c5, y0, y1, hs, yl⟩ := link_at (lift HL.out hbw) hlt
   subst hA hA'
   have hst := HNS.out k hlt
   have hfk := HMO.out (k + 1)
   rw [hst, List.length_append, List.length_append] at hfk
   have HV4 := hid (fun (W : World) => (by have := varint_size ((upsL none l)[k]'(by omega)).toNat (by omega) W; rw [toNat_cast hx0] at this; exact this : Calls Tryz.prog 191 #[.int .u64 ((upsL none l)[k]'(by omega))] W fun r w' => r = .returned (.int .i64 (varB ((upsL none l)[k]'(by omega)).toNat).length) ∧ Below W.heap.size W w'))
   have hfl := HLK.out l[k] (List.getElem_mem hlt)
   have hbl := HBK.out l[k] (List.getElem_mem hlt)
   have HD4 := hid (fun s : Later wr => delta_size s.at_ pos hpos l[k].backs a5 _ c5 (lift yl s.below) hfl hbl)
   have HV5 := hid (fun s : Later wr => HV4.out s.at_)
   have HM : Hid (m + ((varB ((upsL none l)[k]'(by omega)).toNat).length + (deltaB pos l[k].backs).length) = VL.length + (Z.take (k + 1)).flatten.length) := hid (by rw [hst]; simp only [List.length_append]; omega)
   have hmb : m ≤ 1000000 := by omega
   have hd1 : (varB ((upsL none l)[k]'(by omega)).toNat).length ≤ 1000000 ∧ (deltaB pos l[k].backs).length ≤ 1000000 := by omega
   have i1 : (k : Int) < (l.length : Int) := by omega
   have d1 : decide ((k : Int) < (l.length : Int)) = true := decide_eq_true i1
   have Y1 := fun s : Later wr => s.cell y1
   generalize varB ((upsL none l)[k]'(by omega)).toNat = VK at *
   generalize deltaB pos l[k].backs = DK at *
   generalize (upsL none l)[k]'(by omega) = u at *
   generalize l[k] = y at *
   clear HV4 hst hmo hmk hmm hfk hfl yl y0
   go_wp2_with fail
   refine wp_region_later (by kernel_rfl) (by kernel_rfl) ?_
   repeat (go_big_quiet_step ((first | (go_at_call 191; with_reducible exact later_of (HV5.out _)) | (go_at_call 243; with_reducible exact later_of (HD4.out _)))))
   refine wpQuiet_nil ?_
   rintro W5 ⟨⟨W5', hb5⟩, rfl⟩
   have hbw5 := below_then hb5 hb
   clear Y1
   go_wp2
   go_roundw
   case rel => exact ⟨k + 1, m + (VK.length + DK.length), by omega, by go_num, by go_num, HM, hbw5⟩
   case measure => simp [intOf]; omega
  ·obtain rfl : k = l.length := by omega
   have d1 : decide ((l.length : Int) < (l.length : Int)) = false := decide_eq_false (by omega)
   have hfin : Hid (m = VL.length + Z.flatten.length) := hid (by rw [hmk, List.take_of_length_le (by omega)])
   clear hmo hmk hmm
   go_wp2
   go_ret
   exact ⟨by rw [hfin.out]; simp, below_then hb hbw3⟩
def headN (pos : Int) (e : Entry) : Nat := if entryR pos e = true then (headB pos e).length else 0
theorem headN_le (pos : Int) (e : Entry) : headN pos e ≤ 1000 := by
 unfold headN
 split
 ·rename_i h
  simp only [entryR, Bool.and_eq_true] at h
  have h1 := linkZ_len_le pos e.links h.1
  have h2 := h.1
  simp only [linksR, Bool.and_eq_true, decide_eq_true_eq] at h2
  have h3 := (varB_len e.links.length).1
  have h4 := (varB_len e.data.length).1
  simp only [headB, linksB, List.length_append]
  omega
 ·omega
theorem e_blk {w : World} {g : Nat} {t : TypeId} {v0 v1 : Value} (h : Blk w g t #[v0, v1]) : w.cell? ⟨g, 0, none⟩ = some v0 ∧ w.cell? ⟨g, 1, none⟩ = some v1 ∧ g < w.heap.size :=
 ⟨h.cell 0, h.cell 1, h.lt⟩
set_option maxRecDepth 100000 in
set_option maxHeartbeats 3200000 in
theorem entry_headsize (w : World) (pos : Int) (hpos : 0 ≤ pos ∧ pos ≤ 18446744073709551615) (e : Entry) (a1 a2 : Option Addr) (n1 c1 n2 c2 : Nat)
  (hl : rLinks.r (· < w.heap.size) w [.slice a1 n1 c1] e.links) (hd : rBytes.r (· < w.heap.size) w [.slice a2 n2 c2] e.data) (hbk : ∀ x ∈ e.links, x.backs.length ≤ 1000000) :
  Calls Tryz.prog 130 #[.int .u64 pos, .agg #[.slice a1 n1 c1, .slice a2 n2 c2]] w fun r w' => r = .returned (.int .i64 (headN pos e : Int)) ∧ Below w.heap.size w w' := by
 obtain ⟨rfl, hm1, _, _⟩ := sl_len hl
 obtain ⟨rfl, hm2, _, _⟩ := sl_len hd
 have HER := hid (fun (W : World) (hW : Below w.heap.size w W) => entry_right pos e a1 a2 _ c1 _ c2 W hpos (fun x hx => by have := hbk x hx; omega) (lift hl hW) (lift hd hW))
 unfold headN
 cases hR : entryR pos e
 ·rw [hR] at HER
  rw [if_neg (by simp)]
  go_enter Tryz.func130, Tryz.ntmps130
  go_wp2_with fail
  refine (HER.out _ (by (repeat first | with_reducible (first | exact zR | assumption | apply zA | apply zS | apply zD | apply zN) | refine zT (by with_reducible assumption) ?_ | omega | simp <;> omega))).mono ?_
  rintro r w1 ⟨rfl, hb1⟩
  go_wp2
  go_ret
  exact ⟨rfl, by (repeat first | with_reducible (first | exact zR | assumption | apply zA | apply zS | apply zD | apply zN) | refine zT (by with_reducible assumption) ?_ | omega | simp <;> omega)⟩
 ·rw [hR] at HER
  rw [if_pos rfl]
  have hR' := hR
  simp only [entryR, Bool.and_eq_true, decide_eq_true_eq] at hR'
  have hbl : (headB pos e).length = (linksB pos e.links).length + (varB e.data.length).length := by unfold headB; rw [List.length_append]
  have hle := headN_le pos e
  unfold headN at hle
  rw [if_pos hR, hbl] at hle
  rw [hbl]
  have HLS := hid (fun (W : World) (hW : Below w.heap.size w W) => link_size W pos hpos e.links a1 _ c1 (lift hl hW) hR'.1 hbk)
  have HVS := hid (fun (W : World) => varint_size e.data.length (by omega) W)
  have hdl := hR'.2
  generalize varB e.data.length = V at *
  generalize linksB pos e.links = LB at *
  clear hl hd hR hR' hbl
  go_enter Tryz.func130, Tryz.ntmps130
  go_wp2_with fail
  refine (HER.out _ (by (repeat first | with_reducible (first | exact zR | assumption | apply zA | apply zS | apply zD | apply zN) | refine zT (by with_reducible assumption) ?_ | omega | simp <;> omega))).mono ?_
  rintro r w1 ⟨rfl, hb1⟩
  have B1 := Blk.later (Blk.newAt w 75 #[.slice a1 e.links.length c1, .slice a2 e.data.length c2] rfl) hb1
  have hbw1 : Below w.heap.size w w1 := by (repeat first | with_reducible (first | exact zR | assumption | apply zA | apply zS | apply zD | apply zN) | refine zT (by with_reducible assumption) ?_ | omega | simp <;> omega)
  have C0 := fun s : Later w1 => s.cell (B1.cell 0)
  have C1 := fun s : Later w1 => s.cell (B1.cell 1)
  simp at C0 C1
  have HS1 := hid (fun s : Later w1 => HLS.out s.at_ (below_then s.below hbw1))
  have HS2 := hid (fun s : Later w1 => HVS.out s.at_)
  clear B1 hb1
  go_wp2_with fail
  refine wp_region_later (by kernel_rfl) (by kernel_rfl) ?_
  repeat (go_big_quiet_step ((first | (go_at_call 192; with_reducible exact later_of (HS1.out _)) | (go_at_call 191; with_reducible exact later_of (HS2.out _)))))
  refine wpQuiet_nil ?_
  rintro W5 ⟨⟨W5', hb5⟩, rfl⟩
  clear C0 C1
  go_wp2
  go_ret
  exact ⟨by simp, below_then hb5 hbw1⟩
set_option maxRecDepth 100000 in
set_option maxHeartbeats 3200000 in
theorem entry_puthead (w : World) {g base most : Nat} {J : List UInt8} {a : Option Addr} {c : Nat} (h : PenAt w g base most J a c) (pos : Int) (hpos : 0 ≤ pos ∧ pos ≤ 18446744073709551615) (e : Entry) (a1 a2 : Option Addr) (n1 c1 n2 c2 : Nat)
  (hl : rLinks.r (fun q => q < w.heap.size ∧ ¬ PenF g a q) w [.slice a1 n1 c1] e.links) (hd : rBytes.r (· < w.heap.size) w [.slice a2 n2 c2] e.data) (hR : entryR pos e = true) (hbk : ∀ x ∈ e.links, x.backs.length ≤ 1000000) (hfit : J.length + (headB pos e).length ≤ most) (hln2 : J.length + (headB pos e).length ≤ 100000000000000) :
  Calls Tryz.prog 74 #[.pointer (some ⟨g, 0, none⟩), .int .u64 pos, .agg #[.slice a1 n1 c1, .slice a2 n2 c2]] w fun r w' => r = .returned (.tuple #[]) ∧ PenStep w g base most (J ++ headB pos e) a w' := by
 obtain ⟨rfl, hm1, _, _⟩ := sl_len hl
 obtain ⟨rfl, hm2, _, _⟩ := sl_len hd
 have HER := hid (fun (W : World) (hW : Below w.heap.size w W) => entry_right pos e a1 a2 _ c1 _ c2 W hpos (fun x hx => by have := hbk x hx; omega) (lift (pen_low hl) hW) (lift hd hW))
 rw [hR] at HER
 have hR' := hR
 simp only [entryR, Bool.and_eq_true, decide_eq_true_eq] at hR'
 have hbl : (headB pos e).length = (linksB pos e.links).length + (varB e.data.length).length := by unfold headB; rw [List.length_append]
 rw [hbl] at hfit hln2
 have hhb : headB pos e = linksB pos e.links ++ varB e.data.length := rfl
 rw [hhb]
 have HPT := hid (fun (W : World) (hW : Below w.heap.size w W) => link_put W (h.later hW) pos hpos e.links a1 _ c1 (pen_later hW hl) hR'.1 hbk (by omega) (by omega))
 have HP := hid h
 have hdl := hR'.2
 generalize linksB pos e.links = LB at *
 clear h hl hd hR hR' hbl hhb
 go_enter Tryz.func74, Tryz.ntmps74
 go_wp2_with fail
 refine (HER.out _ (by (repeat first | with_reducible (first | exact zR | assumption | apply zA | apply zS | apply zD | apply zN) | refine zT (by with_reducible assumption) ?_ | omega | simp <;> omega))).mono ?_
 rintro r w1 ⟨rfl, hb1⟩
 have B1 := Blk.later (Blk.newAt w 75 #[.slice a1 e.links.length c1, .slice a2 e.data.length c2] rfl) hb1
 obtain ⟨x0, x1, l1⟩ := e_blk B1
 have hbw1 : Below w.heap.size w w1 := by (repeat first | with_reducible (first | exact zR | assumption | apply zA | apply zS | apply zD | apply zN) | refine zT (by with_reducible assumption) ?_ | omega | simp <;> omega)
 have hgl := HP.out.blk.lt
 have HLT := hid (fun q (hq : PenF g a q) => (HP.out.own_lt hq).2)
 have HB1 := hid B1
 clear B1 hb1
 go_wp2_with fail
 refine (HPT.out _ hbw1).mono ?_
 rintro r w2 ⟨rfl, a3, c3, hp2, ht2, ha2⟩
 have B2 := HB1.out.tch ht2 (fun hf => by have := HLT.out _ hf; omega)
 obtain ⟨y0, y1, l2⟩ := e_blk B2
 have HV := hid (varint_put w2 hp2 e.data.length (by omega) (by simp only [List.length_append]; omega) (by simp only [List.length_append]; omega))
 have HT := hid (And.intro ht2 ha2)
 clear B2 hp2 ht2 ha2 x0 x1
 go_wp2_with fail
 refine HV.out.mono ?_
 rintro r w3 ⟨rfl, hst⟩
 have hn := PenStep.later hbw1 (PenStep.trans (J := J) HT.out.1 HT.out.2 hst)
 rw [List.append_assoc] at hn
 have HN := hid hn
 clear hst hn
 go_wp2
 first | go_end0 | refine bodyPost_ret (results_none rfl _ _ _) rfl ?_
 exact ⟨rfl, HN.out⟩
theorem epoch_put0 (w : World) {g base most : Nat} {J : List UInt8} {a : Option Addr} {c : Nat} (h : PenAt w g base most J a c) (x : Nat) (hx : x < 18446744073709551616) (hfit : J.length + (varB x).length ≤ most) (hlen : J.length + (varB x).length ≤ 100000000000000) :
  Calls Tryz.prog 131 #[.pointer (some ⟨g, 0, none⟩), .int .u64 x, .bool true] w fun r w' => r = .returned (.tuple #[]) ∧ PenStep w g base most (J ++ varB x) a w' := by
 have HV := hid (varint_put w h x hx hfit hlen)
 clear h
 go_enter Tryz.func131, Tryz.ntmps131
 go_wp2_with fail
 refine HV.out.mono ?_
 rintro r w1 ⟨rfl, hst⟩
 have HST := hid hst
 clear hst
 go_wp2
 first | go_end0 | refine bodyPost_ret (results_none rfl _ _ _) rfl ?_
 exact ⟨rfl, HST.out⟩
theorem epoch_put (w : World) {g base most : Nat} {J : List UInt8} {a : Option Addr} {c : Nat} (h : PenAt w g base most J a c) (x : Nat) (hx : epR (x : Int) = true) (hfit : J.length + (varB x).length ≤ most) (hlen : J.length + (varB x).length ≤ 100000000000000) :
  Calls Tryz.prog 71 #[.pointer (some ⟨g, 0, none⟩), .int .u64 x] w fun r w' => r = .returned (.tuple #[]) ∧ PenStep w g base most (J ++ varB x) a w' := by
 have hx' := hx
 simp only [epR, decide_eq_true_eq] at hx'
 have HR := hid (epoch_right (x : Int) w)
 rw [hx] at HR
 have HV := hid (epoch_put0 w h x (by omega) hfit hlen)
 clear h hx hx'
 go_enter Tryz.func71, Tryz.ntmps71
 go_wp2_with fail
 refine HR.out.mono ?_
 rintro r w1 ⟨rfl, rfl⟩
 go_wp2_with fail
 refine HV.out.mono ?_
 rintro r w1 ⟨rfl, hst⟩
 have HST := hid hst
 clear hst
 go_wp2
 first | go_end0 | refine bodyPost_ret (results_none rfl _ _ _) rfl ?_
 exact ⟨rfl, HST.out⟩
theorem epoch_putpos (w : World) {g base most : Nat} {J : List UInt8} {a : Option Addr} {c : Nat} (h : PenAt w g base most J a c) (x : Nat) (hx : poR (x : Int) = true) (hfit : J.length + (varB x).length ≤ most) (hlen : J.length + (varB x).length ≤ 100000000000000) :
  Calls Tryz.prog 72 #[.pointer (some ⟨g, 0, none⟩), .int .u64 x] w fun r w' => r = .returned (.tuple #[]) ∧ PenStep w g base most (J ++ varB x) a w' := by
 have hx' := hx
 simp only [poR, decide_eq_true_eq] at hx'
 have HR := hid (epoch_pos (x : Int) w)
 rw [hx] at HR
 have HV := hid (epoch_put0 w h x (by omega) hfit hlen)
 clear h hx hx'
 go_enter Tryz.func72, Tryz.ntmps72
 go_wp2_with fail
 refine HR.out.mono ?_
 rintro r w1 ⟨rfl, rfl⟩
 go_wp2_with fail
 refine HV.out.mono ?_
 rintro r w1 ⟨rfl, hst⟩
 have HST := hid hst
 clear hst
 go_wp2
 first | go_end0 | refine bodyPost_ret (results_none rfl _ _ _) rfl ?_
 exact ⟨rfl, HST.out⟩
end Go.Proofs.YtkipiefcnjfdjaaGreat
namespace Go.Proofs.YtkipiefcnjfdjaaGreat
open Go.RowKit Go.Bs Go.Maps
set_option linter.unusedVariables false
set_option linter.unusedSimpArgs false
theorem b_blk {w : World} {g : Nat} {t : TypeId} {v0 v1 v2 : Value} (h : Blk w g t #[v0, v1, v2]) : w.cell? ⟨g, 0, none⟩ = some v0 ∧ w.cell? ⟨g, 1, none⟩ = some v1 ∧ w.cell? ⟨g, 2, none⟩ = some v2 ∧ w.frozen? ⟨g, 0, none⟩ = false ∧ w.frozen? ⟨g, 1, none⟩ = false ∧ w.frozen? ⟨g, 2, none⟩ = false ∧ g < w.heap.size :=
 ⟨h.cell 0, h.cell 1, h.cell 2, h.free 0, h.free 1, h.free 2, h.lt⟩
theorem empty_bytes2 {S : Nat → Prop} {w : World} {a : Option Addr} {m c : Nat} {l : List UInt8} (hl : l = []) (hm : m = 0) (hc : c ≤ 9223372036854775807) : rBytes.r S w [.slice a m c] l := by
 subst hl hm
 exact rSl_mk (xs := []) rfl (Nat.zero_le _) hc (.inl rfl)
theorem pen_fail (w : World) {g base most : Nat} {J : List UInt8} {a : Option Addr} {c : Nat} (h : PenAt w g base most J a c) (k : Int) :
  Calls Tryz.prog 70 #[.pointer (some ⟨g, 0, none⟩), .int .i64 k] w fun r w' => r = .returned (.tuple #[]) ∧ Blk w' g 109 #[.int .i64 most, .slice a J.length c, .int .i64 k] ∧ Tch (· = g) w w' := by
 have HC := hid (pen_code w h)
 have HB := hid h.blk
 have c2 : w.cell? ⟨g, 2, none⟩ = some (.int .i64 0) := h.blk.cell 2
 have f2 := h.blk.free 2
 have hgl := h.blk.lt
 clear h
 go_enter Tryz.func70, Tryz.ntmps70
 go_wp2_with fail
 refine HC.out.mono ?_
 rintro r w1 ⟨rfl, rfl⟩
 go_wp2
 first | go_end0 | refine bodyPost_ret (results_none rfl _ _ _) rfl ?_
 exact ⟨rfl, HB.out.set 2 _, Tch.setCell (F := (· = g)) (p := ⟨g, 2, none⟩) (Tch.refl _ _) (fun _ => rfl) _⟩
theorem pen_bytes_bad (w : World) {g : Nat} {v0 v1 : Value} {k : Int} (hk : k ≠ 0) (h : Blk w g 109 #[v0, v1, .int .i64 k]) :
  Calls Tryz.prog 20 #[.pointer (some ⟨g, 0, none⟩)] w fun r w' => r = .returned (.tuple #[.slice none 0 0, .int .i64 k]) ∧ w = w' := by
 have HC : Hid (Calls Tryz.prog 77 #[.pointer (some ⟨g, 0, none⟩)] w fun r w' => r = .returned (.int .i64 k) ∧ w = w') := hid (by
  have c2 : w.cell? ⟨g, 2, none⟩ = some (.int .i64 k) := h.cell 2
  clear h
  go_enter Tryz.func77, Tryz.ntmps77
  go_wp2
  go_ret
  exact ⟨rfl, rfl⟩)
 have d1 : (k == (0 : Int)) = false := by simp [hk]
 have d2 : (k != (0 : Int)) = true := by simp [hk]
 clear h hk
 go_enter Tryz.func20, Tryz.ntmps20
 go_wp2_with fail
 refine HC.out.mono ?_
 rintro r w1 ⟨rfl, rfl⟩
 go_wp2
 go_ret2
 exact ⟨rfl, rfl⟩
theorem own_make {base : Nat} {e : TypeId} {size : Nat} {W : World} {g cap : Nat} {cs : Array Value} (h : Blk W g e cs) (hb : base ≤ g) (hc : cap ≤ maxLen) (hs : cs.size = cap * size) : W.ownsRow base e size (.slice (some ⟨g, 0, none⟩) 0 cap) 0 [] :=
 ⟨by simp, .inr ⟨g, cap, cs, rfl, hb, h, Nat.zero_le _, hc, by simpa using hs, by simp⟩⟩
set_option maxRecDepth 100000 in
set_option maxHeartbeats 1600000 in
theorem entry_join (l : List Entry) (a : Option Addr) (n c : Nat) (w : World) (hl : rEntries.r (· < w.heap.size) w [.slice a n c] l) (ht : total l ≤ 1000000000000) :
  Calls Tryz.prog 76 #[.slice a n c] w fun r w' => ∃ v, r = .returned v ∧ rBytes.r (fun q => w.heap.size ≤ q ∧ q < w'.heap.size) w' [v] (joined l) ∧ Below w.heap.size w w' := by
 obtain ⟨rfl, hm, _, _⟩ := sl_len hl
 obtain ⟨i0, hi, hz0, hz1, hz2⟩ := info_parts info8
 have HT := hid (entry_total l a _ c w hl ht)
 have HL := hid hl; clear hl
 obtain ⟨T, hT⟩ : ∃ T, T = total l := ⟨_, rfl⟩
 have hmk : ∀ W : World, (Instr.makeSlice 28 (.int .i64 0) (.int .i64 (T : Int))).run Tryz.prog W = .ok (.slice (some ⟨W.heap.size, 0, none⟩) 0 T) (W.alloc (.cells (madeCells #[Value.int .u8 0] T) 5)) := fun W => by
  have := run_make (P := Tryz.prog) (w := W) 28 5 i0 (.int .u8 0) Tryz.underlying28 hi hz0 .i64 .i64 0 (T : Int) (by omega) (by omega) (by rw [hz2]; omega) (by omega)
  rw [hz1] at this
  simp only [Int.toNat_natCast, Int.toNat_zero, Nat.mul_one] at this
  exact this
 have HJ := hid (joined_length l)
 rw [← hT] at HT
 have hTt := hid hT
 have hTb : T ≤ 1000000000000 := by omega
 clear hT
 go_enter Tryz.func76, Tryz.ntmps76
 go_wp2_with fail
 refine HT.out.mono ?_
 rintro r w1 ⟨rfl, hb1⟩
 go_wp2_with fail
 have hbW : Below w1.heap.size w1 (w1.alloc (.cells (madeCells #[Value.int .u8 0] T) 5)) := by (repeat first | with_reducible (first | exact zR | assumption | apply zA | apply zS | apply zD | apply zN) | refine zT (by with_reducible assumption) ?_ | omega | simp <;> omega)
 have hown0 : (w1.alloc (.cells (madeCells #[Value.int .u8 0] T) 5)).ownsRow w.heap.size 5 1 (.slice (some ⟨w1.heap.size, 0, none⟩) 0 T) 0 [] := own_make (Blk.newAt _ _ _ rfl) hb1.size (by simp only [maxLen]; omega) (by rw [size_madeCells]; omega)
 have HOWN0 := hid hown0
 have HBW := hid hbW
 clear hown0 hbW
 generalize w1.alloc (.cells (madeCells #[Value.int .u8 0] T) 5) = W at *
 go_loopw [3, 11] (fun v i wr => ∃ k : Nat, k ≤ l.length ∧ i = .int .i64 k ∧ wr.ownsRow w.heap.size 5 1 v (total (l.take k)) (byteCells (joined (l.take k))) ∧ Below w.heap.size w wr) (fun _ i _ => l.length - (intOf i).toNat)
 case atStart => exact ⟨0, Nat.zero_le _, rfl, by simpa [total, joined, byteCells] using HOWN0.out, below_then HBW.out hb1⟩
 case round =>
  obtain ⟨k, hk, rfl, hown, hb⟩ := hrel
  obtain ⟨av, cv, rfl⟩ := own_form hown
  by_cases hlt : k < l.length
  ·obtain ⟨b, o, hA, hbb, a1, c1, a2, c2, hc0, hc1, _, hd⟩ := entry_at (lift HL.out hb) hlt
   subst hA
   have hbl : b < wr.heap.size := World.block_lt_of_cell? _ _ hc0
   have hs := hid (total_step l k hlt)
   have hj := hid (joined_step l k hlt)
   have h1 := total_take_le l (k + 1)
   rw [hs.out, ← hTt.out] at h1
   have hbW2 : Below wr.heap.size wr (wr.alloc (.cells #[.slice a1 l[k].links.length c1, .slice a2 l[k].data.length c2] 75)) := by (repeat first | with_reducible (first | exact zR | assumption | apply zA | apply zS | apply zD | apply zN) | refine zT (by with_reducible assumption) ?_ | omega | simp <;> omega)
   have hsrc := src_bytes (lift hd hbW2)
   have hone := byteCells_one l[k].data
   have HO := hid (own_below hown hbW2)
   have hbz : Below w.heap.size wr (wr.alloc (.cells #[.slice a1 l[k].links.length c1, .slice a2 l[k].data.length c2] 75)) := hbW2.mono hb.size
   generalize l[k].data = D at *
   generalize l[k].links = LK at *
   generalize joined (l.take k) = J at *
   generalize total (l.take k) = t at *
   have HSRC := hid hsrc; clear hsrc hd
   have HONE := hid hone; clear hone hown hbW2
   have hbs := hb.size
   have i1 : (k : Int) < (l.length : Int) := by omega
   have d1 : decide ((k : Int) < (l.length : Int)) = true := decide_eq_true i1
   have HBZ := hid hbz
   clear hbz
   go_wp2_with (at_builtin; go_loud (refine wpList_append_src rfl _ _ _ rfl w.heap.size 5 i0 (.int .u8 0) 1 1 Tryz.underlying28 hi hz0 hz1 hz2 rfl (by decide) (.slice av t cv) t _ rfl HO.out a2 D.length c2 (byteCells D) rfl HSRC.out HONE.out (by simp only [maxLen]; omega) (by omega) (by simp; omega) ?_; intro v' w3 hown3 hgrow3 hat3; obtain ⟨a3, c3, rfl⟩ := own_form hown3; have HO3 := hid hown3; have hb3 : Below w.heap.size wr w3 := (Below.grown HBZ.out hgrow3 (by simp; omega) (fun g e => (HO.out.lt g e).1)); clear hown3 hgrow3 hat3))
   have ho3 := HO3.out
   have HO4 : Hid (w3.ownsRow w.heap.size 5 1 (.slice a3 (t + D.length) c3) (total (l.take (k + 1))) (byteCells (joined (l.take (k + 1))))) := hid (by rw [hs.out, hj.out, byteCells, List.map_append]; exact ho3)
   clear ho3 hc0 hc1
   go_roundw
   case rel => exact ⟨k + 1, by omega, by go_num, HO4.out, hb.trans hb3⟩
   case measure => simp [intOf]; omega
  ·obtain rfl : k = l.length := by omega
   have d1 : decide ((l.length : Int) < (l.length : Int)) = false := decide_eq_false (by omega)
   rw [List.take_length] at hown ⊢
   have HV := hid (own_bytes2 (joined_length l).symm hown)
   clear hown
   go_wp2
   go_ret
   exact ⟨_, rfl, HV.out, hb⟩
theorem entriesR_at : ∀ (l : List Entry) (p : Int) (k : Nat) (h : k < l.length), entriesR p l = true → entryR (p + k) l[k] = true
 | [], p, k, h, _ => by simp at h
 | e :: l, p, 0, h, hR => by simp only [entriesR, Bool.and_eq_true] at hR; simpa using hR.1
 | e :: l, p, k + 1, h, hR => by
  simp only [entriesR, Bool.and_eq_true] at hR
  have := entriesR_at l (p + 1) k (by simpa using h) hR.2
  rw [List.getElem_cons_succ, show p + ((k + 1 : Nat) : Int) = p + 1 + (k : Int) by omega]
  exact this
theorem headsB_step : ∀ (l : List Entry) (p : Int) (k : Nat) (h : k < l.length), headsB p (l.take (k + 1)) = headsB p (l.take k) ++ headB (p + k) l[k]
 | [], p, k, h => by simp at h
 | e :: l, p, 0, h => by simp [headsB]
 | e :: l, p, k + 1, h => by
  have := headsB_step l (p + 1) k (by simpa using h)
  simp only [List.take_succ_cons, headsB, List.getElem_cons_succ]
  rw [this, show p + ((k + 1 : Nat) : Int) = p + 1 + (k : Int) by omega, List.append_assoc]
theorem headsB_le (l : List Entry) (p : Int) : ∀ k, (headsB p (l.take k)).length ≤ (headsB p l).length := by
 intro k
 induction l generalizing p k with
 | nil => simp
 | cons e l ih =>
  cases k with
  | zero => simp [headsB]
  | succ k => simp only [List.take_succ_cons, headsB, List.length_append]; have := ih (p + 1) k; omega
structure TameE (l : List Entry) : Prop where
 len : l.length ≤ 1000
 tot : total l ≤ 10000000
 backs : ∀ e ∈ l, ∀ x ∈ e.links, x.backs.length ≤ 1000000
theorem TameE.fair {l : List Entry} (h : TameE l) : Fair l := ⟨by have := h.tot; omega, by have := h.len; omega, fun e he x hx => by have := h.backs e he x hx; omega⟩
set_option maxRecDepth 100000 in
set_option maxHeartbeats 6400000 in
theorem batch_room (w : World) (b : Batch) (a : Option Addr) (n c : Nat) (h0 : 0 ≤ b.epoch ∧ b.epoch ≤ 18446744073709551615) (h1 : 0 ≤ b.base ∧ b.base ≤ 18446744073709551615) (hl : rEntries.r (· < w.heap.size) w [.slice a n c] b.entries) (ht : TameE b.entries) :
  Calls Tryz.prog 69 #[.agg #[.int .u64 b.epoch, .int .u64 b.base, .slice a n c]] w fun r w' => ∃ M : Nat, r = .returned (.int .i64 (M : Int)) ∧ M ≤ 100000000 ∧ (batchR b = true → 40 + (varB (total b.entries)).length + total b.entries + (headsB b.base b.entries).length ≤ M) ∧ Below w.heap.size w w' := by
 obtain ⟨rfl, hm, _, _⟩ := sl_len hl
 have hle := ht.len
 have hto := ht.tot
 have HTO := hid (fun (W : World) (hW : Below w.heap.size w W) => entry_total b.entries a _ c W (lift hl hW) (by omega))
 have HBS := hid (fun (W : World) => blob_size (total b.entries) (by omega) W)
 have hvb := (varB_len (total b.entries)).1
 have HBK := hid ht.backs
 have HRE := hid (fun (h : batchR b = true) (k : Nat) (hk : k < b.entries.length) => (by simp only [batchR, Bool.and_eq_true] at h; exact ⟨entriesR_at b.entries b.base k hk h.2.2.2, by have := h.2.1; simp only [fitsR, decide_eq_true_eq] at this; omega⟩ : entryR (b.base + k) b.entries[k] = true ∧ b.base + b.entries.length ≤ 4611686018427387904))
 have HHS := hid (fun (k : Nat) (hk : k < b.entries.length) => headsB_step b.entries b.base k hk)
 have HL := hid hl
 obtain ⟨ep, bs, l⟩ := b
 dsimp only at *
 generalize hRR : batchR ⟨ep, bs, l⟩ = R at *
 generalize varB (total l) = VT at *
 generalize total l = T at *
 clear hl ht hRR
 go_enter Tryz.func69, Tryz.ntmps69
 go_wp2_with fail
 refine (HTO.out _ (by (repeat first | with_reducible (first | exact zR | assumption | apply zA | apply zS | apply zD | apply zN) | refine zT (by with_reducible assumption) ?_ | omega | simp <;> omega))).mono ?_
 rintro r w1 ⟨rfl, hb1⟩
 have B1 := Blk.later (Blk.newAt w 25 #[.int .u64 ep, .int .u64 bs, .slice a l.length c] rfl) hb1
 have hbw1 : Below w.heap.size w w1 := by (repeat first | with_reducible (first | exact zR | assumption | apply zA | apply zS | apply zD | apply zN) | refine zT (by with_reducible assumption) ?_ | omega | simp <;> omega)
 clear hb1
 go_wp2_with fail
 refine (HBS.out _).mono ?_
 rintro r w2 ⟨rfl, hb2⟩
 have B2 := B1.later hb2
 have hbw2 := below_then hb2 hbw1
 obtain ⟨x0, x1, x2, _, _, _, l2⟩ := b_blk B2
 have HB2 := hid B2
 clear B1 hb2 B2
 go_wp2_with fail
 clear x0 x1 x2
 go_loopw [3, 14] (fun m i wr => ∃ k M : Nat, k ≤ l.length ∧ i = .int .i64 k ∧ m = .int .i64 M ∧ M ≤ 20000000 + 1000 * k ∧ Hid (R = true → 40 + VT.length + T + (headsB bs (l.take k)).length ≤ M) ∧ Below w2.heap.size w2 wr) (fun _ i _ => l.length - (intOf i).toNat)
 case atStart => exact ⟨0, 40 + (VT.length + T), Nat.zero_le _, rfl, by go_num, by omega, hid (fun _ => by simp [headsB]; omega), Below.refl _ _⟩
 case round =>
  obtain ⟨k, M, hk, rfl, rfl, hM, hMM, hb⟩ := hrel
  have hbw := below_then hb hbw2
  have B3 := HB2.out.later hb
  obtain ⟨x0, x1, x2, _, _, _, l3⟩ := b_blk B3
  by_cases hlt : k < l.length
  ·obtain ⟨b, o, hA, hbb, a1, c1, a2, c2, y0, y1, hlk, hd⟩ := entry_at (lift HL.out hbw) hlt
   subst hA
   have hbl : b < wr.heap.size := World.block_lt_of_cell? _ _ y0
   have i1 : (k : Int) < (l.length : Int) := by omega
   have d1 : decide ((k : Int) < (l.length : Int)) = true := decide_eq_true i1
   have hbk := HBK.out l[k] (List.getElem_mem hlt)
   have HHZ := hid (fun (W : World) (hW : Below wr.heap.size wr W) (pos : Int) (hp : 0 ≤ pos ∧ pos ≤ 18446744073709551615) => entry_headsize W pos hp l[k] a1 a2 _ c1 _ c2 (lift hlk hW) (lift hd hW) hbk)
   have hHN := hid (fun pos => headN_le pos l[k])
   have hst := HHS.out k hlt
   have HX := hid (fun (h : R = true) => (by
    obtain ⟨h1, h2⟩ := HRE.out h k hlt
    refine ⟨?_, by omega⟩
    unfold headN
    rw [if_pos h1] : headN (bs + k) l[k] = (headB (bs + k) l[k]).length ∧ bs + k ≤ 18446744073709551615))
   have HSTP : Hid (∀ m, m = (headB (bs + k) l[k]).length → (headsB bs (l.take (k + 1))).length = (headsB bs (l.take k)).length + m) := hid (fun m e => by rw [hst, List.length_append, e])
   generalize l[k] = y at *
   clear hst hlk hd hbk
   by_cases hwr : bs + (k : Int) ≤ 18446744073709551615
   ·have HZ2 := hid (fun (W : World) (hW : Below wr.heap.size wr W) => HHZ.out W hW (bs + k) (by omega))
    have hn := hHN.out (bs + k)
    generalize hN : headN (bs + (k : Int)) y = N at *
    have HN := hid hN
    clear hN
    go_wp2_with fail
    refine (HZ2.out _ (by (repeat first | with_reducible (first | exact zR | assumption | apply zA | apply zS | apply zD | apply zN) | refine zT (by with_reducible assumption) ?_ | omega | simp <;> omega))).mono ?_
    rintro r w5 ⟨rfl, hb5⟩
    have hbw5 : Below w2.heap.size w2 w5 := by (repeat first | with_reducible (first | exact zR | assumption | apply zA | apply zS | apply zD | apply zN) | refine zT (by with_reducible assumption) ?_ | omega | simp <;> omega)
    go_wp2
    go_roundw
    case rel =>
     refine ⟨k + 1, M + N, by omega, by go_num, by go_num, by omega, hid (fun h => ?_), hbw5⟩
     have e1 := hMM.out h
     have e2 := HSTP.out N (HX.out h).1
     omega
    case measure => simp [intOf]; omega
   ·obtain ⟨p', hp', hpb⟩ : ∃ p' : Int, IntKind.u64.wrap (bs + (k : Int)) = p' ∧ 0 ≤ p' ∧ p' ≤ 18446744073709551615 := ⟨_, rfl, by simp only [IntKind.wrap_u64]; omega⟩
    have HZ2 := hid (fun (W : World) (hW : Below wr.heap.size wr W) => HHZ.out W hW p' hpb)
    have hn := hHN.out p'
    generalize headN p' y = N at *
    have HPP := hid hp'
    have HWR := hid hwr
    clear hp' hwr
    go_wp2_with fail
    rw [HPP.out]
    refine (HZ2.out _ (by (repeat first | with_reducible (first | exact zR | assumption | apply zA | apply zS | apply zD | apply zN) | refine zT (by with_reducible assumption) ?_ | omega | simp <;> omega))).mono ?_
    rintro r w5 ⟨rfl, hb5⟩
    have hbw5 : Below w2.heap.size w2 w5 := by (repeat first | with_reducible (first | exact zR | assumption | apply zA | apply zS | apply zD | apply zN) | refine zT (by with_reducible assumption) ?_ | omega | simp <;> omega)
    go_wp2
    go_roundw
    case rel => exact ⟨k + 1, M + N, by omega, by go_num, by go_num, by omega, hid (fun h => absurd (HX.out h).2 (by have := HWR.out; omega)), hbw5⟩
    case measure => simp [intOf]; omega
  ·obtain rfl : k = l.length := by omega
   have d1 : decide ((l.length : Int) < (l.length : Int)) = false := decide_eq_false (by omega)
   have hfin : Hid (R = true → 40 + VT.length + T + (headsB bs l).length ≤ M) := hid (fun h => by have := hMM.out h; rwa [List.take_length] at this)
   clear x0 x1 x2
   go_wp2
   go_ret
   exact ⟨M, rfl, by omega, hfin.out, hbw⟩
end Go.Proofs.YtkipiefcnjfdjaaGreat
namespace Go.Proofs.YtkipiefcnjfdjaaGreat
open Go.RowKit Go.Bs Go.Maps
set_option linter.unusedVariables false
set_option linter.unusedSimpArgs false
structure RdInv (w W : World) (g : Nat) (B : List UInt8) (a : Option Addr) (s : Rs) : Prop where
 rd : RdAt W g B a s
 dat : rBytes.r (fun q => q < w.heap.size ∧ q ≠ g) W [.slice a B.length B.length] B
 tch : Tch (· = g) w W
 lt : g < w.heap.size
section
variable {w W W' : World} {g : Nat} {B : List UInt8} {a : Option Addr} {s s' : Rs}
theorem RdInv.refl (h : RdAt w g B a s) : RdInv w w g B a s := ⟨h, h.dat, Tch.refl _ _, h.blk.lt⟩
theorem RdInv.step (h : RdInv w W g B a s) (k : RdStep W g B a s' W') : RdInv w W' g B a s' :=
 ⟨k.1, rBytes.keep h.dat fun q hq => k.2.block q (Nat.lt_of_lt_of_le hq.1 h.tch.size) hq.2, h.tch.trans k.2 fun _ _ h => h, h.lt⟩
theorem RdInv.row (h : RdInv w W g B a s) (hb : Below w.heap.size W W') : RdInv w W' g B a s := by
 have hd := rBytes.keep h.dat (w' := W') fun q hq => hb.block q hq.1
 have hs := h.tch.size
 have hs2 := hb.size
 exact ⟨⟨h.rd.blk.below hb h.lt, rBytes.mono hd fun q hq => ⟨by omega, hq.2⟩, h.rd.ok⟩, hd, h.tch.trans (Tch.of_below hb) (fun b hb hle => by omega), h.lt⟩
theorem RdInv.to (h : RdInv w W g B a s) : RdStep w g B a s W := ⟨h.rd, h.tch⟩
theorem own_tch2 {base : Nat} {e : TypeId} {size : Nat} {v : Value} {n : Nat} {xs : List Value} (h : W.ownsRow base e size v n xs) (hg : g < base) (hb : Tch (· = g) W W') : W'.ownsRow base e size v n xs := by
 refine ⟨h.1, ?_⟩
 rcases h.2 with h0 | ⟨g', cap, cur, h1, h2, h3, h4⟩
 ·exact .inl h0
 ·exact .inr ⟨g', cap, cur, h1, h2, (hb.block _ (Blk.lt h3) (by omega)).trans h3, h4⟩
end
set_option maxRecDepth 100000 in
set_option maxHeartbeats 6400000 in
theorem delta_read (w : World) {g : Nat} {B : List UInt8} {a : Option Addr} {s : Rs} (h : RdAt w g B a s) (hB : B.length ≤ 1000000000) (below : Int) (hbl : 0 ≤ below ∧ below ≤ 18446744073709551615) (most : Int) (hmo : 0 ≤ most ∧ most ≤ 1000) :
  Calls Tryz.prog 280 #[.pointer (some ⟨g, 0, none⟩), .int .u64 below, .int .i64 most] w fun r w' => ∃ v, r = .returned v ∧ rU64s.r (fun q => w.heap.size ≤ q ∧ q < w'.heap.size) w' [v] (s.delta B below most).2 ∧ RdStep w g B a (s.delta B below most).1 w' := by
 obtain ⟨i0, hi, hz0, hz1, hz2⟩ := info_parts infoU
 have HI := hid (varint_int w h (by omega) most (by omega))
 have hNm := Rs.int_le (B := B) (s := s) (m := most)
 have hlt := h.blk.lt
 have HIN := hid (RdInv.refl h)
 unfold Rs.delta
 generalize s.int B most = I at *
 obtain ⟨s1, N⟩ := I
 dsimp only at *
 have hN : N ≤ 1000 := by omega
 clear h
 go_enter Tryz.func280, Tryz.ntmps280
 go_wp2_with fail
 refine HI.out.mono ?_
 rintro r w1 ⟨rfl, hst⟩
 have HIN1 := hid (HIN.out.step hst)
 clear hst
 go_wp2_with fail
 go_loopw [1, 7, 13] (fun b v i wr => ∃ (k : Nat) (bel : Int) (J : List Int) (st : Rs), k ≤ N ∧ i = .int .i64 k ∧ b = .int .u64 bel ∧ 0 ≤ bel ∧ bel ≤ 18446744073709551615 ∧ Hid (J.length = k) ∧ wr.ownsRow w.heap.size 22 1 v J.length (u64Cells J) ∧ Hid (∀ x ∈ J, 0 ≤ x ∧ x ≤ 18446744073709551615) ∧ Hid (RdInv w wr g B a st) ∧ Hid (Rs.falls B N s1 below [] = Rs.falls B (N - k) st bel J)) (fun _ _ i _ => N - (intOf i).toNat)
 case atStart => exact ⟨0, below, [], s1, Nat.zero_le _, rfl, rfl, hbl.1, hbl.2, hid rfl, ⟨rfl, .inl ⟨rfl, rfl⟩⟩, hid (by simp), HIN1, hid rfl⟩
 case round =>
  obtain ⟨k, bel, J, st, hk, rfl, rfl, hb0, hb1, hJl, hown, hJb, hin, hsp⟩ := hrel
  obtain ⟨av, cv, rfl⟩ := own_form hown
  have hJ9 : J.length ≤ 1000 := by have := hJl.out; omega
  rcases Nat.lt_or_ge k N with hlt2 | hge
  ·have HAT := hid (rd_at wr hin.out.rd)
   have HVR := hid (varint_read wr hin.out.rd (by omega))
   have hx := Rs.num_small (B := B) (s := st)
   have hxb := Rs.num_bad (B := B) (s := st)
   have hstep : Rs.falls B (N - k) st bel J = (if (st.num B).1.k = 0 then (if bel ≤ ((st.num B).2 : Int) then ((st.num B).1.fail 13 st.p, []) else Rs.falls B (N - (k + 1)) (st.num B).1 (bel - (st.num B).2 - 1) (J ++ [bel - (st.num B).2 - 1])) else ((st.num B).1, [])) := by
    rw [show N - k = (N - (k + 1)) + 1 by omega]; rfl
   have HO := hid hown
   have i1 : (k : Int) < (N : Int) := by omega
   have d1 : decide ((k : Int) < (N : Int)) = true := decide_eq_true i1
   have d1' : decide (k < N) = true := decide_eq_true hlt2
   generalize st.num B = R at *
   obtain ⟨st1, x⟩ := R
   dsimp only at *
   have HBAD := hid hxb
   clear hown hxb
   by_cases hk1 : st1.k = 0
   ·rw [if_pos hk1] at hstep
    by_cases hbx : bel ≤ (x : Int)
    ·rw [if_pos hbx] at hstep
     have d2 : decide (bel ≤ (x : Int)) = true := decide_eq_true hbx
     have hfk : (st1.fail 13 st.p).k ≠ 0 := Rs.fail_k (by omega)
     have HSP := hid (hsp.out.trans hstep)
     clear hstep hsp hk1
     go_wp2_with fail
     refine HAT.out.mono ?_
     rintro r w2 ⟨rfl, rfl⟩
     go_wp2_with fail
     refine HVR.out.mono ?_
     rintro r w3 ⟨rfl, hst3⟩
     have HIN3 := hid (hin.out.step hst3)
     clear hst3
     go_wp2_with fail
     refine (rd_fail w3 HIN3.out.rd 13 (st.p : Int) (by omega)).mono ?_
     rintro r w4 ⟨rfl, hst4⟩
     have HIN4 := hid (HIN3.out.step hst4)
     have hg := rd_good w4 HIN4.out.rd
     rw [decide_eq_false hfk] at hg
     have HG := hid hg
     clear hst4 hg hfk
     go_wp2_with fail
     refine HG.out.mono ?_
     rintro r w5 ⟨rfl, hb5⟩
     have HE := hid (HIN4.out.to.then hb5)
     go_wp2
     go_ret
     rw [HSP.out]
     exact ⟨_, rfl, rSl_mk (xs := []) rfl (Nat.le_refl _) (Nat.zero_le _) (.inl rfl), HE.out⟩
    ·rw [if_neg hbx] at hstep
     have d2 : decide (bel ≤ (x : Int)) = false := decide_eq_false hbx
     have HSP := hid (hsp.out.trans hstep)
     have w1' : 0 ≤ bel - ((x : Int) + 1) := by omega
     have w2' : (x : Int) + 1 ≤ 18446744073709551615 := by omega
     have hk1' : decide (st1.k = 0) = true := decide_eq_true hk1
     clear hstep hsp hk1
     go_wp2_with fail
     refine HAT.out.mono ?_
     rintro r w2 ⟨rfl, rfl⟩
     go_wp2_with fail
     refine HVR.out.mono ?_
     rintro r w3 ⟨rfl, hst3⟩
     have HIN3 := hid (hin.out.step hst3)
     have HO3 := hid (own_tch2 HO.out hlt hst3.2)
     have hg := rd_good w3 HIN3.out.rd
     rw [hk1'] at hg
     have HG := hid hg
     clear hst3 hg hk1'
     go_wp2_with fail
     refine HG.out.mono ?_
     rintro r w4 ⟨rfl, hb4⟩
     have HIN4 := hid (HIN3.out.step (RdStep.later HIN3.out.rd hb4))
     have HO4 := hid (own_below HO3.out hb4)
     have hsz4 := HIN4.out.tch.size
     clear hb4
     go_wp2_with (at_builtin; go_loud (refine wpList_append_src rfl _ _ _ rfl w.heap.size 22 i0 (.int .u64 0) 1 8 Tryz.underlying207 hi hz0 hz1 hz2 rfl (by decide) (.slice av J.length cv) J.length _ rfl (own_below HO4.out (by (repeat first | with_reducible (first | exact zR | assumption | apply zA | apply zS | apply zD | apply zN) | refine zT (by with_reducible assumption) ?_ | omega | simp <;> omega))) (some ⟨w4.heap.size, 0, none⟩) 1 1 [.int .u64 (bel - ((x : Int) + 1))] rfl (src_new1 _ 22 _ rfl (by simp) rfl) (by simp [Value.oneCell']) (by simp only [maxLen]; omega) (by omega) (by simp; omega) ?_; intro v' w5 hown5 hgrow5 hat5; obtain ⟨a5, c5, rfl⟩ := own_form hown5; have HO5 := hid hown5; have hb5 : Below w.heap.size w4 w5 := (Below.grown ((by (repeat first | with_reducible (first | exact zR | assumption | apply zA | apply zS | apply zD | apply zN) | refine zT (by with_reducible assumption) ?_ | omega | simp <;> omega) : Below w4.heap.size w4 _).mono hsz4) hgrow5 (by simp; omega) (fun g e => (HO4.out.lt g e).1)); clear hown5 hgrow5 hat5))
     have HIN5 := hid (HIN4.out.row hb5)
     have ho5 : w5.ownsRow w.heap.size 22 1 (.slice a5 (J.length + 1) c5) (J ++ [bel - ((x : Int) + 1)]).length (u64Cells (J ++ [bel - ((x : Int) + 1)])) := by
      have e : u64Cells (J ++ [bel - ((x : Int) + 1)]) = u64Cells J ++ [.int .u64 (bel - ((x : Int) + 1))] := by simp [u64Cells]
      rw [e, List.length_append]
      exact HO5.out
     have HO6 := hid ho5
     have HB6 : Hid (∀ y ∈ J ++ [bel - ((x : Int) + 1)], 0 ≤ y ∧ y ≤ 18446744073709551615) := hid (fun y hy => by
      rw [List.mem_append, List.mem_singleton] at hy
      rcases hy with hy | rfl
      ·exact hJb.out y hy
      ·omega)
     have HSP6 : Hid (Rs.falls B N s1 below [] = Rs.falls B (N - (k + 1)) st1 (bel - ((x : Int) + 1)) (J ++ [bel - ((x : Int) + 1)])) := hid (by rw [HSP.out, show bel - (x : Int) - 1 = bel - ((x : Int) + 1) by omega])
     clear ho5
     go_roundw
     case rel => exact ⟨k + 1, bel - ((x : Int) + 1), J ++ [bel - ((x : Int) + 1)], st1, by omega, by go_num, rfl, by omega, by omega, hid (by simp; exact hJl.out), HO6.out, HB6, HIN5, HSP6⟩
     case measure => simp [intOf]; omega
   ·rw [if_neg hk1] at hstep
    have HSP := hid (hsp.out.trans hstep)
    have hx0 := HBAD.out hk1
    subst hx0
    have hk1' : decide (st1.k = 0) = false := decide_eq_false hk1
    have hfid : st1.fail 13 st.p = st1 := Rs.fail_of_bad hk1
    clear hstep hsp hk1
    by_cases hbx : bel ≤ 0
    ·have d2 : decide (bel ≤ ((0 : Nat) : Int)) = true := decide_eq_true (by omega)
     have d2' : decide (bel ≤ 0) = true := decide_eq_true hbx
     go_wp2_with fail
     refine HAT.out.mono ?_
     rintro r w2 ⟨rfl, rfl⟩
     go_wp2_with fail
     refine HVR.out.mono ?_
     rintro r w3 ⟨rfl, hst3⟩
     have HIN3 := hid (hin.out.step hst3)
     clear hst3
     go_wp2_with fail
     refine (rd_fail w3 HIN3.out.rd 13 (st.p : Int) (by omega)).mono ?_
     rintro r w4 ⟨rfl, hst4⟩
     rw [hfid] at hst4
     have HIN4 := hid (HIN3.out.step hst4)
     have hg := rd_good w4 HIN4.out.rd
     rw [hk1'] at hg
     have HG := hid hg
     clear hst4 hg hk1' hfid
     go_wp2_with fail
     refine HG.out.mono ?_
     rintro r w5 ⟨rfl, hb5⟩
     have HE := hid (HIN4.out.to.then hb5)
     go_wp2
     go_ret
     rw [HSP.out]
     exact ⟨_, rfl, rSl_mk (xs := []) rfl (Nat.le_refl _) (Nat.zero_le _) (.inl rfl), HE.out⟩
    ·have d2 : decide (bel ≤ ((0 : Nat) : Int)) = false := decide_eq_false (by omega)
     have d2' : decide (bel ≤ 0) = false := decide_eq_false hbx
     go_wp2_with fail
     refine HAT.out.mono ?_
     rintro r w2 ⟨rfl, rfl⟩
     go_wp2_with fail
     refine HVR.out.mono ?_
     rintro r w3 ⟨rfl, hst3⟩
     have HIN3 := hid (hin.out.step hst3)
     have hg := rd_good w3 HIN3.out.rd
     rw [hk1'] at hg
     have HG := hid hg
     clear hst3 hg hk1' hfid
     go_wp2_with fail
     refine HG.out.mono ?_
     rintro r w5 ⟨rfl, hb5⟩
     have HE := hid (HIN3.out.to.then hb5)
     go_wp2
     go_ret
     rw [HSP.out]
     exact ⟨_, rfl, rSl_mk (xs := []) rfl (Nat.le_refl _) (Nat.zero_le _) (.inl rfl), HE.out⟩
  ·obtain rfl : k = N := by omega
   have d1 : decide ((k : Int) < (k : Int)) = false := decide_eq_false (by omega)
   have HSP : Hid (Rs.falls B k s1 below [] = (st, J)) := hid (by rw [hsp.out, Nat.sub_self]; rfl)
   have HV := hid (own_ints64 hJb.out rfl hown)
   have HE := hid hin.out.to
   clear hown hsp
   go_wp2
   go_ret
   rw [HSP.out]
   exact ⟨_, rfl, HV.out, HE.out⟩
end Go.Proofs.YtkipiefcnjfdjaaGreat
namespace Go.Proofs.YtkipiefcnjfdjaaGreat
open Go.RowKit Go.Bs Go.Maps
set_option linter.unusedVariables false
set_option linter.unusedSimpArgs false
set_option maxRecDepth 100000 in
set_option maxHeartbeats 3200000 in
theorem epoch_read_ep (w : World) {g : Nat} {B : List UInt8} {a : Option Addr} {s : Rs} (h : RdAt w g B a s) (hB : B.length ≤ 1000000000) :
  Calls Tryz.prog 208 #[.pointer (some ⟨g, 0, none⟩), .func (Fn.func 78) #[] #[]] w fun r w' => r = .returned (.int .u64 ((s.ep B).2 : Int)) ∧ RdStep w g B a (s.ep B).1 w' := by
 have HAT := hid (rd_at w h)
 have HVR := hid (varint_read w h (by omega))
 have hxb := Rs.num_bad (B := B) (s := s)
 have HIN := hid (RdInv.refl h)
 unfold Rs.ep
 generalize s.num B = R at *
 obtain ⟨st1, x⟩ := R
 dsimp only at *
 have HRT := hid (fun (W : World) => epoch_right (x : Int) W)
 have HBAD := hid hxb
 clear h hxb
 by_cases hk1 : st1.k = 0
 ·rw [if_pos hk1]
  by_cases hr : epR (x : Int) = true
  ·rw [if_pos hr]
   rw [hr] at HRT
   have HK : Hid (decide (st1.k = 0) = true) := hid (decide_eq_true hk1)
   clear hk1 hr
   go_enter Tryz.func208, Tryz.ntmps208
   go_wp2_with fail
   refine HAT.out.mono ?_
   rintro r w2 ⟨rfl, rfl⟩
   go_wp2_with fail
   refine HVR.out.mono ?_
   rintro r w3 ⟨rfl, hst3⟩
   have HIN3 := hid (HIN.out.step hst3)
   clear hst3
   go_wp2_with fail
   refine (HRT.out w3).mono ?_
   rintro r w3' ⟨rfl, rfl⟩
   go_wp2_with fail
   refine ((by have := rd_good w3 HIN3.out.rd; rw [HK.out] at this; exact this : Calls Tryz.prog 96 #[.pointer (some ⟨g, 0, none⟩)] w3 fun r w' => r = .returned (.bool true) ∧ Below w3.heap.size w3 w')).mono ?_
   rintro r w5 ⟨rfl, hb5⟩
   have HE := hid (HIN3.out.to.then hb5)
   go_wp2
   go_ret
   exact ⟨rfl, HE.out⟩
  ·rw [if_neg hr]
   rw [Bool.eq_false_iff.2 hr] at HRT
   have hfk : (st1.fail 3 s.p).k ≠ 0 := Rs.fail_k (by omega)
   clear hk1 hr
   go_enter Tryz.func208, Tryz.ntmps208
   go_wp2_with fail
   refine HAT.out.mono ?_
   rintro r w2 ⟨rfl, rfl⟩
   go_wp2_with fail
   refine HVR.out.mono ?_
   rintro r w3 ⟨rfl, hst3⟩
   have HIN3 := hid (HIN.out.step hst3)
   clear hst3
   go_wp2_with fail
   refine (HRT.out w3).mono ?_
   rintro r w3' ⟨rfl, rfl⟩
   go_wp2_with fail
   refine (rd_fail w3 HIN3.out.rd 3 (s.p : Int) (by omega)).mono ?_
   rintro r w4 ⟨rfl, hst4⟩
   have HIN4 := hid (HIN3.out.step hst4)
   have hg := rd_good w4 HIN4.out.rd
   rw [decide_eq_false hfk] at hg
   have HG := hid hg
   clear hst4 hg hfk
   go_wp2_with fail
   refine HG.out.mono ?_
   rintro r w5 ⟨rfl, hb5⟩
   have HE := hid (HIN4.out.to.then hb5)
   go_wp2
   go_ret
   exact ⟨rfl, HE.out⟩
 ·rw [if_neg hk1]
  have hx0 := HBAD.out hk1
  subst hx0
  have hfk : st1.k ≠ 0 := hk1
  have hfid : st1.fail 3 s.p = st1 := Rs.fail_of_bad hk1
  rw [show epR ((0 : Nat) : Int) = false from by decide] at HRT
  clear hk1
  go_enter Tryz.func208, Tryz.ntmps208
  go_wp2_with fail
  refine HAT.out.mono ?_
  rintro r w2 ⟨rfl, rfl⟩
  go_wp2_with fail
  refine HVR.out.mono ?_
  rintro r w3 ⟨rfl, hst3⟩
  have HIN3 := hid (HIN.out.step hst3)
  clear hst3
  go_wp2_with fail
  refine (HRT.out w3).mono ?_
  rintro r w3' ⟨rfl, rfl⟩
  go_wp2_with fail
  refine (rd_fail w3 HIN3.out.rd 3 (s.p : Int) (by omega)).mono ?_
  rintro r w4 ⟨rfl, hst4⟩
  rw [hfid] at hst4
  clear hfid
  have HIN4 := hid (HIN3.out.step hst4)
  have hg := rd_good w4 HIN4.out.rd
  rw [decide_eq_false hfk] at hg
  have HG := hid hg
  clear hst4 hg hfk
  go_wp2_with fail
  refine HG.out.mono ?_
  rintro r w5 ⟨rfl, hb5⟩
  have HE := hid (HIN4.out.to.then hb5)
  go_wp2
  go_ret
  exact ⟨rfl, HE.out⟩
theorem epoch_read (w : World) {g : Nat} {B : List UInt8} {a : Option Addr} {s : Rs} (h : RdAt w g B a s) (hB : B.length ≤ 1000000000) :
  Calls Tryz.prog 149 #[.pointer (some ⟨g, 0, none⟩)] w fun r w' => r = .returned (.int .u64 ((s.ep B).2 : Int)) ∧ RdStep w g B a (s.ep B).1 w' := by
 have HR := hid (epoch_read_ep w h hB)
 generalize s.ep B = R at *
 clear h
 go_enter Tryz.func149, Tryz.ntmps149
 go_wp2_with fail
 refine HR.out.mono ?_
 rintro r w1 ⟨rfl, hst⟩
 have HST := hid hst
 clear hst
 go_wp2
 go_ret
 exact ⟨rfl, HST.out⟩
set_option maxRecDepth 100000 in
set_option maxHeartbeats 3200000 in
theorem epoch_read_po (w : World) {g : Nat} {B : List UInt8} {a : Option Addr} {s : Rs} (h : RdAt w g B a s) (hB : B.length ≤ 1000000000) :
  Calls Tryz.prog 208 #[.pointer (some ⟨g, 0, none⟩), .func (Fn.func 132) #[] #[]] w fun r w' => r = .returned (.int .u64 ((s.po B).2 : Int)) ∧ RdStep w g B a (s.po B).1 w' := by
 have HAT := hid (rd_at w h)
 have HVR := hid (varint_read w h (by omega))
 have hxb := Rs.num_bad (B := B) (s := s)
 have HIN := hid (RdInv.refl h)
 unfold Rs.po
 generalize s.num B = R at *
 obtain ⟨st1, x⟩ := R
 dsimp only at *
 have HRT := hid (fun (W : World) => epoch_pos (x : Int) W)
 have HBAD := hid hxb
 clear h hxb
 by_cases hk1 : st1.k = 0
 ·rw [if_pos hk1]
  by_cases hr : poR (x : Int) = true
  ·rw [if_pos hr]
   rw [hr] at HRT
   have HK : Hid (decide (st1.k = 0) = true) := hid (decide_eq_true hk1)
   clear hk1 hr
   go_enter Tryz.func208, Tryz.ntmps208
   go_wp2_with fail
   refine HAT.out.mono ?_
   rintro r w2 ⟨rfl, rfl⟩
   go_wp2_with fail
   refine HVR.out.mono ?_
   rintro r w3 ⟨rfl, hst3⟩
   have HIN3 := hid (HIN.out.step hst3)
   clear hst3
   go_wp2_with fail
   refine (HRT.out w3).mono ?_
   rintro r w3' ⟨rfl, rfl⟩
   go_wp2_with fail
   refine ((by have := rd_good w3 HIN3.out.rd; rw [HK.out] at this; exact this : Calls Tryz.prog 96 #[.pointer (some ⟨g, 0, none⟩)] w3 fun r w' => r = .returned (.bool true) ∧ Below w3.heap.size w3 w')).mono ?_
   rintro r w5 ⟨rfl, hb5⟩
   have HE := hid (HIN3.out.to.then hb5)
   go_wp2
   go_ret
   exact ⟨rfl, HE.out⟩
  ·rw [if_neg hr]
   rw [Bool.eq_false_iff.2 hr] at HRT
   have hfk : (st1.fail 3 s.p).k ≠ 0 := Rs.fail_k (by omega)
   clear hk1 hr
   go_enter Tryz.func208, Tryz.ntmps208
   go_wp2_with fail
   refine HAT.out.mono ?_
   rintro r w2 ⟨rfl, rfl⟩
   go_wp2_with fail
   refine HVR.out.mono ?_
   rintro r w3 ⟨rfl, hst3⟩
   have HIN3 := hid (HIN.out.step hst3)
   clear hst3
   go_wp2_with fail
   refine (HRT.out w3).mono ?_
   rintro r w3' ⟨rfl, rfl⟩
   go_wp2_with fail
   refine (rd_fail w3 HIN3.out.rd 3 (s.p : Int) (by omega)).mono ?_
   rintro r w4 ⟨rfl, hst4⟩
   have HIN4 := hid (HIN3.out.step hst4)
   have hg := rd_good w4 HIN4.out.rd
   rw [decide_eq_false hfk] at hg
   have HG := hid hg
   clear hst4 hg hfk
   go_wp2_with fail
   refine HG.out.mono ?_
   rintro r w5 ⟨rfl, hb5⟩
   have HE := hid (HIN4.out.to.then hb5)
   go_wp2
   go_ret
   exact ⟨rfl, HE.out⟩
 ·rw [if_neg hk1]
  have hx0 := HBAD.out hk1
  subst hx0
  have hfk : st1.k ≠ 0 := hk1
  have hfid : st1.fail 3 s.p = st1 := Rs.fail_of_bad hk1
  rw [show poR ((0 : Nat) : Int) = true from by decide] at HRT
  clear hk1
  go_enter Tryz.func208, Tryz.ntmps208
  go_wp2_with fail
  refine HAT.out.mono ?_
  rintro r w2 ⟨rfl, rfl⟩
  go_wp2_with fail
  refine HVR.out.mono ?_
  rintro r w3 ⟨rfl, hst3⟩
  have HIN3 := hid (HIN.out.step hst3)
  clear hst3
  go_wp2_with fail
  refine (HRT.out w3).mono ?_
  rintro r w3' ⟨rfl, rfl⟩
  go_wp2_with fail
  refine ((by have := rd_good w3 HIN3.out.rd; rw [decide_eq_false hfk] at this; exact this : Calls Tryz.prog 96 #[.pointer (some ⟨g, 0, none⟩)] w3 fun r w' => r = .returned (.bool false) ∧ Below w3.heap.size w3 w')).mono ?_
  rintro r w5 ⟨rfl, hb5⟩
  have HE := hid (HIN3.out.to.then hb5)
  clear hfk hfid
  go_wp2
  go_ret
  exact ⟨rfl, HE.out⟩
theorem epoch_readpos (w : World) {g : Nat} {B : List UInt8} {a : Option Addr} {s : Rs} (h : RdAt w g B a s) (hB : B.length ≤ 1000000000) :
  Calls Tryz.prog 150 #[.pointer (some ⟨g, 0, none⟩)] w fun r w' => r = .returned (.int .u64 ((s.po B).2 : Int)) ∧ RdStep w g B a (s.po B).1 w' := by
 have HR := hid (epoch_read_po w h hB)
 generalize s.po B = R at *
 clear h
 go_enter Tryz.func150, Tryz.ntmps150
 go_wp2_with fail
 refine HR.out.mono ?_
 rintro r w1 ⟨rfl, hst⟩
 have HST := hid hst
 clear hst
 go_wp2
 go_ret
 exact ⟨rfl, HST.out⟩
end Go.Proofs.YtkipiefcnjfdjaaGreat
namespace Go.Proofs.YtkipiefcnjfdjaaGreat
open Go.RowKit Go.Bs Go.Maps
set_option linter.unusedVariables false
set_option linter.unusedSimpArgs false
theorem OwnEls.tch3 {w w' : World} {α : Type} {lo g : Nat} {A : Rp α} {e : TypeId} {sz : Nat} {v : Value} {xs : List α} (h : OwnEls lo A lo e sz w v xs) (hb : Tch (fun b => b = g ∨ w.heap.size ≤ b) w w') (hg : g < lo) : OwnEls lo A lo e sz w' v xs := by
 have hk : ∀ b, lo ≤ b → b < w.heap.size → w'.heap[b]? = w.heap[b]? := fun b h1 h2 => hb.block b h2 (by omega)
 obtain ⟨cells, ho, hlen, hsz, hA⟩ := h
 refine ⟨cells, ⟨ho.1, ?_⟩, hlen, hsz, fun i cs x hi hx => A.mono (A.keep (hA i cs x hi hx) fun b h => hk b h.1 h.2.1) fun b h => ⟨h.1, Nat.lt_of_lt_of_le h.2.1 hb.size, h.2.2⟩⟩
 rcases ho.2 with h0 | ⟨g', cap, cur, h1, h2, h3, h4⟩
 ·exact .inl h0
 ·exact .inr ⟨g', cap, cur, h1, h2, (hk _ h2 (Blk.lt h3)).trans h3, h4⟩
theorem OwnEls.form {w : World} {α : Type} {lo base : Nat} {A : Rp α} {e : TypeId} {sz : Nat} {v : Value} {xs : List α} (h : OwnEls lo A base e sz w v xs) : ∃ a c, v = .slice a xs.length c := by
 obtain ⟨cells, h1, _⟩ := h
 exact own_form h1
theorem not_u64 {z : Int} (h : 0 ≤ z ∧ z ≤ 18446744073709551615) : bits BinOp.xor IntKind.u64 IntKind.u64.max z = 18446744073709551615 - z := by
 obtain ⟨a, rfl⟩ := Int.eq_ofNat_of_zero_le h.1
 have ha : a < 18446744073709551616 := by omega
 have e : IntKind.u64.max = ((18446744073709551615 : Nat) : Int) := rfl
 rw [e, bits_xor_u64_nat _ _ (by decide) ha]
 have h1 : 18446744073709551615 ^^^ a = 18446744073709551615 - a := by
  have h2 := BitVec.toNat_not (x := BitVec.ofNat 64 a)
  rw [BitVec.not_def, BitVec.toNat_xor, BitVec.toNat_allOnes, BitVec.toNat_ofNat, Nat.mod_eq_of_lt (by omega)] at h2
  exact h2
 rw [h1]
 omega
set_option maxRecDepth 100000 in
set_option maxHeartbeats 6400000 in
theorem link_read (w : World) {g : Nat} {B : List UInt8} {a : Option Addr} {s : Rs} (h : RdAt w g B a s) (hB : B.length ≤ 1000000000) (pos : Int) (hpos : 0 ≤ pos ∧ pos ≤ 18446744073709551615) :
  Calls Tryz.prog 253 #[.pointer (some ⟨g, 0, none⟩), .int .u64 pos] w fun r w' => ∃ v, r = .returned v ∧ rLinksW.r (Fresh w w') w' [v] (s.links B pos).2 ∧ RdStep w g B a (s.links B pos).1 w' := by
 obtain ⟨i0, hi, hz0, hz1, hz2⟩ := info_parts infoLink
 have HI := hid (varint_int w h (by omega) 16 (by omega))
 have hNm := Rs.int_le (B := B) (s := s) (m := 16)
 have hlt := h.blk.lt
 have HIN := hid (RdInv.refl h)
 unfold Rs.links
 generalize s.int B 16 = I at *
 obtain ⟨s1, N⟩ := I
 dsimp only at *
 have hN : N ≤ 16 := by omega
 clear h
 go_enter Tryz.func253, Tryz.ntmps253
 go_wp2_with fail
 refine HI.out.mono ?_
 rintro r w1 ⟨rfl, hst⟩
 have HIN1 := hid (HIN.out.step hst)
 clear hst
 go_wp2_with fail
 go_loopw [5, 12] (fun v i wr => ∃ (k : Nat) (J : List Link) (st : Rs), k ≤ N ∧ i = .int .i64 k ∧ Hid (J.length = k) ∧ OwnEls w.heap.size rLink w.heap.size 209 2 wr v J ∧ Hid (∀ x ∈ J, 0 ≤ x.stream ∧ x.stream ≤ 18446744073709551615) ∧ Hid (RdInv w wr g B a st) ∧ Hid (Rs.linksF B pos N s1 none [] = Rs.linksF B pos (N - k) st (J.getLast?.map Link.stream) J)) (fun _ i _ => N - (intOf i).toNat)
 case atStart => exact ⟨0, [], s1, Nat.zero_le _, rfl, hid rfl, OwnEls.nil, hid (by simp), HIN1, hid rfl⟩
 case round =>
  obtain ⟨k, J, st, hk, rfl, hJl, hown, hJb, hin, hsp⟩ := hrel
  obtain ⟨av, cv, rfl⟩ := OwnEls.form hown
  rcases Nat.lt_or_ge k N with hlt2 | hge
  ·have HAT := hid (rd_at wr hin.out.rd)
   have HVR := hid (varint_read wr hin.out.rd (by omega))
   have hx := Rs.num_small (B := B) (s := st)
   have hsz0 := hin.out.tch.size
   have i1 : (k : Int) < (N : Int) := by omega
   have d1 : decide ((k : Int) < (N : Int)) = true := decide_eq_true i1
   have d1' : decide (k < N) = true := decide_eq_true hlt2
   have HO := hid hown
   clear hown
   have hJ16 : J.length ≤ 16 := by have := hJl.out; omega
   by_cases hJe : J = []
   ·have hstep : Rs.linksF B pos (N - k) st (J.getLast?.map Link.stream) J = (if ((st.num B).1.delta B pos 4).1.k = 0 then Rs.linksF B pos (N - (k + 1)) ((st.num B).1.delta B pos 4).1 (some ((st.num B).2 : Int)) (J ++ [⟨((st.num B).2 : Int), ((st.num B).1.delta B pos 4).2⟩]) else (((st.num B).1.delta B pos 4).1, [])) := by
     rw [show N - k = (N - (k + 1)) + 1 by omega, hJe]; rfl
    have hk0 : k = 0 := by have := hJl.out; rw [hJe] at this; simpa using this.symm
    subst hk0
    clear hJe
    generalize st.num B = R at *
    obtain ⟨st1, x⟩ := R
    dsimp only at *
    have hxb : (0 : Int) ≤ (x : Int) ∧ (x : Int) ≤ 18446744073709551615 := by omega
    have HD := hid (fun (W : World) (hW : RdAt W g B a st1) => delta_read W hW hB pos hpos 4 (by omega))
    generalize st1.delta B pos 4 = D at *
    obtain ⟨s6, bk⟩ := D
    dsimp only at *
    go_wp2_with fail
    refine HAT.out.mono ?_
    rintro r w2 ⟨rfl, rfl⟩
    go_wp2_with fail
    refine HVR.out.mono ?_
    rintro r w3 ⟨rfl, hst3⟩
    have HIN3 := hid (hin.out.step hst3)
    have HO3 := hid (OwnEls.tch3 HO.out (hst3.2.mono fun b hb e => .inl e) hlt)
    have hsz3 := HIN3.out.tch.size
    clear hst3
    go_wp2_with fail
    refine (HD.out _ (HIN3.out.row ((by (repeat first | with_reducible (first | exact zR | assumption | apply zA | apply zS | apply zD | apply zN) | refine zT (by with_reducible assumption) ?_ | omega | simp <;> omega) : Below w3.heap.size w3 _).mono hsz3)).rd).mono ?_
    rintro r w6 ⟨v6, rfl, hv6, hst6⟩
    obtain ⟨a6, c6, hfv, _, _⟩ := sl_form hv6
    simp only [List.cons.injEq, and_true] at hfv
    subst hfv
    have BK6 : Blk w6 w3.heap.size 209 #[.int .u64 (x : Int), .slice none 0 0] := Blk.tch (by (repeat first | assumption | exact kW (by first | (simp; done) | (simp; omega)) | apply kA | apply kD | apply kN | apply kF | simp <;> omega)) hst6.2 (by omega)
    have HIN6 := hid ((HIN3.out.row ((by (repeat first | with_reducible (first | exact zR | assumption | apply zA | apply zS | apply zD | apply zN) | refine zT (by with_reducible assumption) ?_ | omega | simp <;> omega) : Below w3.heap.size w3 _).mono hsz3)).step hst6)
    have HK6 : Hid (Tch (fun b => b = g ∨ w3.heap.size ≤ b) w3 w6) := hid ((Tch.of_below (by (repeat first | with_reducible (first | exact zR | assumption | apply zA | apply zS | apply zD | apply zN) | refine zT (by with_reducible assumption) ?_ | omega | simp <;> omega) : Below w3.heap.size w3 _)).mono (fun b hb e => .inr e) |>.trans hst6.2 (fun b hb e => .inl e))
    by_cases hk6 : s6.k = 0
    ·rw [if_pos hk6] at hstep
     have HSP := hid (hsp.out.trans hstep)
     have HG := hid (fun (W : World) (hW : RdAt W g B a s6) => (by have := rd_good W hW; rw [decide_eq_true hk6] at this; exact this : Calls Tryz.prog 96 #[.pointer (some ⟨g, 0, none⟩)] W fun r w' => r = .returned (.bool true) ∧ Below W.heap.size W w'))
     obtain ⟨y0, y1, f0, f1, hl6⟩ := f_blk BK6
     have HV6 := hid hv6
     have hq6 := hst6.2.size
     simp at hq6
     clear hsp hstep hk6 hv6 hst6
     go_wp2_with fail
     refine (HG.out _ (HIN6.out.row ((by (repeat first | with_reducible (first | exact zR | assumption | apply zA | apply zS | apply zD | apply zN) | refine zT (by with_reducible assumption) ?_ | omega | simp <;> omega) : Below w3.heap.size w6 _).mono hsz3)).rd).mono ?_
     rintro r w7 ⟨rfl, hb7⟩
     have B7 : Blk w7 w3.heap.size 209 #[.int .u64 (x : Int), .slice a6 bk.length c6] := Blk.later (BK6.set 1 _) hb7
     obtain ⟨z0, z1, _, _, hl7⟩ := f_blk B7
     have hb67 : Below w3.heap.size w6 w7 := (by (repeat first | with_reducible (first | exact zR | assumption | apply zA | apply zS | apply zD | apply zN) | refine zT (by with_reducible assumption) ?_ | omega | simp <;> omega) : Below w3.heap.size w6 (w6.setCell ⟨w3.heap.size, 1, none⟩ (.slice a6 bk.length c6))).trans (hb7.mono (by simp; omega))
     have HIN7 := hid (HIN6.out.row (hb67.mono hsz3))
     have hsz7 := HIN7.out.tch.size
     have hk7 : Tch (fun b => b = g ∨ w3.heap.size ≤ b) w3 w7 := HK6.out.trans (Tch.of_below hb67) (fun b hb hle => .inr hle)
     have O7 := OwnEls.tch3 HO3.out hk7 hlt
     obtain ⟨cells0, OA0⟩ := HO3.out
     have hlt0 : ∀ g', (Value.slice av J.length cv).ownBlock = some g' → g' < w3.heap.size := fun g' e => (OA0.1.lt g' e).2
     obtain ⟨cells, OA⟩ := OwnEls.below O7 (show Below w7.heap.size w7 (w7.alloc (.cells #[.int .u64 (x : Int), .slice a6 bk.length c6] 209)) from by (repeat first | with_reducible (first | exact zR | assumption | apply zA | apply zS | apply zD | apply zN) | refine zT (by with_reducible assumption) ?_ | omega | simp <;> omega))
     have hk8 : ∀ b, w3.heap.size + 1 ≤ b → b < w6.heap.size → (w7.alloc (.cells #[.int .u64 (x : Int), .slice a6 bk.length c6] 209)).heap[b]? = w6.heap[b]? := fun b h1 h2 => (Below.heap_alloc w7 _ b (by have := hb67.size; omega)).trans ((hb7.block b (by simpa using h2)).trans (Below.heap_setCell _ _ _ _ (by dsimp only; omega)))
     have hv8 := rU64s.keep (w' := (w7.alloc (.cells #[.int .u64 (x : Int), .slice a6 bk.length c6] 209))) HV6.out (fun b (hb : (w3.alloc (.cells #[.int .u64 (x : Int), .slice none 0 0] 209)).heap.size ≤ b ∧ b < w6.heap.size) => hk8 b (by have := hb.1; simp at this; omega) hb.2)
     have hx8 : rLink.r (fun b => w.heap.size ≤ b ∧ b < (w7.alloc (.cells #[.int .u64 (x : Int), .slice a6 bk.length c6] 209)).heap.size ∧ (Value.slice av J.length cv).ownBlock ≠ some b) (w7.alloc (.cells #[.int .u64 (x : Int), .slice a6 bk.length c6] 209)) [.int .u64 (x : Int), .slice a6 bk.length c6] ⟨(x : Int), bk⟩ := by
      refine link_mk (x := ⟨(x : Int), bk⟩) hxb (rU64s.mono hv8 fun b hb => ?_)
      have h1 := hb.1
      have h2 := hb.2
      have h3 := hb67.size
      simp at h1
      refine ⟨by omega, by simp; omega, fun e => ?_⟩
      have := hlt0 b e
      omega
     have HX := hid hx8
     have HA := hid OA
     have HS9 : Hid (w.heap.size ≤ (w7.alloc (.cells #[.int .u64 (x : Int), .slice a6 bk.length c6] 209)).heap.size) := hid (by simp; omega)
     clear hx8 hv8 OA OA0 hlt0 hk8 O7 hk7 hb67 hb7 B7 y0 y1 f0 f1 HV6
     go_wp2_with (at_builtin; go_loud (refine wpList_append_src rfl _ _ _ rfl w.heap.size 209 i0 (.agg #[.int .u64 0, .slice none 0 0]) 2 32 Tryz.underlying73 hi hz0 hz1 hz2 rfl (by decide) (.slice av J.length cv) J.length _ rfl HA.out.1 (some ⟨w7.heap.size, 0, none⟩) 1 1 [.int .u64 (x : Int), .slice a6 bk.length c6] rfl (src_new1 w7 209 _ rfl rfl rfl) (by intro u hu; simp at hu; rcases hu with rfl | rfl <;> rfl) (by simp only [maxLen]; omega) (by omega) HS9.out ?_; intro v1 w9 hown1 hgrow1 hat1; have OP := hid (OwnEls.push HA.out rfl HX.out hown1 hgrow1 hat1 hgrow1.size); have hb9 : Below w.heap.size w7 w9 := (Below.grown ((by (repeat first | with_reducible (first | exact zR | assumption | apply zA | apply zS | apply zD | apply zN) | refine zT (by with_reducible assumption) ?_ | omega | simp <;> omega) : Below w7.heap.size w7 _).mono hsz7) hgrow1 HS9.out (fun g e => (HA.out.1.lt g e).1)); clear hown1 hgrow1 hat1))
     have HIN9 := hid (HIN7.out.row hb9)
     have HJ9 : Hid (∀ y ∈ J ++ [(⟨(x : Int), bk⟩ : Link)], 0 ≤ y.stream ∧ y.stream ≤ 18446744073709551615) := hid (fun y hy => by
      rw [List.mem_append, List.mem_singleton] at hy
      rcases hy with hy | rfl
      ·exact hJb.out y hy
      ·exact hxb)
     go_roundw
     case rel => exact ⟨0 + 1, J ++ [⟨(x : Int), bk⟩], s6, by omega, by go_num, hid (by rw [List.length_append, hJl.out]; rfl), OP.out, HJ9, HIN9, hid (by rw [HSP.out]; simp)⟩
     case measure => simp [intOf]; omega
    ·rw [if_neg hk6] at hstep
     have HSP := hid (hsp.out.trans hstep)
     have HG := hid (fun (W : World) (hW : RdAt W g B a s6) => (by have := rd_good W hW; rw [decide_eq_false hk6] at this; exact this : Calls Tryz.prog 96 #[.pointer (some ⟨g, 0, none⟩)] W fun r w' => r = .returned (.bool false) ∧ Below W.heap.size W w'))
     obtain ⟨y0, y1, f0, f1, hl6⟩ := f_blk BK6
     clear hsp hstep hk6 hv6
     go_wp2_with fail
     refine (HG.out _ (HIN6.out.row ((by (repeat first | with_reducible (first | exact zR | assumption | apply zA | apply zS | apply zD | apply zN) | refine zT (by with_reducible assumption) ?_ | omega | simp <;> omega) : Below w3.heap.size w6 _).mono hsz3)).rd).mono ?_
     rintro r w7 ⟨rfl, hb7⟩
     have hb67 : Below w3.heap.size w6 w7 := (by (repeat first | with_reducible (first | exact zR | assumption | apply zA | apply zS | apply zD | apply zN) | refine zT (by with_reducible assumption) ?_ | omega | simp <;> omega) : Below w3.heap.size w6 (w6.setCell ⟨w3.heap.size, 1, none⟩ (.slice a6 bk.length c6))).trans (hb7.mono (by simp; omega))
     have HE := hid (HIN6.out.row (hb67.mono hsz3)).to
     clear hb7
     go_wp2
     go_ret
     rw [HSP.out]
     exact ⟨.slice none 0 0, rfl, OwnEls.sliceW (e := 0) (Nat.le_refl _) OwnEls.nil, HE.out⟩
   ·obtain ⟨m, rfl⟩ : ∃ m, k = m + 1 := ⟨k - 1, by
     have := hJl.out
     have : J.length ≠ 0 := fun e => hJe (List.eq_nil_of_length_eq_zero e)
     omega⟩
    have hmJ : m < J.length := by have := hJl.out; omega
    have hlast : J.getLast?.map Link.stream = some J[m].stream := by
     have := hJl.out
     rw [List.getLast?_eq_getElem?, this, Nat.add_sub_cancel, List.getElem?_eq_getElem hmJ]
     rfl
    have hzb := hJb.out J[m] (List.getElem_mem hmJ)
    obtain ⟨bq, o, hA, hbb, a1, c1, hc0, hc1, hst, hd⟩ := link_at (OwnEls.slice (Nat.le_refl _) HO.out) hmJ
    subst hA
    have hbg : bq ≠ g := by have := hbb.1; omega
    have hbr : bq < wr.heap.size := hbb.2
    have hstep : Rs.linksF B pos (N - (m + 1)) st (J.getLast?.map Link.stream) J = (if ((st.stream B (some J[m].stream)).1.delta B pos 4).1.k = 0 then Rs.linksF B pos (N - (m + 1 + 1)) ((st.stream B (some J[m].stream)).1.delta B pos 4).1 (some (st.stream B (some J[m].stream)).2) (J ++ [⟨(st.stream B (some J[m].stream)).2, ((st.stream B (some J[m].stream)).1.delta B pos 4).2⟩]) else (((st.stream B (some J[m].stream)).1.delta B pos 4).1, [])) := by
     rw [hlast, show N - (m + 1) = (N - (m + 1 + 1)) + 1 by omega]; rfl
    clear hlast hd hc1 hbb
    generalize J[m] = z at *
    have i1' : (m : Int) + 1 < (N : Int) := by omega
    have i2 : (m : Int) < (J.length : Int) := by omega
    have d2 : decide ((m : Int) + 1 < (N : Int)) = true := decide_eq_true i1'
    have e1 := not_u64 hzb
    have hsg : IntKind.u64.signed = false := rfl
    by_cases hf : 18446744073709551615 - z.stream ≤ ((st.num B).2 : Int)
    ·have hS : (st.stream B (some z.stream)).1 = (st.num B).1.fail 13 st.p := by
      simp only [Rs.stream]
      rw [if_pos hf]
     have hbad : ((st.stream B (some z.stream)).1.delta B pos 4).1.k ≠ 0 := fun e => (Rs.fail_k (s := (st.num B).1) (c := 13) (at_ := (st.p : Int)) (by omega)) (by rw [← hS]; exact (Rs.delta_canon (Rs.stream_ok hin.out.rd.ok) hpos.2 e).2.2.2.2)
     rw [if_neg hbad, hS] at hstep
     rw [hS] at hbad
     clear hS
     generalize st.num B = R at *
     obtain ⟨st1, x⟩ := R
     dsimp only at *
     have d4 : decide (bits BinOp.xor IntKind.u64 IntKind.u64.max z.stream ≤ (x : Int)) = true := by rw [e1]; exact decide_eq_true hf
     clear hf e1
     have HD := hid (fun (W : World) (hW : RdAt W g B a (st1.fail 13 (st.p : Int))) => delta_read W hW hB pos hpos 4 (by omega))
     generalize (st1.fail 13 (st.p : Int)).delta B pos 4 = D at *
     obtain ⟨s6, bk⟩ := D
     dsimp only at *
     go_wp2_with fail
     refine HAT.out.mono ?_
     rintro r w2 ⟨rfl, rfl⟩
     go_wp2_with fail
     refine HVR.out.mono ?_
     rintro r w3 ⟨rfl, hst3⟩
     have HIN3 := hid (hin.out.step hst3)
     have HO3 := hid (OwnEls.tch3 HO.out (hst3.2.mono fun b hb e => .inl e) hlt)
     have hsz3 := HIN3.out.tch.size
     have X0 := (hst3.2.cell (p := ⟨bq, o + m * 2, none⟩) hbr hbg).trans hc0
     have hb3 : bq < w3.heap.size := Nat.lt_of_lt_of_le hbr hst3.2.size
     clear hst3 hc0
     go_wp2_with fail
     refine (rd_fail _ (HIN3.out.row ((by (repeat first | with_reducible (first | exact zR | assumption | apply zA | apply zS | apply zD | apply zN) | refine zT (by with_reducible assumption) ?_ | omega | simp <;> omega) : Below w3.heap.size w3 _).mono hsz3)).rd 13 (st.p : Int) (by omega)).mono ?_
     rintro r w4 ⟨rfl, hst4⟩
     have B4 : Blk w4 w3.heap.size 209 #[.int .u64 (x : Int), .slice none 0 0] := Blk.tch (by (repeat first | assumption | exact kW (by first | (simp; done) | (simp; omega)) | apply kA | apply kD | apply kN | apply kF | simp <;> omega)) hst4.2 (by omega)
     have HIN4 := hid ((HIN3.out.row ((by (repeat first | with_reducible (first | exact zR | assumption | apply zA | apply zS | apply zD | apply zN) | refine zT (by with_reducible assumption) ?_ | omega | simp <;> omega) : Below w3.heap.size w3 _).mono hsz3)).step hst4)
     have hsz4 := hst4.2.size
     obtain ⟨q0, q1, e0, e1, l4⟩ := f_blk B4
     clear hst4
     go_wp2_with fail
     refine (HD.out _ (HIN4.out.row ((by (repeat first | with_reducible (first | exact zR | assumption | apply zA | apply zS | apply zD | apply zN) | refine zT (by with_reducible assumption) ?_ | omega | simp <;> omega) : Below w3.heap.size w4 _).mono hsz3)).rd).mono ?_
     rintro r w6 ⟨v6, rfl, hv6, hst6⟩
     obtain ⟨a6, c6, hfv, _, _⟩ := sl_form hv6
     simp only [List.cons.injEq, and_true] at hfv
     subst hfv
     have BK6 : Blk w6 w3.heap.size 209 #[_, .slice none 0 0] := Blk.tch (B4.set 0 _) hst6.2 (by omega)
     have HIN6 := hid ((HIN4.out.row ((by (repeat first | with_reducible (first | exact zR | assumption | apply zA | apply zS | apply zD | apply zN) | refine zT (by with_reducible assumption) ?_ | omega | simp <;> omega) : Below w3.heap.size w4 _).mono hsz3)).step hst6)
     have HSP := hid (hsp.out.trans hstep)
     have HG := hid (fun (W : World) (hW : RdAt W g B a s6) => (by have := rd_good W hW; rw [decide_eq_false hbad] at this; exact this : Calls Tryz.prog 96 #[.pointer (some ⟨g, 0, none⟩)] W fun r w' => r = .returned (.bool false) ∧ Below W.heap.size W w'))
     obtain ⟨y0, y1, f0, f1, hl6⟩ := f_blk BK6
     clear hsp hstep hbad hv6 B4 q0 q1 e0 e1 l4
     go_wp2_with fail
     refine (HG.out _ (HIN6.out.row ((by (repeat first | with_reducible (first | exact zR | assumption | apply zA | apply zS | apply zD | apply zN) | refine zT (by with_reducible assumption) ?_ | omega | simp <;> omega) : Below w3.heap.size w6 _).mono hsz3)).rd).mono ?_
     rintro r w7 ⟨rfl, hb7⟩
     have hb67 : Below w3.heap.size w6 w7 := (by (repeat first | with_reducible (first | exact zR | assumption | apply zA | apply zS | apply zD | apply zN) | refine zT (by with_reducible assumption) ?_ | omega | simp <;> omega) : Below w3.heap.size w6 (w6.setCell ⟨w3.heap.size, 1, none⟩ (.slice a6 bk.length c6))).trans (hb7.mono (by simp; omega))
     have HE := hid (HIN6.out.row (hb67.mono hsz3)).to
     clear hb7
     go_wp2
     go_ret
     rw [HSP.out]
     exact ⟨.slice none 0 0, rfl, OwnEls.sliceW (e := 0) (Nat.le_refl _) OwnEls.nil, HE.out⟩
    ·have hS : st.stream B (some z.stream) = ((st.num B).1, ((st.num B).2 : Int) + (z.stream + 1)) := by
      simp only [Rs.stream]
      rw [if_neg hf, Int.add_assoc]
     rw [hS] at hstep
     clear hS
     generalize st.num B = R at *
     obtain ⟨st1, x⟩ := R
     dsimp only at *
     have hxb : (0 : Int) ≤ (x : Int) + (z.stream + 1) ∧ (x : Int) + (z.stream + 1) ≤ 18446744073709551615 := by omega
     have d4 : decide (bits BinOp.xor IntKind.u64 IntKind.u64.max z.stream ≤ (x : Int)) = false := by rw [e1]; exact decide_eq_false hf
     have v1 : 0 ≤ z.stream + 1 := by omega
     have v2 : z.stream + 1 ≤ 18446744073709551615 := by omega
     have v3 := hxb.1
     have v4 := hxb.2
     clear hf e1
     have HD := hid (fun (W : World) (hW : RdAt W g B a st1) => delta_read W hW hB pos hpos 4 (by omega))
     generalize st1.delta B pos 4 = D at *
     obtain ⟨s6, bk⟩ := D
     dsimp only at *
     go_wp2_with fail
     refine HAT.out.mono ?_
     rintro r w2 ⟨rfl, rfl⟩
     go_wp2_with fail
     refine HVR.out.mono ?_
     rintro r w3 ⟨rfl, hst3⟩
     have HIN3 := hid (hin.out.step hst3)
     have HO3 := hid (OwnEls.tch3 HO.out (hst3.2.mono fun b hb e => .inl e) hlt)
     have hsz3 := HIN3.out.tch.size
     have X0 := (hst3.2.cell (p := ⟨bq, o + m * 2, none⟩) hbr hbg).trans hc0
     have hb3 : bq < w3.heap.size := Nat.lt_of_lt_of_le hbr hst3.2.size
     clear hst3 hc0
     go_wp2_with fail
     refine (HD.out _ (HIN3.out.row ((by (repeat first | with_reducible (first | exact zR | assumption | apply zA | apply zS | apply zD | apply zN) | refine zT (by with_reducible assumption) ?_ | omega | simp <;> omega) : Below w3.heap.size w3 _).mono hsz3)).rd).mono ?_
     rintro r w6 ⟨v6, rfl, hv6, hst6⟩
     obtain ⟨a6, c6, hfv, _, _⟩ := sl_form hv6
     simp only [List.cons.injEq, and_true] at hfv
     subst hfv
     have BK6 : Blk w6 w3.heap.size 209 #[.int .u64 ((x : Int) + (z.stream + 1)), .slice none 0 0] := Blk.tch (by (repeat first | assumption | exact kW (by first | (simp; done) | (simp; omega)) | apply kA | apply kD | apply kN | apply kF | simp <;> omega)) hst6.2 (by omega)
     have HIN6 := hid ((HIN3.out.row ((by (repeat first | with_reducible (first | exact zR | assumption | apply zA | apply zS | apply zD | apply zN) | refine zT (by with_reducible assumption) ?_ | omega | simp <;> omega) : Below w3.heap.size w3 _).mono hsz3)).step hst6)
     have HK6 : Hid (Tch (fun b => b = g ∨ w3.heap.size ≤ b) w3 w6) := hid ((Tch.of_below (by (repeat first | with_reducible (first | exact zR | assumption | apply zA | apply zS | apply zD | apply zN) | refine zT (by with_reducible assumption) ?_ | omega | simp <;> omega) : Below w3.heap.size w3 _)).mono (fun b hb e => .inr e) |>.trans hst6.2 (fun b hb e => .inl e))
     by_cases hk6 : s6.k = 0
     ·rw [if_pos hk6] at hstep
      have HSP := hid (hsp.out.trans hstep)
      have HG := hid (fun (W : World) (hW : RdAt W g B a s6) => (by have := rd_good W hW; rw [decide_eq_true hk6] at this; exact this : Calls Tryz.prog 96 #[.pointer (some ⟨g, 0, none⟩)] W fun r w' => r = .returned (.bool true) ∧ Below W.heap.size W w'))
      obtain ⟨y0, y1, f0, f1, hl6⟩ := f_blk BK6
      have HV6 := hid hv6
      have hq6 := hst6.2.size
      simp at hq6
      clear hsp hstep hk6 hv6 hst6
      go_wp2_with fail
      refine (HG.out _ (HIN6.out.row ((by (repeat first | with_reducible (first | exact zR | assumption | apply zA | apply zS | apply zD | apply zN) | refine zT (by with_reducible assumption) ?_ | omega | simp <;> omega) : Below w3.heap.size w6 _).mono hsz3)).rd).mono ?_
      rintro r w7 ⟨rfl, hb7⟩
      have B7 : Blk w7 w3.heap.size 209 #[.int .u64 ((x : Int) + (z.stream + 1)), .slice a6 bk.length c6] := Blk.later (BK6.set 1 _) hb7
      obtain ⟨z0, z1, _, _, hl7⟩ := f_blk B7
      have hb67 : Below w3.heap.size w6 w7 := (by (repeat first | with_reducible (first | exact zR | assumption | apply zA | apply zS | apply zD | apply zN) | refine zT (by with_reducible assumption) ?_ | omega | simp <;> omega) : Below w3.heap.size w6 (w6.setCell ⟨w3.heap.size, 1, none⟩ (.slice a6 bk.length c6))).trans (hb7.mono (by simp; omega))
      have HIN7 := hid (HIN6.out.row (hb67.mono hsz3))
      have hsz7 := HIN7.out.tch.size
      have hk7 : Tch (fun b => b = g ∨ w3.heap.size ≤ b) w3 w7 := HK6.out.trans (Tch.of_below hb67) (fun b hb hle => .inr hle)
      have O7 := OwnEls.tch3 HO3.out hk7 hlt
      obtain ⟨cells0, OA0⟩ := HO3.out
      have hlt0 : ∀ g', (Value.slice (some ⟨bq, o, none⟩) J.length cv).ownBlock = some g' → g' < w3.heap.size := fun g' e => (OA0.1.lt g' e).2
      obtain ⟨cells, OA⟩ := OwnEls.below O7 (show Below w7.heap.size w7 (w7.alloc (.cells #[.int .u64 ((x : Int) + (z.stream + 1)), .slice a6 bk.length c6] 209)) from by (repeat first | with_reducible (first | exact zR | assumption | apply zA | apply zS | apply zD | apply zN) | refine zT (by with_reducible assumption) ?_ | omega | simp <;> omega))
      have hk8 : ∀ b, w3.heap.size + 1 ≤ b → b < w6.heap.size → (w7.alloc (.cells #[.int .u64 ((x : Int) + (z.stream + 1)), .slice a6 bk.length c6] 209)).heap[b]? = w6.heap[b]? := fun b h1 h2 => (Below.heap_alloc w7 _ b (by have := hb67.size; omega)).trans ((hb7.block b (by simpa using h2)).trans (Below.heap_setCell _ _ _ _ (by dsimp only; omega)))
      have hv8 := rU64s.keep (w' := (w7.alloc (.cells #[.int .u64 ((x : Int) + (z.stream + 1)), .slice a6 bk.length c6] 209))) HV6.out (fun b (hb : (w3.alloc (.cells #[.int .u64 ((x : Int) + (z.stream + 1)), .slice none 0 0] 209)).heap.size ≤ b ∧ b < w6.heap.size) => hk8 b (by have := hb.1; simp at this; omega) hb.2)
      have hx8 : rLink.r (fun b => w.heap.size ≤ b ∧ b < (w7.alloc (.cells #[.int .u64 ((x : Int) + (z.stream + 1)), .slice a6 bk.length c6] 209)).heap.size ∧ (Value.slice (some ⟨bq, o, none⟩) J.length cv).ownBlock ≠ some b) (w7.alloc (.cells #[.int .u64 ((x : Int) + (z.stream + 1)), .slice a6 bk.length c6] 209)) [.int .u64 ((x : Int) + (z.stream + 1)), .slice a6 bk.length c6] ⟨((x : Int) + (z.stream + 1)), bk⟩ := by
       refine link_mk (x := ⟨((x : Int) + (z.stream + 1)), bk⟩) hxb (rU64s.mono hv8 fun b hb => ?_)
       have h1 := hb.1
       have h2 := hb.2
       have h3 := hb67.size
       simp at h1
       refine ⟨by omega, by simp; omega, fun e => ?_⟩
       have := hlt0 b e
       omega
      have HX := hid hx8
      have HA := hid OA
      have HS9 : Hid (w.heap.size ≤ (w7.alloc (.cells #[.int .u64 ((x : Int) + (z.stream + 1)), .slice a6 bk.length c6] 209)).heap.size) := hid (by simp; omega)
      clear hx8 hv8 OA OA0 hlt0 hk8 O7 hk7 hb67 hb7 B7 y0 y1 f0 f1 HV6
      go_wp2_with (at_builtin; go_loud (refine wpList_append_src rfl _ _ _ rfl w.heap.size 209 i0 (.agg #[.int .u64 0, .slice none 0 0]) 2 32 Tryz.underlying73 hi hz0 hz1 hz2 rfl (by decide) (.slice (some ⟨bq, o, none⟩) J.length cv) J.length _ rfl HA.out.1 (some ⟨w7.heap.size, 0, none⟩) 1 1 [.int .u64 ((x : Int) + (z.stream + 1)), .slice a6 bk.length c6] rfl (src_new1 w7 209 _ rfl rfl rfl) (by intro u hu; simp at hu; rcases hu with rfl | rfl <;> rfl) (by simp only [maxLen]; omega) (by omega) HS9.out ?_; intro v1 w9 hown1 hgrow1 hat1; have OP := hid (OwnEls.push HA.out rfl HX.out hown1 hgrow1 hat1 hgrow1.size); have hb9 : Below w.heap.size w7 w9 := (Below.grown ((by (repeat first | with_reducible (first | exact zR | assumption | apply zA | apply zS | apply zD | apply zN) | refine zT (by with_reducible assumption) ?_ | omega | simp <;> omega) : Below w7.heap.size w7 _).mono hsz7) hgrow1 HS9.out (fun g e => (HA.out.1.lt g e).1)); clear hown1 hgrow1 hat1))
      have HIN9 := hid (HIN7.out.row hb9)
      have HJ9 : Hid (∀ y ∈ J ++ [(⟨((x : Int) + (z.stream + 1)), bk⟩ : Link)], 0 ≤ y.stream ∧ y.stream ≤ 18446744073709551615) := hid (fun y hy => by
       rw [List.mem_append, List.mem_singleton] at hy
       rcases hy with hy | rfl
       ·exact hJb.out y hy
       ·exact hxb)
      go_roundw
      case rel => exact ⟨m + 1 + 1, J ++ [⟨((x : Int) + (z.stream + 1)), bk⟩], s6, by omega, by go_num, hid (by rw [List.length_append, hJl.out]; rfl), OP.out, HJ9, HIN9, hid (by rw [HSP.out]; simp)⟩
      case measure => simp [intOf]; omega
     ·rw [if_neg hk6] at hstep
      have HSP := hid (hsp.out.trans hstep)
      have HG := hid (fun (W : World) (hW : RdAt W g B a s6) => (by have := rd_good W hW; rw [decide_eq_false hk6] at this; exact this : Calls Tryz.prog 96 #[.pointer (some ⟨g, 0, none⟩)] W fun r w' => r = .returned (.bool false) ∧ Below W.heap.size W w'))
      obtain ⟨y0, y1, f0, f1, hl6⟩ := f_blk BK6
      clear hsp hstep hk6 hv6
      go_wp2_with fail
      refine (HG.out _ (HIN6.out.row ((by (repeat first | with_reducible (first | exact zR | assumption | apply zA | apply zS | apply zD | apply zN) | refine zT (by with_reducible assumption) ?_ | omega | simp <;> omega) : Below w3.heap.size w6 _).mono hsz3)).rd).mono ?_
      rintro r w7 ⟨rfl, hb7⟩
      have hb67 : Below w3.heap.size w6 w7 := (by (repeat first | with_reducible (first | exact zR | assumption | apply zA | apply zS | apply zD | apply zN) | refine zT (by with_reducible assumption) ?_ | omega | simp <;> omega) : Below w3.heap.size w6 (w6.setCell ⟨w3.heap.size, 1, none⟩ (.slice a6 bk.length c6))).trans (hb7.mono (by simp; omega))
      have HE := hid (HIN6.out.row (hb67.mono hsz3)).to
      clear hb7
      go_wp2
      go_ret
      rw [HSP.out]
      exact ⟨.slice none 0 0, rfl, OwnEls.sliceW (e := 0) (Nat.le_refl _) OwnEls.nil, HE.out⟩
  ·obtain rfl : k = N := by omega
   have hE := hsp.out
   rw [Nat.sub_self] at hE
   have HSP : Hid (Rs.linksF B pos k s1 none [] = (st, J)) := hid hE
   have hv := OwnEls.sliceW (Nat.le_refl _) hown
   have HV := hid hv
   have HE := hid hin.out.to
   clear hE hv hown
   go_wp2
   go_ret
   rw [HSP.out]
   exact ⟨_, rfl, HV.out, HE.out⟩
end Go.Proofs.YtkipiefcnjfdjaaGreat
namespace Go.Proofs.YtkipiefcnjfdjaaGreat
open Go.RowKit Go.Bs Go.Maps
set_option linter.unusedVariables false
set_option linter.unusedSimpArgs false
set_option maxRecDepth 100000 in
set_option maxHeartbeats 3200000 in
theorem entry_readhead (w : World) {g : Nat} {B : List UInt8} {a : Option Addr} {s : Rs} (h : RdAt w g B a s) (hB : B.length ≤ 1000000000) (pos : Int) (hpos : 0 ≤ pos ∧ pos ≤ 18446744073709551615) (most : Int) (hmo : -9223372036854775808 ≤ most ∧ most ≤ 9223372036854775807) :
  Calls Tryz.prog 211 #[.pointer (some ⟨g, 0, none⟩), .int .u64 pos, .int .i64 most] w fun r w' => ∃ v, r = .returned (.tuple #[.agg #[v, .slice none 0 0], .int .i64 ((s.ehead B pos most).2.2 : Int)]) ∧ rLinksW.r (Fresh w w') w' [v] (s.ehead B pos most).2.1 ∧ RdStep w g B a (s.ehead B pos most).1 w' := by
 have HLN := hid (fun (W : World) (hW : RdAt W g B a s) => link_read W hW hB pos hpos)
 have HIT := hid (fun (W : World) (hW : RdAt W g B a (s.links B pos).1) => varint_int W hW (by omega) most hmo)
 have HIN := hid (RdInv.refl h)
 have hlt := h.blk.lt
 unfold Rs.ehead
 generalize s.links B pos = LK at *
 obtain ⟨s1, l⟩ := LK
 dsimp only at *
 generalize s1.int B most = I at *
 obtain ⟨s2, n⟩ := I
 dsimp only at *
 clear h
 by_cases hk : s2.k = 0
 ·rw [if_pos hk]
  have HG := hid (fun (W : World) (hW : RdAt W g B a s2) => (by have := rd_good W hW; rw [decide_eq_true hk] at this; exact this : Calls Tryz.prog 96 #[.pointer (some ⟨g, 0, none⟩)] W fun r w' => r = .returned (.bool true) ∧ Below W.heap.size W w'))
  clear hk
  go_enter Tryz.func211, Tryz.ntmps211
  go_wp2_with fail
  refine (HLN.out _ (HIN.out.row (by (repeat first | with_reducible (first | exact zR | assumption | apply zA | apply zS | apply zD | apply zN) | refine zT (by with_reducible assumption) ?_ | omega | simp <;> omega))).rd).mono ?_
  rintro r w1 ⟨v1, rfl, hv1, hst1⟩
  have HIN1 := hid ((HIN.out.row (by (repeat first | with_reducible (first | exact zR | assumption | apply zA | apply zS | apply zD | apply zN) | refine zT (by with_reducible assumption) ?_ | omega | simp <;> omega))).step hst1)
  have R1 : Blk w1 w.heap.size 75 #[.slice none 0 0, .slice none 0 0] := Blk.tch (by (repeat first | assumption | exact kW (by first | (simp; done) | (simp; omega)) | apply kA | apply kD | apply kN | apply kF | simp <;> omega)) hst1.2 (by omega)
  have hz1 := HIN1.out.tch.size
  have hr1 := R1.lt
  obtain ⟨a1, c1, hfv, _, _⟩ := sl_form (linksW_links hv1)
  simp only [List.cons.injEq, and_true] at hfv
  subst hfv
  have HV1 := hid hv1
  clear hst1 hv1
  go_wp2_with fail
  refine (HIT.out _ (HIN1.out.row ((by (repeat first | with_reducible (first | exact zR | assumption | apply zA | apply zS | apply zD | apply zN) | refine zT (by with_reducible assumption) ?_ | omega | simp <;> omega) : Below w1.heap.size w1 _).mono hz1)).rd).mono ?_
  rintro r w2 ⟨rfl, hst2⟩
  have hT2 := hst2.2
  have hz2 := hst2.2.size
  have HIN2 := hid ((HIN1.out.row ((by (repeat first | with_reducible (first | exact zR | assumption | apply zA | apply zS | apply zD | apply zN) | refine zT (by with_reducible assumption) ?_ | omega | simp <;> omega) : Below w1.heap.size w1 _).mono hz1)).step hst2)
  have B2 : Blk w2 w1.heap.size 75 #[.slice a1 l.length c1, .slice none 0 0] := Blk.tch (by (repeat first | assumption | exact kW (by first | (simp; done) | (simp; omega)) | apply kA | apply kD | apply kN | apply kF | simp <;> omega)) hst2.2 (by omega)
  have R2 : Blk w2 w.heap.size 75 #[.slice none 0 0, .slice none 0 0] := Blk.tch (Blk.later R1 (by (repeat first | with_reducible (first | exact zR | assumption | apply zA | apply zS | apply zD | apply zN) | refine zT (by with_reducible assumption) ?_ | omega | simp <;> omega) : Below w1.heap.size w1 _)) hst2.2 (by omega)
  go_wp2_with fail
  refine (HG.out _ HIN2.out.rd).mono ?_
  rintro r w3 ⟨rfl, hb3⟩
  have HIN3 := hid (HIN2.out.row (hb3.mono HIN2.out.tch.size))
  have B3 := B2.later hb3
  have R3 := R2.later hb3
  obtain ⟨x0, x1, f0, f1, l3⟩ := f_blk B3
  obtain ⟨y0, y1, g0, g1, m3⟩ := f_blk R3
  go_wp2
  have RF : Blk ((w3.setCell ⟨w.heap.size, 0, none⟩ (.slice a1 l.length c1)).setCell ⟨w.heap.size, 1, none⟩ (.slice none 0 0)) w.heap.size 75 #[.slice a1 l.length c1, .slice none 0 0] := (R3.set 0 _).set 1 _
  obtain ⟨u0, u1, _, _, lF⟩ := f_blk RF
  have HF : Below w.heap.size w3 ((w3.setCell ⟨w.heap.size, 0, none⟩ (.slice a1 l.length c1)).setCell ⟨w.heap.size, 1, none⟩ (.slice none 0 0)) := by (repeat first | with_reducible (first | exact zR | assumption | apply zA | apply zS | apply zD | apply zN) | refine zT (by with_reducible assumption) ?_ | omega | simp <;> omega)
  have HINF := HIN3.out.row HF
  simp at hz2
  have hz3 := hb3.size
  have hkk : ∀ q, w.heap.size + 1 ≤ q → q < w1.heap.size → ((w3.setCell ⟨w.heap.size, 0, none⟩ (.slice a1 l.length c1)).setCell ⟨w.heap.size, 1, none⟩ (.slice none 0 0)).heap[q]? = w1.heap[q]? := fun q h1 h2 =>
   ((Below.heap_setCell _ _ _ _ (by dsimp only; omega)).trans (Below.heap_setCell _ _ _ _ (by dsimp only; omega))).trans ((hb3.block q (by omega)).trans ((hT2.block q (by simp; omega) (by omega)).trans (Below.heap_alloc w1 _ q h2)))
  have hvF : rLinksW.r (Fresh w ((w3.setCell ⟨w.heap.size, 0, none⟩ (.slice a1 l.length c1)).setCell ⟨w.heap.size, 1, none⟩ (.slice none 0 0))) ((w3.setCell ⟨w.heap.size, 0, none⟩ (.slice a1 l.length c1)).setCell ⟨w.heap.size, 1, none⟩ (.slice none 0 0)) [.slice a1 l.length c1] l := rLinksW.mono (rLinksW.keep HV1.out (fun q hq => hkk q (by have := hq.1; simp at this; omega) hq.2)) (fun q hq => ⟨by have := hq.1; simp at this; omega, by have := hq.2; simp; omega⟩)
  refine bodyPost_ret (v := .tuple #[.agg #[.slice a1 l.length c1, .slice none 0 0], .int .i64 n]) (by simp [results, Tryz.results211, go_sem, u0, u1, lF]) rfl ⟨_, rfl, hvF, HINF.to⟩
 ·rw [if_neg hk]
  have HG := hid (fun (W : World) (hW : RdAt W g B a s2) => (by have := rd_good W hW; rw [decide_eq_false hk] at this; exact this : Calls Tryz.prog 96 #[.pointer (some ⟨g, 0, none⟩)] W fun r w' => r = .returned (.bool false) ∧ Below W.heap.size W w'))
  clear hk
  go_enter Tryz.func211, Tryz.ntmps211
  go_wp2_with fail
  refine (HLN.out _ (HIN.out.row (by (repeat first | with_reducible (first | exact zR | assumption | apply zA | apply zS | apply zD | apply zN) | refine zT (by with_reducible assumption) ?_ | omega | simp <;> omega))).rd).mono ?_
  rintro r w1 ⟨v1, rfl, hv1, hst1⟩
  have HIN1 := hid ((HIN.out.row (by (repeat first | with_reducible (first | exact zR | assumption | apply zA | apply zS | apply zD | apply zN) | refine zT (by with_reducible assumption) ?_ | omega | simp <;> omega))).step hst1)
  have R1 : Blk w1 w.heap.size 75 #[.slice none 0 0, .slice none 0 0] := Blk.tch (by (repeat first | assumption | exact kW (by first | (simp; done) | (simp; omega)) | apply kA | apply kD | apply kN | apply kF | simp <;> omega)) hst1.2 (by omega)
  have hz1 := HIN1.out.tch.size
  have hr1 := R1.lt
  obtain ⟨a1, c1, hfv, _, _⟩ := sl_form (linksW_links hv1)
  simp only [List.cons.injEq, and_true] at hfv
  subst hfv
  have HV1 := hid hv1
  clear hst1 hv1
  go_wp2_with fail
  refine (HIT.out _ (HIN1.out.row ((by (repeat first | with_reducible (first | exact zR | assumption | apply zA | apply zS | apply zD | apply zN) | refine zT (by with_reducible assumption) ?_ | omega | simp <;> omega) : Below w1.heap.size w1 _).mono hz1)).rd).mono ?_
  rintro r w2 ⟨rfl, hst2⟩
  have hT2 := hst2.2
  have hz2 := hst2.2.size
  have HIN2 := hid ((HIN1.out.row ((by (repeat first | with_reducible (first | exact zR | assumption | apply zA | apply zS | apply zD | apply zN) | refine zT (by with_reducible assumption) ?_ | omega | simp <;> omega) : Below w1.heap.size w1 _).mono hz1)).step hst2)
  have B2 : Blk w2 w1.heap.size 75 #[.slice a1 l.length c1, .slice none 0 0] := Blk.tch (by (repeat first | assumption | exact kW (by first | (simp; done) | (simp; omega)) | apply kA | apply kD | apply kN | apply kF | simp <;> omega)) hst2.2 (by omega)
  have R2 : Blk w2 w.heap.size 75 #[.slice none 0 0, .slice none 0 0] := Blk.tch (Blk.later R1 (by (repeat first | with_reducible (first | exact zR | assumption | apply zA | apply zS | apply zD | apply zN) | refine zT (by with_reducible assumption) ?_ | omega | simp <;> omega) : Below w1.heap.size w1 _)) hst2.2 (by omega)
  go_wp2_with fail
  refine (HG.out _ HIN2.out.rd).mono ?_
  rintro r w3 ⟨rfl, hb3⟩
  have HIN3 := hid (HIN2.out.row (hb3.mono HIN2.out.tch.size))
  have B3 := B2.later hb3
  have R3 := R2.later hb3
  obtain ⟨x0, x1, f0, f1, l3⟩ := f_blk B3
  obtain ⟨y0, y1, g0, g1, m3⟩ := f_blk R3
  go_wp2
  have RF : Blk ((w3.setCell ⟨w.heap.size, 0, none⟩ (.slice none 0 0)).setCell ⟨w.heap.size, 1, none⟩ (.slice none 0 0)) w.heap.size 75 #[.slice none 0 0, .slice none 0 0] := (R3.set 0 _).set 1 _
  obtain ⟨u0, u1, _, _, lF⟩ := f_blk RF
  have HF : Below w.heap.size w3 ((w3.setCell ⟨w.heap.size, 0, none⟩ (.slice none 0 0)).setCell ⟨w.heap.size, 1, none⟩ (.slice none 0 0)) := by (repeat first | with_reducible (first | exact zR | assumption | apply zA | apply zS | apply zD | apply zN) | refine zT (by with_reducible assumption) ?_ | omega | simp <;> omega)
  have HINF := HIN3.out.row HF
  refine bodyPost_ret (v := .tuple #[.agg #[.slice none 0 0, .slice none 0 0], .int .i64 0]) (by simp [results, Tryz.results211, go_sem, u0, u1, lF]) rfl ⟨_, rfl, OwnEls.sliceW (e := 0) (Nat.le_refl _) OwnEls.nil, HINF.to⟩
end Go.Proofs.YtkipiefcnjfdjaaGreat
namespace Go.Proofs.YtkipiefcnjfdjaaGreat
open Go.RowKit Go.Bs Go.Maps
set_option linter.unusedVariables false
set_option linter.unusedSimpArgs false
def headE (h : List Link × Nat) : Entry := ⟨h.1, []⟩
def sizeCells (l : List (List Link × Nat)) : List Value := l.map fun h => .int .i64 (h.2 : Int)
theorem Rs.ehead_le {B : List UInt8} {s : Rs} {pos most : Int} : (s.ehead B pos most).2.2 ≤ most.toNat := by
 unfold Rs.ehead
 split
 ·exact Rs.int_le
 ·exact Nat.zero_le _
structure HeadsAt (lo : Nat) (W : World) (v u : Value) (J : List (List Link × Nat)) : Prop where
 els : ∃ cells, OwnElsF (fun b => lo ≤ b ∧ b < W.heap.size ∧ u.ownBlock ≠ some b) rEntryW lo 75 2 W v (J.map headE) cells
 szs : W.ownsRow lo 3 1 u J.length (sizeCells J)
theorem own_ne {W : World} {lo lo' : Nat} {e e' : TypeId} {sz sz' n m : Nat} {v u : Value} {xs ys : List Value} (h : W.ownsRow lo e sz v n xs) (h' : W.ownsRow lo' e' sz' u m ys) (hne : e ≠ e') : ∀ b, v.ownBlock = some b → u.ownBlock ≠ some b := by
 intro b hv hu
 rcases h.2 with ⟨rfl, _⟩ | ⟨g, cap, cur, rfl, _, hg, _⟩
 ·cases hv
 ·rcases h'.2 with ⟨rfl, _⟩ | ⟨g', cap', cur', rfl, _, hg', _⟩
  ·cases hu
  ·have e1 : g = b := by simpa [Value.ownBlock] using hv
   have e2 : g' = b := by simpa [Value.ownBlock] using hu
   subst e1 e2
   rw [hg] at hg'
   simp at hg'
   exact hne hg'.2
theorem own_stays {W W' : World} {lo : Nat} {e : TypeId} {sz n : Nat} {v : Value} {xs : List Value} (h : W.ownsRow lo e sz v n xs) (hk : ∀ b, v.ownBlock = some b → b < W.heap.size → W'.heap[b]? = W.heap[b]?) : W'.ownsRow lo e sz v n xs := by
 refine ⟨h.1, ?_⟩
 rcases h.2 with h0 | ⟨g', cap, cur, h1, h2, h3, h4⟩
 ·exact .inl h0
 ·exact .inr ⟨g', cap, cur, h1, h2, (hk g' (by rw [h1]; rfl) (Blk.lt h3)).trans h3, h4⟩
theorem own_lt {W : World} {lo : Nat} {e : TypeId} {sz n : Nat} {v : Value} {xs : List Value} (h : W.ownsRow lo e sz v n xs) : ∀ b, v.ownBlock = some b → lo ≤ b ∧ b < W.heap.size := by
 intro b hv
 rcases h.2 with ⟨rfl, _⟩ | ⟨g, cap, cur, rfl, hb, hg, _⟩
 ·cases hv
 ·have e1 : g = b := by simpa [Value.ownBlock] using hv
  subst e1
  exact ⟨hb, Blk.lt hg⟩
theorem HeadsAt.nil {lo : Nat} {W : World} : HeadsAt lo W (.slice none 0 0) (.slice none 0 0) [] := ⟨⟨[], OwnElsF.nil⟩, ⟨rfl, .inl ⟨rfl, rfl⟩⟩⟩
theorem HeadsAt.formv {lo : Nat} {W : World} {v u : Value} {J : List (List Link × Nat)} (h : HeadsAt lo W v u J) : ∃ a c, v = .slice a J.length c := by
 obtain ⟨⟨cells, OA⟩, hu⟩ := h
 have := own_form OA.1
 rwa [List.length_map] at this
theorem HeadsAt.tch {lo g : Nat} {W W' : World} {v u : Value} {J : List (List Link × Nat)} (h : HeadsAt lo W v u J) (hb : Tch (fun b => b = g ∨ W.heap.size ≤ b) W W') (hg : g < lo) : HeadsAt lo W' v u J := by
 obtain ⟨⟨cells, OA⟩, hu⟩ := h
 have hk : ∀ b, lo ≤ b → b < W.heap.size → W'.heap[b]? = W.heap[b]? := fun b h1 h2 => hb.block b h2 (by omega)
 refine ⟨⟨cells, ?_⟩, own_stays hu fun b hv hl => hk b (own_lt hu b hv).1 hl⟩
 refine OwnElsF.mono (OwnElsF.keep OA (fun b h => hk b h.1 h.2.1) fun b hv => hk b (own_lt OA.1 b hv).1 (own_lt OA.1 b hv).2) fun b h => ⟨h.1, Nat.lt_of_lt_of_le h.2.1 hb.size, h.2.2⟩
structure HeadsMid (lo : Nat) (B : Nat) (W : World) (v u : Value) (J J' : List (List Link × Nat)) : Prop where
 els : ∃ cells, OwnElsF (fun b => lo ≤ b ∧ b < B ∧ u.ownBlock ≠ some b) rEntryW lo 75 2 W v (J'.map headE) cells
 szs : W.ownsRow lo 3 1 u J.length (sizeCells J)
 le : B ≤ W.heap.size
theorem HeadsMid.of {lo : Nat} {W W' : World} {v v' u : Value} {J : List (List Link × Nat)} {x : List Link × Nat} {cells : List (List Value)} {news : List Value}
  (OA : OwnElsF (fun b => lo ≤ b ∧ b < W.heap.size ∧ u.ownBlock ≠ some b) rEntryW lo 75 2 W v (J.map headE) cells) (hu : W.ownsRow lo 3 1 u J.length (sizeCells J))
  (hn : news.length = 2) (hx : rEntryW.r (fun b => (lo ≤ b ∧ b < W.heap.size ∧ u.ownBlock ≠ some b) ∧ v.ownBlock ≠ some b) W news (headE x))
  (hown : W'.ownsRow lo 75 2 v' (J.length + 1) (cells.flatten ++ news)) (hg : W.grownBy W' v.ownBlock) (hat : v'.ownBlock = v.ownBlock ∨ v'.ownBlock = some W.heap.size) : HeadsMid lo W.heap.size W' v' u J (J ++ [x]) := by
 refine ⟨⟨cells ++ [news], ?_⟩, own_stays hu fun b hv hl => hg.block b hl (fun e => own_ne OA.1 hu (by decide) b e.symm hv), hg.size⟩
 rw [List.map_append, List.map_cons, List.map_nil]
 exact OwnElsF.push OA (fun b hb => hb.2.1) hn hx (by simpa using hown) hg hat
theorem HeadsMid.below {lo B : Nat} {W W' : World} {v u : Value} {J J' : List (List Link × Nat)} (h : HeadsMid lo B W v u J J') (hb : Below W.heap.size W W') : HeadsMid lo B W' v u J J' := by
 obtain ⟨⟨cells, OA⟩, hu, hB⟩ := h
 exact ⟨⟨cells, OwnElsF.keep OA (fun b h => hb.block b (by have := h.2.1; omega)) fun b hv => hb.block b (own_lt OA.1 b hv).2⟩, own_stays hu fun b hv hl => hb.block b hl, by have := hb.size; omega⟩
theorem HeadsMid.to {lo B : Nat} {W W' : World} {v u u' : Value} {J : List (List Link × Nat)} {x : List Link × Nat} (h : HeadsMid lo B W v u J (J ++ [x]))
  (hown : W'.ownsRow lo 3 1 u' (J.length + 1) (sizeCells J ++ [.int .i64 (x.2 : Int)])) (hg : W.grownBy W' u.ownBlock) (hat : u'.ownBlock = u.ownBlock ∨ u'.ownBlock = some W.heap.size) : HeadsAt lo W' v u' (J ++ [x]) := by
 obtain ⟨⟨cells, OA⟩, hu, hB⟩ := h
 refine ⟨⟨cells, ?_⟩, ?_⟩
 ·refine OwnElsF.mono (OwnElsF.keep OA (fun b h => hg.block b (by have := h.2.1; omega) (fun e => h.2.2 e.symm)) fun b hv => hg.block b (own_lt OA.1 b hv).2 (fun e => own_ne OA.1 hu (by decide) b hv e.symm)) fun b h => ⟨h.1, ?_, fun e => ?_⟩
  ·have := h.2.1; have := hg.size; omega
  ·rcases hat with h' | h'
   ·exact h.2.2 (h' ▸ e)
   ·rw [h'] at e; have := Option.some.inj e; have := h.2.1; omega
 ·have e : sizeCells (J ++ [x]) = sizeCells J ++ [.int .i64 (x.2 : Int)] := by simp [sizeCells]
  rw [e, List.length_append]
  exact hown
theorem HeadsAt.out {lo : Nat} {W : World} {v u : Value} {J : List (List Link × Nat)} (h : HeadsAt lo W v u J) : rEntriesW.r (fun b => lo ≤ b ∧ b < W.heap.size) W [v] (J.map headE) := by
 obtain ⟨⟨cells, OA⟩, hu⟩ := h
 exact OwnEls.sliceW (Nat.le_refl _) ⟨cells, OwnElsF.to OA fun b h => ⟨h.1, h.2.1⟩⟩
set_option maxRecDepth 100000 in
set_option maxHeartbeats 6400000 in
theorem batch_heads (w : World) {g : Nat} {B : List UInt8} {a : Option Addr} {s : Rs} (h : RdAt w g B a s) (hB : B.length ≤ 1000000000) (pos : Int) (N : Nat) (hN : N ≤ 16) (hpos : 0 ≤ pos ∧ pos + N ≤ 18446744073709551615) :
  Calls Tryz.prog 154 #[.pointer (some ⟨g, 0, none⟩), .int .u64 pos, .int .i64 N] w fun r w' => ∃ v u, r = .returned (.tuple #[v, u]) ∧ HeadsAt w.heap.size w' v u (Rs.heads B N s pos 1048576 []).2 ∧ RdStep w g B a (Rs.heads B N s pos 1048576 []).1 w' := by
 obtain ⟨i0, hi, hz0, hz1, hz2⟩ := info_parts infoEntry
 obtain ⟨j0, hj, hy0, hy1, hy2⟩ := info_parts infoInt
 have hlt := h.blk.lt
 have HIN := hid (RdInv.refl h)
 clear h
 go_enter Tryz.func154, Tryz.ntmps154
 go_wp2
 go_loopw [8, 9, 10, 15] (fun v u l i wr => ∃ (k : Nat) (J : List (List Link × Nat)) (st : Rs) (left : Int), k ≤ N ∧ i = .int .i64 k ∧ l = .int .i64 left ∧ 0 ≤ left ∧ left ≤ 1048576 ∧ Hid (J.length = k) ∧ HeadsAt w.heap.size wr v u J ∧ Hid (RdInv w wr g B a st) ∧ Hid (Rs.heads B N s pos 1048576 [] = Rs.heads B (N - k) st (pos + k) left J)) (fun _ _ _ i _ => N - (intOf i).toNat)
 case atStart => exact ⟨0, [], s, 1048576, Nat.zero_le _, rfl, rfl, by omega, by omega, hid rfl, HeadsAt.nil, HIN, hid (by simp)⟩
 case round =>
  obtain ⟨k, J, st, left, hk, rfl, rfl, hl0, hl1, hJl, hown, hin, hsp⟩ := hrel
  obtain ⟨av, cv, rfl⟩ := HeadsAt.formv hown
  obtain ⟨au, cu, rfl⟩ := own_form hown.szs
  rcases Nat.lt_or_ge k N with hlt2 | hge
  ·have HER := hid (entry_readhead wr hin.out.rd hB (pos + k) (by omega) left (by omega))
   have hle := Rs.ehead_le (B := B) (s := st) (pos := pos + k) (most := left)
   have hstep : Rs.heads B (N - k) st (pos + k) left J = (if (st.ehead B (pos + k) left).1.k = 0 then Rs.heads B (N - (k + 1)) (st.ehead B (pos + k) left).1 (pos + k + 1) (left - (st.ehead B (pos + k) left).2.2) (J ++ [(st.ehead B (pos + k) left).2]) else ((st.ehead B (pos + k) left).1, [])) := by
    rw [show N - k = (N - (k + 1)) + 1 by omega]; rfl
   have hsz0 := hin.out.tch.size
   have hJ16 : J.length ≤ 16 := by have := hJl.out; omega
   have i1 : (k : Int) < (N : Int) := by omega
   have d1 : decide ((k : Int) < (N : Int)) = true := decide_eq_true i1
   have d1' : decide (k < N) = true := decide_eq_true hlt2
   have c1 : 0 ≤ pos + (k : Int) := by omega
   have c2 : pos + (k : Int) ≤ 18446744073709551615 := by omega
   have HO := hid hown
   generalize st.ehead B (pos + k) left = EH at *
   obtain ⟨s2, l, n⟩ := EH
   dsimp only at *
   clear hown
   go_wp2_with fail
   refine HER.out.mono ?_
   rintro r w1 ⟨v1, rfl, hv1, hst1⟩
   obtain ⟨a1, c1', hfv, _, _⟩ := sl_form (linksW_links hv1)
   simp only [List.cons.injEq, and_true] at hfv
   subst hfv
   have HIN1 := hid (hin.out.step hst1)
   have HO1 := hid (HeadsAt.tch HO.out (hst1.2.mono fun b hb e => .inl e) hlt)
   have hsz1 := HIN1.out.tch.size
   have HV1 := hid hv1
   clear hst1 hv1
   by_cases hk2 : s2.k = 0
   ·rw [if_pos hk2] at hstep
    have HSP := hid (hsp.out.trans hstep)
    have HG := hid (fun (W : World) (hW : RdAt W g B a s2) => (by have := rd_good W hW; rw [decide_eq_true hk2] at this; exact this : Calls Tryz.prog 96 #[.pointer (some ⟨g, 0, none⟩)] W fun r w' => r = .returned (.bool true) ∧ Below W.heap.size W w'))
    have w1' : 0 ≤ left - (n : Int) := by omega
    have w2' : left - (n : Int) ≤ 1048576 := by omega
    clear hsp hstep hk2
    go_wp2_with fail
    refine (HG.out _ (HIN1.out.row ((by (repeat first | with_reducible (first | exact zR | assumption | apply zA | apply zS | apply zD | apply zN) | refine zT (by with_reducible assumption) ?_ | omega | simp <;> omega) : Below w1.heap.size w1 _).mono hsz1)).rd).mono ?_
    rintro r w3 ⟨rfl, hb3⟩
    have B3 : Blk w3 w1.heap.size 75 #[.slice a1 l.length c1', .slice none 0 0] := Blk.later (by (repeat first | assumption | exact kW (by first | (simp; done) | (simp; omega)) | apply kA | apply kD | apply kN | apply kF | simp <;> omega)) hb3
    have hb13 : Below w1.heap.size w1 w3 := (by (repeat first | with_reducible (first | exact zR | assumption | apply zA | apply zS | apply zD | apply zN) | refine zT (by with_reducible assumption) ?_ | omega | simp <;> omega) : Below w1.heap.size w1 (w1.alloc (.cells #[.slice a1 l.length c1', .slice none 0 0] 75))).trans (hb3.mono (by simp))
    have HIN3 := hid (HIN1.out.row (hb13.mono hsz1))
    obtain ⟨x0, x1, _, _, l3⟩ := f_blk B3
    clear hb3
    have hb14 : Below w1.heap.size w1 (w3.alloc (.cells #[.slice a1 l.length c1', .slice none 0 0] 75)) := hb13.alloc (by have := hb13.size; omega) _
    have k4 : Tch (fun b => b = g ∨ w1.heap.size ≤ b) w1 (w3.alloc (.cells #[.slice a1 l.length c1', .slice none 0 0] 75)) := (Tch.of_below hb14).mono (fun b hb e => .inr e)
    have hsz3 := HIN3.out.tch.size
    obtain ⟨⟨cells, OA⟩, hu4⟩ := HeadsAt.tch HO1.out k4 hlt
    have hlu : ∀ b, (Value.slice au J.length cu).ownBlock = some b → b < wr.heap.size := fun b e => (own_lt HO.out.szs b e).2
    have hlv : ∀ b, (Value.slice av J.length cv).ownBlock = some b → b < wr.heap.size := by
     obtain ⟨⟨cells0, OA0⟩, _⟩ := HO.out
     exact fun b e => (own_lt OA0.1 b (by simpa using e)).2
    have hx : rEntryW.r (fun b => (w.heap.size ≤ b ∧ b < (w3.alloc (.cells #[.slice a1 l.length c1', .slice none 0 0] 75)).heap.size ∧ (Value.slice au J.length cu).ownBlock ≠ some b) ∧ (Value.slice av J.length cv).ownBlock ≠ some b) (w3.alloc (.cells #[.slice a1 l.length c1', .slice none 0 0] 75)) [.slice a1 l.length c1', .slice none 0 0] (headE (l, n)) := by
     have h4s := hb14.size
     refine entryW_mk (rLinksW.mono (rLinksW.keep HV1.out (w' := (w3.alloc (.cells #[.slice a1 l.length c1', .slice none 0 0] 75))) fun b hb => hb14.block b hb.2) fun b hb => ⟨⟨?_, ?_, fun e => ?_⟩, fun e => ?_⟩) (empty_bytes rfl rfl (by omega))
     ·have := hb.1; omega
     ·have := hb.2; omega
     ·have := hlu b e; have := hb.1; omega
     ·have := hlv b e; have := hb.1; omega
    have HX := hid hx
    have HA := hid OA
    have HU := hid hu4
    have HS9 : Hid (w.heap.size ≤ (w3.alloc (.cells #[.slice a1 l.length c1', .slice none 0 0] 75)).heap.size) := hid (by simp; omega)
    have HR4 := hid (HIN3.out.row (show Below w.heap.size w3 (w3.alloc (.cells #[.slice a1 l.length c1', .slice none 0 0] 75)) from (Below.refl _ _).alloc hsz3 _))
    have hJm : (J.map headE).length = J.length := by simp
    have HOW : Hid ((w3.alloc (.cells #[.slice a1 l.length c1', .slice none 0 0] 75)).ownsRow w.heap.size 75 2 (.slice av J.length cv) J.length cells.flatten) := hid (by have := OA.1; rwa [hJm] at this)
    clear hx OA hu4 hlu hlv k4 hb14 hJm HV1
    go_wp2_with (first | (at_builtin; go_loud (refine wpList_append_src rfl _ _ _ rfl w.heap.size 75 i0 (.agg #[.slice none 0 0, .slice none 0 0]) 2 48 Tryz.underlying23 hi hz0 hz1 hz2 rfl (by decide) (.slice av J.length cv) J.length _ rfl HOW.out (some ⟨w3.heap.size, 0, none⟩) 1 1 [.slice a1 l.length c1', .slice none 0 0] rfl (src_new1 w3 75 _ rfl rfl rfl) (by intro u hu; simp at hu; rcases hu with rfl | rfl <;> rfl) (by simp only [maxLen]; omega) (by omega) HS9.out ?_; intro v5 w5 hown5 hgrow5 hat5; obtain ⟨a5, c5, rfl⟩ := own_form hown5; have HM5 := hid (HeadsMid.of (x := (l, n)) HA.out HU.out rfl HX.out hown5 hgrow5 hat5); have HIN5 := hid (HR4.out.row (Below.grown (Below.refl _ _) hgrow5 HS9.out (fun g e => (own_lt HOW.out g e).1))); have hsz5 := HIN5.out.tch.size; have HU6 := hid (HeadsMid.below HM5.out (show Below w5.heap.size w5 (w5.alloc (.cells #[.int .i64 (n : Int)] 3)) from (Below.refl _ _).alloc (Nat.le_refl _) _)); have HIN6 := hid (HIN5.out.row (show Below w.heap.size w5 (w5.alloc (.cells #[.int .i64 (n : Int)] 3)) from (Below.refl _ _).alloc hsz5 _)); have HS6 : Hid (w.heap.size ≤ (w5.alloc (.cells #[.int .i64 (n : Int)] 3)).heap.size) := hid (by simp; omega); clear hown5 hgrow5 hat5 hsz5)) | (at_builtin; go_loud (refine wpList_append_src rfl _ _ _ rfl w.heap.size 3 j0 (.int .i64 0) 1 8 Tryz.underlying135 hj hy0 hy1 hy2 rfl (by decide) (.slice au J.length cu) J.length _ rfl HU6.out.szs (some ⟨w5.heap.size, 0, none⟩) 1 1 [.int .i64 (n : Int)] rfl (src_new1 w5 3 _ rfl rfl rfl) (by intro u hu; simp at hu; subst hu; rfl) (by simp only [maxLen]; omega) (by omega) HS6.out ?_; intro v7 w7 hown7 hgrow7 hat7; obtain ⟨a7, c7, rfl⟩ := own_form hown7; have HO7 := hid (HeadsMid.to HU6.out hown7 hgrow7 hat7); have HIN7 := hid (HIN6.out.row (Below.grown (Below.refl _ _) hgrow7 HS6.out (fun g e => (own_lt HU6.out.szs g e).1))); clear hown7 hgrow7 hat7)))
    go_roundw
    case rel => exact ⟨k + 1, J ++ [(l, n)], s2, left - (n : Int), by omega, by go_num, rfl, by omega, by omega, hid (by rw [List.length_append, hJl.out]; rfl), HO7.out, HIN7, hid (by rw [HSP.out]; simp [Int.add_assoc])⟩
    case measure => simp [intOf]; omega
   ·rw [if_neg hk2] at hstep
    have HSP := hid (hsp.out.trans hstep)
    have HG := hid (fun (W : World) (hW : RdAt W g B a s2) => (by have := rd_good W hW; rw [decide_eq_false hk2] at this; exact this : Calls Tryz.prog 96 #[.pointer (some ⟨g, 0, none⟩)] W fun r w' => r = .returned (.bool false) ∧ Below W.heap.size W w'))
    clear hsp hstep hk2
    go_wp2_with fail
    refine (HG.out _ (HIN1.out.row ((by (repeat first | with_reducible (first | exact zR | assumption | apply zA | apply zS | apply zD | apply zN) | refine zT (by with_reducible assumption) ?_ | omega | simp <;> omega) : Below w1.heap.size w1 _).mono hsz1)).rd).mono ?_
    rintro r w3 ⟨rfl, hb3⟩
    have hb13 : Below w1.heap.size w1 w3 := (by (repeat first | with_reducible (first | exact zR | assumption | apply zA | apply zS | apply zD | apply zN) | refine zT (by with_reducible assumption) ?_ | omega | simp <;> omega) : Below w1.heap.size w1 (w1.alloc (.cells #[.slice a1 l.length c1', .slice none 0 0] 75))).trans (hb3.mono (by simp))
    have HE := hid (HIN1.out.row (hb13.mono hsz1)).to
    clear hb3
    go_wp2
    rw [HSP.out]
    refine bodyPost_ret (v := .tuple #[.slice none 0 0, .slice none 0 0]) (by simp [results, Tryz.results154, go_sem]) rfl ⟨_, _, rfl, HeadsAt.nil, HE.out⟩
  ·obtain rfl : k = N := by omega
   have hE := hsp.out
   rw [Nat.sub_self] at hE
   have HSP : Hid (Rs.heads B k s pos 1048576 [] = (st, J)) := hid hE
   have HO := hid hown
   have HE := hid hin.out.to
   clear hE hown
   go_wp2
   rw [HSP.out]
   refine bodyPost_ret (v := .tuple #[.slice av J.length cv, .slice au J.length cu]) (by simp [results, Tryz.results154, go_sem]) rfl ⟨_, _, rfl, HO.out, HE.out⟩
end Go.Proofs.YtkipiefcnjfdjaaGreat
