/- Mini: Needed by rpcOnce_walk, part 4: texts put together by shake.py; no condition. -/
import Derived.BigRegion
import Derived.Test.YtlbffbkbkajciaaGreatZO3
import Derived.Test.YtlbffbkbkajciaaGreatRows
import Derived.Test.YtlbffbkbkajciaaGreatZO2
import Derived.Laws.IdiomStrings
import Derived.Laws.BytesArg
import Derived.Test.YtlbffbkbkajciaaGreatZO1
import Derived.Lib.SlBytesConst
set_option linter.unusedVariables false
set_option linter.unusedSimpArgs false
set_option maxRecDepth 100000
set_option maxHeartbeats 6400000
namespace Go.Bs
theorem zBo{p:Prop}(h:p:=by simp [results, Tryz.results238, go_sem, y0, y1, l1]):p:=h
theorem zAh{p:Prop}(h:p:=by rw [Am]; have := hfit'.out; omega):p:=h
theorem zAg{p:Prop}(h:p:=by rw [Am]; have := hlen'.out; omega):p:=h
theorem Z5{p:Prop}(h:p:=by rw [hf.out]; rfl):p:=h
theorem ZW{p:Prop}(h:p:=by have := (hav _ e).1; omega):p:=h
theorem zY{p:Prop}(h:p:=by rw [hfin.out]; rfl):p:=h
theorem zU{p:Prop}(h:p:=by have := hq.1; omega):p:=h
theorem zJ{p:Prop}(h:p:=by with_reducible assumption):p:=h
theorem zA{p:Prop}(h:p:=by (repeat (first | with_reducible exact Below.refl _ _ | with_reducible assumption | (with_reducible refine Az ?_ _) | (with_reducible refine Below.setCell ?_ (by first | omega | (simp; done) | (simp; omega)) _) | (with_reducible refine Below.drew ?_) | (with_reducible refine below_drewN ?_ _) | (refine Af (by with_reducible assumption) ?_)))):p:=h
theorem Au:type_of% @List.append_assoc:=@List.append_assoc
theorem A6:type_of% @List.take_succ_eq_append_getElem:=@List.take_succ_eq_append_getElem
theorem B6:type_of% @of_decide_eq_true:=@of_decide_eq_true
theorem Cm:type_of% @Bool.or_eq_true:=@Bool.or_eq_true
theorem CG:type_of% @Prod.mk.injEq:=@Prod.mk.injEq
theorem Ee:type_of% @Proofs.Tryz.ntmps277:=@Proofs.Tryz.ntmps277
theorem EA:type_of% @Bool.not_eq_true:=@Bool.not_eq_true
theorem EP:type_of% @Proofs.Tryz.func277:=@Proofs.Tryz.func277
theorem Fs:type_of% @List.take_append_drop:=@List.take_append_drop
theorem Gx:type_of% @List.take_length:=@List.take_length
end Go.Bs
namespace Go.Proofs.YtlbffbkbkajciaaGreat
open Go.RowKit Go.Bs Go.Maps
theorem KP (l l' : List UInt8) : byteCells l ++ byteCells l' = byteCells (l ++ l') := zAd
structure JO (w W : World) (B : List UInt8) (a : Option Addr) (s : Rs) (out : List UInt8) (aO : Option Addr) (cO : Nat) : Prop where
 rd : AK W (w.heap.size + 1) B a s
 dat : Ag.r (· < w.heap.size) W [.slice a B.length B.length] B
 fl : Blk W w.heap.size 58 #[.int .i64 0, .int .i64 0]
 own : W.ownsRow (w.heap.size + 2) 5 1 (.slice aO out.length cO) out.length (byteCells out)
 be : Below w.heap.size w W
 sz : w.heap.size + 2 ≤ W.heap.size
section
variable {w W W' : World} {B : List UInt8} {a : Option Addr} {s s' : Rs} {out out' : List UInt8} {aO aO' : Option Addr} {cO cO' : Nat}
theorem JO.later (h : JO w W B a s out aO cO) (hb : Below W.heap.size W W') : JO w W' B a s out aO cO :=
 ⟨h.rd.later hb, Ag.keep h.dat fun q hq => hb.block q (by have := h.sz; omega), h.fl.later hb, By h.own hb, Af hb h.be, A5 h.sz hb.size⟩
theorem Tf {base : Nat} {e : TypeId} {size : Nat} {v : Value} {n : Nat} {xs : List Value} {g : Nat} (h : W.ownsRow base e size v n xs) (hg : g < base) (hb : Tch (· = g) W W') : W'.ownsRow base e size v n xs := by
 refine ⟨h.1, ?_⟩
 rcases h.2 with h0 | ⟨g', cap, cur, h1, h2, h3, h4⟩
 ·exact .inl h0
 ·exact .inr ⟨g', cap, cur, h1, h2, (hb.block _ (Blk.lt h3) zD).trans h3, h4⟩
theorem JO.step (h : JO w W B a s out aO cO) (k : Av W (w.heap.size + 1) B a s' W') : JO w W' B a s' out aO cO :=
 ⟨k.1, Ag.keep h.dat fun q hq => k.2.block q (by have := h.sz; omega) zD, h.fl.tch k.2 zD, Tf h.own zD k.2, h.be.trans (k.below h.be.size zD), A5 h.sz k.size⟩
theorem JO.row (h : JO w W B a s out aO cO) (hb : Below (w.heap.size + 2) W W') (ho : W'.ownsRow (w.heap.size + 2) 5 1 (.slice aO' out'.length cO') out'.length (byteCells out')) : JO w W' B a s out' aO' cO' := by
 have hd := Ag.keep h.dat (w' := W') fun q hq => hb.block q zD
 exact ⟨⟨h.rd.blk.below hb zD, Ag.mono hd fun q hq => ⟨by have := h.sz; have := hb.size; omega, zD⟩, h.rd.ok⟩, hd, h.fl.below hb zD, ho, h.be.trans (hb.mono zD), A5 h.sz hb.size⟩
end
def NK (W : World) (g i : Nat) : Int := intOf ((W.cell? ⟨g, i, none⟩).getD undef)
theorem AK.cells {w : World} {g : Nat} {B : List UInt8} {a : Option Addr} {s : Rs} (h : AK w g B a s) : NK w g 1 = s.p ∧ NK w g 2 = s.k := by
 have c1 := h.blk.cell 1
 have c2 := h.blk.cell 2
 simp at c1 c2
 unfold NK;rw [c1, c2]
 exact ⟨rfl, rfl⟩
def SH (L g : Nat) (W : World) : Nat := if NK W g 2 = 0 then L + 1 - (NK W g 1).toNat else 0
theorem PY {w : World} {g : Nat} {B : List UInt8} {a : Option Addr} {s : Rs} (h : AK w g B a s) : SH B.length g w = if s.k = 0 then B.length + 1 - s.p else 0 := by
 unfold SH;rw [h.cells.1, h.cells.2]
 simp
theorem JV {w w' : World} {g : Nat} {B : List UInt8} {a : Option Addr} {s s' : Rs} (h : AK w g B a s) (h' : AK w' g B a s') (hk : s.k = 0) (hp : s.p < B.length) (hs : s'.k = 0 → s.p < s'.p) : SH B.length g w' < SH B.length g w := by
 rw [PY h, PY h', Ak hk]
 split
 ·have := hs zN; omega
 ·omega
def Ph (bound : Int) (out : List UInt8) : Prop := out = [] ∨ (out.length : Int) ≤ bound
theorem NC {bound : Int} {out : List UInt8} (h : Ph bound out) (hb : -9223372036854775808 ≤ bound ∧ bound ≤ 1048576) : out.length ≤ 1048576 ∧ -9223372036854775808 ≤ bound - (out.length : Int) := by
 rcases h with rfl | h
 ·simp; omega
 ·omega
theorem LM {B : List UInt8} {bound : Int} {s : Rs} {out : List UInt8} (h : Ph bound out) : Ph bound (CC B bound s out).2 := by
 by_cases hk : (CC B bound s out).1.k = 0
 ·exact .inr (FC hk).2
 ·rw [Pg hk]; exact h
set_option maxHeartbeats 12800000 in
theorem My (w : World) (B : List UInt8) (a : Option Addr) (n c : Nat) (hl : Ag.r (· < w.heap.size) w [.slice a n c] B) (hB : B.length ≤ 1000000000) (bound : Int) (hbd : -9223372036854775808 ≤ bound ∧ bound ≤ 1048576) :
  Calls Tryz.prog 238 #[.slice a n c, .int .i64 bound] w fun r w' => ∃ v, r = .returned (.tuple #[v, .agg #[.int .i64 (exB B bound).2.1, .int .i64 (exB B bound).2.2]]) ∧ Ag.r (fun q => w.heap.size ≤ q ∧ q < w'.heap.size) w' [v] (exB B bound).1 ∧ Below w.heap.size w w' := by
 obtain ⟨rfl, hm, hcc, hcm⟩ := AP hl
 obtain ⟨i0, hi, hz0, hz1, hz2⟩ := Bq EF
 have hcap : Ag.r (· < w.heap.size) w [.slice a B.length B.length] B := by
  obtain ⟨a', c', e, h1, h2, h3⟩ := hl
  simp at e
  obtain ⟨rfl, rfl⟩ := e
  exact A3 rfl (Al _) zBa h3
 have HL := hid hl
 have HCAP := hid hcap
 clear hl hcap;go_enter Tryz.func238, Tryz.ntmps238
 go_wp2;refine L2 1 0 zD
  (fun a' W => ∃ (s : Rs) (out : List UInt8) (aO : Option Addr) (cO : Nat) (rest : Hid (exR B bound s out = exR B bound ⟨0, 0, 0⟩ [])) (u2 u3 u8 u9 u10 u11 u12 u13 u14 u15 u16 u17 u18 u19 u20 u21 u22 u23 u24 u25 u26 u27 u28 u29 u30 u31 u32 u33 u34 u35 u36 u37 u38 u39 u40 u41 u42 u43 u44 u45 u46 u47 u48 u49 u50 u51 u52 u53 u54 u55 u56 u57 u58 u59 u60 u61 u62 u63 u64 u65 u66 u67 u68 u69 u70 : Value), JO w W B a s out aO cO ∧ Ph bound out ∧ a' = { tmps := #[.slice a B.length c, .int .i64 bound, u2, u3, .slice none 0 0, .pointer (some ⟨w.heap.size, 0, none⟩), .pointer (some ⟨w.heap.size + 1, 0, none⟩), .slice aO out.length cO, u8, u9, u10, u11, u12, u13, u14, u15, u16, u17, u18, u19, u20, u21, u22, u23, u24, u25, u26, u27, u28, u29, u30, u31, u32, u33, u34, u35, u36, u37, u38, u39, u40, u41, u42, u43, u44, u45, u46, u47, u48, u49, u50, u51, u52, u53, u54, u55, u56, u57, u58, u59, u60, u61, u62, u63, u64, u65, u66, u67, u68, u69, u70], defers := [] })
  (fun a' W => ∃ (s : Rs) (out : List UInt8) (aO : Option Addr) (cO : Nat) (rest : Hid (exR B bound ⟨0, 0, 0⟩ [] = (s, out))) (u2 u3 u8 u9 u10 u11 u12 u13 u14 u15 u16 u17 u18 u19 u20 u21 u22 u23 u24 u25 u26 u27 u28 u29 u30 u31 u32 u33 u34 u35 u36 u37 u38 u39 u40 u41 u42 u43 u44 u45 u46 u47 u48 u49 u50 u51 u52 u53 u54 u55 u56 u57 u58 u59 u60 u61 u62 u63 u64 u65 u66 u67 u68 u69 u70 : Value), JO w W B a s out aO cO ∧ Ph bound out ∧ a' = { tmps := #[.slice a B.length c, .int .i64 bound, u2, u3, .slice none 0 0, .pointer (some ⟨w.heap.size, 0, none⟩), .pointer (some ⟨w.heap.size + 1, 0, none⟩), .slice aO out.length cO, u8, u9, u10, u11, u12, u13, u14, u15, u16, u17, u18, u19, u20, u21, u22, u23, u24, u25, u26, u27, u28, u29, u30, u31, u32, u33, u34, u35, u36, u37, u38, u39, u40, u41, u42, u43, u44, u45, u46, u47, u48, u49, u50, u51, u52, u53, u54, u55, u56, u57, u58, u59, u60, u61, u62, u63, u64, u65, u66, u67, u68, u69, u70], defers := [] })
  (fun _ W => SH B.length (w.heap.size + 1) W) rfl rfl ?_ ?_ ?_
 ·rintro a' W ⟨s, out, aO, cO, hex, u2, u3, u8, u9, u10, u11, u12, u13, u14, u15, u16, u17, u18, u19, u20, u21, u22, u23, u24, u25, u26, u27, u28, u29, u30, u31, u32, u33, u34, u35, u36, u37, u38, u39, u40, u41, u42, u43, u44, u45, u46, u47, u48, u49, u50, u51, u52, u53, u54, u55, u56, u57, u58, u59, u60, u61, u62, u63, u64, u65, u66, u67, u68, u69, u70, hI, hin, rfl⟩
  have hlen := NC hin hbd
  have hok := hI.rd.ok
  have hpl := hok.le
  have HI := hid hI
  have HIN := hid hin
  have HLF := hid (JQ W hI.rd)
  have hsz := hI.sz
  clear hI hin;by_cases hp : s.p < B.length
  ·have e0 : (((B.length : Int) - (s.p : Int)) == 0) = false := by rw [beq_eq_false_iff_ne]; omega
   by_cases hk : s.k = 0
   ·have hgo := TY (bound := bound) (out := out) hok hp hk
    rw [hex.out] at hgo
    have hmore := FC (B := B) (bound := bound) (s := s) (out := out)
    have hin2 := hid (LM (B := B) (s := s) HIN.out)
    have hst2 : CC B bound s out = CC B bound s out := rfl
    conv at hst2 => rhs; unfold CC
    generalize CC B bound s out = ES at *
    have hhead := hid (fun (W : World) (h : AK W (w.heap.size + 1) B a s) => Ob W h zD)
    have hhok := Rs.Gm (B := B) hok
    have hhle : (s.head B).2.2 ≤ 1048576 := by
     by_cases h0 : (s.head B).1.k = 0
     ·exact (Rs.I2 h0).2.2.2.2
     ·rw [(Rs.SG h0).2]; omega
    have hh1 : (s.head B).2.1 = true → 1 ≤ ((s.head B).1.offset B).2 ∨ ((s.head B).1.offset B).1.k ≠ 0 := fun _ => by
     by_cases h0 : ((s.head B).1.offset B).1.k = 0
     ·left; rw [(Rs.Ju h0).2.2.2.1]; omega
     ·right; exact h0
    have htake := hid (fun (W : World) (h : AK W (w.heap.size + 1) B a (s.head B).1) => JP W h ((s.head B).2.2 : Int) zD zD)
    have htl : ((s.head B).1.take B ((s.head B).2.2 : Int)).2.length ≤ 1048576 := by
     by_cases h0 : ((s.head B).1.take B ((s.head B).2.2 : Int)).1.k = 0
     ·rw [(Rs.IM h0).2.2]; omega
     ·rw [Rs.J7 h0]; simp
    have hoff := hid (fun (W : World) (h : AK W (w.heap.size + 1) B a (s.head B).1) => L8 W h zD)
    have hatp := hid (fun (W : World) (h : AK W (w.heap.size + 1) B a (s.head B).1) => BI W h)
    have hfail := hid (fun (W : World) (h : AK W (w.heap.size + 1) B a (s.head B).1) => Bf W h 11 s.p zD)
    have hfail2 := hid (fun (W : World) (h : AK W (w.heap.size + 1) B a ((s.head B).1.offset B).1) => Bf W h 10 (s.head B).1.p zD)
    have hfk := (Rs.Be (s := (s.head B).1) (c := 11) (at_ := (s.p : Int)) zD)
    have hfk2 := (Rs.Be (s := ((s.head B).1.offset B).1) (c := 10) (at_ := ((s.head B).1.p : Int)) zD)
    generalize (s.head B).1.fail 11 s.p = F1 at *
    generalize ((s.head B).1.offset B).1.fail 10 (s.head B).1.p = F2 at *
    generalize (s.head B).1.take B ((s.head B).2.2 : Int) = TK at *
    generalize (s.head B).1.offset B = OF at *
    generalize s.head B = H at *
    obtain ⟨s1, ic, m⟩ := H
    obtain ⟨s2, D⟩ := TK
    obtain ⟨s3, of⟩ := OF
    dsimp only at *;have HK := hid hk
    have hG := Ax
    have dk : decide (s.k = 0) = true := Ac hk
    have HGO := hid hgo
    have HMORE := hid hmore
    have hpx := hp
    have HST2 := hid hst2
    clear hk hgo hmore hst2 hG hok;by_cases hb1 : bound - (out.length : Int) < (m : Int)
    ·have d1 : decide (bound - (out.length : Int) < (m : Int)) = true := Ac hb1
     have hes := HST2.out
     rw [Ak hb1] at hes
     subst hes;have HGO2 := hid (HGO.out.trans (KD (fun e => hfk e.2)))
     clear hb1 HST2;go_wp2_with fail;refine HLF.out.mono ?_
     rintro r w1 ⟨rfl, hb1⟩;have hG := Ax w1 (HI.out.rd.later hb1)
     rw [dk] at hG
     have HG := hid hG
     clear hG dk;go_wp2_with fail;refine HG.out.mono ?_
     rintro r w2 ⟨rfl, hb2⟩;have HI2 := hid (HI.out.later (Af hb2 hb1))
     have HAT := hid (BI w2 HI2.out.rd)
     go_wp2_with fail;refine HAT.out.mono ?_
     rintro r w2' ⟨rfl, rfl⟩;have HHD := hid (hhead.out w2 HI2.out.rd)
     go_wp2_with fail;refine HHD.out.mono ?_
     rintro r w3 ⟨rfl, hst3⟩;have HI3 := hid (HI2.out.step hst3)
     clear hst3;have HFL := hid (hfail.out w3 HI3.out.rd)
     go_wp2_with fail;refine HFL.out.mono ?_
     rintro r w4 ⟨rfl, hst4⟩;have HI4 := hid (HI3.out.step hst4)
     clear hst4;go_wp2;go_step3
     exact .inr ⟨rfl, F1, out, aO, cO, HGO2, _, _, _, _, _, _, _, _, _, _, _, _, _, _, _, _, _, _, _, _, _, _, _, _, _, _, _, _, _, _, _, _, _, _, _, _, _, _, _, _, _, _, _, _, _, _, _, _, _, _, _, _, _, _, _, _, _, _, _, _, _, _, _, _, _, HI4.out, HIN.out, rfl⟩
    ·have d1 : decide (bound - (out.length : Int) < (m : Int)) = false := Ab hb1
     have hes := HST2.out
     rw [An hb1] at hes
     clear HST2;cases ic
     ·simp only [if_true] at hes
      subst hes;clear hb1;go_wp2_with fail;refine HLF.out.mono ?_
      rintro r w1 ⟨rfl, hb1⟩;have hG := Ax w1 (HI.out.rd.later hb1)
      rw [dk] at hG
      have HG := hid hG
      clear hG dk;go_wp2_with fail;refine HG.out.mono ?_
      rintro r w2 ⟨rfl, hb2⟩;have HI2 := hid (HI.out.later (Af hb2 hb1))
      have HAT := hid (BI w2 HI2.out.rd)
      go_wp2_with fail;refine HAT.out.mono ?_
      rintro r w2' ⟨rfl, rfl⟩;have HHD := hid (hhead.out w2 HI2.out.rd)
      go_wp2_with fail;refine HHD.out.mono ?_
      rintro r w3 ⟨rfl, hst3⟩;have HI3 := hid (HI2.out.step hst3)
      clear hst3;have HTK := hid (htake.out w3 HI3.out.rd)
      go_wp2_with fail;refine HTK.out.mono ?_
      rintro r w4 ⟨v, rfl, hr, hst4⟩;obtain ⟨aD, cD, hv, hr2, _⟩ := AE hr
      simp only [Ap, AD] at hv
      subst hv;have HI4 := hid (HI3.out.step hst4)
      have HS4 := hid (CZ hr2)
      have HONE := hid (BV D)
      have hsz4 := HI4.out.sz
      clear hst4 hr hr2;go_wp2_with (at_builtin; go_loud (refine AB rfl _ _ _ rfl (w.heap.size + 2) 5 i0 (.int .u8 0) 1 1 AU hi hz0 hz1 hz2 rfl zP (.slice aO out.length cO) out.length (byteCells out) rfl HI4.out.own aD D.length cD (byteCells D) rfl HS4.out HONE.out zQ zD zD ?_; intro v' w5 hown5 hgrow5 hat5; obtain ⟨a5, c5, rfl⟩ := Bh hown5; have HO5 := hid hown5; have HG5 := hid hgrow5; clear hown5 hgrow5 hat5))
      have ho := HO5.out
      rw [KP, show out.length + D.length = (out ++ D).length by simp] at ho
      have hb5 : Below (w.heap.size + 2) w4 w5 := Below.grown (Below.refl _ _) HG5.out zD (fun g e => (HI4.out.own.lt g e).1)
      have HI5 := hid (HI4.out.row hb5 ho)
      clear ho hb5;rw [show out.length + D.length = (out ++ D).length by simp]
      go_step3
      exact .inl ⟨rfl, ⟨s2, out ++ D, a5, c5, hid HGO.out.symm, _, _, _, _, _, _, _, _, _, _, _, _, _, _, _, _, _, _, _, _, _, _, _, _, _, _, _, _, _, _, _, _, _, _, _, _, _, _, _, _, _, _, _, _, _, _, _, _, _, _, _, _, _, _, _, _, _, _, _, _, _, _, _, _, _, HI5.out, hin2.out, rfl⟩, JV HI.out.rd HI5.out.rd HK.out hpx (fun h => (HMORE.out h).1)⟩
     ·simp only [Bool.true_eq_false, if_false] at hes
      by_cases h3 : out.length < of
      ·have d3 : decide ((out.length : Int) < (of : Int)) = true := Ac zD
       have d3' : decide (out.length < of) = true := Ac h3
       rw [Ak h3] at hes
       subst hes;clear hb1;go_wp2_with fail;refine HLF.out.mono ?_
       rintro r w1 ⟨rfl, hb1⟩;have hG := Ax w1 (HI.out.rd.later hb1)
       rw [dk] at hG
       have HG := hid hG
       clear hG dk;go_wp2_with fail;refine HG.out.mono ?_
       rintro r w2 ⟨rfl, hb2⟩;have HI2 := hid (HI.out.later (Af hb2 hb1))
       have HAT := hid (BI w2 HI2.out.rd)
       go_wp2_with fail;refine HAT.out.mono ?_
       rintro r w2' ⟨rfl, rfl⟩;have HHD := hid (hhead.out w2 HI2.out.rd)
       go_wp2_with fail;refine HHD.out.mono ?_
       rintro r w3 ⟨rfl, hst3⟩;have HI3 := hid (HI2.out.step hst3)
       clear hst3;have HATP := hid (hatp.out w3 HI3.out.rd)
       go_wp2_with fail;refine HATP.out.mono ?_
       rintro r w3' ⟨rfl, rfl⟩;have HOF := hid (hoff.out w3 HI3.out.rd)
       go_wp2_with fail;refine HOF.out.mono ?_
       rintro r w4 ⟨rfl, hst4⟩;have HI4 := hid (HI3.out.step hst4)
       clear hst4;have HFL := hid (hfail2.out w4 HI4.out.rd)
       go_wp2_with fail;refine HFL.out.mono ?_
       rintro r w5 ⟨rfl, hst5⟩;have HI5 := hid (HI4.out.step hst5)
       have hG5 := Ax w5 HI5.out.rd
       rw [Ab hfk2] at hG5
       have HG5 := hid hG5
       clear hst5 hG5;go_wp2_with fail;refine HG5.out.mono ?_
       rintro r w6 ⟨rfl, hb6⟩;have HI6 := hid (HI5.out.later hb6)
       go_wp2;go_step3
       exact .inl ⟨rfl, ⟨F2, out, aO, cO, hid HGO.out.symm, _, _, _, _, _, _, _, _, _, _, _, _, _, _, _, _, _, _, _, _, _, _, _, _, _, _, _, _, _, _, _, _, _, _, _, _, _, _, _, _, _, _, _, _, _, _, _, _, _, _, _, _, _, _, _, _, _, _, _, _, _, _, _, _, _, HI6.out, HIN.out, rfl⟩, JV HI.out.rd HI6.out.rd HK.out hpx (fun h => absurd h hfk2)⟩
      ·have d3 : decide ((out.length : Int) < (of : Int)) = false := Ab zD
       have d3' : decide (out.length < of) = false := Ab h3
       rw [An h3] at hes
       by_cases h4 : s3.k = 0
       ·have d4 : decide (s3.k = 0) = true := Ac h4
        rw [Ak h4] at hes
        have hof1 : 1 ≤ of := by exact (hh1 rfl).elim id (absurd h4)
        subst hes;go_wp2_with fail;refine HLF.out.mono ?_
        rintro r w1 ⟨rfl, hb1⟩;have hG := Ax w1 (HI.out.rd.later hb1)
        rw [dk] at hG
        have HG := hid hG
        clear hG dk;go_wp2_with fail;refine HG.out.mono ?_
        rintro r w2 ⟨rfl, hb2⟩;have HI2 := hid (HI.out.later (Af hb2 hb1))
        have HAT := hid (BI w2 HI2.out.rd)
        go_wp2_with fail;refine HAT.out.mono ?_
        rintro r w2' ⟨rfl, rfl⟩;have HHD := hid (hhead.out w2 HI2.out.rd)
        go_wp2_with fail;refine HHD.out.mono ?_
        rintro r w3 ⟨rfl, hst3⟩;have HI3 := hid (HI2.out.step hst3)
        clear hst3;have HATP := hid (hatp.out w3 HI3.out.rd)
        go_wp2_with fail;refine HATP.out.mono ?_
        rintro r w3' ⟨rfl, rfl⟩;have HOF := hid (hoff.out w3 HI3.out.rd)
        go_wp2_with fail;refine HOF.out.mono ?_
        rintro r w4 ⟨rfl, hst4⟩;have HI4 := hid (HI3.out.step hst4)
        clear hst4;have hG5 := Ax w4 HI4.out.rd
        rw [d4] at hG5
        have HG5 := hid hG5
        clear hG5 d4;go_wp2_with fail;refine HG5.out.mono ?_
        rintro r w6 ⟨rfl, hb6⟩;have HI6 := hid (HI4.out.later hb6)
        have HAG := hid (Mz w6 out HI6.out.own HI6.out.sz of m hof1 zD zD)
        have HAL := hid (Ig of m out)
        have HIN2 := hid hin2.out
        clear hb1;go_wp2_with fail;refine HAG.out.mono ?_
        rintro r w7 ⟨a7, c7, rfl, hown7, hb7⟩;rw [← HAL.out] at hown7
        have HI7 := hid (HI6.out.row hb7 hown7)
        clear hown7;go_wp2;rw [← HAL.out]
        go_step3
        exact .inl ⟨rfl, ⟨s3, _, a7, c7, hid HGO.out.symm, _, _, _, _, _, _, _, _, _, _, _, _, _, _, _, _, _, _, _, _, _, _, _, _, _, _, _, _, _, _, _, _, _, _, _, _, _, _, _, _, _, _, _, _, _, _, _, _, _, _, _, _, _, _, _, _, _, _, _, _, _, _, _, _, _, HI7.out, HIN2.out, rfl⟩, JV HI.out.rd HI7.out.rd HK.out hpx (fun h => (HMORE.out h).1)⟩
       ·have d4 : decide (s3.k = 0) = false := Ab h4
        rw [An h4] at hes
        subst hes;clear hb1;go_wp2_with fail;refine HLF.out.mono ?_
        rintro r w1 ⟨rfl, hb1⟩;have hG := Ax w1 (HI.out.rd.later hb1)
        rw [dk] at hG
        have HG := hid hG
        clear hG dk;go_wp2_with fail;refine HG.out.mono ?_
        rintro r w2 ⟨rfl, hb2⟩;have HI2 := hid (HI.out.later (Af hb2 hb1))
        have HAT := hid (BI w2 HI2.out.rd)
        go_wp2_with fail;refine HAT.out.mono ?_
        rintro r w2' ⟨rfl, rfl⟩;have HHD := hid (hhead.out w2 HI2.out.rd)
        go_wp2_with fail;refine HHD.out.mono ?_
        rintro r w3 ⟨rfl, hst3⟩;have HI3 := hid (HI2.out.step hst3)
        clear hst3;have HATP := hid (hatp.out w3 HI3.out.rd)
        go_wp2_with fail;refine HATP.out.mono ?_
        rintro r w3' ⟨rfl, rfl⟩;have HOF := hid (hoff.out w3 HI3.out.rd)
        go_wp2_with fail;refine HOF.out.mono ?_
        rintro r w4 ⟨rfl, hst4⟩;have HI4 := hid (HI3.out.step hst4)
        clear hst4;have hG5 := Ax w4 HI4.out.rd
        rw [d4] at hG5
        have HG5 := hid hG5
        clear hG5 d4;go_wp2_with fail;refine HG5.out.mono ?_
        rintro r w6 ⟨rfl, hb6⟩;have HI6 := hid (HI4.out.later hb6)
        go_wp2;go_step3
        exact .inl ⟨rfl, ⟨s3, out, aO, cO, hid HGO.out.symm, _, _, _, _, _, _, _, _, _, _, _, _, _, _, _, _, _, _, _, _, _, _, _, _, _, _, _, _, _, _, _, _, _, _, _, _, _, _, _, _, _, _, _, _, _, _, _, _, _, _, _, _, _, _, _, _, _, _, _, _, _, _, _, _, _, HI6.out, HIN.out, rfl⟩, JV HI.out.rd HI6.out.rd HK.out hpx (fun h => absurd h h4)⟩
   ·have dk : decide (s.k = 0) = false := Ab hk
    have hst := KD (bound := bound) (out := out) (fun e => hk e.2 : ¬ (s.p < B.length ∧ s.k = 0))
    have HEX := hid (hex.out.symm.trans hst)
    clear hk hst hex;go_wp2_with fail;refine HLF.out.mono ?_
    rintro r w1 ⟨rfl, hb1⟩;have hG := Ax w1 (HI.out.rd.later hb1)
    rw [dk] at hG
    have HG := hid hG
    clear hG dk;go_wp2_with fail;refine HG.out.mono ?_
    rintro r w2 ⟨rfl, hb2⟩;have HI2 := hid (HI.out.later (Af hb2 hb1))
    go_wp2;go_step3
    exact .inr ⟨rfl, s, out, aO, cO, HEX, _, _, _, _, _, _, _, _, _, _, _, _, _, _, _, _, _, _, _, _, _, _, _, _, _, _, _, _, _, _, _, _, _, _, _, _, _, _, _, _, _, _, _, _, _, _, _, _, _, _, _, _, _, _, _, _, _, _, _, _, _, _, _, _, _, HI2.out, HIN.out, rfl⟩
  ·have e0 : (((B.length : Int) - (s.p : Int)) == 0) = true := by rw [beq_iff_eq]; omega
   have hst := KD (bound := bound) (out := out) (fun e => hp e.1 : ¬ (s.p < B.length ∧ s.k = 0))
   have HEX := hid (hex.out.symm.trans hst)
   clear hst hex;go_wp2_with fail;refine HLF.out.mono ?_
   rintro r w1 ⟨rfl, hb1⟩;have HI2 := hid (HI.out.later hb1)
   go_wp2;go_step3
   exact .inr ⟨rfl, s, out, aO, cO, HEX, _, _, _, _, _, _, _, _, _, _, _, _, _, _, _, _, _, _, _, _, _, _, _, _, _, _, _, _, _, _, _, _, _, _, _, _, _, _, _, _, _, _, _, _, _, _, _, _, _, _, _, _, _, _, _, _, _, _, _, _, _, _, _, _, _, HI2.out, HIN.out, rfl⟩
 ·rintro a' W ⟨s, out, aO, cO, hex, u2, u3, u8, u9, u10, u11, u12, u13, u14, u15, u16, u17, u18, u19, u20, u21, u22, u23, u24, u25, u26, u27, u28, u29, u30, u31, u32, u33, u34, u35, u36, u37, u38, u39, u40, u41, u42, u43, u44, u45, u46, u47, u48, u49, u50, u51, u52, u53, u54, u55, u56, u57, u58, u59, u60, u61, u62, u63, u64, u65, u66, u67, u68, u69, u70, hI, hin, rfl⟩
  have HI := hid hI
  have HFA := hid (GP W hI.rd)
  have hsz := hI.sz
  have hle := NC hin hbd
  have hex2 := TZ B bound
  rw [hex.out] at hex2
  dsimp only at hex2;clear hin hI hex;by_cases hk : s.k = 0
  ·rw [Ak hk] at hex2
   have HX := hid hex2
   have dk : decide (s.k = 0) = true := Ac hk
   have HK := hid hk
   clear hk hex2;go_wp2_with fail;refine HFA.out.mono ?_
   rintro r w1 ⟨rfl, hb1⟩;have hG := CA (w1.alloc (.cells #[.int .i64 s.k, .int .i64 s.f] 58)) s.k s.f
   rw [dk] at hG
   have HG := hid hG
   clear hG dk;go_wp2_with fail;refine HG.out.mono ?_
   rintro r w2 ⟨rfl, hb2⟩;have hb12 : Below W.heap.size W w2 := Af hb2 (Az hb1 _)
   have HI2 := hid (HI.out.later hb12)
   have hfl := HI2.out.fl
   obtain ⟨y0, y1, g0, g1, l1⟩ := Bu hfl
   have hV := Cp rfl HI2.out.own
   have HV := hid hV
   clear hfl hV;go_wp2;simp only [Lz]
   refine Ai (v := .tuple #[.slice aO out.length cO, .agg #[.int .i64 0, .int .i64 0]]) zBo rfl ⟨_, by rw [HX.out], ?_, ?_⟩
   ·rw [HX.out]
    refine Ag.mono (Ag.keep HV.out fun q hq => ?_) fun q hq => ⟨zD, by simp [World.setCell]; exact hq.2⟩
    repeat (rw [AG _ _ _ _ zM])
   ·have hbe := HI2.out.be
    (repeat (first | with_reducible exact Below.refl _ _ | with_reducible assumption | (with_reducible refine Az ?_ _) | (with_reducible refine Below.setCell ?_ zE _) | (with_reducible refine Below.drew ?_) | (with_reducible refine below_drewN ?_ _) | (refine Af zJ ?_)))
  ·rw [An hk] at hex2
   have HX := hid hex2
   have dk : decide (s.k = 0) = false := Ab hk
   have HK := hid hk
   clear hk hex2;go_wp2_with fail;refine HFA.out.mono ?_
   rintro r w1 ⟨rfl, hb1⟩;have hG := CA (w1.alloc (.cells #[.int .i64 s.k, .int .i64 s.f] 58)) s.k s.f
   rw [dk] at hG
   have HG := hid hG
   clear hG dk;go_wp2_with fail;refine HG.out.mono ?_
   rintro r w2 ⟨rfl, hb2⟩;have hb12 : Below W.heap.size W w2 := Af hb2 (Az hb1 _)
   have HI2 := hid (HI.out.later hb12)
   have hfl := HI2.out.fl
   obtain ⟨y0, y1, g0, g1, l1⟩ := Bu hfl
   obtain ⟨z0, z1, e0, e1, l2⟩ := Bu (Blk.later (Blk.newAt _ _ _ rfl) hb2)
   have hbe := HI2.out.be
   clear hfl;go_wp2_with fail;go_region
   all_goals
    go_wp2;simp only [Lz]
    refine Ai (v := .tuple #[.slice none 0 0, .agg #[.int .i64 s.k, .int .i64 s.f]]) zBo rfl ⟨_, by rw [HX.out], by rw [HX.out]; exact Cd rfl rfl (by omega), ?_⟩
    (repeat (first | with_reducible exact Below.refl _ _ | with_reducible assumption | (with_reducible refine Az ?_ _) | (with_reducible refine Below.setCell ?_ zE _) | (with_reducible refine Below.drew ?_) | (with_reducible refine below_drewN ?_ _) | (refine Af zJ ?_)))
 ·intro K hK
  have HN := hid (OH (w.alloc (.cells #[.int .i64 0, .int .i64 0] 58)) B a _ c (lift HL.out zA))
  go_wp2_with fail;refine HN.out.mono ?_
  rintro r w1 ⟨rfl, hrd, hb⟩;have hI : JO w w1 B a ⟨0, 0, 0⟩ [] none 0 := ⟨by simpa using hrd, Ag.keep HCAP.out fun q hq => (hb.block q zL).trans (BD _ _ q hq), Blk.later zC hb, ⟨rfl, .inl ⟨rfl, rfl⟩⟩, zA, by have := hrd.blk.lt; simp at this; omega⟩
  have HI := hid hI
  clear hI hrd hb;go_wp2;go_step3
  rename_i hkk
  exact hkk _ _ (hK _ _ ⟨⟨0, 0, 0⟩, [], none, 0, hid rfl, _, _, _, _, _, _, _, _, _, _, _, _, _, _, _, _, _, _, _, _, _, _, _, _, _, _, _, _, _, _, _, _, _, _, _, _, _, _, _, _, _, _, _, _, _, _, _, _, _, _, _, _, _, _, _, _, _, _, _, _, _, _, _, _, _, HI.out, .inl rfl, rfl⟩)
open Go.RowKit Go.Bs
theorem Th : Qh Tryz.prog 25 Ag := Nk (sz := 1) AU zH zP (OO Tryz.underlying5)
structure GB (w wr : World) (N0 N1 gs g mb base : Nat) (b : List UInt8) (sa : Option Addr) (sc : Nat) (ab : Option Addr) (cb : Nat) (a : Option Addr) (c : Nat) (p i nn : Nat) (av : Option Addr) (cv : Nat) (ap : Option Addr) (cp : Nat) (L : List Tok) (cells : List (List Value)) : Prop where
 pb : p ≤ b.length
 ip : i ≤ p
 np : nn ≤ p
 bb : Blk wr w.heap.size 25 #[.slice a b.length c]
 bo : Blk wr (w.heap.size + 1) 214 #[.slice av L.length cv]
 bf : Blk wr (w.heap.size + 2) 3 #[.int .i64 (i : Int)]
 own : BM (fun q => N1 ≤ q ∧ q < wr.heap.size ∧ (Value.slice ap nn cp).ownBlock ≠ some q) IQ N1 225 3 wr (.slice av L.length cv) L cells
 sk : G1 wr gs g mb base N0 N1 b nn sa sc ab cb ap cp
 apart : ∀ q, (Value.slice av L.length cv).ownBlock = some q → (Value.slice ap nn cp).ownBlock ≠ some q
 len : L.length ≤ p
 toks : L ++ Hf b p i = DI b
 below : Below w.heap.size w wr
 n0 : N0 = w.heap.size + 3
 n1 : N0 ≤ gs ∧ gs < N1 ∧ N0 ≤ g ∧ g < N1 ∧ N0 ≤ mb ∧ mb < N1 ∧ N0 ≤ base
theorem GB.top {w wr : World} {N0 N1 gs g mb base : Nat} {b : List UInt8} {sa : Option Addr} {sc : Nat} {ab : Option Addr} {cb : Nat} {a : Option Addr} {c : Nat} {p i nn : Nat} {av : Option Addr} {cv : Nat} {ap : Option Addr} {cp : Nat} {L : List Tok} {cells : List (List Value)}
  (h : GB w wr N0 N1 gs g mb base b sa sc ab cb a c p i nn av cv ap cp L cells) : N1 ≤ wr.heap.size := h.sk.top
theorem GB.Ur {w wr w1 : World} {N0 N1 gs g mb base : Nat} {b : List UInt8} {sa : Option Addr} {sc : Nat} {ab : Option Addr} {cb : Nat} {a : Option Addr} {c : Nat} {p i nn m : Nat} {av : Option Addr} {cv : Nat} {ap : Option Addr} {cp : Nat} {L : List Tok} {cells : List (List Value)}
  (h : GB w wr N0 N1 gs g mb base b sa sc ab cb a c p i nn av cv ap cp L cells) (hs : MI wr gs g mb base N0 N1 b nn m sa sc ab cb ap cp w1) (hm : m ≤ p) :
  ∃ ap' cp', GB w w1 N0 N1 gs g mb base b sa sc ab cb a c p i m av cv ap' cp' L cells := by
 obtain ⟨ap', cp', h1, h2, h3⟩ := hs
 have htop := h.top
 have hn0 := h.n0
 obtain ⟨k1, k2, k3, k4, k5, k6, k7⟩ := h.n1
 have hsz := h2.size
 have hapb : ∀ q, (Value.slice ap nn cp).ownBlock = some q → N0 ≤ q ∧ q < wr.heap.size := fun q hq => by
  have := h.sk.ch.prev.lt q hq
  exact ⟨zD, this.2⟩
 have hlow : ∀ q, q < N0 → ¬ (q = gs ∨ q = g ∨ q = mb ∨ (Value.slice ap nn cp).ownBlock = some q) := fun q hq e => by
  rcases e with e | e | e | e
  ·omega
  ·omega
  ·omega
  ·have := (hapb q e).1; omega
 have hav := fun q (hq : (Value.slice av L.length cv).ownBlock = some q) => h.own.1.lt q hq
 have hnew : ∀ q, q < wr.heap.size → (Value.slice ap nn cp).ownBlock ≠ some q → (Value.slice ap' m cp').ownBlock ≠ some q := fun q hq hne e => by
  rcases h3 with h3 | ⟨q', hq', hlt⟩
  ·rw [h3] at e; exact hne e
  ·rw [hq'] at e; have := Cf e; omega
 refine ⟨ap', cp', ⟨h.pb, h.ip, hm, h.bb.tch h2 (hlow _ zD), h.bo.tch h2 (hlow _ zD), h.bf.tch h2 (hlow _ zD), ?_, h1, fun q hq => hnew q (hav q hq).2 (h.apart q hq), h.len, h.toks, h.below.trans (h2.BE zD fun q hq e => ?_), h.n0, h.n1⟩⟩
 ·refine (h.own.keep (w' := w1) (fun q hq => h2.block q hq.2.1 (fun e => ?_)) (fun q hq => h2.block q (hav q hq).2 (fun e => ?_))).mono fun q hq => ⟨hq.1, zD, hnew q hq.2.1 hq.2.2⟩
  ·rcases e with e | e | e | e
   ·omega
   ·omega
   ·omega
   ·exact hq.2.2 e
  ·have := (hav q hq).1
   rcases e with e | e | e | e
   ·omega
   ·omega
   ·omega
   ·exact h.apart q hq e
 ·by_cases hq0 : q < N0
  ·exact absurd e (hlow q hq0)
  ·omega
theorem GB.out {w wr w1 : World} {N0 N1 gs g mb base : Nat} {b : List UInt8} {sa : Option Addr} {sc : Nat} {ab : Option Addr} {cb : Nat} {a : Option Addr} {c : Nat} {p i nn : Nat} {av : Option Addr} {cv : Nat} {ap : Option Addr} {cp : Nat} {L : List Tok} {cells : List (List Value)}
  (h : GB w wr N0 N1 gs g mb base b sa sc ab cb a c p i nn av cv ap cp L cells) {p' i' : Nat} {av' : Option Addr} {cv' : Nat} {L' : List Tok} {cells' : List (List Value)} (hp : p' ≤ b.length) (hi : i' ≤ p') (hn : nn ≤ p')
  (hf : Blk w1 (w.heap.size + 2) 3 #[.int .i64 (i' : Int)]) (ho : Blk w1 (w.heap.size + 1) 214 #[.slice av' L'.length cv'])
  (hown : BM (fun q => (N1 ≤ q ∧ q < wr.heap.size ∧ (Value.slice ap nn cp).ownBlock ≠ some q) ∨ (wr.heap.size ≤ q ∧ q < w1.heap.size)) IQ N1 225 3 w1 (.slice av' L'.length cv') L' cells')
  (ht : Tch (fun q => q = w.heap.size + 1 ∨ q = w.heap.size + 2 ∨ (Value.slice av L.length cv).ownBlock = some q) wr w1) (hat : (Value.slice av' L'.length cv').ownBlock = (Value.slice av L.length cv).ownBlock ∨ ∃ q, (Value.slice av' L'.length cv').ownBlock = some q ∧ wr.heap.size ≤ q)
  (hlen : L'.length ≤ p') (htok : L' ++ Hf b p' i' = DI b) : GB w w1 N0 N1 gs g mb base b sa sc ab cb a c p' i' nn av' cv' ap cp L' cells' := by
 have htop := h.top
 have hn0 := h.n0
 obtain ⟨k1, k2, k3, k4, k5, k6, k7⟩ := h.n1
 have hsz := ht.size
 have hapb : ∀ q, (Value.slice ap nn cp).ownBlock = some q → N0 ≤ q ∧ q < wr.heap.size := fun q hq => by
  have := h.sk.ch.prev.lt q hq
  exact ⟨zD, this.2⟩
 have hav := fun q (hq : (Value.slice av L.length cv).ownBlock = some q) => h.own.1.lt q hq
 have hmid : ∀ q, N0 ≤ q → q < N1 → ¬ (q = w.heap.size + 1 ∨ q = w.heap.size + 2 ∨ (Value.slice av L.length cv).ownBlock = some q) := fun q h1 h2 e => by
  rcases e with e | e | e
  ·omega
  ·omega
  ·have := (hav q e).1; omega
 obtain ⟨t, hgs⟩ := h.sk.blk
 refine ⟨hp, hi, hn, h.bb.tch ht (fun e => ?_), ho, hf, hown.mono fun q hq => ?_, h.sk.tch ht (hmid g k3 k4) (hmid mb k5 k6) (fun q hq e => ?_) (fun q h1 h2 _ => hmid q h1 h2) ⟨t, hgs.tch ht (hmid gs k1 k2)⟩, fun q hq e => ?_, hlen, htok, h.below.trans (ht.BE h.below.size fun q hq e => ?_), h.n0, h.n1⟩
 ·rcases e with e | e | e
  ·omega
  ·omega
  ·have := (hav _ e).1; omega
 ·rcases hq with hq | hq
  ·exact ⟨hq.1, zD, hq.2.2⟩
  ·exact ⟨zD, hq.2, fun e => by have := (hapb q e).2; omega⟩
 ·rcases e with e | e | e
  ·have := (hapb q hq).1; omega
  ·have := (hapb q hq).1; omega
  ·exact h.apart q e hq
 ·rcases hat with hat | ⟨q', hq', hlt⟩
  ·rw [hat] at hq; exact h.apart q hq e
  ·rw [hq'] at hq; have := Cf hq; have := (hapb q e).2; omega
 ·rcases e with e | e | e
  ·omega
  ·omega
  ·have := (hav q e).1; omega
def Qg (w : World) (L : List Tok) (r : Ending) (w' : World) : Prop := ∃ v, r = .returned (.tuple #[v, .int .i64 0]) ∧ Nd.r (fun q => w.heap.size ≤ q ∧ q < w'.heap.size) w' [v] L ∧ Below w.heap.size w w'
theorem Mk (w : World) (b : List UInt8) (a : Option Addr) (n c : Nat) (hl : Ag.r (· < w.heap.size) w [.slice a n c] b) (hlen : b.length ≤ 1048576) :
  Calls Tryz.prog 247 #[.slice a n c] w (Qg w (DI b)) := by
 obtain ⟨rfl, hm, _, _⟩ := AP hl
 obtain ⟨j0, hj0, hy0, hy1, hy2⟩ := Bq PV
 have HL := hid hl; clear hl
 have d1 : decide ((1048576 : Int) < (b.length : Int)) = false := zL
 go_enter Tryz.func247, Tryz.ntmps247
 go_wp2_with fail;refine (RN _ b _ _ _ (lift HL.out zB) hlen).mono ?_
 rintro r w1 ⟨gs, g, mb, base, sa, sc, ab, cb, rfl, hsk, hb1, q1, q2, q3, q4⟩;have hz1 : w.heap.size + 3 ≤ w1.heap.size := by have := hb1.size; simpa using this
 simp only [World.size_alloc] at q1 q2 q3 q4
 have hmlt : mb < w1.heap.size := by obtain ⟨D, hD, _⟩ := hsk.ch.map; exact hD.lt
 have hat0 : GB w w1 (w.heap.size + 3) w1.heap.size gs g mb base b sa sc ab cb a c 0 0 0 none 0 none 0 [] [] := by
  refine ⟨Aj _, Al _, Al _, Blk.later zC hb1, Blk.later zC hb1, Blk.later zC hb1, BM.nil, ?_, fun q hq => by simp [Value.ownBlock] at hq, Aj _, ?_, zB, rfl, ⟨zD, hsk.blk.choose_spec.lt, zD, hsk.ch.blk.lt, zD, hmlt, zD⟩⟩
  ·simpa using hsk
  ·rfl
 have H0 := hid hat0
 clear hat0 hsk q1 q2 q3 q4 hmlt;generalize hN1 : w1.heap.size = N1 at *
 have HN1 := hid hN1; clear hN1
 go_wp2_with fail;go_loopw [8] (fun i wr => ∃ (p i0 nn : Nat) (av : Option Addr) (cv : Nat) (ap : Option Addr) (cp : Nat) (L : List Tok) (cells : List (List Value)), i = .int .i64 p ∧ Hid (GB w wr (w.heap.size + 3) N1 gs g mb base b sa sc ab cb a c p i0 nn av cv ap cp L cells)) (fun i _ => b.length - (intOf i).toNat)
 case atStart => exact ⟨0, 0, 0, none, 0, none, 0, [], [], rfl, H0⟩
 case round =>
  obtain ⟨p, i, nn, av, cv, ap, cp, L, cells, rfl, hT⟩ := hrel
  clear H0;have hpb := hT.out.pb
  have hip := hT.out.ip
  have cb0 : wr.cell? ⟨w.heap.size, 0, none⟩ = some (.slice a b.length c) := hT.out.bb.cell 0
  by_cases hlt : p < b.length
  ·have hB := hid (Qy wr hT.out.sk hT.out.np hlt)
   have hbr := Ie b p
   have htn := hid (fun h => N9 (b := b) (p := p) (i := i) hlt h)
   have hts := hid (fun h => N8 (b := b) (p := p) (i := i) hlt h)
   have hfc := hid (GZ b p)
   have dlt : decide ((p : Int) < (b.length : Int)) = true := zL
   generalize hbb : BY b p = bb at *
   obtain ⟨o, m⟩ := bb
   have HBB := hid hbb; clear hbb
   simp only at hbr
   go_wp2_with fail;refine hB.out.mono ?_
   rintro r w2 ⟨hr, hst⟩;rw [HBB.out] at hr
   subst hr;obtain ⟨ap2, cp2, hT2⟩ := hT.out.Ur hst (Al _)
   have HT2 := hid hT2; clear hst hT2
   by_cases hm0 : m = 0
   ·have e1 : ((m : Int) == 0) = true := by simp; omega
    have HT3 := hid (show GB w w2 (w.heap.size + 3) N1 gs g mb base b sa sc ab cb a c (p + 1) i p av cv ap2 cp2 L cells from { HT2.out with pb := zD, ip := zD, np := zD, len := by have := HT2.out.len; omega, toks := by rw [← htn.out hm0]; exact HT2.out.toks })
    clear hm0;go_wp2_with fail;go_roundw
    case rel => exact ⟨p + 1, i, p, av, cv, ap2, cp2, L, cells, zW, HT3⟩
    case measure => simp [intOf]; omega
   ·have e1 : ((m : Int) == 0) = false := by simp; omega
    have hm4 : 4 ≤ m ∧ o ≤ p := by
     rcases hfc.out with h | ⟨o', m', h, h1, h2, h3, _⟩
     ·simp only [CG] at h; omega
     ·simp only [CG] at h
      unfold reach at h2;omega
    have htop := HT2.out.top
    have hn0 := HT2.out.n1
    have hav := fun q (hq : (Value.slice av L.length cv).ownBlock = some q) => HT2.out.own.1.lt q hq
    have hRun := Ls w2 (to := p) HT2.out.bf HT2.out.bo HT2.out.bb (Ag.mono (Ag.keep HL.out fun q hq => HT2.out.below.block q hq) fun q hq => Ah hq HT2.out.below.size) HT2.out.own (fun q hq => hq.2.1) (fun hq => zU) (fun e => ZW) ⟨zD, zD, fun e => ZW, fun e => ZW⟩ zD hlen (by have := HT2.out.len; omega) htop
    have HRun := hid hRun; clear hRun
    have HM0 := hid hm0; clear hm0
    go_wp2_with fail;refine HRun.out.mono ?_
    rintro r w3 ⟨rfl, av3, cv3, cells3, hbo3, hown3, ht3, hat3⟩;have hLL : (L ++ EM b i p).length ≤ p + 1 := by
     have h1 := HT2.out.len
     unfold EM;split <;> simp <;> omega
    have HHBO := hid hbo3
    have o1 : w3.cell? ⟨w.heap.size + 1, 0, none⟩ = some (.slice av3 (L ++ EM b i p).length cv3) := hbo3.cell 0
    have o2 := hbo3.free 0
    have l1 := hbo3.lt
    have HB3 := hid (HT2.out.bf.tch ht3 (fun e => by
     rcases e with e | e
     ·omega
     ·have := (hav _ e).1; omega))
    have l2 := HB3.out.lt
    have hz3 : N1 ≤ w3.heap.size := A5 htop ht3.size
    have hav3 := fun q (hq : (Value.slice av3 (L ++ EM b i p).length cv3).ownBlock = some q) => hown3.1.lt q hq
    generalize hL3 : L ++ EM b i p = L3 at *
    have HL3 := hid hL3; have HO3 := hid hown3; have HT3 := hid ht3; have HAT3 := hid hat3; have HAV3 := hid hav3; have HAV := hid hav
    clear hL3 hown3 ht3 hat3 hbo3 hav3 hav;have f3 := HB3.out.free 0
    go_wp2_with (at_builtin; go_loud (refine AB rfl _ _ _ rfl N1 225 j0 (.agg #[.slice none 0 0, .int .i64 0, .int .i64 0]) 3 40 Tryz.underlying214 hj0 hy0 hy1 hy2 rfl zP (.slice av3 L3.length cv3) L3.length cells3.flatten rfl (By HO3.out.1 zB) (some ⟨w3.heap.size, 0, none⟩) 1 1 [.slice none 0 0, .int .i64 (o : Int), .int .i64 (m : Int)] rfl (B9 w3 225 _ rfl rfl rfl) (by intro u hu; simp at hu; rcases hu with rfl | rfl | rfl <;> rfl) zQ zD zL ?_; intro v8 w8 hown8 hgrow8 hat8; obtain ⟨a8, c8, rfl⟩ := Bh hown8; have G := fun b' (hb : b' < w3.heap.size) (hne : (Value.slice av3 L3.length cv3).ownBlock ≠ some b') => (hgrow8.block b' zL (fun e => hne e.symm)).trans (BD w3 _ b' hb); have n1 : (Value.slice av3 L3.length cv3).ownBlock ≠ some (w.heap.size + 1) := fun e => by { have := (HAV3.out _ e).1; omega }; have n2 : (Value.slice av3 L3.length cv3).ownBlock ≠ some (w.heap.size + 2) := fun e => by { have := (HAV3.out _ e).1; omega }; have m1 := (Bz (a := ⟨w.heap.size + 1, 0, none⟩) (G _ l1 n1)).trans o1; have m2 := (Ct (a := ⟨w.heap.size + 1, 0, none⟩) (G _ l1 n1)).trans o2; have m3 : w.heap.size + 1 < w8.heap.size := Ah l1 (A5 zO hgrow8.size); have m4 := (Ct (a := ⟨w.heap.size + 2, 0, none⟩) (G _ l2 n2)).trans f3; have m6 := (Bz (a := ⟨w.heap.size + 2, 0, none⟩) (G _ l2 n2)).trans (HB3.out.cell 0); have m5 : w.heap.size + 2 < w8.heap.size := Ah l2 (A5 zO hgrow8.size); have HG8 := hid hgrow8; have HO8 := hid hown8; have HA8 := hid hat8; have HGG := hid G; clear hgrow8 hown8 hat8 G))
    have hOF := (HO3.out.keep (w' := w3.alloc (.cells #[.slice none 0 0, .int .i64 (o : Int), .int .i64 (m : Int)] 225)) (fun q hq => BD w3 _ q (by
     have hs3 := HT3.out.size
     rcases hq with h | h
     ·omega
     ·omega)) (fun q hq => BD w3 _ q (HAV3.out q hq).2))
    have hx : IQ.r (fun q => ((N1 ≤ q ∧ q < w2.heap.size ∧ (Value.slice ap2 p cp2).ownBlock ≠ some q) ∨ (w2.heap.size ≤ q ∧ q < w3.heap.size)) ∧ (Value.slice av3 L3.length cv3).ownBlock ≠ some q) (w3.alloc (.cells #[.slice none 0 0, .int .i64 (o : Int), .int .i64 (m : Int)] 225)) [.slice none 0 0, .int .i64 (o : Int), .int .i64 (m : Int)] ⟨[], o, m⟩ :=
     Rz (x := ⟨[], o, m⟩) (A3 rfl (Al _) (Aj _) (.inl rfl)) zL zL
    have OPU := BM.push hOF (fun q hq => by
     have hs3 := HT3.out.size
     rcases hq with h | h
     ·simp; omega
     ·simp; omega) rfl hx HO8.out HG8.out HA8.out
    have hs8 := HG8.out.size
    simp only [World.size_alloc] at hs8
    have hs3 := HT3.out.size
    have hnew8 : ∀ q, q < N1 → (Value.slice a8 (L3.length + 1) c8).ownBlock ≠ some q := fun q hq e => by
     have := (HO8.out.lt q e).1; omega
    have hll : (L3 ++ [(⟨[], o, m⟩ : Tok)]).length = L3.length + 1 := zO
    have hsz : ((w8.setCell ⟨w.heap.size + 1, 0, none⟩ (.slice a8 (L3.length + 1) c8)).setCell ⟨w.heap.size + 2, 0, none⟩ (.int .i64 ((p : Int) + (m : Int)))).heap.size = w8.heap.size := zAb
    have keep9 : ∀ q, q ≠ w.heap.size + 1 → q ≠ w.heap.size + 2 → ((w8.setCell ⟨w.heap.size + 1, 0, none⟩ (.slice a8 (L3.length + 1) c8)).setCell ⟨w.heap.size + 2, 0, none⟩ (.int .i64 ((p : Int) + (m : Int)))).heap[q]? = w8.heap[q]? := fun q k1 k2 => (AG _ _ _ _ k2).trans (AG _ _ _ _ k1)
    have OP9 := (OPU.keep (w' := (w8.setCell ⟨w.heap.size + 1, 0, none⟩ (.slice a8 (L3.length + 1) c8)).setCell ⟨w.heap.size + 2, 0, none⟩ (.int .i64 ((p : Int) + (m : Int)))) (fun q hq => keep9 q (by rcases hq with h | h <;> omega) (by rcases hq with h | h <;> omega)) (fun q hq => keep9 q (fun e => hnew8 q zD hq) (fun e => hnew8 q zD hq))).mono (F' := fun q => (N1 ≤ q ∧ q < w2.heap.size ∧ (Value.slice ap2 p cp2).ownBlock ≠ some q) ∨ (w2.heap.size ≤ q ∧ q < ((w8.setCell ⟨w.heap.size + 1, 0, none⟩ (.slice a8 (L3.length + 1) c8)).setCell ⟨w.heap.size + 2, 0, none⟩ (.int .i64 ((p : Int) + (m : Int)))).heap.size)) (fun q hq => by
     rw [hsz]
     rcases hq with h | h
     ·exact .inl h
     ·exact .inr ⟨h.1, zD⟩)
    have hbo8 : Blk w8 (w.heap.size + 1) 214 #[.slice av3 L3.length cv3] := (HGG.out _ l1 n1).trans HHBO.out
    have hbf8 : Blk w8 (w.heap.size + 2) 3 #[.int .i64 (i : Int)] := (HGG.out _ l2 n2).trans HB3.out
    have hfin : GB w ((w8.setCell ⟨w.heap.size + 1, 0, none⟩ (.slice a8 (L3.length + 1) c8)).setCell ⟨w.heap.size + 2, 0, none⟩ (.int .i64 ((p : Int) + (m : Int)))) (w.heap.size + 3) N1 gs g mb base b sa sc ab cb a c (p + m) (p + m) p a8 c8 ap2 cp2 (L3 ++ [⟨[], o, m⟩]) (cells3 ++ [[.slice none 0 0, .int .i64 (o : Int), .int .i64 (m : Int)]]) := by
     refine HT2.out.out zD (Al _) zD ?_ ?_ (by rw [hll]; exact OP9) ?_ ?_ (by rw [hll]; omega) ?_
     ·exact (hbf8.far zM _).set 0 _
     ·rw [hll]; exact (hbo8.set 0 _).far zM _
     ·refine Tch.setCell (Tch.setCell ⟨HG8.out.os.trans HT3.out.os, HG8.out.tape.trans HT3.out.tape, HG8.out.output.trans HT3.out.output, zD, fun q hq hf => ?_⟩ (fun _ => .inl rfl) _) (fun _ => .inr (.inl rfl)) _
      have h3 : (Value.slice av3 L3.length cv3).ownBlock ≠ some q := fun e => by
       rcases HAT3.out with h | ⟨q', hq', hlt'⟩
       ·rw [h] at e; exact hf (.inr (.inr e))
       ·rw [hq'] at e; have := Cf e; omega
      exact (HGG.out q zD h3).trans (HT3.out.block q hq (fun e => by
       rcases e with e | e
       ·exact hf (.inl e)
       ·exact hf (.inr (.inr e))))
     ·rw [hll]
      rcases HA8.out with h | h
      ·rcases HAT3.out with h' | ⟨q', hq', hlt'⟩
       ·exact .inl (h.trans h')
       ·exact .inr ⟨q', h.trans hq', hlt'⟩
      ·exact .inr ⟨_, h, zL⟩
     ·have e1 := hts.out HM0.out
      have e2 := HT2.out.toks
      rw [e1] at e2
      rw [← e2, ← HL3.out]
      simp
    have HF := hid hfin
    clear hfin OP9 OPU hx hOF keep9 hsz hbo8 hbf8 hnew8 hll;go_roundw
    case rel => exact ⟨p + m, p + m, p, a8, c8, ap2, cp2, _, _, zW, HF⟩
    case measure => simp [intOf]; omega
  ·have hpe : p = b.length := by omega
   subst hpe;have htop := hT.out.top
   have hn0 := hT.out.n1
   have hav := fun q (hq : (Value.slice av L.length cv).ownBlock = some q) => hT.out.own.1.lt q hq
   have hRun := Ls wr (to := b.length) hT.out.bf hT.out.bo hT.out.bb (Ag.mono (Ag.keep HL.out fun q hq => hT.out.below.block q hq) fun q hq => Ah hq hT.out.below.size) hT.out.own (fun q hq => hq.2.1) (fun hq => zU) (fun e => ZW) ⟨zD, zD, fun e => ZW, fun e => ZW⟩ (Al _) hlen (by have := hT.out.len; omega) htop
   have htk := hT.out.toks
   rw [Qq (Al _)] at htk
   rw [htk] at hRun
   have HRun := hid hRun; clear hRun htk
   have dlt : decide ((b.length : Int) < (b.length : Int)) = false := zO
   go_wp2_with fail;refine HRun.out.mono ?_
   rintro r w3 ⟨rfl, av3, cv3, cells3, hbo3, hown3, ht3, hat3⟩;have o1 : w3.cell? ⟨w.heap.size + 1, 0, none⟩ = some (.slice av3 (DI b).length cv3) := hbo3.cell 0
   have hbel : Below w.heap.size w w3 := hT.out.below.trans (ht3.BE hT.out.below.size fun q hq e => by
    rcases e with e | e
    ·omega
    ·have := (hav _ e).1; omega)
   have hsl := hown3.slice
   have hlt3 := hown3.1.lt
   have hs3 := ht3.size
   have hpost : Qg w (DI b) (.returned (.tuple #[.slice av3 (DI b).length cv3, .int .i64 0])) w3 := ⟨_, rfl, (rSl 3 IQ).mono hsl fun q hq => by
    rcases hq with (h | h) | h
    ·exact ⟨zD, zD⟩
    ·exact ⟨zD, h.2⟩
    ·have := hlt3 q h; exact ⟨zD, this.2⟩, hbel⟩
   have HP := hid hpost
   clear hpost hsl hlt3 hbel hown3 ht3 hat3 hbo3;go_wp2;go_ret2
   exact HP.out
end Go.Proofs.YtlbffbkbkajciaaGreat
namespace Go.Bs
open Go.RowKit
end Go.Bs
namespace Go.Proofs.YtlbffbkbkajciaaGreat
open Go.RowKit Go.Bs Go.Maps
theorem Qr {S : Nat → Prop} {w : World} {cs : List Value} {x : Tok} (h : IQ.r S w cs x) : ∃ a c, cs = [.slice a x.lit.length c, .int .i64 x.off, .int .i64 x.len] ∧ (-9223372036854775808 ≤ x.off ∧ x.off ≤ 9223372036854775807) ∧ (-9223372036854775808 ≤ x.len ∧ x.len ≤ 9223372036854775807) ∧ Ag.r S w [.slice a x.lit.length c] x.lit := by
 obtain ⟨c1, c2, rfl, h1, c3, c4, rfl, ⟨rfl, h2⟩, rfl, h3⟩ := h
 obtain ⟨a, c, rfl, h4, _⟩ := AE h1
 exact ⟨a, c, rfl, bounds_i64 h2, bounds_i64 h3, h4⟩
theorem RA {S : Nat → Prop} {w : World} {xs : List Tok} {a : Option Addr} {n c : Nat} (h : Nd.r S w [.slice a n c] xs) {i : Nat} (hi : i < xs.length) : ∃ b off, a = some ⟨b, off, none⟩ ∧ S b ∧ ∃ a' c', w.cell? ⟨b, off + i * 3, none⟩ = some (.slice a' xs[i].lit.length c') ∧ w.cell? ⟨b, off + i * 3 + 1, none⟩ = some (.int .i64 xs[i].off) ∧ w.cell? ⟨b, off + i * 3 + 2, none⟩ = some (.int .i64 xs[i].len) ∧
  (-9223372036854775808 ≤ xs[i].off ∧ xs[i].off ≤ 9223372036854775807) ∧ (-9223372036854775808 ≤ xs[i].len ∧ xs[i].len ≤ 9223372036854775807) ∧ Ag.r S w [.slice a' xs[i].lit.length c'] xs[i].lit := by
 obtain ⟨b, off, e, hS, cs, _, hc, hA⟩ := Ke h hi
 obtain ⟨a', c', rfl, h1, h2, h3⟩ := Qr hA
 exact ⟨b, off, e, hS, a', c', hc 0 _ rfl, hc 1 _ rfl, hc 2 _ rfl, h1, h2, h3⟩
def GM (t : Tok) : Bool := decide (t.off = 0) && (decide (t.len = 0) && (decide (1 ≤ t.lit.length) && decide (t.lit.length ≤ 1048576)))
def FF (t : Tok) : Bool := decide (t.lit.length = 0) && (decide (1 ≤ t.off) && (decide (t.off ≤ 65536) && (decide (4 ≤ t.len) && decide (t.len ≤ 1048576))))
inductive Good (b : List UInt8) : Bool → Nat → List Tok → Prop where
 | nil {f : Bool} : Good b f b.length []
 | copy {f : Bool} {p o m : Nat} {rest : List Tok} : p < b.length → BY b p = (o, m) → m ≠ 0 → Good b false (p + m) rest → Good b f p (⟨[], (o : Int), (m : Int)⟩ :: rest)
 | run {p q : Nat} {rest : List Tok} : p < q → q ≤ b.length → (∀ r, p ≤ r → r < q → (BY b r).2 = 0) → Good b true q rest → Good b false p (⟨(b.drop p).take (q - p), 0, 0⟩ :: rest)
theorem Kz {b : List UInt8} {i p : Nat} {rest : List Tok} (hip : i ≤ p) (hp : p ≤ b.length) (h : ∀ r, i ≤ r → r < p → (BY b r).2 = 0) (hg : ∀ f, Good b f p rest) : Good b false i (EM b i p ++ rest) := by
 unfold EM;by_cases hlt : i < p
 ·rw [Ak hlt]
  exact .run hlt hp h (hg true)
 ·obtain rfl : i = p := by omega
  rw [An hlt]
  exact hg false
theorem I3 (b : List UInt8) : ∀ (f p i : Nat), b.length ≤ p + f → i ≤ p → p ≤ b.length → (∀ r, i ≤ r → r < p → (BY b r).2 = 0) → Good b false i (DJ b f p i)
 | 0, p, i, h1, h2, h3, h4 => by
  obtain rfl : p = b.length := zD
  have := Kz (rest := []) h2 h3 h4 fun f => .nil
  simpa [DJ] using this
 | f + 1, p, i, h1, h2, h3, h4 => by
  simp only [DJ]
  by_cases hp : p < b.length
  ·rw [Ak hp]
   by_cases hm : (BY b p).2 = 0
   ·rw [Ak hm]
    refine I3 b f (p + 1) i zD zD zD fun r hr1 hr2 => ?_
    by_cases hrp : r = p
    ·rw [hrp]; exact hm
    ·exact h4 r hr1 zD
   ·rw [An hm]
    have hroom := (Ie b p).1
    refine Kz h2 h3 h4 fun g => .copy hp rfl hm ?_
    exact I3 b f _ _ zD (Al _) zD fun r h1 h2 => by omega
  ·rw [An hp]
   obtain rfl : p = b.length := zD
   have := Kz (rest := []) h2 h3 h4 fun f => .nil
   simpa using this
theorem Pc (b : List UInt8) : Good b false 0 (DI b) := I3 b b.length 0 0 zD (Al _) (Aj _) fun r h1 h2 => by omega
theorem QU {w : World} {g : Nat} {t : TypeId} {fr : Nat × Nat} {l : List UInt8} {cs : Array Value} (hcs : cs = (byteCells l).toArray) (hl : l.length ≤ 1000000) (hb : w.heap[g]? = some (.cells cs t fr)) : Ag.r (· < w.heap.size) w [.slice (some ⟨g, 0, none⟩) l.length l.length] l := by
 subst hcs;refine A3 (xs := l) rfl (Al _) zBa (.inr ⟨g, 0, rfl, (Array.getElem?_eq_some_iff.1 hb).1, fun i x hi => ⟨[.int .u8 (x.toNat : Int)], rfl, fun j v hj => ?_, rfl⟩⟩)
 have hj0 : j = 0 := by
  rcases j with _ | j
  ·rfl
  ·simp at hj
 subst hj0;simp at hj
 subst hj;rw [Bn, Eb, BR]
 simp [World.cell?, hb, byteCells, hi]
theorem Il (b : List UInt8) : ∀ (f p i : Nat), (DJ b f p i).length ≤ 2 * f + 1
 | 0, p, i => by
  simp only [DJ, EM]
  split <;> simp
 | f + 1, p, i => by
  simp only [DJ]
  split
  ·split
   ·have := Il b f (p + 1) i; omega
   ·have := Il b f (p + (BY b p).2) (p + (BY b p).2)
    simp only [Am, A7, EM]
    split <;> simp <;> omega
  ·simp only [EM]
   split <;> simp
end Go.Proofs.YtlbffbkbkajciaaGreat
namespace Go.Bs
def Eh : Nat → Nat → List UInt8
 | 0, x => [UInt8.ofNat x]
 | f + 1, x => if x < 128 then [UInt8.ofNat x] else UInt8.ofNat (128 + x % 128) :: Eh f (x / 128)
def AH (x : Nat) : List UInt8 := Eh 9 x
theorem IJ : ∀ (f g x : Nat), x < 128 ^ (f + 1) → f ≤ g → Eh f x = Eh g x
 | 0, 0, _, _, _ => rfl
 | 0, g + 1, x, h, _ => by
  have : x < 128 := ZZ
  simp [Eh, this]
 | f + 1, 0, _, _, h => by omega
 | f + 1, g + 1, x, h, hg => by
  simp only [Eh]
  split
  ·rfl
  ·rw [IJ f g (x / 128) (by rw [ER] at h; omega) zD]
theorem F8 {x : Nat} (h : x < 128) : AH x = [UInt8.ofNat x] := by simp [AH, Eh, h]
theorem IK {x : Nat} (h : ¬ x < 128) (hx : x < 2 ^ 64) : AH x = UInt8.ofNat (128 + x % 128) :: AH (x / 128) := by
 have e : Eh 8 (x / 128) = Eh 9 (x / 128) := IJ 8 9 _ zD zD
 unfold AH;rw [← e]
 simp [Eh, h]
theorem A2 (x : Nat) : (AH x).length ≤ 10 ∧ 1 ≤ (AH x).length := by
 have : ∀ f x, (Eh f x).length ≤ f + 1 ∧ 1 ≤ (Eh f x).length := by
  intro f;induction f with
  | zero => intro x; simp [Eh]
  | succ f ih => intro x; simp only [Eh]; split <;> simp; exact (ih _).1
 exact this 9 x
end Go.Bs
namespace Go.Proofs.YtlbffbkbkajciaaGreat
open Go.RowKit Go.Bs Go.Maps
theorem Jf (x : Nat) (hx : x < 18446744073709551616) (w : World) :
  Calls Tryz.prog 249 #[.int .u64 x] w fun r w' => r = .returned (.int .i64 (AH x).length) ∧ Below w.heap.size w w' := by
 go_enter Tryz.func249, Tryz.ntmps249
 go_wp2_with fail;go_loopw [0, 3] (fun y n wr => ∃ v k : Nat, y = .int .u64 v ∧ n = .int .i64 k ∧ v < 18446744073709551616 ∧ k ≤ 10 ∧ 1 ≤ k ∧ Hid ((AH x).length + 1 = k + (AH v).length) ∧ Below w.heap.size w wr) (fun y _ _ => (intOf y).toNat)
 case atStart => exact ⟨x, 1, rfl, rfl, hx, zD, zD, hid zD, Below.refl _ _⟩
 case round =>
  obtain ⟨v, k, rfl, rfl, hv, hk, hk1, hs, hb⟩ := hrel
  by_cases h : v < 128
  ·have d1 : decide ((128 : Int) ≤ (v : Int)) = false := by simp; omega
   have hf : Hid ((AH x).length = k) := hid (by have := hs.out; rw [F8 h] at this; simpa using this)
   go_wp2;go_ret;exact ⟨Z5, hb⟩
  ·have d1 : decide ((128 : Int) ≤ (v : Int)) = true := by simp; omega
   have hn : Hid ((AH x).length + 1 = k + 1 + (AH (v / 128)).length) := hid (by have := hs.out; rw [IK h (by omega)] at this; simp at this; omega)
   have hk10 : k + 1 ≤ 10 := by have := hn.out; have := A2 x; have := A2 (v / 128); omega
   go_wp2_with fail;go_outline
   go_roundw
   case rel => exact ⟨v / 128, k + 1, zW, zW, zD, zD, zD, hn, hb⟩
   case measure => simp [intOf]; omega
end Go.Proofs.YtlbffbkbkajciaaGreat
namespace Go.Bs
open Go.RowKit
theorem Ks {w : World} {base g : Nat} {e : TypeId} {v : Value} (hb : base ≤ g) (h : w.heap[g]? = some (.cells #[v] e (0, 0))) : w.ownsRow base e 1 (.slice (some ⟨g, 0, none⟩) 1 1) 1 [v] :=
 ⟨rfl, .inr ⟨g, 1, #[v], rfl, hb, h, Al _, zP, rfl, rfl⟩⟩
theorem Da (J : List UInt8) (b : UInt8) : byteCells J ++ [.int .u8 (b.toNat : Int)] = byteCells (J ++ [b]) := zAd
theorem Dx {x : Nat} (h : x < 256) : (x : Int) = ((UInt8.ofNat x).toNat : Int) := by
 simp; omega
theorem Ue : ∀ n : Nat, n < 256 → bits .or .u8 (n : Int) 128 = 128 + (n : Int) % 128 := zF
theorem TU (v : Nat) : bits .or .u8 ((v : Int) % 256) 128 = ((UInt8.ofNat (128 + v % 128)).toNat : Int) := by
 have h := Ue (v % 256) zD
 rw [show (((v % 256 : Nat)) : Int) = (v : Int) % 256 by omega] at h
 rw [h, ← Dx zD]
 omega
end Go.Bs
namespace Go.Proofs.YtlbffbkbkajciaaGreat
open Go.RowKit Go.Bs Go.Maps
theorem L6 (x : Nat) (hx : x < 18446744073709551616) (w : World) :
  Calls Tryz.prog 147 #[.int .u64 x] w fun r w' => ∃ v, r = .returned v ∧ Ag.r (fun b => w.heap.size ≤ b ∧ b < w'.heap.size) w' [v] (AH x) ∧ Below w.heap.size w w' := by
 obtain ⟨i0, hi, hz0, hz1, hz2⟩ := Bq EF
 go_enter Tryz.func147, Tryz.ntmps147
 go_wp2_with fail;go_loopw [0, 3] (fun y o wr => ∃ (v : Nat) (J : List UInt8), y = .int .u64 v ∧ v < 18446744073709551616 ∧ wr.ownsRow w.heap.size 5 1 o J.length (byteCells J) ∧ Hid (AH x = J ++ AH v) ∧ Below w.heap.size w wr) (fun y _ _ => (intOf y).toNat)
 case atStart => exact ⟨x, [], rfl, hx, ⟨rfl, .inl ⟨rfl, rfl⟩⟩, hid rfl, Below.refl _ _⟩
 case round =>
  obtain ⟨v, J, rfl, hv, hown, hs, hb⟩ := hrel
  have hbs := hb.size
  have hJ : J.length ≤ 10 := by have h1 := A2 x; rw [hs.out] at h1; simp at h1; omega
  obtain ⟨aJ, cJ, rfl⟩ := Bh hown
  have HO := hid hown
  clear hown;by_cases h : v < 128
  ·have d1 : decide ((128 : Int) ≤ (v : Int)) = false := by simp; omega
   have hfin : Hid (AH x = J ++ [UInt8.ofNat v]) := hid (by rw [hs.out, F8 h])
   have hby : Hid ((v : Int) = ((UInt8.ofNat v).toNat : Int)) := hid (Dx zD)
   go_wp2_with (at_builtin; go_loud (refine AB rfl _ _ _ rfl w.heap.size 5 i0 (.int .u8 0) 1 1 AU hi hz0 hz1 hz2 rfl zP (.slice aJ J.length cJ) J.length (byteCells J) rfl (By HO.out zB) (some ⟨wr.heap.size, 0, none⟩) 1 1 [.int .u8 (v : Int)] rfl (B9 wr 5 _ rfl rfl rfl) ZD zQ zD zL ?_; intro v' w1 hown1 hgrow1 hat1; have HG := hid hgrow1; have HO1 := hid hown1; clear hgrow1 hown1 hat1))
   have ho := HO1.out
   rw [hby.out, Da, ← hfin.out] at ho
   have hlen : J.length + 1 = (AH x).length := by rw [hfin.out]; simp
   have hV := Cp hlen ho
   have hB : Below w.heap.size w w1 := Below.grown zB HG.out zL (fun g e => (HO.out.lt g e).1)
   have HV := hid hV
   clear ho hlen hV;go_wp2;go_ret;exact ⟨_, rfl, HV.out, hB⟩
  ·have d1 : decide ((128 : Int) ≤ (v : Int)) = true := by simp; omega
   have hfin : Hid (AH x = (J ++ [UInt8.ofNat (128 + v % 128)]) ++ AH (v / 128)) := hid (by rw [hs.out, IK h (by omega)]; simp)
   have hor := TU v
   generalize UInt8.ofNat (128 + v % 128) = bb at *
   go_wp2_with (at_builtin; go_loud (refine AB rfl _ _ _ rfl w.heap.size 5 i0 (.int .u8 0) 1 1 AU hi hz0 hz1 hz2 rfl zP (.slice aJ J.length cJ) J.length (byteCells J) rfl (By HO.out zB) (some ⟨wr.heap.size, 0, none⟩) 1 1 [.int .u8 (bb.toNat : Int)] rfl (B9 wr 5 _ rfl rfl rfl) ZD zQ zD zL ?_; intro v' w1 hown1 hgrow1 hat1; have HG := hid hgrow1; have HO1 := hid hown1; clear hgrow1 hown1 hat1))
   have ho := HO1.out
   rw [Da] at ho
   have hB : Below w.heap.size w w1 := Below.grown zB HG.out zL (fun g e => (HO.out.lt g e).1)
   have HO2 := hid ho
   clear ho HO1;go_wp2_with fail;go_roundw
   case rel => exact ⟨v / 128, J ++ [bb], zW, zD, (by rw [Am]; exact HO2.out), hfin, hB⟩
   case measure => simp [intOf]; omega
structure Bv (w : World) (g base most : Nat) (J : List UInt8) (a : Option Addr) (c : Nat) : Prop where
 blk : Blk w g 87 #[.int .i64 most, .slice a J.length c, .int .i64 0]
 own : w.ownsRow base 5 1 (.slice a J.length c) J.length (byteCells J)
 ne : (Value.slice a J.length c).ownBlock ≠ some g
 lo : base ≤ g
 le : J.length ≤ most
 most : most ≤ 4611686018427387904
 len : J.length ≤ 100000000000000
def CT (g : Nat) (a : Option Addr) (q : Nat) : Prop := q = g ∨ ∃ p, a = some p ∧ p.block = q
theorem IU {a : Option Addr} {n c : Nat} : (Value.slice a n c).ownBlock = a.map Addr.block := by cases a <;> rfl
def Ao (w : World) (g base most : Nat) (J' : List UInt8) (a : Option Addr) (w' : World) : Prop :=
 ∃ a' c', Bv w' g base most J' a' c' ∧ Tch (CT g a) w w' ∧ (a'.map Addr.block = a.map Addr.block ∨ ∃ q, a'.map Addr.block = some q ∧ w.heap.size ≤ q)
theorem Ao.refl {w : World} {g base most : Nat} {J : List UInt8} {a : Option Addr} {c : Nat} (h : Bv w g base most J a c) : Ao w g base most J a w := ⟨a, c, h, Tch.refl _ _, .inl rfl⟩
theorem EJ {g : Nat} {a : Option Addr} {q : Nat} : CT g a q ↔ q = g ∨ a.map Addr.block = some q := by unfold CT; simp
theorem Ao.trans {w w1 w2 : World} {g base most : Nat} {J J' : List UInt8} {a a1 : Option Addr} (h1 : Tch (CT g a) w w1) (h2 : a1.map Addr.block = a.map Addr.block ∨ ∃ q, a1.map Addr.block = some q ∧ w.heap.size ≤ q) (k : Ao w1 g base most J' a1 w2) : Ao w g base most J' a w2 := by
 obtain ⟨a2, c2, k1, k2, k3⟩ := k
 have hs := h1.size
 refine ⟨a2, c2, k1, h1.trans k2 fun q hq e => ?_, ?_⟩
 ·rw [EJ] at e ⊢
  rcases e with e | e
  ·exact .inl e
  ·rcases h2 with h2 | ⟨q', h2, h3⟩
   ·exact .inr (h2 ▸ e)
   ·rw [h2] at e; simp at e; omega
 ·rcases k3 with k3 | ⟨q, k3, k4⟩
  ·rcases h2 with h2 | ⟨q', h2, h3⟩
   ·exact .inl (k3.trans h2)
   ·exact .inr ⟨q', k3.trans h2, h3⟩
  ·exact .inr ⟨q, k3, zD⟩
theorem Ao.later {w w1 w2 : World} {g base most : Nat} {J' : List UInt8} {a : Option Addr} (h : Below w.heap.size w w1) (k : Ao w1 g base most J' a w2) : Ao w g base most J' a w2 := Ao.trans (J := J') (Tch.BQ h) (.inl rfl) k
theorem Bv.later {w w1 : World} {g base most : Nat} {J : List UInt8} {a : Option Addr} {c : Nat} (h : Bv w g base most J a c) (hb : Below w.heap.size w w1) : Bv w1 g base most J a c :=
 ⟨h.blk.later hb, By h.own hb, h.ne, h.lo, h.le, h.most, h.len⟩
theorem Bv.new (w : World) (most : Nat) (hm : most ≤ 4611686018427387904) : Bv (w.alloc (.cells #[.int .i64 most, .slice none 0 0, .int .i64 0] 87)) w.heap.size w.heap.size most [] none 0 :=
 ⟨Blk.new w _ _, ⟨rfl, .inl ⟨rfl, rfl⟩⟩, ZX, Al _, Aj _, hm, Aj _⟩
theorem Iv (w : World) {g base most : Nat} {J : List UInt8} {a : Option Addr} {c : Nat} (h : Bv w g base most J a c) :
  Calls Tryz.prog 79 #[.pointer (some ⟨g, 0, none⟩)] w fun r w' => r = .returned (.int .i64 0) ∧ w = w' := by
 have c2 : w.cell? ⟨g, 2, none⟩ = some (.int .i64 0) := h.blk.cell 2
 clear h;go_enter Tryz.func79, Tryz.ntmps79
 go_wp2;go_ret;exact ⟨rfl, rfl⟩
theorem Sh (w : World) {g base most : Nat} {J : List UInt8} {a : Option Addr} {c : Nat} (h : Bv w g base most J a c) :
  Calls Tryz.prog 148 #[.pointer (some ⟨g, 0, none⟩)] w fun r w' => r = .returned (.int .i64 ((most : Int) - J.length)) ∧ Below w.heap.size w w' := by
 have C0 := fun s : AN w => s.cell (h.blk.cell 0)
 have C1 := fun s : AN w => s.cell (h.blk.cell 1)
 simp at C0 C1
 have hle := h.le; have hmo := h.most
 clear h;go_enter Tryz.func148, Tryz.ntmps148
 go_wp2_with fail;refine Ar zH zH ?_
 repeat (go_big_quiet_step (fail))
 refine AA ?_
 rintro W5 ⟨⟨W5', hb5⟩, rfl⟩;go_wp2;go_ret;exact ⟨zAm, hb5⟩
theorem Iu (w : World) (most : Nat) (hm : most ≤ 4611686018427387904) :
  Calls Tryz.prog 15 #[.int .i64 most] w fun r w' => r = .returned (.pointer (some ⟨w.heap.size, 0, none⟩)) ∧ Bv w' w.heap.size w.heap.size most [] none 0 ∧ Below w.heap.size w w' := by
 have hN := hid (Bv.new w most hm)
 have d1 : max (most : Int) 0 = most := zD
 have d2 : (if (most : Int) < 0 then (0 : Int) else most) = most := ZO
 go_enter Tryz.func15, Tryz.ntmps15
 go_wp2;go_ret;exact ⟨rfl, hN.out, zB⟩
theorem Si {w1 w2 : World} {g base most : Nat} {J D : List UInt8} {a : Option Addr} {c : Nat} {a' : Option Addr} {c' : Nat} (h : Bv w1 g base most J a c) (hfit : J.length + D.length ≤ most) (hlen : J.length + D.length ≤ 100000000000000)
  (hown : w2.ownsRow base 5 1 (.slice a' (J.length + D.length) c') (J.length + D.length) (byteCells J ++ byteCells D)) (hgrow : w1.grownBy w2 (Value.slice a J.length c).ownBlock)
  (hat : (Value.slice a' (J.length + D.length) c').ownBlock = (Value.slice a J.length c).ownBlock ∨ (Value.slice a' (J.length + D.length) c').ownBlock = some w1.heap.size) :
  Ao w1 g base most (J ++ D) a (w2.setCell ⟨g, 1, none⟩ (.slice a' (J.length + D.length) c')) := by
 have hg := h.blk.lt
 have hs := hgrow.size
 have hn2 : (Value.slice a' (J.length + D.length) c').ownBlock ≠ some g := fun e => by
  rcases hat with h1 | h1
  ·rw [h1] at e; exact h.ne e
  ·rw [h1] at e; simp at e; omega
 have hsz : (w2.setCell ⟨g, 1, none⟩ (.slice a' (J.length + D.length) c')).heap.size = w2.heap.size := zAb
 have hll : (J ++ D).length = J.length + D.length := Am
 have hbb : byteCells (J ++ D) = byteCells J ++ byteCells D := zAd
 refine ⟨a', c', ⟨?_, ?_, ?_, h.lo, zD, h.most, zD⟩, ?_, ?_⟩
 ·rw [hll]
  exact (h.blk.grown hgrow (fun e => h.ne e.symm)).set 1 _
 ·rw [hll, hbb]
  exact FW hown fun q hq => AG w2 _ _ q (fun e => hn2 (by rw [hq, e]))
 ·rw [hll]; exact hn2
 ·refine ⟨hgrow.os, hgrow.tape, hgrow.output, by rw [hsz]; exact hs, fun q hq hf => ?_⟩
  rw [EJ] at hf
  exact (AG w2 _ _ q (fun e => hf (.inl e))).trans (hgrow.block q hq (fun e => hf (.inr (by rw [IU] at e; exact e.symm))))
 ·rw [IU, IU] at hat
  rcases hat with h1 | h1
  ·exact .inl h1
  ·exact .inr ⟨_, h1, Al _⟩
theorem Ep (w : World) {g base most : Nat} {J : List UInt8} {a : Option Addr} {c : Nat} (h : Bv w g base most J a c) (D : List UInt8) (ad : Option Addr) (nd cd : Nat) (hD : Ag.r (· < w.heap.size) w [.slice ad nd cd] D) (hfit : J.length + D.length ≤ most) (hlen : J.length + D.length ≤ 100000000000000) :
  Calls Tryz.prog 68 #[.pointer (some ⟨g, 0, none⟩), .slice ad nd cd] w fun r w' => r = .returned (.tuple #[]) ∧ Ao w g base most (J ++ D) a w' := by
 obtain ⟨rfl, hm, _, _⟩ := AP hD
 obtain ⟨i0, hi, hz0, hz1, hz2⟩ := Bq EF
 have HC := hid (Iv w h)
 have HR := hid (Sh w h)
 have HP := hid h
 have HD := hid hD
 have HONE := hid (BV D)
 have hmo := h.most
 have d1 : decide ((most : Int) - (J.length : Int) < (D.length : Int)) = false := zL
 clear h hD;go_enter Tryz.func68, Tryz.ntmps68
 go_wp2_with fail;refine HC.out.mono ?_
 rintro r w0 ⟨rfl, rfl⟩;go_wp2_with fail;refine HR.out.mono ?_
 rintro r w1 ⟨rfl, hb1⟩;have hP1 := HP.out.later hb1
 have c1 : w1.cell? ⟨g, 1, none⟩ = some (.slice a J.length c) := hP1.blk.cell 1
 have hg1 := hP1.blk.lt
 have f1 := hP1.blk.free 1
 have hne := hP1.ne
 have hlo := hP1.lo
 have HP1 := hid hP1
 have HS := hid (CZ (lift HD.out hb1))
 clear hP1;go_wp2_with (at_builtin; go_loud (refine AB rfl _ _ _ rfl base 5 i0 (.int .u8 0) 1 1 AU hi hz0 hz1 hz2 rfl zP (.slice a J.length c) J.length (byteCells J) rfl HP1.out.own ad D.length cd (byteCells D) rfl HS.out HONE.out zQ zD zD ?_; intro v' w2 hown2 hgrow2 hat2; obtain ⟨a', c', rfl⟩ := Bh hown2; have f2 := (Ct (a := ⟨g, 1, none⟩) (hgrow2.block g hg1 (fun e => hne e.symm))).trans f1; have e2 := (Bz (a := ⟨g, 1, none⟩) (hgrow2.block g hg1 (fun e => hne e.symm))).trans c1; have hz2' : g < w2.heap.size := Ah hg1 hgrow2.size; have HG := hid hgrow2; have HO := hid hown2; have HAT := hid hat2; clear hgrow2 hown2 hat2))
 have hst := Ao.later hb1 (Si HP1.out hfit hlen HO.out HG.out HAT.out)
 have HST := hid hst
 clear hst;go_wp2;go_end0
 exact ⟨rfl, HST.out⟩
theorem G4 (w : World) {g base most : Nat} {J : List UInt8} {a : Option Addr} {c : Nat} (h : Bv w g base most J a c) :
  Calls Tryz.prog 17 #[.pointer (some ⟨g, 0, none⟩)] w fun r w' => ∃ v, r = .returned (.tuple #[v, .int .i64 0]) ∧ Ag.r (fun q => w.heap.size ≤ q ∧ q < w'.heap.size) w' [v] J ∧ Below w.heap.size w w' := by
 obtain ⟨i0, hi, hz0, hz1, hz2⟩ := Bq EF
 have HC := hid (Iv w h)
 have hB := Cp rfl h.own
 obtain ⟨_, hm, _, _⟩ := AP hB
 have HD := hid (Ag.mono hB (S' := (· < w.heap.size)) fun q hq => hq.2)
 have HONE := hid (BV J)
 have c1 : w.cell? ⟨g, 1, none⟩ = some (.slice a J.length c) := h.blk.cell 1
 have hg1 := h.blk.lt
 have hle := h.le; have hmo := h.most; have hle14 := h.len
 clear h hB;go_enter Tryz.func17, Tryz.ntmps17
 go_wp2_with fail;refine HC.out.mono ?_
 rintro r w0 ⟨rfl, rfl⟩;go_wp2_with (at_builtin; go_loud (refine AB rfl _ _ _ rfl w.heap.size 5 i0 (.int .u8 0) 1 1 AU hi hz0 hz1 hz2 rfl zP _ 0 [] rfl (Em _ (Al _) rfl) a J.length c (byteCells J) rfl (CZ (lift HD.out zB)) HONE.out zQ zD zO ?_; intro v' w1 hown1 hgrow1 hat1; rw [Bn, A8] at hown1; obtain ⟨a', c', rfl⟩ := Bh hown1; have HG := hid hgrow1; have HO := hid hown1; clear hgrow1 hown1 hat1))
 have hA := Cp rfl HO.out
 have hb1 : Below w.heap.size w w1 := Below.grown zB HG.out zO (fun g e => by
  have e' : some w.heap.size = some g := e
  injection e' with e'
  omega)
 have HA := hid hA
 clear hA;go_ret2
 exact ⟨_, rfl, HA.out, hb1⟩
def Ca (t : Tok) : Bool := GM t || FF t
theorem Ji (x : Tok) (a : Option Addr) (c : Nat) (w : World) (hl : x.lit.length ≤ 9223372036854775807) (h1 : -9223372036854775808 ≤ x.off ∧ x.off ≤ 9223372036854775807) (h2 : -9223372036854775808 ≤ x.len ∧ x.len ≤ 9223372036854775807) :
  Calls Tryz.prog 277 #[.agg #[.slice a x.lit.length c, .int .i64 x.off, .int .i64 x.len]] w fun r w' => r = .returned (.bool (Ca x)) ∧ Below w.heap.size w w' := by
 obtain ⟨D, o, m⟩ := x
 dsimp only at *;by_cases k0 : o = 0
 ·skip
  have k0_0 : (o == 0) = true := beq_iff_eq.2 zD
  by_cases k1 : m = 0
  ·skip
   have k1_0 : (m == 0) = true := beq_iff_eq.2 zD
   by_cases k2 : 1 ≤ D.length
   ·skip
    have k2_0 : decide ((1 : Int) ≤ (D.length : Int)) = true := Ac zD
    have k2_1 : decide (1 ≤ D.length) = true := Ac zD
    by_cases k3 : D.length ≤ 1048576
    ·skip
     have k3_0 : decide ((D.length : Int) ≤ 1048576) = true := Ac zD
     have k3_1 : decide (D.length ≤ 1048576) = true := Ac zD
     have hff : Hid (Ca ⟨D, o, m⟩ = true) := hid (by simp only [Ca, GM, FF, Cm, As, Aw]; first | omega | (simp; omega))
     clear hl h1 h2;go_enter EP, Ee
     go_wp2;go_ret;exact ⟨zI, zB⟩
    ·skip
     have k3_0 : decide ((D.length : Int) ≤ 1048576) = false := Ab zD
     have k3_1 : decide (D.length ≤ 1048576) = false := Ab zD
     have hff : Hid (Ca ⟨D, o, m⟩ = false) := hid (by rw [← EA]; simp only [Ca, GM, FF, Cm, As, Aw]; first | omega | (simp; omega))
     clear hl h1 h2;go_enter EP, Ee
     go_wp2;go_ret;exact ⟨zI, zB⟩
   ·skip
    have k2_0 : decide ((1 : Int) ≤ (D.length : Int)) = false := Ab zD
    have k2_1 : decide (1 ≤ D.length) = false := Ab zD
    have hff : Hid (Ca ⟨D, o, m⟩ = false) := hid (by rw [← EA]; simp only [Ca, GM, FF, Cm, As, Aw]; first | omega | (simp; omega))
    clear hl h1 h2;go_enter EP, Ee
    go_wp2;go_ret;exact ⟨zI, zB⟩
  ·skip
   have k1_0 : (m == 0) = false := beq_eq_false_iff_ne.2 zD
   have hff : Hid (Ca ⟨D, o, m⟩ = false) := hid (by rw [← EA]; simp only [Ca, GM, FF, Cm, As, Aw]; first | omega | (simp; omega))
   clear hl h1 h2;go_enter EP, Ee
   go_wp2;go_ret;exact ⟨zI, zB⟩
 ·skip
  have k0_0 : (o == 0) = false := beq_eq_false_iff_ne.2 zD
  by_cases k4 : 0 < D.length
  ·skip
   have k4_0 : decide ((0 : Int) < (D.length : Int)) = true := Ac zD
   have k4_1 : decide (0 < D.length) = true := Ac zD
   have hff : Hid (Ca ⟨D, o, m⟩ = false) := hid (by rw [← EA]; simp only [Ca, GM, FF, Cm, As, Aw]; first | omega | (simp; omega))
   clear hl h1 h2;go_enter EP, Ee
   go_wp2;go_ret;exact ⟨zI, zB⟩
  ·skip
   obtain rfl : D = [] := AO zD
   simp only [Br] at *
   by_cases k5 : o < 0
   ·skip
    have k5_0 : decide (o < 0) = true := Ac zD
    have hff : Hid (Ca ⟨[], o, m⟩ = false) := hid (by rw [← EA]; simp only [Ca, GM, FF, Cm, As, Aw, Br]; first | omega | (simp; omega))
    clear hl h1 h2;go_enter EP, Ee
    go_wp2;go_ret;exact ⟨zI, zB⟩
   ·skip
    have k5_0 : decide (o < 0) = false := Ab zD
    by_cases k6 : 65536 < o
    ·skip
     have k6_0 : decide ((65536 : Int) < o) = true := Ac zD
     have hff : Hid (Ca ⟨[], o, m⟩ = false) := hid (by rw [← EA]; simp only [Ca, GM, FF, Cm, As, Aw, Br]; first | omega | (simp; omega))
     clear hl h1 h2;go_enter EP, Ee
     go_wp2;go_ret;exact ⟨zI, zB⟩
    ·skip
     have k6_0 : decide ((65536 : Int) < o) = false := Ab zD
     by_cases k7 : 4 ≤ m
     ·skip
      have k7_0 : decide ((4 : Int) ≤ m) = true := Ac zD
      by_cases k8 : m ≤ 1048576
      ·skip
       have k8_0 : decide (m ≤ 1048576) = true := Ac zD
       have hff : Hid (Ca ⟨[], o, m⟩ = true) := hid (by simp only [Ca, GM, FF, Cm, As, Aw, Br]; first | omega | (simp; omega))
       clear hl h1 h2;go_enter EP, Ee
       go_wp2;go_ret;exact ⟨zI, zB⟩
      ·skip
       have k8_0 : decide (m ≤ 1048576) = false := Ab zD
       have hff : Hid (Ca ⟨[], o, m⟩ = false) := hid (by rw [← EA]; simp only [Ca, GM, FF, Cm, As, Aw, Br]; first | omega | (simp; omega))
       clear hl h1 h2;go_enter EP, Ee
       go_wp2;go_ret;exact ⟨zI, zB⟩
     ·skip
      have k7_0 : decide ((4 : Int) ≤ m) = false := Ab zD
      have hff : Hid (Ca ⟨[], o, m⟩ = false) := hid (by rw [← EA]; simp only [Ca, GM, FF, Cm, As, Aw, Br]; first | omega | (simp; omega))
      clear hl h1 h2;go_enter EP, Ee
      go_wp2;go_ret;exact ⟨zI, zB⟩
theorem BG (w : World) {g base most : Nat} {J : List UInt8} {a : Option Addr} {c : Nat} (h : Bv w g base most J a c) (x : Nat) (hx : x < 18446744073709551616) (hfit : J.length + (AH x).length ≤ most) (hlen : J.length + (AH x).length ≤ 100000000000000) :
  Calls Tryz.prog 66 #[.pointer (some ⟨g, 0, none⟩), .int .u64 x] w fun r w' => r = .returned (.tuple #[]) ∧ Ao w g base most (J ++ AH x) a w' := by
 have HV := hid (L6 x hx w)
 have HP := hid h
 clear h;go_enter Tryz.func66, Tryz.ntmps66
 go_wp2_with fail;refine HV.out.mono ?_
 rintro r w1 ⟨v, rfl, hr, hb1⟩;obtain ⟨a1, c1, hv, hr2, _⟩ := AE hr
 simp only [Ap, AD] at hv
 subst hv;have HQ := hid (Ep w1 (HP.out.later hb1) (AH x) a1 _ c1 (Ag.mono hr2 fun q hq => hq.2) hfit hlen)
 clear hr hr2;go_wp2_with fail;refine HQ.out.mono ?_
 rintro r w2 ⟨rfl, hst⟩;have HST := hid (Ao.later hb1 hst)
 clear hst;go_wp2;first | go_end0 | refine Ai (Aq rfl _ _ _) rfl ?_
 exact ⟨rfl, HST.out⟩
def Hr (t : Tok) : List UInt8 := if GM t then AH (2 * t.lit.length - 2) ++ t.lit else AH (2 * t.len.toNat - 7) ++ AH (t.off.toNat - 1)
theorem RB (D : List UInt8) (h1 : 1 ≤ D.length) (h2 : D.length ≤ 1048576) : Hr ⟨D, 0, 0⟩ = AH (2 * D.length - 2) ++ D := by
 unfold Hr;rw [Ak]
 simp [GM]; omega
theorem Qs (o m : Nat) (h1 : 1 ≤ o) : Hr ⟨[], (o : Int), (m : Int)⟩ = AH (2 * m - 7) ++ AH (o - 1) := by
 unfold Hr;rw [An]
 ·simp
 ·simp [GM]
theorem Bv.DG {w : World} {g base most : Nat} {J : List UInt8} {a : Option Addr} {c : Nat} (h : Bv w g base most J a c) {q : Nat} (hq : CT g a q) : base ≤ q ∧ q < w.heap.size := by
 rcases hq with rfl | ⟨p, hp, rfl⟩
 ·exact ⟨h.lo, h.blk.lt⟩
 ·subst hp
  exact h.own.lt _ rfl
theorem KX (w : World) {g base most : Nat} {J : List UInt8} {a : Option Addr} {c : Nat} (h : Bv w g base most J a c) (D : List UInt8) (h1 : 1 ≤ D.length) (h2 : D.length ≤ 1048576) (ad : Option Addr) (cd : Nat)
  (hD : Ag.r (fun q => q < w.heap.size ∧ ¬ CT g a q) w [.slice ad D.length cd] D) (hfit : J.length + (Hr ⟨D, 0, 0⟩).length ≤ most) (hlen : J.length + (Hr ⟨D, 0, 0⟩).length ≤ 100000000000000) :
  Calls Tryz.prog 268 #[.pointer (some ⟨g, 0, none⟩), .agg #[.slice ad D.length cd, .int .i64 0, .int .i64 0]] w fun r w' => r = .returned (.tuple #[]) ∧ Ao w g base most (J ++ Hr ⟨D, 0, 0⟩) a w' := by
 have HR := hid (fun (W : World) => Ji ⟨D, 0, 0⟩ ad cd W zM ⟨zO, zO⟩ ⟨zO, zO⟩)
 have hr : Ca ⟨D, 0, 0⟩ = true := by simp [Ca, GM]; omega
 rw [hr] at HR
 have hT := RB D h1 h2
 rw [hT] at hfit hlen ⊢
 rw [Am] at hfit hlen
 have HV := hid (fun (W : World) (hW : Below w.heap.size w W) => BG W (h.later hW) (2 * D.length - 2) zD zD zD)
 have hno := fun q (hq : CT g a q) => (h.DG hq).2
 have HNO := hid hno
 have HD := hid hD
 have hfit' := hid hfit; have hlen' := hid hlen
 have e0 : (((2 * D.length - 2 : Nat)) : Int) = ((D.length : Int) - 1) * 2 := zD
 rw [e0] at HV
 clear hr hT h hD hno hfit hlen;go_enter Tryz.func268, Tryz.ntmps268
 go_wp2_with fail;refine (HR.out _).mono ?_
 rintro r w1 ⟨rfl, hb1⟩;have B1 : Blk w1 w.heap.size 225 #[.slice ad D.length cd, .int .i64 0, .int .i64 0] := (Blk.new w _ _).later hb1
 have x0 : w1.cell? ⟨w.heap.size, 0, none⟩ = some (.slice ad D.length cd) := B1.cell 0
 have x1 : w1.cell? ⟨w.heap.size, 1, none⟩ = some (.int .i64 0) := B1.cell 1
 have hbw1 : Below w.heap.size w w1 := zB
 go_wp2_with fail;refine (HV.out _ hbw1).mono ?_
 rintro r w2 ⟨rfl, a2, c2, hp2, ht2, ha2⟩;have B2 := B1.tch ht2 (fun hf => by have := HNO.out _ hf; omega)
 have y0 : w2.cell? ⟨w.heap.size, 0, none⟩ = some (.slice ad D.length cd) := B2.cell 0
 have hs1 := hbw1.size
 have hD2 : Ag.r (· < w2.heap.size) w2 [.slice ad D.length cd] D := Ag.mono (Ag.keep HD.out fun q hq => (ht2.block q zD hq.2).trans (hbw1.block q hq.1)) fun q hq => Ah hq.1 (by have := ht2.size; omega)
 have HQ := hid (Ep w2 hp2 D ad _ cd hD2 zAh zAg)
 clear x0 x1 hD2;go_wp2_with fail;refine HQ.out.mono ?_
 rintro r w3 ⟨rfl, hst⟩;have hst2 := Ao.later hbw1 (Ao.trans (J := J) ht2 ha2 hst)
 rw [Au] at hst2
 have HST := hid hst2
 clear hst hst2;go_wp2;first | go_end0 | refine Ai (Aq rfl _ _ _) rfl ?_
 exact ⟨rfl, HST.out⟩
theorem J6 (w : World) {g base most : Nat} {J : List UInt8} {a : Option Addr} {c : Nat} (h : Bv w g base most J a c) (o m : Nat) (h1 : 1 ≤ o) (h2 : o ≤ 65536) (h3 : 4 ≤ m) (h4 : m ≤ 1048576) (ad : Option Addr) (cd : Nat)
  (hfit : J.length + (Hr ⟨[], (o : Int), (m : Int)⟩).length ≤ most) (hlen : J.length + (Hr ⟨[], (o : Int), (m : Int)⟩).length ≤ 100000000000000) :
  Calls Tryz.prog 268 #[.pointer (some ⟨g, 0, none⟩), .agg #[.slice ad 0 cd, .int .i64 o, .int .i64 m]] w fun r w' => r = .returned (.tuple #[]) ∧ Ao w g base most (J ++ Hr ⟨[], (o : Int), (m : Int)⟩) a w' := by
 have HR := hid (fun (W : World) => Ji ⟨[], (o : Int), (m : Int)⟩ ad cd W zO zM zM)
 have hr : Ca ⟨[], (o : Int), (m : Int)⟩ = true := by simp [Ca, FF]; omega
 rw [hr] at HR
 have hT := Qs o m h1
 rw [hT] at hfit hlen ⊢
 rw [Am] at hfit hlen
 have HV := hid (fun (W : World) (hW : Below w.heap.size w W) => BG W (h.later hW) (2 * m - 7) zD zD zD)
 have hno := fun q (hq : CT g a q) => (h.DG hq).2
 have HNO := hid hno
 have hfit' := hid hfit; have hlen' := hid hlen
 have e0 : (((2 * m - 7 : Nat)) : Int) = ((m : Int) - 4) * 2 + 1 := zD
 rw [e0] at HV
 have d1 : ((o : Int) == 0) = false := zL
 have d2 : (o == 0) = false := zL
 simp only [Br] at HR
 clear hr hT h hno hfit hlen;go_enter Tryz.func268, Tryz.ntmps268
 go_wp2_with fail;refine (HR.out _).mono ?_
 rintro r w1 ⟨rfl, hb1⟩;have B1 : Blk w1 w.heap.size 225 #[.slice ad 0 cd, .int .i64 o, .int .i64 m] := (Blk.new w _ _).later hb1
 have x1 : w1.cell? ⟨w.heap.size, 1, none⟩ = some (.int .i64 o) := B1.cell 1
 have x2 : w1.cell? ⟨w.heap.size, 2, none⟩ = some (.int .i64 m) := B1.cell 2
 have hbw1 : Below w.heap.size w w1 := zB
 go_wp2_with fail;refine (HV.out _ hbw1).mono ?_
 rintro r w2 ⟨rfl, a2, c2, hp2, ht2, ha2⟩;have B2 := B1.tch ht2 (fun hf => by have := HNO.out _ hf; omega)
 have y1 : w2.cell? ⟨w.heap.size, 1, none⟩ = some (.int .i64 o) := B2.cell 1
 have HQ := hid (BG w2 hp2 (o - 1) zD zAh zAg)
 rw [show ((o - 1 : Nat) : Int) = (o : Int) - 1 by omega] at HQ
 clear x1 x2;go_wp2_with fail;refine HQ.out.mono ?_
 rintro r w3 ⟨rfl, hst⟩;have hst2 := Ao.later hbw1 (Ao.trans (J := J) ht2 ha2 hst)
 rw [Au] at hst2
 have HST := hid hst2
 clear hst hst2;go_wp2;first | go_end0 | refine Ai (Aq rfl _ _ _) rfl ?_
 exact ⟨rfl, HST.out⟩
def Et (xs : List Tok) : Nat := (xs.map fun t => t.lit.length + 20).sum
def Df (xs : List Tok) : List UInt8 := (xs.map Hr).flatten
theorem Kl (xs : List Tok) (k : Nat) (h : k < xs.length) : Et (xs.take (k + 1)) = Et (xs.take k) + (xs[k].lit.length + 20) := by
 unfold Et;rw [A6 h, C7, List.sum_append]; simp
theorem L7 (xs : List Tok) (k : Nat) (h : k < xs.length) : Df (xs.take (k + 1)) = Df (xs.take k) ++ Hr xs[k] := by
 unfold Df;rw [A6 h, C7, DA]; simp
theorem Km (xs : List Tok) (hL : ∀ t ∈ xs, t.lit.length ≤ 1048576) (k : Nat) (hk : k ≤ xs.length) : Et (xs.take k) ≤ k * 1048596 := by
 induction k with
 | zero => simp [Et]
 | succ k ih =>
  rw [Kl xs k zD]
  have := ih zD
  have := hL _ (BZ (show k < xs.length by omega))
  omega
theorem Ox (xs : List Tok) (k : Nat) : Et (xs.take k) ≤ Et xs := by
 have : Et xs = Et (xs.take k) + Et (xs.drop k) := by
  unfold Et;conv => lhs; rw [← Fs k xs]
  rw [C7, List.sum_append]
 omega
theorem RC (t : Tok) : (Hr t).length ≤ t.lit.length + 20 := by
 unfold Hr;split
 ·rw [Am]; have := A2 (2 * t.lit.length - 2); omega
 ·rw [Am]; have := A2 (2 * t.len.toNat - 7); have := A2 (t.off.toNat - 1); omega
theorem Jh (xs : List Tok) : (Df xs).length ≤ Et xs := by
 unfold Df Et;induction xs with
 | nil => simp
 | cons t xs ih => simp only [List.map_cons, IG, Am, List.sum_cons]; have := RC t; omega
theorem Qm : (AH 18446744073709551615).length = 10 := zF
theorem GN {t : Tok} (h : Ca t = true) : (∃ D, t = ⟨D, 0, 0⟩ ∧ 1 ≤ D.length ∧ D.length ≤ 1048576) ∨ ∃ o m : Nat, t = ⟨[], (o : Int), (m : Int)⟩ ∧ 1 ≤ o ∧ o ≤ 65536 ∧ 4 ≤ m ∧ m ≤ 1048576 := by
 obtain ⟨D, o, m⟩ := t
 simp only [Ca, GM, FF, Cm, As, Aw] at h
 rcases h with ⟨rfl, rfl, h1, h2⟩ | ⟨h0, h1, h2, h3, h4⟩
 ·exact .inl ⟨D, rfl, h1, h2⟩
 ·refine .inr ⟨o.toNat, m.toNat, ?_, zD, zD, zD, zD⟩
  rw [AO h0, Int.toNat_of_nonneg zD, Int.toNat_of_nonneg zD]
theorem Oa (xs : List Tok) (a : Option Addr) (n c : Nat) (w : World) (hl : Nd.r (· < w.heap.size) w [.slice a n c] xs) (hx : xs.length ≤ 10000000) (hL : ∀ t ∈ xs, t.lit.length ≤ 1048576) :
  Calls Tryz.prog 267 #[.slice a n c] w fun r w' => r = .returned (.int .i64 (Et xs)) ∧ Below w.heap.size w w' := by
 obtain ⟨rfl, hm, _, _⟩ := AP hl
 have HL := hid hl; clear hl
 go_enter Tryz.func267, Tryz.ntmps267
 go_wp2_with fail;go_loopw [3, 8] (fun s i wr => ∃ k : Nat, k ≤ xs.length ∧ i = .int .i64 k ∧ (∃ t : Nat, s = .int .i64 t ∧ Hid (t = Et (xs.take k))) ∧ Below w.heap.size w wr) (fun _ i _ => xs.length - (intOf i).toNat)
 case atStart => exact ⟨0, Aj _, rfl, ⟨0, rfl, hid (by simp [Et])⟩, Below.refl _ _⟩
 case round =>
  obtain ⟨k, hk, rfl, ⟨t, rfl, ht⟩, hb⟩ := hrel
  rcases Bo k xs.length with hlt | hge
  ·obtain ⟨b, o, hA, hbb, a2, c2, x0, x1, x2, _, _, _⟩ := RA HL.out hlt
   subst hA;have X0 := (hb.cell (p := ⟨b, o + k * 3, none⟩) hbb).trans x0
   have X1 := (hb.cell (p := ⟨b, o + k * 3 + 1, none⟩) hbb).trans x1
   have X2 := (hb.cell (p := ⟨b, o + k * 3 + 2, none⟩) hbb).trans x2
   have hn := hid (Kl xs k hlt)
   have hle := Km xs hL k zD
   have hD := hL _ (BZ hlt)
   rw [← ht.out] at hle
   clear x0 x1 x2;generalize xs[k] = y at *
   obtain ⟨D, yo, ym⟩ := y
   dsimp only at *;have hbs := hb.size
   have i1 : (k : Int) < (xs.length : Int) := zD
   go_wp2_with fail;refine FO (fun W => Below wr.heap.size wr W ∧ wr.heap.size < W.heap.size ∧ W.cell? ⟨wr.heap.size, 0, none⟩ = some (.slice a2 D.length c2)) ⟨zB, zO, zBk⟩ ?_
   intro W ⟨hbW, hzW, u0⟩;have U0 := fun s : AN W => s.cell u0
   have HS := hid (fun s : AN W => Jf 18446744073709551615 zD s.at_)
   rw [Qm] at HS
   have hbw := Af hbW hb
   clear X0 X1 X2 u0;refine Ar zH zH ?_
   repeat (go_big_quiet_step (((go_at_call 249; exact AW (HS.out _)))))
   refine AA ?_
   rintro W5 ⟨⟨W5', hb5⟩, rfl⟩;go_wp2;go_roundw
   case rel => exact ⟨k + 1, zD, zW, ⟨t + (D.length + 20), zW, hid (by rw [hn.out, ht.out])⟩, Af hb5 hbw⟩
   case measure => simp [intOf]; omega
  ·obtain rfl : k = xs.length := by omega
   rw [Gx] at ht
   go_wp2;go_ret;exact ⟨by rw [← ht.out]; rfl, hb⟩
theorem Bv.below {w w' : World} {g base most : Nat} {J J' : List UInt8} {a : Option Addr} {c B : Nat} (h : Bv w g base most J a c) (hB : B ≤ base) (hB2 : B ≤ w.heap.size) (k : Ao w g base most J' a w') : Below B w w' := by
 obtain ⟨a', c', k1, k2, k3⟩ := k
 exact k2.BE hB2 fun b _ hb => A5 hB (h.DG hb).1
theorem MR (xs : List Tok) (a : Option Addr) (n c : Nat) (w : World) (hl : Nd.r (· < w.heap.size) w [.slice a n c] xs) (hx : xs.length ≤ 10000000) (hR : ∀ t ∈ xs, Ca t = true) :
  Calls Tryz.prog 248 #[.slice a n c] w fun r w' => ∃ v, r = .returned (.tuple #[v, .int .i64 0]) ∧ Ag.r (fun q => w.heap.size ≤ q ∧ q < w'.heap.size) w' [v] (Df xs) ∧ Below w.heap.size w w' := by
 obtain ⟨rfl, hm, _, _⟩ := AP hl
 have hL : ∀ t ∈ xs, t.lit.length ≤ 1048576 := fun t ht => by
  rcases GN (hR t ht) with ⟨D, rfl, h1, h2⟩ | ⟨o, m, rfl, _⟩
  ·exact h2
  ·simp
 have HRM := hid (Oa xs a _ c w hl hx hL)
 have hrl := Km xs hL xs.length (Al _)
 rw [Gx] at hrl
 have HMO := hid (fun k => Ox xs k)
 have HL := hid hl; have HR := hid hR
 clear hl hR hL;generalize hM : Et xs = M at *
 have hMM := hid hM; clear hM
 go_enter Tryz.func248, Tryz.ntmps248
 go_wp2_with fail;refine HRM.out.mono ?_
 rintro r w1 ⟨rfl, hb1⟩;have HN := hid (Iu w1 M zD)
 go_wp2_with fail;refine HN.out.mono ?_
 rintro r w2 ⟨rfl, hp2, hb2⟩;have hs1 := hb1.size
 have hs2 := hb2.size
 have HP2 := hid hp2
 have hbw2 := Af hb2 hb1
 clear hp2;generalize hg : w1.heap.size = g at *
 go_wp2_with fail;go_loopw [12] (fun i wr => ∃ k : Nat, k ≤ xs.length ∧ i = .int .i64 k ∧ Hid (∃ ap cp, Bv wr g g M (Df (xs.take k)) ap cp) ∧ Below g w2 wr) (fun i _ => xs.length - (intOf i).toNat)
 case atStart => exact ⟨0, Aj _, rfl, hid ⟨_, _, by simpa [Df] using HP2.out⟩, Below.refl _ _⟩
 case round =>
  obtain ⟨k, hk, rfl, hpen, hb⟩ := hrel
  obtain ⟨ap, cp, hP⟩ := hpen.out
  have hbw : Below w.heap.size w wr := ⟨hb.os.trans hbw2.os, hb.tape.trans hbw2.tape, hb.output.trans hbw2.output, by have := hb.size; omega, fun q hq => (hb.block q zD).trans (hbw2.block q hq)⟩
  have hgl := hP.blk.lt
  rcases Bo k xs.length with hlt | hge
  ·obtain ⟨b, o, hA, hbb, a2, c2, x0, x1, x2, _, _, xl⟩ := RA HL.out hlt
   subst hA;have X0 := (hbw.cell (p := ⟨b, o + k * 3, none⟩) hbb).trans x0
   have X1 := (hbw.cell (p := ⟨b, o + k * 3 + 1, none⟩) hbb).trans x1
   have X2 := (hbw.cell (p := ⟨b, o + k * 3 + 2, none⟩) hbb).trans x2
   have hst := L7 xs k hlt
   have hfit : (Df (xs.take k)).length + (Hr xs[k]).length ≤ M := by
    have h1 := Jh (xs.take (k + 1))
    rw [hst, Am] at h1
    have h2 := HMO.out (k + 1)
    omega
   have hr := HR.out _ (BZ hlt)
   have HST := hid hst
   have HXL := hid xl
   have HFIT := hid hfit
   clear x0 x1 x2 xl hst hfit;generalize xs[k] = y at *
   generalize Df (xs.take k) = J at *
   have hbs := hb.size
   have i1 : (k : Int) < (xs.length : Int) := zD
   have HP := hid hP
   clear hP hpen;rcases GN hr with ⟨D, rfl, k1, k2⟩ | ⟨yo, ym, rfl, k1, k2, k3, k4⟩
   ·dsimp only at X0 X1 X2 HXL
    clear hr;go_wp2_with fail;have hbW : Below wr.heap.size wr (wr.alloc (.cells #[.slice a2 D.length c2, .int .i64 0, .int .i64 0] 225)) := zB
    generalize wr.alloc (.cells #[.slice a2 D.length c2, .int .i64 0, .int .i64 0] 225) = W at *
    have hzW := hbW.size
    have hPW := HP.out.later hbW
    have HQ := hid (KX W hPW D k1 k2 a2 c2 (Ag.mono (Ag.keep HXL.out fun q hq => (Af hbW hbw).block q hq) fun q hq => ⟨Ah hq (by have := hbw.size; omega), fun hf => by have := (hPW.DG hf).1; have hq' : q < w.heap.size := hq; omega⟩) HFIT.out (by have := HFIT.out; omega))
    have HPW := hid hPW
    clear X0 X1 X2 hPW;refine HQ.out.mono ?_
    rintro r w5 ⟨rfl, hps⟩;have hb5 : Below g w2 w5 := by
     have e1 : Below g W w5 := HPW.out.below (Al _) zD hps
     exact (hb.trans (hbW.mono zD)).trans e1
    obtain ⟨a5, c5, hP5, _, _⟩ := hps
    have HP5 := hid (⟨a5, c5, by rw [HST.out]; exact hP5⟩ : ∃ ap cp, Bv w5 g g M (Df (xs.take (k + 1))) ap cp)
    clear hP5;go_wp2;go_roundw
    case rel => exact ⟨k + 1, zD, zW, HP5, hb5⟩
    case measure => simp [intOf]; omega
   ·dsimp only [Br] at X0 X1 X2 HXL
    clear hr;go_wp2_with fail;have hbW : Below wr.heap.size wr (wr.alloc (.cells #[.slice a2 0 c2, .int .i64 yo, .int .i64 ym] 225)) := zB
    generalize wr.alloc (.cells #[.slice a2 0 c2, .int .i64 yo, .int .i64 ym] 225) = W at *
    have hzW := hbW.size
    have hPW := HP.out.later hbW
    have HQ := hid (J6 W hPW yo ym k1 k2 k3 k4 a2 c2 HFIT.out (by have := HFIT.out; omega))
    have HPW := hid hPW
    clear X0 X1 X2 hPW;refine HQ.out.mono ?_
    rintro r w5 ⟨rfl, hps⟩;have hb5 : Below g w2 w5 := by
     have e1 : Below g W w5 := HPW.out.below (Al _) zD hps
     exact (hb.trans (hbW.mono zD)).trans e1
    obtain ⟨a5, c5, hP5, _, _⟩ := hps
    have HP5 := hid (⟨a5, c5, by rw [HST.out]; exact hP5⟩ : ∃ ap cp, Bv w5 g g M (Df (xs.take (k + 1))) ap cp)
    clear hP5;go_wp2;go_roundw
    case rel => exact ⟨k + 1, zD, zW, HP5, hb5⟩
    case measure => simp [intOf]; omega
  ·obtain rfl : k = xs.length := by omega
   rw [Gx] at hP
   have HB := hid (G4 wr hP)
   clear hP hpen;go_wp2_with fail;refine HB.out.mono ?_
   rintro r w5 ⟨v, rfl, hv, hb5⟩;have hbe := Af hb5 hbw
   have HV := hid (Ag.mono (S' := fun q => w.heap.size ≤ q ∧ q < w5.heap.size) hv fun q hq => ⟨by have := hq.1; have := hbw.size; omega, hq.2⟩)
   clear hv;go_wp2;go_ret2
   exact ⟨_, rfl, HV.out, hbe⟩
theorem Lb (J D : List UInt8) : byteCells J ++ byteCells D = byteCells (J ++ D) := zAd
end Go.Proofs.YtlbffbkbkajciaaGreat
namespace Go.Bs
open Go.RowKit
end Go.Bs
namespace Go.Proofs.YtlbffbkbkajciaaGreat
open Go.RowKit Go.Bs Go.Maps
def rTV : Rp (Tok ⊕ Value) :=
  ⟨fun S w cs x => match x with | .inl t => IQ.r S w cs t | .inr v => cs = [v, .int .i64 0, .int .i64 0],
   fun {S w w' cs x} h hk => by cases x with | inl b => exact IQ.keep h hk | inr y => exact h,
   fun {S S' w cs x} h hk => by cases x with | inl b => exact IQ.mono h hk | inr y => exact h⟩
structure S0 (lo : Nat) (w : World) (g c : Nat) (cells : List (List Value)) (ts : List Tok) (D : List UInt8) (vl : Value) : Prop where
 own : BM (fun x => lo ≤ x ∧ x < w.heap.size ∧ vl.ownBlock ≠ some x) rTV lo 225 3 w (.slice (some ⟨g, 0, none⟩) (ts.length + 1) c) (ts.map .inl ++ [.inr vl]) (cells ++ [[vl, .int .i64 0, .int .i64 0]])
 len : cells.length = ts.length
 last : w.ownsRow lo 5 1 vl D.length (byteCells D)
 ne : vl.ownBlock ≠ some g
theorem S0.Uq {lo : Nat} {w : World} {g c : Nat} {cells : List (List Value)} {ts : List Tok} {D : List UInt8} {vl : Value} (h : S0 lo w g c cells ts D vl) : lo ≤ g ∧ g < w.heap.size := h.own.1.lt g rfl
theorem S0.later {lo : Nat} {w w' : World} {g c : Nat} {cells : List (List Value)} {ts : List Tok} {D : List UInt8} {vl : Value} (h : S0 lo w g c cells ts D vl) (hb : Below w.heap.size w w') : S0 lo w' g c cells ts D vl := by
 have hgl := h.Uq
 obtain ⟨ho, h1, h4, h5⟩ := h
 refine ⟨(ho.keep (w' := w') (fun b h => hb.block b h.2.1) (fun g' hg' => hb.block g' (ho.1.lt g' hg').2)).mono fun b hb' => ⟨hb'.1, by have := hb.size; omega, hb'.2.2⟩, h1, By h4 hb, h5⟩
def Rest (b : List UInt8) (p i : Nat) (O : List Tok) : Prop := ∃ f, b.length ≤ p + f ∧ DI b = O ++ DJ b f p i
theorem Rest.copy {b : List UInt8} {p i o m : Nat} {O : List Tok} (h : Rest b p i O) (hp : p < b.length) (hb : BY b p = (o, m)) (hm : m ≠ 0) : Rest b (p + m) (p + m) (O ++ EM b i p ++ [⟨[], (o : Int), (m : Int)⟩]) := by
 obtain ⟨f, hf, h⟩ := h
 obtain ⟨f, rfl⟩ : ∃ f', f = f' + 1 := ⟨f - 1, zD⟩
 refine ⟨f, zD, ?_⟩
 rw [h]
 simp only [DJ, Ak hp, hb, An hm]
 simp
theorem Rest.none {b : List UInt8} {p i o : Nat} {O : List Tok} (h : Rest b p i O) (hp : p < b.length) (hb : BY b p = (o, 0)) : Rest b (p + 1) i O := by
 obtain ⟨f, hf, h⟩ := h
 obtain ⟨f, rfl⟩ : ∃ f', f = f' + 1 := ⟨f - 1, zD⟩
 refine ⟨f, zD, ?_⟩
 rw [h]
 simp only [DJ, Ak hp, hb, if_true]
theorem Rest.fin {b : List UInt8} {i : Nat} {O : List Tok} (h : Rest b b.length i O) : DI b = O ++ EM b i b.length := by
 obtain ⟨f, hf, h⟩ := h
 rw [h]
 cases f with
 | zero => rfl
 | succ f => simp only [DJ, An (Nat.lt_irrefl _)]
theorem H7 {b : List UInt8} (hb : b.length ≤ 1048576) : ∀ {f : Bool} {p : Nat} {ts : List Tok}, Good b f p ts → ∀ t ∈ ts, Ca t = true
 | _, _, _, .nil, t, ht => by simp at ht
 | _, _, _, .copy (p := p) (o := o) (m := m) hp hbe hm hg, t, ht => by
  rcases List.mem_cons.1 ht with rfl | ht
  ·have h1 := GZ b p
   have h2 := (Ie b p).1
   rw [hbe] at h1 h2
   simp only at h2
   rcases h1 with h1 | ⟨o', m', h1, g1, g2, g3, _⟩
   ·simp only [CG] at h1; omega
   ·simp only [CG] at h1
    unfold reach at g2;simp [Ca, FF]
    omega
  ·exact H7 hb hg t ht
 | _, _, _, .run (p := p) (q := q) h1 h2 h3 hg, t, ht => by
  rcases List.mem_cons.1 ht with rfl | ht
  ·simp [Ca, GM]
   omega
  ·exact H7 hb hg t ht
theorem J5 {b : List UInt8} (hb : b.length ≤ 1048576) : ∀ t ∈ DI b, Ca t = true := H7 hb (Pc b)
theorem Qp {b : List UInt8} (hb : b.length ≤ 1048576) : (DI b).length ≤ 10000000 := by
 have := Il b b.length 0 0
 unfold DI;omega
theorem Nh (w : World) (b : List UInt8) (a : Option Addr) (n c : Nat) (hl : Ag.r (· < w.heap.size) w [.slice a n c] b) (hlen : b.length ≤ 1048576) :
  Calls Tryz.prog 216 #[.slice a n c] w fun r w' => ∃ v, r = .returned (.tuple #[v, .int .i64 0]) ∧ Ag.r (fun q => w.heap.size ≤ q ∧ q < w'.heap.size) w' [v] (Df (DI b)) ∧ Below w.heap.size w w' := by
 obtain ⟨rfl, hm, _, _⟩ := AP hl
 have HT := hid (Mk w b a _ c hl hlen)
 have hri := J5 hlen
 have hl2 := Qp hlen
 clear hl;generalize DI b = T at *
 go_enter Tryz.func216, Tryz.ntmps216
 go_wp2_with fail;refine HT.out.mono ?_
 rintro r w1 ⟨v, rfl, hr, hb1⟩;obtain ⟨a1, c1, hv, hr2, _⟩ := AE hr
 simp only [Ap, AD] at hv
 subst hv;have HB := hid (MR T a1 _ c1 w1 (Nd.mono hr2 fun q hq => hq.2) hl2 hri)
 have hs1 := hb1.size
 clear hr hr2;go_wp2_with fail;refine HB.out.mono ?_
 rintro r w2 ⟨v2, rfl, hv2, hb2⟩;have hbe := Af hb2 hb1
 have HV := hid (Ag.mono (S' := fun q => w.heap.size ≤ q ∧ q < w2.heap.size) hv2 fun q hq => ⟨zU, hq.2⟩)
 clear hv2;go_wp2;go_ret2
 exact ⟨_, rfl, HV.out, hbe⟩
theorem QJ (x : Nat) : ∀ (hx : x < 18446744073709551616) (w : World),
  Calls Tryz.prog 104 #[.int .u64 x] w fun r w' => ∃ v, r = .returned v ∧ w'.ownsRow w.heap.size 5 1 v (AH x).length (byteCells (AH x)) ∧ Below w.heap.size w w' := by
 induction x using Nat.strongRecOn with
 | ind x ih =>
 intro hx w;obtain ⟨i0, hi, hz0, hz1, hz2⟩ := Bq EF
 by_cases h : x < 128
 ·have d1 : decide ((x : Int) < 128) = true := by simp; omega
  have hfin : Hid (AH x = [UInt8.ofNat x]) := hid (F8 h)
  have hby : Hid ((x : Int) = ((UInt8.ofNat x).toNat : Int)) := hid (Dx zD)
  have HIH := hid ih; clear ih
  go_enter Tryz.func104, Tryz.ntmps104
  go_wp2_with fail;have e0 : [Value.int .u8 (x : Int)] = byteCells (AH x) := by rw [hfin.out, hby.out]; rfl
  have ho : (w.alloc (.cells #[.int .u8 (x : Int)] 5)).ownsRow w.heap.size 5 1 (.slice (some ⟨w.heap.size, 0, none⟩) 1 1) 1 (byteCells (AH x)) := e0 ▸ Ks (w := w.alloc (.cells #[.int .u8 (x : Int)] 5)) (base := w.heap.size) (e := 5) (Al _) (World.alloc_heap_new w _)
  have HL1 : Hid ((AH x).length = 1) := hid zY
  have HV := hid ho
  clear ho e0;go_ret;exact ⟨_, rfl, by rw [HL1.out]; exact HV.out, zB⟩
 ·have d1 : decide ((x : Int) < 128) = false := by simp; omega
  have HIH := hid (fun (W : World) => ih (x / 128) zD zD W)
  clear ih;rw [show ((x / 128 : Nat) : Int) = (x : Int) / 128 by omega] at HIH
  have hfin : Hid (AH x = [UInt8.ofNat (128 + x % 128)] ++ AH (x / 128)) := hid (by rw [IK h (by omega)]; rfl)
  have hby : Hid (128 + (x : Int) % 128 = ((UInt8.ofNat (128 + x % 128)).toNat : Int)) := hid (by rw [← Dx (by omega)]; omega)
  have hlb := A2 (x / 128)
  go_enter Tryz.func104, Tryz.ntmps104
  go_wp2_with fail;refine (HIH.out _).mono ?_
  rintro r w1 ⟨v1, rfl, hr1, hb1⟩;have ho := Ks (w := w.alloc (.cells #[.int .u8 (128 + (x : Int) % 128)] 5)) (base := w.heap.size) (e := 5) (Al _) (World.alloc_heap_new w _)
  have ho1 := By ho hb1
  obtain ⟨a1, c1, rfl⟩ := Bh hr1
  have hr3 := CZ (Ag.mono (Cp rfl hr1) (S' := (· < w1.heap.size)) fun b hb => hb.2)
  have HS := hid hr3; have HO := hid ho1; have HONE := hid (BV (AH (x / 128)))
  have hz1w : w.heap.size + 1 ≤ w1.heap.size := by have := hb1.size; simpa using this
  have hbw1 : Below w.heap.size w w1 := zB
  clear hr1 hr3 ho ho1;go_wp2_with (at_builtin; go_loud (refine AB rfl _ _ _ rfl w.heap.size 5 i0 (.int .u8 0) 1 1 AU hi hz0 hz1 hz2 rfl zP (.slice (some ⟨w.heap.size, 0, none⟩) 1 1) 1 _ rfl HO.out a1 (AH (x / 128)).length c1 (byteCells (AH (x / 128))) rfl HS.out HONE.out zQ zD zD ?_; intro v' w2 hown2 hgrow2 hat2; have HG := hid hgrow2; have HO2 := hid hown2; clear hgrow2 hown2 hat2))
  have ho := HO2.out
  rw [hby.out, show [Value.int .u8 ((UInt8.ofNat (128 + x % 128)).toNat : Int)] = byteCells [UInt8.ofNat (128 + x % 128)] from rfl, byteCells, byteCells, ← C7, ← hfin.out] at ho
  rw [show 1 + (AH (x / 128)).length = (AH x).length by rw [hfin.out]; simp; omega] at ho
  have hB : Below w.heap.size w w2 := Below.grown hbw1 HG.out zD (fun g e => (HO.out.lt g e).1)
  have HV := hid ho
  clear ho;go_ret;exact ⟨_, rfl, HV.out, hB⟩
def Db (D : List UInt8) : List UInt8 := AH D.length ++ D
theorem EW (D : List UInt8) : (Db D).length = (AH D.length).length + D.length := by simp [Db]
theorem Jc (n : Nat) (hn : n ≤ 100000000000000) (w : World) :
  Calls Tryz.prog 217 #[.int .i64 n] w fun r w' => r = .returned (.int .i64 ((AH n).length + n : Nat)) ∧ Below w.heap.size w w' := by
 have HS := hid (fun (W : World) => Jf n zD W)
 have hl := A2 n
 generalize (AH n).length = k at *
 go_enter Tryz.func217, Tryz.ntmps217
 go_wp2_with fail;refine (HS.out _).mono ?_
 rintro r w1 ⟨rfl, hb1⟩;go_wp2;go_ret;exact ⟨zAm, hb1⟩
theorem NU (w : World) {g base most : Nat} {J : List UInt8} {a : Option Addr} {c : Nat} (h : Bv w g base most J a c) (D : List UInt8) (ad : Option Addr) (nd cd : Nat)
  (hD : Ag.r (fun q => q < w.heap.size ∧ ¬ CT g a q) w [.slice ad nd cd] D) (hfit : J.length + (Db D).length ≤ most) (hlen : J.length + (Db D).length ≤ 100000000000000) :
  Calls Tryz.prog 154 #[.pointer (some ⟨g, 0, none⟩), .slice ad nd cd] w fun r w' => r = .returned (.tuple #[]) ∧ Ao w g base most (J ++ Db D) a w' := by
 obtain ⟨rfl, hm, _, _⟩ := AP hD
 rw [EW] at hfit hlen
 have HV := hid (BG w h D.length zD zD zD)
 have HD := hid hD
 have hfit' := hid hfit; have hlen' := hid hlen
 clear h hD hfit hlen;go_enter Tryz.func154, Tryz.ntmps154
 go_wp2_with fail;refine HV.out.mono ?_
 rintro r w2 ⟨rfl, a2, c2, hp2, ht2, ha2⟩;have hs2 := ht2.size
 have HQ := hid (Ep w2 hp2 D ad _ cd (Ag.mono (Ag.keep HD.out fun q hq => ht2.block q hq.1 hq.2) fun q hq => Ah hq.1 hs2) zAh zAg)
 go_wp2_with fail;refine HQ.out.mono ?_
 rintro r w3 ⟨rfl, hst⟩;have hst2 := Ao.trans (J := J) ht2 ha2 hst
 rw [Au] at hst2
 have HST := hid hst2
 clear hst hst2;go_wp2;first | go_end0 | refine Ai (Aq rfl _ _ _) rfl ?_
 exact ⟨rfl, HST.out⟩
theorem QI (w : World) (D : List UInt8) (a : Option Addr) (n c : Nat) (hl : Ag.r (· < w.heap.size) w [.slice a n c] D) (hlen : D.length ≤ 10000000000000) :
  Calls Tryz.prog 134 #[.slice a n c] w fun r w' => ∃ v, r = .returned v ∧ w'.ownsRow w.heap.size 5 1 v (Db D).length (byteCells (Db D)) ∧ Below w.heap.size w w' := by
 obtain ⟨rfl, hm, _, _⟩ := AP hl
 obtain ⟨i0, hi, hz0, hz1, hz2⟩ := Bq EF
 have HL := hid hl
 have HV := hid (QJ D.length zD w)
 have HONE := hid (BV D)
 have hvl := A2 D.length
 have hbl := hid (EW D)
 have hbd : Hid (Db D = AH D.length ++ D) := hid rfl
 clear hl;generalize AH D.length = E at *
 go_enter Tryz.func134, Tryz.ntmps134
 go_wp2_with fail;refine HV.out.mono ?_
 rintro r w1 ⟨v, rfl, ho, hb1⟩;obtain ⟨a1, c1, rfl⟩ := Bh ho
 have hs1 := hb1.size
 have HO := hid ho
 have HS := hid (CZ (lift HL.out hb1))
 clear ho;go_wp2_with (at_builtin; go_loud (refine AB rfl _ _ _ rfl w.heap.size 5 i0 (.int .u8 0) 1 1 AU hi hz0 hz1 hz2 rfl zP (.slice a1 E.length c1) E.length (byteCells E) rfl HO.out a D.length c (byteCells D) rfl HS.out HONE.out zQ zD zD ?_; intro v' w2 hown2 hgrow2 hat2; have HG := hid hgrow2; have HO2 := hid hown2; clear hgrow2 hown2 hat2))
 have ho := HO2.out
 rw [Lb, ← hbd.out, show E.length + D.length = (Db D).length from hbl.out.symm] at ho
 have hB : Below w.heap.size w w2 := Below.grown hb1 HG.out zD (fun g e => (HO.out.lt g e).1)
 have HV2 := hid ho
 clear ho;go_ret;exact ⟨_, rfl, HV2.out, hB⟩
def Fa (p : List UInt8) : List UInt8 := Df (DI p)
def Hm (p : List UInt8) : Bool := decide ((Db (Fa p)).length < p.length)
def Cu (p : List UInt8) : List UInt8 := AH p.length ++ (if Hm p then 1 :: Db (Fa p) else 0 :: p)
theorem Ml {b : List UInt8} (hb : b.length ≤ 1048576) : (Fa b).length ≤ 10000000000000 := by
 have hL : ∀ t ∈ DI b, t.lit.length ≤ 1048576 := fun t ht => by
  rcases GN (J5 hb t ht) with ⟨D, rfl, h1, h2⟩ | ⟨o, m, rfl, _⟩
  ·exact h2
  ·simp
 have h1 := Jh (DI b)
 have h2 := Km (DI b) hL (DI b).length (Al _)
 rw [Gx] at h2
 have h3 := Il b b.length 0 0
 unfold Fa;unfold DI at *;omega
theorem MG (w : World) (p : List UInt8) (a : Option Addr) (n c : Nat) (hl : Ag.r (· < w.heap.size) w [.slice a n c] p) (hlen : p.length ≤ 1048576) :
  Calls Tryz.prog 153 #[.slice a n c] w fun r w' => ∃ v, r = .returned (.tuple #[v, .bool (Hm p)]) ∧ (Hm p = true → Ag.r (fun q => w.heap.size ≤ q ∧ q < w'.heap.size) w' [v] (Fa p)) ∧ (Hm p = false → v = .slice none 0 0) ∧ Below w.heap.size w w' := by
 obtain ⟨rfl, hm, _, _⟩ := AP hl
 have HT := hid (Nh w p a _ c hl hlen)
 have hsm := Ml hlen
 have hbl := EW (Fa p)
 have hpk : Hid (Hm p = decide ((Db (Fa p)).length < p.length)) := hid rfl
 clear hl;rw [show Df (DI p) = Fa p from rfl] at HT
 generalize Fa p = E at *
 rw [hbl] at hpk
 generalize Hm p = R at *
 have HS := hid (fun (W : World) => Jc E.length zD W)
 have hvl := A2 E.length
 clear hbl;generalize (AH E.length).length = k at *
 go_enter Tryz.func153, Tryz.ntmps153
 go_wp2_with fail;refine HT.out.mono ?_
 rintro r w1 ⟨v, rfl, hr, hb1⟩;obtain ⟨a1, c1, hv, hr2, _⟩ := AE hr
 simp only [Ap, AD] at hv
 subst hv;have HR := hid hr2
 have hs1 := hb1.size
 clear hr hr2;go_wp2_with fail;refine (HS.out _).mono ?_
 rintro r w2 ⟨rfl, hb2⟩;have hbe := Af hb2 hb1
 have hs2 := hb2.size
 have HR2 := hid (Ag.mono (S' := fun q => w.heap.size ≤ q ∧ q < w2.heap.size) (Ag.keep HR.out fun q hq => hb2.block q hq.2) fun q hq => ⟨hq.1, zD⟩)
 have hpk' := hpk.out
 clear hpk;cases R
 ·have hle : ¬ k + E.length < p.length := of_decide_eq_false hpk'.symm
  have d1 : decide ((p.length : Int) ≤ (k : Int) + (E.length : Int)) = true := Ac zD
  have d1' : decide ((p.length : Int) ≤ ((k + E.length : Nat) : Int)) = true := Ac zD
  have d1'' : decide (p.length ≤ k + E.length) = true := Ac zD
  clear hpk' hle;go_wp2;go_ret2
  exact ⟨_, rfl, rfl, hbe⟩
 ·have hle : k + E.length < p.length := B6 hpk'.symm
  have d1 : decide ((p.length : Int) ≤ (k : Int) + (E.length : Int)) = false := Ab zD
  have d1' : decide ((p.length : Int) ≤ ((k + E.length : Nat) : Int)) = false := Ab zD
  have d1'' : decide (p.length ≤ k + E.length) = false := Ab zD
  clear hpk' hle;go_wp2;go_ret2
  exact ⟨_, rfl, HR2.out, hbe⟩
end Go.Proofs.YtlbffbkbkajciaaGreat
