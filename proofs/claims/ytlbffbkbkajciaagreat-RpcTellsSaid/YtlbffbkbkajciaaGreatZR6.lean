/- Mini: Needed by rpcTells_walk, part 6: texts put together by shake.py; no condition. -/
import Derived.Test.YtlbffbkbkajciaaGreatZR4
import Derived.RegionTactic
import Derived.Test.YtlbffbkbkajciaaGreatZR5
import Derived.Laws.BitsAllLaws
import Derived.Test.YtlbffbkbkajciaaGreatZR2
import Derived.Test.YtlbffbkbkajciaaGreatZR1
import Derived.Deep.AppendLies
import Derived.Deep.RegionLaw
import Derived.Laws.MakeOwn
import Derived.Lib.ConvBytes
import Derived.Laws.AppendOwn
import Derived.Test.YtlbffbkbkajciaaGreatZR3
set_option linter.unusedVariables false
set_option linter.unusedSimpArgs false
set_option maxRecDepth 100000
set_option maxHeartbeats 6400000
namespace Go.Bs
theorem zB5{p:Prop}(h:p:=by have := HFK.out; simp only [Ag]; omega):p:=h
theorem zBp{p:Prop}(h:p:=by have := hbk x hx; omega):p:=h
theorem zBi{p:Prop}(h:p:=by have := D8 List.length hJ.out; rw [Ag] at this; omega):p:=h
theorem zA1{p:Prop}(h:p:=by have := hJ.out; rwa [Es] at this):p:=h
theorem zAj{p:Prop}(h:p:=by rw [H3]; exact h):p:=h
theorem ZZ{p:Prop}(h:p:=by rw [hf.out, K4]; rfl):p:=h
theorem ZA{p:Prop}(h:p:=by rw [Ag]):p:=h
theorem zU{p:Prop}(h:p:=by simp only [Ag]; omega):p:=h
theorem Az:type_of% @List.getElem_cons_succ:=@List.getElem_cons_succ
theorem Bw:type_of% @Nat.add_assoc:=@Nat.add_assoc
theorem Cv:type_of% @Nat.xor_assoc:=@Nat.xor_assoc
theorem De:type_of% @Nat.mul_comm:=@Nat.mul_comm
theorem DR:type_of% @Nat.add_sub_cancel:=@Nat.add_sub_cancel
theorem EA:type_of% @Nat.mod_two_eq_zero_or_one:=@Nat.mod_two_eq_zero_or_one
theorem F9:type_of% @Nat.div_div_eq_div_mul:=@Nat.div_div_eq_div_mul
theorem Hx:type_of% @List.getElem_of_mem:=@List.getElem_of_mem
theorem JI:type_of% @Nat.xor_self:=@Nat.xor_self
theorem K2:type_of% @List.length_take:=@List.length_take
end Go.Bs
namespace Go.Proofs.YtlbffbkbkajciaaGreat
open Go.RowKit Go.Bs Go.Maps
def Rs.strict (s : Rs × List UInt8 × Bool) : Rs × List UInt8 := if s.1.k = 0 then (if s.2.2 = true then (s.1, s.2.1) else (s.1.fail 12 s.1.p, [])) else (s.1, [])
theorem N2 (w : World) {g : Nat} {B : List UInt8} {a : Option Addr} {s : Rs} (h : AZ w g B a s) (q : Bool) (p : Nat) :
  Calls Tryz.prog 197 #[.bool q, .func (Fn.func 180) #[.pointer (some ⟨g, 0, none⟩)] #[], .int .i64 (p : Int)] w fun r w' => r = .returned (.tuple #[]) ∧ AE w g B a (if q = true then s else s.fail 12 p) w' := by
 have HF := hid (BB w h 12 p zC)
 have HH := hid h
 clear h;cases q
 ·rw [An zO]
  go_enter Tryz.func197, Tryz.ntmps197
  go_wp2_with fail;refine HF.out.mono ?_
  rintro r w1 ⟨rfl, hst⟩;have HST := hid hst
  clear hst;go_wp2;go_end0
  exact ⟨rfl, HST.out⟩
 ·rw [Am rfl]
  go_enter Tryz.func197, Tryz.ntmps197
  go_wp2;go_end0
  exact ⟨rfl, AE.refl HH.out⟩
theorem Rl (w : World) {g : Nat} {B : List UInt8} {a : Option Addr} {s : Rs} (h : AZ w g B a s) (hB : B.length ≤ 1000000000) (most : Int) (hm : -9223372036854775808 ≤ most ∧ most ≤ 9223372036854775807) :
  Calls Tryz.prog 117 #[.pointer (some ⟨g, 0, none⟩), .int .i64 most] w fun r w' => ∃ v, r = .returned v ∧ Ah.r (fun q => w.heap.size ≤ q ∧ q < w'.heap.size) w' [v] (Rs.strict (s.loose B most)).2 ∧ AE w g B a (Rs.strict (s.loose B most)).1 w' := by
 have HLS := hid (Pw w h hB most hm)
 have hgl := h.blk.lt
 unfold Rs.strict;generalize s.loose B most = L at *
 obtain ⟨s1, D, q⟩ := L
 dsimp only at *;have hfk := Rs.CU (s := s1) (c := 12) (at_ := (s1.p : Int)) zC
 have hfb : s1.k ≠ 0 → s1.fail 12 s1.p = s1 := fun hk => Rs.Ch hk
 have hSC := hid (fun (W : World) (h : AZ W g B a s1) => N2 W h q s1.p)
 clear h;by_cases hk : s1.k = 0
 ·rw [Am hk]
  cases q
  ·have d1 : decide ((s1.fail 12 s1.p).k = 0) = false := Ad hfk
   rw [An zO]
   rw [An zO] at hSC
   generalize s1.fail 12 s1.p = s2 at *
   clear hk hfk hfb;go_enter Tryz.func117, Tryz.ntmps117
   go_wp2_with fail;refine HLS.out.mono ?_
   rintro r w1 ⟨v, rfl, hr, hst⟩;obtain ⟨aD, cD, hv, hr2, _⟩ := AN hr
   simp only [Au, AO] at hv
   subst hv;have HST := hid hst
   have HR := hid hr2
   have hs1 := hst.size
   have HAT := hid (Cc w1 hst.1)
   have HSC := hid (hSC.out w1 hst.1)
   clear hr hr2 hst;go_wp2_with fail;refine HAT.out.mono ?_
   rintro r w1' ⟨rfl, rfl⟩;go_wp2_with fail;refine HSC.out.mono ?_
   rintro r w2 ⟨rfl, hst2⟩;have HST2 := hid (AE.trans HST.out.2 hst2)
   have HRK := hid (Ah.mono (S' := fun q => w.heap.size ≤ q ∧ q < w2.heap.size) (Ah.keep HR.out fun q hq => hst2.2.block q hq.2 zC) fun q hq => ⟨hq.1, Ai hq.2 hst2.size⟩)
   have hG := AH w2 hst2.1
   rw [d1] at hG
   have HG := hid hG
   clear hst2 hG d1;go_wp2_with fail;refine HG.out.mono ?_
   rintro r w3 ⟨rfl, hb3⟩;have HST3 := hid (HST2.out.then hb3)
   go_wp2;go_ret;exact ⟨_, rfl, Co rfl rfl zC, HST3.out⟩
  ·have d1 : decide (s1.k = 0) = true := Ae hk
   rw [Am rfl]
   rw [Am rfl] at hSC
   clear hk hfk hfb;go_enter Tryz.func117, Tryz.ntmps117
   go_wp2_with fail;refine HLS.out.mono ?_
   rintro r w1 ⟨v, rfl, hr, hst⟩;obtain ⟨aD, cD, hv, hr2, _⟩ := AN hr
   simp only [Au, AO] at hv
   subst hv;have HST := hid hst
   have HR := hid hr2
   have hs1 := hst.size
   have HAT := hid (Cc w1 hst.1)
   have HSC := hid (hSC.out w1 hst.1)
   clear hr hr2 hst;go_wp2_with fail;refine HAT.out.mono ?_
   rintro r w1' ⟨rfl, rfl⟩;go_wp2_with fail;refine HSC.out.mono ?_
   rintro r w2 ⟨rfl, hst2⟩;have HST2 := hid (AE.trans HST.out.2 hst2)
   have HRK := hid (Ah.mono (S' := fun q => w.heap.size ≤ q ∧ q < w2.heap.size) (Ah.keep HR.out fun q hq => hst2.2.block q hq.2 zC) fun q hq => ⟨hq.1, Ai hq.2 hst2.size⟩)
   have hG := AH w2 hst2.1
   rw [d1] at hG
   have HG := hid hG
   clear hst2 hG d1;go_wp2_with fail;refine HG.out.mono ?_
   rintro r w3 ⟨rfl, hb3⟩;have HST3 := hid (HST2.out.then hb3)
   have HRK3 := hid (Ah.mono (S' := fun q => w.heap.size ≤ q ∧ q < w3.heap.size) (Ah.keep HRK.out fun q hq => hb3.block q hq.2) fun q hq => ⟨hq.1, Ai hq.2 hb3.size⟩)
   go_wp2;go_ret;exact ⟨_, rfl, HRK3.out, HST3.out⟩
 ·rw [An hk]
  have hfb2 := hfb hk
  have d1 : decide (s1.k = 0) = false := Ad hk
  have hSC2 : Hid (∀ (W : World) (h : AZ W g B a s1), Calls Tryz.prog 197 #[.bool q, .func (Fn.func 180) #[.pointer (some ⟨g, 0, none⟩)] #[], .int .i64 (s1.p : Int)] W fun r w' => r = .returned (.tuple #[]) ∧ AE W g B a s1 w') := hid (fun W h => by
   have := hSC.out W h
   rw [hfb2] at this
   cases q
   ·rw [An zO] at this; exact this
   ·rw [Am rfl] at this; exact this)
  clear hk hfk hfb hfb2 hSC;have hSC := hSC2
  clear hSC2;cases q;all_goals
   go_enter Tryz.func117, Tryz.ntmps117
   go_wp2_with fail;refine HLS.out.mono ?_
   rintro r w1 ⟨v, rfl, hr, hst⟩;obtain ⟨aD, cD, hv, hr2, _⟩ := AN hr
   simp only [Au, AO] at hv
   subst hv;have HST := hid hst
   have HR := hid hr2
   have hs1 := hst.size
   have HAT := hid (Cc w1 hst.1)
   have HSC := hid (hSC.out w1 hst.1)
   clear hr hr2 hst;go_wp2_with fail;refine HAT.out.mono ?_
   rintro r w1' ⟨rfl, rfl⟩;go_wp2_with fail;refine HSC.out.mono ?_
   rintro r w2 ⟨rfl, hst2⟩;have HST2 := hid (AE.trans HST.out.2 hst2)
   have HRK := hid (Ah.mono (S' := fun q => w.heap.size ≤ q ∧ q < w2.heap.size) (Ah.keep HR.out fun q hq => hst2.2.block q hq.2 zC) fun q hq => ⟨hq.1, Ai hq.2 hst2.size⟩)
   have hG := AH w2 hst2.1
   rw [d1] at hG
   have HG := hid hG
   clear hst2 hG d1;go_wp2_with fail;refine HG.out.mono ?_
   rintro r w3 ⟨rfl, hb3⟩;have HST3 := hid (HST2.out.then hb3)
   go_wp2;go_ret;exact ⟨_, rfl, Co rfl rfl zC, HST3.out⟩
def KZ (r : Rs × List UInt8) : List UInt8 × Nat × Int × Int := if r.1.k = 0 then (r.2, r.1.p, 0, 0) else ([], 0, r.1.k, r.1.f)
end Go.Proofs.YtlbffbkbkajciaaGreat
namespace Go.Bs
open Go.RowKit
def CF (c : Nat) : Nat := if c % 2 = 1 then (c / 2) ^^^ 2197175160 else c / 2
def DQ (c : Nat) : Nat := CF (CF (CF (CF c)))
def EU (c : Nat) (x : UInt8) : Nat := DQ (DQ (c ^^^ x.toNat))
def DO (c : Nat) (D : List UInt8) : Nat := D.foldl EU c
def Ct (D : List UInt8) : Nat := 4294967295 - DO 4294967295 D
theorem Lc {a b : Nat} (ha : a < 4294967296) (hb : b < 4294967296) : a ^^^ b < 4294967296 := Nat.xor_lt_two_pow (n := 32) ha hb
theorem Fk {c : Nat} (h : c < 4294967296) : CF c < 4294967296 := by
 unfold CF;split
 ·exact Lc zC zP
 ·omega
theorem Lb {c : Nat} (h : c < 4294967296) : DQ c < 4294967296 := Fk (Fk (Fk (Fk h)))
theorem L8 {c : Nat} {x : UInt8} (h : c < 4294967296) : EU c x < 4294967296 := Lb (Lb (Lc h (by have := x.toNat_lt; omega)))
theorem IA : ∀ (D : List UInt8) {c : Nat}, c < 4294967296 → DO c D < 4294967296
 | [], c, h => h
 | x :: D, c, h => IA D (L8 h)
theorem Kk (D : List UInt8) : Ct D < 4294967296 := by unfold Ct; omega
theorem Hy (a d : Nat) : (a ^^^ 2 * d) % 2 = a % 2 := by
 have h := Nat.xor_mod_two_pow (a := a) (b := 2 * d) (n := 1)
 rw [Nat.pow_one, show 2 * d % 2 = 0 by omega, Nat.xor_zero] at h
 exact h
theorem FI (a d : Nat) : CF (a ^^^ 2 * d) = CF a ^^^ d := by
 have h1 := Hy a d
 have h2 : (a ^^^ 2 * d) / 2 = a / 2 ^^^ d := by rw [Nat.xor_div_two]; congr 1; omega
 unfold CF;rw [h1, h2]
 split
 ·rw [Cv, Cv, Nat.xor_comm d]
 ·rfl
theorem Uh (a h : Nat) : DQ (a ^^^ 16 * h) = DQ a ^^^ h := by
 unfold DQ;rw [show 16 * h = 2 * (2 * (2 * (2 * h))) by omega, FI, FI, FI, FI]
theorem VP (h l : Nat) (hl : l < 16) : l ^^^ 16 * h = 16 * h + l := by
 have h1 : (l ^^^ 16 * h) / 2 = l / 2 ^^^ 8 * h := by rw [Nat.xor_div_two]; congr 1; omega
 have h2 : (l / 2 ^^^ 8 * h) / 2 = l / 4 ^^^ 4 * h := by rw [Nat.xor_div_two]; congr 1 <;> omega
 have h3 : (l / 4 ^^^ 4 * h) / 2 = l / 8 ^^^ 2 * h := by rw [Nat.xor_div_two]; congr 1 <;> omega
 have h4 : (l / 8 ^^^ 2 * h) / 2 = h := by
  rw [Nat.xor_div_two, show l / 8 / 2 = 0 by omega, show 2 * h / 2 = h by omega, Nat.zero_xor]
 have g1 : (l ^^^ 16 * h) % 2 = l % 2 := by rw [show 16 * h = 2 * (8 * h) by omega]; exact Hy _ _
 have g2 : (l / 2 ^^^ 8 * h) % 2 = l / 2 % 2 := by rw [show 8 * h = 2 * (4 * h) by omega]; exact Hy _ _
 have g3 : (l / 4 ^^^ 4 * h) % 2 = l / 4 % 2 := by rw [show 4 * h = 2 * (2 * h) by omega]; exact Hy _ _
 have g4 : (l / 8 ^^^ 2 * h) % 2 = l / 8 % 2 := Hy _ _
 omega
theorem SJ (c : Nat) : c / 16 ^^^ DQ (c % 16) = DQ c := by
 have h := Uh (c % 16) (c / 16)
 rw [VP _ _ zC, show 16 * (c / 16) + c % 16 = c by omega] at h
 rw [h, Nat.xor_comm]
def Hs (k : Nat) : Array Value := ((List.range 16).map fun j => Value.int .u32 ((if j < k then DQ j else 0 : Nat) : Int)).toArray
theorem CV (k j : Nat) (hj : j < 16) : (Hs k)[j]? = some (.int .u32 ((if j < k then DQ j else 0 : Nat) : Int)) := by
 simp [Hs, hj]
theorem Tc (k : Nat) (hk : k < 16) : (Hs k).setIfInBounds k (.int .u32 (DQ k : Int)) = Hs (k + 1) := by
 apply Array.ext_getElem?
 intro j;rw [Array.getElem?_setIfInBounds]
 by_cases hj : j < 16
 ·rw [CV _ _ hj, CV _ _ hj]
  by_cases e : k = j
  ·subst e; simp [Hs, hk]
  ·rw [An e]
   congr 2
   by_cases h : j < k
   ·rw [Am h, Am zC]
   ·rw [An h, An zC]
 ·have h1 : ∀ m, (Hs m)[j]? = none := fun m => by simp [Hs]; omega
  rw [h1, h1]
  split <;> simp [Hs]; omega
def LU : Nat → Nat → Nat
 | 0, c => c
 | n + 1, c => CF (LU n c)
theorem O4 {c : Nat} (h : c < 4294967296) : ∀ n, LU n c < 4294967296
 | 0 => h
 | n + 1 => Fk (O4 h n)
theorem Pz {c : Nat} (h : c < 4294967296) : bits BinOp.and IntKind.u32 (c : Int) 1 = ((c % 2 : Nat) : Int) := by
 have := u32_and_nat c 1 h zP
 rw [nat_mask1] at this
 exact this
theorem Nl {c : Nat} (h : c < 4294967296) : bits BinOp.and IntKind.u32 (c : Int) 15 = ((c % 16 : Nat) : Int) := by
 have := u32_and_nat c 15 h zP
 rw [nat_mask4] at this
 exact this
theorem Tz {c : Nat} (h : c < 4294967296) : bits BinOp.xor IntKind.u32 ((c : Int) / 2) 2197175160 = ((c / 2 ^^^ 2197175160 : Nat) : Int) := by
 have := u32_xor_nat (c / 2) 2197175160 zC zP
 rw [← this]
 rfl
theorem UM {c : Nat} (h : c < 4294967296) : bits BinOp.xor IntKind.u32 IntKind.u32.max (c : Int) = ((4294967295 - c : Nat) : Int) := by
 have e : IntKind.u32.max = ((4294967295 : Nat) : Int) := rfl
 rw [e, u32_xor_nat _ _ zP h]
 have h1 : 4294967295 ^^^ c = 4294967295 - c := by
  have h2 := BitVec.toNat_not (x := BitVec.ofNat 32 c)
  rw [BitVec.not_def, BitVec.toNat_xor, BitVec.toNat_allOnes, BitVec.toNat_ofNat, Ds zC] at h2
  exact h2
 rw [h1]
end Go.Bs
namespace Go.Proofs.YtlbffbkbkajciaaGreat
open Go.RowKit Go.Bs Go.Maps
theorem Ug (c : Nat) (hc : c < 4294967296) (w : World) :
  Calls Tryz.prog 271 #[.int .u32 c] w fun r w' => r = .returned (.int .u32 (CF c)) ∧ w = w' := by
 by_cases h : c % 2 = 1
 ·have d1 : (bits BinOp.and IntKind.u32 (c : Int) 1 == 1) = true := by rw [Pz hc]; simp; omega
  have hff : Hid ((CF c : Int) = bits BinOp.xor IntKind.u32 ((c : Int) / 2) 2197175160) := hid (by rw [Tz hc]; unfold CF; rw [Am h])
  clear h;go_enter Tryz.func271, Tryz.ntmps271
  go_wp2;go_ret;exact ⟨zH, rfl⟩
 ·have d1 : (bits BinOp.and IntKind.u32 (c : Int) 1 == 1) = false := by rw [Pz hc]; simp; omega
  have hff : Hid ((CF c : Int) = (c : Int) / 2) := hid (by unfold CF; rw [An h]; rfl)
  clear h;go_enter Tryz.func271, Tryz.ntmps271
  go_wp2;go_ret;exact ⟨zH, rfl⟩
theorem SI (w : World) : Calls Tryz.prog 230 #[] w fun r w' => r = .returned (.int .u32 4294967295) ∧ w = w' := by
 go_enter Tryz.func230, Tryz.ntmps230
 go_wp2;go_ret;exact ⟨rfl, rfl⟩
theorem U6 (c : Nat) (hc : c < 4294967296) (w : World) :
  Calls Tryz.prog 228 #[.int .u32 c] w fun r w' => r = .returned (.int .u32 ((4294967295 - c : Nat) : Int)) ∧ w = w' := by
 have hff := hid (UM hc)
 go_enter Tryz.func228, Tryz.ntmps228
 go_wp2;go_ret;exact ⟨by rw [← hff.out]; rfl, rfl⟩
theorem N4 {w wo : World} {B g : Nat} (h : Below B w wo) (hg : B ≤ g) (v0 v1 v2 v3 v4 v5 v6 v7 v8 v9 v10 v11 v12 v13 v14 v15 : Value) : Below B w (((((((((((((((((wo).setCell ⟨g, 0, none⟩ v0).setCell ⟨g, 1, none⟩ v1).setCell ⟨g, 2, none⟩ v2).setCell ⟨g, 3, none⟩ v3).setCell ⟨g, 4, none⟩ v4).setCell ⟨g, 5, none⟩ v5).setCell ⟨g, 6, none⟩ v6).setCell ⟨g, 7, none⟩ v7).setCell ⟨g, 8, none⟩ v8).setCell ⟨g, 9, none⟩ v9).setCell ⟨g, 10, none⟩ v10).setCell ⟨g, 11, none⟩ v11).setCell ⟨g, 12, none⟩ v12).setCell ⟨g, 13, none⟩ v13).setCell ⟨g, 14, none⟩ v14).setCell ⟨g, 15, none⟩ v15) :=
 ((((((((((((((((h).setCell (p := ⟨g, 0, none⟩) hg v0).setCell (p := ⟨g, 1, none⟩) hg v1).setCell (p := ⟨g, 2, none⟩) hg v2).setCell (p := ⟨g, 3, none⟩) hg v3).setCell (p := ⟨g, 4, none⟩) hg v4).setCell (p := ⟨g, 5, none⟩) hg v5).setCell (p := ⟨g, 6, none⟩) hg v6).setCell (p := ⟨g, 7, none⟩) hg v7).setCell (p := ⟨g, 8, none⟩) hg v8).setCell (p := ⟨g, 9, none⟩) hg v9).setCell (p := ⟨g, 10, none⟩) hg v10).setCell (p := ⟨g, 11, none⟩) hg v11).setCell (p := ⟨g, 12, none⟩) hg v12).setCell (p := ⟨g, 13, none⟩) hg v13).setCell (p := ⟨g, 14, none⟩) hg v14).setCell (p := ⟨g, 15, none⟩) hg v15
theorem Td : Hs 16 = #[.int .u32 (DQ 0 : Nat), .int .u32 (DQ 1 : Nat), .int .u32 (DQ 2 : Nat), .int .u32 (DQ 3 : Nat), .int .u32 (DQ 4 : Nat), .int .u32 (DQ 5 : Nat), .int .u32 (DQ 6 : Nat), .int .u32 (DQ 7 : Nat), .int .u32 (DQ 8 : Nat), .int .u32 (DQ 9 : Nat), .int .u32 (DQ 10 : Nat), .int .u32 (DQ 11 : Nat), .int .u32 (DQ 12 : Nat), .int .u32 (DQ 13 : Nat), .int .u32 (DQ 14 : Nat), .int .u32 (DQ 15 : Nat)] := rfl
theorem SH (w : World) :
  Calls Tryz.prog 254 #[] w fun r w' => r = .returned (.agg (Hs 16)) ∧ Below w.heap.size w w' := by
 go_enter Tryz.func254, Tryz.ntmps254
 go_wp2_with fail;refine GQ (fun W => Below w.heap.size w W ∧ W.heap.size = w.heap.size + 2 ∧ Blk W w.heap.size 240 (Hs 0) ∧ Blk W (w.heap.size + 1) 240 (Hs 0)) ⟨zB, zO, (Blk.new w _ _).alloc _, Blk.VZ w _ _ _⟩ ?_
 intro W ⟨hbW, hzW, q0, q1⟩;have Q0 := hid q0; have Q1 := hid q1; have HZ := hid hzW
 clear q0 q1 hzW;go_loopw [4] (fun i wr => ∃ k : Nat, k ≤ 16 ∧ i = .int .i64 k ∧ Tch (· = w.heap.size + 1) W wr ∧ Blk wr (w.heap.size + 1) 240 (Hs k)) (fun i _ => 16 - (intOf i).toNat)
 case atStart => exact ⟨0, zC, rfl, Tch.refl _ _, Q1.out⟩
 case round =>
  obtain ⟨k, hk, rfl, ht, hB⟩ := hrel
  obtain ⟨wo, hwo⟩ : ∃ wo : World, wo = wr := ⟨_, rfl⟩
  subst hwo;have HT := hid ht; have HB := hid hB
  clear ht hB;by_cases hlt : k < 16
  ·have i1 : (k : Int) < 16 := by omega
   have e1 : (k : Int) % 4294967296 = k := zC
   go_wp2_with fail;go_loopw [3, 9] (fun c j w' => ∃ n : Nat, n ≤ 4 ∧ j = .int .i64 n ∧ c = .int .u32 (LU n k : Nat) ∧ w' = wo) (fun _ j _ => 4 - (intOf j).toNat)
   case atStart => exact ⟨0, zC, rfl, by simp [LU, e1], rfl⟩
   case round =>
    obtain ⟨n, hn, rfl, rfl, rfl⟩ := hrel
    by_cases hl4 : n < 4
    ·have i2 : (n : Int) < 4 := by omega
     have HS := hid (Ug (LU n k) (O4 zC n) wr)
     go_wp2_with fail;refine HS.out.mono ?_
     rintro r w1 ⟨rfl, rfl⟩;go_wp2;go_roundw
     case rel => exact ⟨n + 1, zC, zV, rfl, trivial⟩
     case measure => simp [intOf]; omega
    ·obtain rfl : n = 4 := by omega
     have hB2 : Blk (wr.setCell ⟨w.heap.size + 1, k, none⟩ (.int .u32 (LU 4 k : Nat))) (w.heap.size + 1) 240 (Hs (k + 1)) := by
      rw [← Tc k hlt]; exact HB.out.set k _
     have c9 : wr.cell? ⟨w.heap.size + 1, k, none⟩ = some (.int .u32 ((if k < k then DQ k else 0 : Nat) : Int)) := (HB.out.cell k).trans (CV k k hlt)
     have f9 := HB.out.free k
     have HB2 := hid hB2
     have HT2 := hid (HT.out.setCell (p := ⟨w.heap.size + 1, k, none⟩) (fun _ => rfl) (.int .u32 (LU 4 k : Nat)))
     clear hB2;go_wp2;go_roundw
     case rel => exact ⟨k + 1, zC, zV, HT2.out, HB2.out⟩
     case measure => simp [intOf]; omega
  ·obtain rfl : k = 16 := by omega
   obtain ⟨v0, v1, v2, v3, v4, v5, v6, v7, v8, v9, v10, v11, v12, v13, v14, v15, hv⟩ : ∃ v0 v1 v2 v3 v4 v5 v6 v7 v8 v9 v10 v11 v12 v13 v14 v15 : Nat, Hs 16 = #[Value.int .u32 (v0 : Int), Value.int .u32 (v1 : Int), Value.int .u32 (v2 : Int), Value.int .u32 (v3 : Int), Value.int .u32 (v4 : Int), Value.int .u32 (v5 : Int), Value.int .u32 (v6 : Int), Value.int .u32 (v7 : Int), Value.int .u32 (v8 : Int), Value.int .u32 (v9 : Int), Value.int .u32 (v10 : Int), Value.int .u32 (v11 : Int), Value.int .u32 (v12 : Int), Value.int .u32 (v13 : Int), Value.int .u32 (v14 : Int), Value.int .u32 (v15 : Int)] := ⟨_, _, _, _, _, _, _, _, _, _, _, _, _, _, _, _, Td⟩
   have hB9 := HB.out
   rw [hv] at hB9
   have HV := hid hv
   have hB0 : Blk wo w.heap.size 240 (Hs 0) := Q0.out.tch HT.out zO
   have y0 : wo.cell? ⟨w.heap.size + 1, 0, none⟩ = some (.int .u32 (v0 : Int)) := hB9.cell 0
   have z0 : wo.cell? ⟨w.heap.size, 0, none⟩ = some (.int .u32 0) := (hB0.cell 0).trans (CV 0 0 zP)
   have f0 := hB0.free 0
   have y1 : wo.cell? ⟨w.heap.size + 1, 1, none⟩ = some (.int .u32 (v1 : Int)) := hB9.cell 1
   have z1 : wo.cell? ⟨w.heap.size, 1, none⟩ = some (.int .u32 0) := (hB0.cell 1).trans (CV 0 1 zP)
   have f1 := hB0.free 1
   have y2 : wo.cell? ⟨w.heap.size + 1, 2, none⟩ = some (.int .u32 (v2 : Int)) := hB9.cell 2
   have z2 : wo.cell? ⟨w.heap.size, 2, none⟩ = some (.int .u32 0) := (hB0.cell 2).trans (CV 0 2 zP)
   have f2 := hB0.free 2
   have y3 : wo.cell? ⟨w.heap.size + 1, 3, none⟩ = some (.int .u32 (v3 : Int)) := hB9.cell 3
   have z3 : wo.cell? ⟨w.heap.size, 3, none⟩ = some (.int .u32 0) := (hB0.cell 3).trans (CV 0 3 zP)
   have f3 := hB0.free 3
   have y4 : wo.cell? ⟨w.heap.size + 1, 4, none⟩ = some (.int .u32 (v4 : Int)) := hB9.cell 4
   have z4 : wo.cell? ⟨w.heap.size, 4, none⟩ = some (.int .u32 0) := (hB0.cell 4).trans (CV 0 4 zP)
   have f4 := hB0.free 4
   have y5 : wo.cell? ⟨w.heap.size + 1, 5, none⟩ = some (.int .u32 (v5 : Int)) := hB9.cell 5
   have z5 : wo.cell? ⟨w.heap.size, 5, none⟩ = some (.int .u32 0) := (hB0.cell 5).trans (CV 0 5 zP)
   have f5 := hB0.free 5
   have y6 : wo.cell? ⟨w.heap.size + 1, 6, none⟩ = some (.int .u32 (v6 : Int)) := hB9.cell 6
   have z6 : wo.cell? ⟨w.heap.size, 6, none⟩ = some (.int .u32 0) := (hB0.cell 6).trans (CV 0 6 zP)
   have f6 := hB0.free 6
   have y7 : wo.cell? ⟨w.heap.size + 1, 7, none⟩ = some (.int .u32 (v7 : Int)) := hB9.cell 7
   have z7 : wo.cell? ⟨w.heap.size, 7, none⟩ = some (.int .u32 0) := (hB0.cell 7).trans (CV 0 7 zP)
   have f7 := hB0.free 7
   have y8 : wo.cell? ⟨w.heap.size + 1, 8, none⟩ = some (.int .u32 (v8 : Int)) := hB9.cell 8
   have z8 : wo.cell? ⟨w.heap.size, 8, none⟩ = some (.int .u32 0) := (hB0.cell 8).trans (CV 0 8 zP)
   have f8 := hB0.free 8
   have y9 : wo.cell? ⟨w.heap.size + 1, 9, none⟩ = some (.int .u32 (v9 : Int)) := hB9.cell 9
   have z9 : wo.cell? ⟨w.heap.size, 9, none⟩ = some (.int .u32 0) := (hB0.cell 9).trans (CV 0 9 zP)
   have f9 := hB0.free 9
   have y10 : wo.cell? ⟨w.heap.size + 1, 10, none⟩ = some (.int .u32 (v10 : Int)) := hB9.cell 10
   have z10 : wo.cell? ⟨w.heap.size, 10, none⟩ = some (.int .u32 0) := (hB0.cell 10).trans (CV 0 10 zP)
   have f10 := hB0.free 10
   have y11 : wo.cell? ⟨w.heap.size + 1, 11, none⟩ = some (.int .u32 (v11 : Int)) := hB9.cell 11
   have z11 : wo.cell? ⟨w.heap.size, 11, none⟩ = some (.int .u32 0) := (hB0.cell 11).trans (CV 0 11 zP)
   have f11 := hB0.free 11
   have y12 : wo.cell? ⟨w.heap.size + 1, 12, none⟩ = some (.int .u32 (v12 : Int)) := hB9.cell 12
   have z12 : wo.cell? ⟨w.heap.size, 12, none⟩ = some (.int .u32 0) := (hB0.cell 12).trans (CV 0 12 zP)
   have f12 := hB0.free 12
   have y13 : wo.cell? ⟨w.heap.size + 1, 13, none⟩ = some (.int .u32 (v13 : Int)) := hB9.cell 13
   have z13 : wo.cell? ⟨w.heap.size, 13, none⟩ = some (.int .u32 0) := (hB0.cell 13).trans (CV 0 13 zP)
   have f13 := hB0.free 13
   have y14 : wo.cell? ⟨w.heap.size + 1, 14, none⟩ = some (.int .u32 (v14 : Int)) := hB9.cell 14
   have z14 : wo.cell? ⟨w.heap.size, 14, none⟩ = some (.int .u32 0) := (hB0.cell 14).trans (CV 0 14 zP)
   have f14 := hB0.free 14
   have y15 : wo.cell? ⟨w.heap.size + 1, 15, none⟩ = some (.int .u32 (v15 : Int)) := hB9.cell 15
   have z15 : wo.cell? ⟨w.heap.size, 15, none⟩ = some (.int .u32 0) := (hB0.cell 15).trans (CV 0 15 zP)
   have f15 := hB0.free 15
   clear hB9 hv HB;clear hB0;go_wp2;refine Al (v := .agg #[Value.int .u32 (v0 : Int), Value.int .u32 (v1 : Int), Value.int .u32 (v2 : Int), Value.int .u32 (v3 : Int), Value.int .u32 (v4 : Int), Value.int .u32 (v5 : Int), Value.int .u32 (v6 : Int), Value.int .u32 (v7 : Int), Value.int .u32 (v8 : Int), Value.int .u32 (v9 : Int), Value.int .u32 (v10 : Int), Value.int .u32 (v11 : Int), Value.int .u32 (v12 : Int), Value.int .u32 (v13 : Int), Value.int .u32 (v14 : Int), Value.int .u32 (v15 : Int)]) (by simp [results, Tryz.results254, go_sem, z0, z1, z2, z3, z4, z5, z6, z7, z8, z9, z10, z11, z12, z13, z14, z15]) rfl ⟨by rw [HV.out], ?_⟩
   have hb2 : Below w.heap.size W wo := HT.out.Cj (by have := HZ.out; omega) (by intro b _ e; omega)
   have hb3 := hbW.trans hb2
   exact N4 hb3 (Ak _) (.int .u32 (v0 : Int)) (.int .u32 (v1 : Int)) (.int .u32 (v2 : Int)) (.int .u32 (v3 : Int)) (.int .u32 (v4 : Int)) (.int .u32 (v5 : Int)) (.int .u32 (v6 : Int)) (.int .u32 (v7 : Int)) (.int .u32 (v8 : Int)) (.int .u32 (v9 : Int)) (.int .u32 (v10 : Int)) (.int .u32 (v11 : Int)) (.int .u32 (v12 : Int)) (.int .u32 (v13 : Int)) (.int .u32 (v14 : Int)) (.int .u32 (v15 : Int))
theorem OV {y : Nat} (h : y < 4294967296) : bits BinOp.xor IntKind.u32 ((y : Int) / 16) ((DQ (y % 16) : Nat) : Int) = ((DQ y : Nat) : Int) := by
 have := u32_xor_nat (y / 16) (DQ (y % 16)) zC (Lb zC)
 rw [SJ] at this
 rw [← this]
 rfl
theorem T3 {c : Nat} (h : c < 4294967296) (x : UInt8) : bits BinOp.xor IntKind.u32 (c : Int) ((x.toNat : Int) % 4294967296) = ((c ^^^ x.toNat : Nat) : Int) := by
 have hx := x.toNat_lt
 rw [← u32_xor_nat c x.toNat h zC, show (x.toNat : Int) % 4294967296 = (x.toNat : Int) by omega]
theorem U7 (c : Nat) (hc : c < 4294967296) (D : List UInt8) (ad : Option Addr) (nd cd : Nat) (w : World) (hD : Ah.r (· < w.heap.size) w [.slice ad nd cd] D) :
  Calls Tryz.prog 229 #[.int .u32 c, .slice ad nd cd] w fun r w' => r = .returned (.int .u32 (DO c D : Nat)) ∧ Below w.heap.size w w' := by
 obtain ⟨rfl, hm, _, _⟩ := AS hD
 have HD := hid hD; clear hD
 go_enter Tryz.func229, Tryz.ntmps229
 go_wp2_with fail;refine (SH w).mono ?_
 rintro r w1 ⟨rfl, hb1⟩;obtain ⟨v0, v1, v2, v3, v4, v5, v6, v7, v8, v9, v10, v11, v12, v13, v14, v15, hv⟩ : ∃ v0 v1 v2 v3 v4 v5 v6 v7 v8 v9 v10 v11 v12 v13 v14 v15 : Nat, Hs 16 = #[Value.int .u32 (v0 : Int), Value.int .u32 (v1 : Int), Value.int .u32 (v2 : Int), Value.int .u32 (v3 : Int), Value.int .u32 (v4 : Int), Value.int .u32 (v5 : Int), Value.int .u32 (v6 : Int), Value.int .u32 (v7 : Int), Value.int .u32 (v8 : Int), Value.int .u32 (v9 : Int), Value.int .u32 (v10 : Int), Value.int .u32 (v11 : Int), Value.int .u32 (v12 : Int), Value.int .u32 (v13 : Int), Value.int .u32 (v14 : Int), Value.int .u32 (v15 : Int)] := ⟨_, _, _, _, _, _, _, _, _, _, _, _, _, _, _, _, Td⟩
 rw [hv]
 have HV := hid hv
 clear hv;go_wp2_with fail;refine GQ (fun W => Below w.heap.size w W ∧ w1.heap.size < W.heap.size ∧ Blk W w1.heap.size 240 (Hs 16)) ⟨zA, zO, by rw [HV.out]; exact Blk.new w1 _ _⟩ ?_
 intro W ⟨hbW, hzW, hQ⟩;have HQ := hid hQ; clear hQ
 go_wp2_with fail;go_loopw [0, 11] (fun s i wr => ∃ (k d : Nat), k ≤ D.length ∧ i = .int .i64 k ∧ s = .int .u32 d ∧ d < 4294967296 ∧ Hid (DO c D = DO d (D.drop k)) ∧ wr = W) (fun _ i _ => D.length - (intOf i).toNat)
 case atStart => exact ⟨0, c, Aj _, rfl, rfl, hc, hid rfl, rfl⟩
 case round =>
  obtain ⟨k, d, hk, rfl, rfl, hd, hf, rfl⟩ := hrel
  by_cases hlt : k < D.length
  ·obtain ⟨b, o, hA, hbb, hx⟩ := CO (lift HD.out hbW) hlt
   subst hA;have hst := hid (show DO d (D.drop k) = DO (EU d D[k]) (D.drop (k + 1)) by rw [AW hlt]; rfl)
   generalize D[k] = x at *
   have i1 : (k : Int) < (D.length : Int) := zC
   have hb1 := hid (L8 (x := x) hd)
   have hcb := hid (show EU d x = DQ (DQ (d ^^^ x.toNat)) from rfl)
   have hy : d ^^^ x.toNat < 4294967296 := Lc hd (by have := x.toNat_lt; omega)
   have e1 := T3 hd x
   generalize d ^^^ x.toNat = y at *
   have hz : DQ y < 4294967296 := Lb hy
   have e2 := Nl hy
   have e3 := OV hy
   have m1 : ((y % 16 : Nat) : Int) < 16 := zC
   have c1 : wr.cell? ⟨w1.heap.size, y % 16, none⟩ = some (.int .u32 (DQ (y % 16) : Nat)) := by
    have h := (HQ.out.cell (y % 16)).trans (CV 16 (y % 16) zC)
    rw [Am zC] at h; exact h
   generalize DQ (y % 16) = t1 at *
   generalize y % 16 = m at *
   generalize DQ y = z at *
   have e4 := Nl hz
   have e5 := OV hz
   have m2 : ((z % 16 : Nat) : Int) < 16 := zC
   have c2 : wr.cell? ⟨w1.heap.size, z % 16, none⟩ = some (.int .u32 (DQ (z % 16) : Nat)) := by
    have h := (HQ.out.cell (z % 16)).trans (CV 16 (z % 16) zC)
    rw [Am zC] at h; exact h
   generalize DQ (z % 16) = t2 at *
   generalize z % 16 = n at *
   generalize DQ z = q at *
   go_wp2;go_roundw
   case rel => exact ⟨k + 1, q, zC, zV, rfl, by have := hb1.out; rw [hcb.out] at this; exact this, hid (by rw [hf.out, hst.out, hcb.out]), trivial⟩
   case measure => simp [intOf]; omega
  ·obtain rfl : k = D.length := by omega
   have hff : Hid (DO c D = d) := hid ZZ
   go_wp2;go_ret;exact ⟨zH, hbW⟩
theorem RI (D : List UInt8) (ad : Option Addr) (nd cd : Nat) (w : World) (hD : Ah.r (· < w.heap.size) w [.slice ad nd cd] D) :
  Calls Tryz.prog 179 #[.slice ad nd cd] w fun r w' => r = .returned (.int .u32 (Ct D : Nat)) ∧ Below w.heap.size w w' := by
 have HA := hid (U7 4294967295 zP D ad nd cd w hD)
 have hlt := IA D (c := 4294967295) zP
 have hff : Hid (Ct D = 4294967295 - DO 4294967295 D) := hid rfl
 generalize DO 4294967295 D = s at *
 clear hD;go_enter Tryz.func179, Tryz.ntmps179
 go_wp2_with fail;refine (SI w).mono ?_
 rintro r w1 ⟨rfl, rfl⟩;go_wp2_with fail;refine HA.out.mono ?_
 rintro r w2 ⟨rfl, hb2⟩;go_wp2_with fail;refine (U6 s hlt w2).mono ?_
 rintro r w3 ⟨rfl, rfl⟩;go_wp2;go_ret;exact ⟨zH, hb2⟩
end Go.Proofs.YtlbffbkbkajciaaGreat
namespace Go.Bs
open Go.RowKit
def Cf : Nat → Nat → List UInt8
 | 0, _ => []
 | n + 1, x => UInt8.ofNat (x % 256) :: Cf n (x / 256)
theorem EG : ∀ (n x : Nat), (Cf n x).length = n
 | 0, _ => rfl
 | n + 1, x => by simp [Cf, EG n]
theorem KO : ∀ (n x : Nat), Cf (n + 1) x = Cf n x ++ [UInt8.ofNat (x / 256 ^ n % 256)]
 | 0, x => by simp [Cf]
 | n + 1, x => by
  rw [Cf, KO n (x / 256), Cf, Et, F9, CL, De 256]
end Go.Bs
namespace Go.Proofs.YtlbffbkbkajciaaGreat
open Go.RowKit Go.Bs Go.Maps
theorem Sq (x : Nat) (hx : x < 18446744073709551616) (n : Nat) (hn : n ≤ 8) (w : World) :
  Calls Tryz.prog 227 #[.int .u64 x, .int .i64 n] w fun r w' => ∃ v, r = .returned v ∧ w'.ownsRow w.heap.size 5 1 v n (byteCells (Cf n x)) ∧ Below w.heap.size w w' := by
 obtain ⟨i0, hi, hz0, hz1, hz2⟩ := A8 Dz
 have d1 : max (n : Int) 0 = n := zC
 have d2 : min (n : Int) 8 = n := zC
 have d3 : (if (n : Int) < 0 then (0 : Int) else n) = n := ZV
 have d4 : (if (8 : Int) < n then (8 : Int) else n) = n := ZV
 go_enter Tryz.func227, Tryz.ntmps227
 go_wp2_with fail;go_loopw [0, 5, 9] (fun y o i wr => ∃ k : Nat, k ≤ n ∧ i = .int .i64 k ∧ y = .int .u64 (x / 256 ^ k : Nat) ∧ wr.ownsRow w.heap.size 5 1 o k (byteCells (Cf k x)) ∧ Below w.heap.size w wr) (fun _ _ i _ => n - (intOf i).toNat)
 case atStart => exact ⟨0, Aj _, rfl, zO, ⟨rfl, .inl ⟨rfl, rfl⟩⟩, Below.refl _ _⟩
 case round =>
  obtain ⟨k, hk, rfl, rfl, hown, hb⟩ := hrel
  have hbs := hb.size
  obtain ⟨aJ, cJ, rfl⟩ := AA hown
  have HO := hid hown
  clear hown;by_cases hlt : k < n
  ·have i1 : (k : Int) < (n : Int) := by omega
   have hy : x / 256 ^ k < 18446744073709551616 := Nat.lt_of_le_of_lt (Nat.div_le_self _ _) hx
   have hfin := hid (KO k x)
   have hdv : Hid (x / 256 ^ (k + 1) = x / 256 ^ k / 256) := hid (by rw [CL, F9])
   generalize x / 256 ^ k = y at *
   have hby : Hid ((y : Int) % 256 = ((UInt8.ofNat (y % 256)).toNat : Int)) := hid zBh
   have e0 : (y : Int) % 256 % 256 = (y : Int) % 256 := zC
   go_wp2_with (at_builtin; go_loud (refine Aq rfl _ _ _ rfl w.heap.size 5 i0 (.int .u8 0) 1 1 As hi hz0 hz1 hz2 rfl zP (.slice aJ k cJ) k (byteCells (Cf k x)) rfl (AD HO.out zA) (some ⟨wr.heap.size, 0, none⟩) 1 1 [.int .u8 ((y : Int) % 256)] rfl (Bx wr 5 _ rfl rfl rfl) zW zK zC zJ ?_; intro v' w1 hown1 hgrow1 hat1; have HG := hid hgrow1; have HO1 := hid hown1; clear hgrow1 hown1 hat1))
   have ho := HO1.out
   rw [hby.out, Dq, ← hfin.out] at ho
   have hB : Below w.heap.size w w1 := Below.grown zA HG.out zJ (fun g e => (HO.out.lt g e).1)
   have HO2 := hid ho
   clear ho;go_wp2_with fail;go_roundw
   case rel => exact ⟨k + 1, zC, zV, by rw [hdv.out]; go_num, HO2.out, hB⟩
   case measure => simp [intOf]; omega
  ·obtain rfl : k = n := by omega
   go_wp2;go_ret;exact ⟨_, rfl, HO.out, hb⟩
theorem Qo (w : World) {g base most : Nat} {J : List UInt8} {a : Option Addr} {c : Nat} (h : BR w g base most J a c) (x : Nat) (hx : x < 18446744073709551616) (n : Nat) (hn : n ≤ 8) (hfit : J.length + n ≤ most) (hlen : J.length + n ≤ 100000000000000) :
  Calls Tryz.prog 178 #[.pointer (some ⟨g, 0, none⟩), .int .u64 x, .int .i64 n] w fun r w' => r = .returned (.tuple #[]) ∧ At w g base most (J ++ Cf n x) a w' := by
 have hl := EG n x
 have HF := hid (Sq x hx n hn w)
 have HP := hid h
 clear h;generalize Cf n x = D at *
 go_enter Tryz.func178, Tryz.ntmps178
 go_wp2_with fail;refine HF.out.mono ?_
 rintro r w1 ⟨v, rfl, ho, hb1⟩;obtain ⟨a1, c1, rfl⟩ := AA ho
 have HQ := hid (Fl w1 (HP.out.later hb1) D a1 n c1 (BJ hl.symm ho) zC zC)
 clear ho;go_wp2_with fail;refine HQ.out.mono ?_
 rintro r w2 ⟨rfl, hst⟩;have HST := hid (At.later hb1 hst)
 clear hst;go_wp2;first | go_end0 | refine Al (Aw rfl _ _ _) rfl ?_
 exact ⟨rfl, HST.out⟩
theorem toNat_cast {x : Int} (h : 0 ≤ x) : ((x.toNat : Nat) : Int) = x := Int.toNat_of_nonneg h
def Cu (l : List Int) : List UInt8 := (l.map fun x => Ay x.toNat).flatten
def C4 (pos : Int) (l : List Int) : List UInt8 := Ay l.length ++ Cu (BG pos l)
def ED : Option Int → List BM → List Int
 | _, [] => []
 | p, x :: l => (match p with | none => x.stream | some q => x.stream - q - 1) :: ED (some x.stream) l
def Hu (pos : Int) : Option Int → List BM → List UInt8
 | _, [] => []
 | p, x :: l => Ay (match p with | none => x.stream | some q => x.stream - q - 1).toNat ++ C4 pos x.backs ++ Hu pos (some x.stream) l
def Cx (pos : Int) (l : List BM) : List UInt8 := Ay l.length ++ Hu pos none l
def V2 (x : BM) : Prop := (0 ≤ x.stream ∧ x.stream ≤ 18446744073709551615) ∧ ∀ y ∈ x.backs, 0 ≤ y
theorem St : Cu [] = [] := rfl
theorem Eh (x : Int) (l : List Int) : Cu (x :: l) = Ay x.toNat ++ Cu l := by simp [Cu]
theorem MR (l l' : List Int) : Cu (l ++ l') = Cu l ++ Cu l' := by simp [Cu]
theorem Gp (l : List Int) (k : Nat) (h : k < l.length) : Cu (l.take (k + 1)) = Cu (l.take k) ++ Ay l[k].toNat := by
 rw [AU h, MR, Eh, St, Gy]
theorem Gb (l : List Int) : (Cu l).length ≤ 10 * l.length := by
 induction l with
 | nil => simp [Cu]
 | cons x l ih =>
  rw [Eh, Ag, AQ]
  have := (AX x.toNat).1
  omega
theorem Ey (l : List Int) (k : Nat) : (Cu (l.take k)).length ≤ (Cu l).length := by
 have : Cu l = Cu (l.take k) ++ Cu (l.drop k) := by rw [← MR, EC]
 rw [this, Ag]; omega
theorem Fe : ∀ (p : Int) (l : List Int), (BG p l).length = l.length
 | _, [] => rfl
 | p, x :: l => by simp only [BG, AQ, Fe x l]
theorem H3 : ∀ (p : Option Int) (l : List BM), (ED p l).length = l.length
 | _, [] => rfl
 | p, x :: l => by simp only [ED, AQ, H3 _ l]
theorem Di {x : Nat} (h : x < 128) : (Ay x).length = 1 := by rw [Fc h]; rfl
theorem QY (pos : Int) (l : List Int) (h : l.length < 128) : (C4 pos l).length ≤ 1 + 10 * l.length := by
 have := Gb (BG pos l)
 rw [Fe] at this
 unfold C4;rw [Ag, Di h]
 omega
theorem Dk {α : Type} {A : Rp α} {w w1 : World} {g : Nat} {a a1 : Option Addr} {cs : List Value} {x : α} (ht : Tch (Dr g a) w w1) (ha : a1.map Addr.block = a.map Addr.block ∨ ∃ q, a1.map Addr.block = some q ∧ w.heap.size ≤ q)
  (h : A.r (fun q => q < w.heap.size ∧ ¬ Dr g a q) w cs x) : A.r (fun q => q < w1.heap.size ∧ ¬ Dr g a1 q) w1 cs x :=
 A.mono (A.keep h fun q hq => ht.block q hq.1 hq.2) fun q hq => ⟨Ai hq.1 ht.size, Ex ha hq.1 hq.2⟩
theorem Fg {α : Type} {A : Rp α} {w w1 : World} {g : Nat} {a : Option Addr} {cs : List Value} {x : α} (hb : Below w.heap.size w w1)
  (h : A.r (fun q => q < w.heap.size ∧ ¬ Dr g a q) w cs x) : A.r (fun q => q < w1.heap.size ∧ ¬ Dr g a q) w1 cs x :=
 A.mono (A.keep h fun q hq => hb.block q hq.1) fun q hq => ⟨Ai hq.1 hb.size, hq.2⟩
theorem Iv {α : Type} {A : Rp α} {w : World} {g : Nat} {a : Option Addr} {cs : List Value} {x : α} (h : A.r (fun q => q < w.heap.size ∧ ¬ Dr g a q) w cs x) : A.r (· < w.heap.size) w cs x := A.mono h fun q hq => hq.1
theorem Hb {α : Type} {A : Rp α} {w w1 : World} {g base most : Nat} {J : List UInt8} {a : Option Addr} {c : Nat} {cs : List Value} {x : α} (hp : BR w g base most J a c) (h : A.r (fun q => w.heap.size ≤ q ∧ q < w1.heap.size) w1 cs x) : A.r (fun q => q < w1.heap.size ∧ ¬ Dr g a q) w1 cs x :=
 A.mono h fun q hq => ⟨hq.2, fun hf => by have := (hp.Eo hf).2; omega⟩
open Go.RowKit Go.Bs
def EX (w w' : World) (b : Nat) : Prop := w.heap.size ≤ b ∧ b < w'.heap.size
theorem DS {S : Nat → Prop} {w : World} {a : Option Addr} {n c : Nat} {l : List Int} (h : AY.r S w [.slice a n c] l) : ∀ x ∈ l, 0 ≤ x ∧ x ≤ 18446744073709551615 := by
 intro x hx;obtain ⟨i, hi, rfl⟩ := Hx hx
 obtain ⟨b, o, _, _, _, h2⟩ := Cw h hi
 exact h2
theorem T5 : (Tryz.prog.info? 151).map (fun i => (i.zero, i.size, i.bytes)) = some (some (.agg #[.int .u64 0, .slice none 0 0]), 2, 32) := zG
theorem Bx {w : World} (W : World) (e : TypeId) (cs : List Value) (hB : w = W.alloc (.cells cs.toArray e)) {g : Nat} (hg : g = W.heap.size) {sz : Nat} (hs : cs.length = sz) : Src w (some ⟨g, 0, none⟩) 1 sz cs := by
 subst hB hg;refine ⟨zC, .inr ⟨_, 0, rfl, fun j u hu => ?_⟩⟩
 rw [A3, Blk.cell (Blk.new W e cs.toArray)]
 simpa using hu
def PB (below : Int) (l : List Int) (w : World) (e : Ending) (w' : World) : Prop :=
 ∃ v, e = .returned (.tuple #[v, .bool (BW below l)]) ∧ AY.r (fun q => w.heap.size ≤ q ∧ q < w'.heap.size) w' [v] (if BW below l then BG below l else []) ∧ Below w.heap.size w w'
theorem R9 (below : Int) (l : List Int) (a : Option Addr) (n c : Nat) (w : World) (hb0 : 0 ≤ below ∧ below ≤ 18446744073709551615) (hl : AY.r (· < w.heap.size) w [.slice a n c] l) (hlen : l.length ≤ 1000000000000) :
  Calls Tryz.prog 215 #[.int .u64 below, .slice a n c] w (PB below l w) := by
 obtain ⟨rfl, hm, _, _⟩ := AS hl
 obtain ⟨i0, hi, hz0, hz1, hz2⟩ := A8 LV
 have HL := hid hl; clear hl
 go_enter Tryz.func215, Tryz.ntmps215
 go_wp2;go_loopw [0, 6, 11] (fun b v i wr => ∃ k : Nat, k ≤ l.length ∧ i = .int .i64 k ∧ b = .int .u64 (ahead below l k) ∧ 0 ≤ ahead below l k ∧ ahead below l k ≤ 18446744073709551615 ∧ Hid (BW below l = BW (ahead below l k) (l.drop k)) ∧
   (∃ xs : List Int, Hid (xs.length = k ∧ (∀ x ∈ xs, 0 ≤ x ∧ x ≤ 18446744073709551615) ∧ BG below l = xs ++ BG (ahead below l k) (l.drop k)) ∧ wr.ownsRow w.heap.size 22 1 v k (xs.map (Value.int .u64))) ∧ Below w.heap.size w wr) (fun _ _ i _ => l.length - (intOf i).toNat)
 case atStart => exact ⟨0, Aj _, rfl, rfl, hb0.1, hb0.2, hid rfl, ⟨[], hid ⟨rfl, zO, rfl⟩, ⟨rfl, .inl ⟨rfl, rfl⟩⟩⟩, Below.refl _ _⟩
 case round =>
  obtain ⟨k, hk, rfl, rfl, ha0, ha1, hf, ⟨xs, hxs, hown⟩, hb⟩ := hrel
  by_cases hlt : k < l.length
  ·obtain ⟨b, o, hA, hbb, hc, hx0, hx1⟩ := Cw HL.out hlt
   subst hA;have q := (hb.cell (p := ⟨b, o + k, none⟩) hbb).trans hc
   clear hc;have hd := hid (AW hlt)
   have hsu := hid (Gv below l k hlt)
   generalize hlk : l[k] = x at *
   clear hlk;generalize ahead below l k = p at *
   by_cases hge : p ≤ x
   ·have hff : Hid (BW below l = false) := by
     rw [hf.out, hd.out]; exact hid zBx
    go_wp2;go_ret2
    exact ⟨.slice none 0 0, zH, zBm, hb⟩
   ·have hbs := hb.size
    have w1 : 0 ≤ p - x := zC
    have w2 : 0 ≤ p - x - 1 := zC
    go_wp2_with (at_builtin; refine wpList_append_lies _ rfl _ _ _ rfl w.heap.size 22 i0 (.int .u64 0) 1 8 CK hi hz0 hz1 hz2 rfl zP _ k _ rfl (hown.alloc _) ⟨wr.heap.size, 0, none⟩ 1 1 [.int .u64 (p - x - 1)] rfl rfl (World.news_of_block (Blk.new _ _ _)) ZG zP zK zC zJ _ rfl ?_; intro g1 cap1 w1' hown1 hgrow1 hat1 hlt1)
    go_roundw
    case rel =>
     refine ⟨k + 1, zC, zV, by rw [hsu.out], by rw [hsu.out]; exact hx0, by rw [hsu.out]; exact hx1, ?_, ⟨xs ++ [p - x - 1], ?_, ?_⟩, ?_⟩
     ·rw [hf.out, hd.out, hsu.out]
      exact hid zB4
     ·refine hid ⟨by simp [hxs.out.1], ?_, ?_⟩
      ·intro y hy
       rw [Ed, Dg] at hy
       rcases hy with hy | rfl
       ·exact hxs.out.2.1 y hy
       ·omega
      ·rw [hsu.out, hxs.out.2.2, hd.out]
       simp [BG]
     ·rw [CS]; exact hown1
     ·refine Below.grown ?_ hgrow1 zJ (fun g e => (hown.lt g e).1)
      exact hb.alloc hbs _
    case measure => simp [intOf]; omega
  ·obtain rfl : k = l.length := by omega
   have hff : Hid (BW below l = true) := by
    rw [hf.out, K4]; exact hid rfl
   have hxl := hxs.out.1
   have hst : Hid (BG below l = xs) := hid zCi
   have hv : AY.r (fun q => w.heap.size ≤ q ∧ q < wr.heap.size) wr [u6] xs := EE hxs.out.2.1 hxl.symm hown
   have HV := hid hv; clear hv hxl
   go_wp2;go_ret2
   exact ⟨u6, zH, zCk, hb⟩
theorem IH : ∀ (l : List Int) (p : Int), BW p l = true → p ≤ 18446744073709551615 → (∀ x ∈ l, 0 ≤ x) → ∀ y ∈ BG p l, 0 ≤ y ∧ y ≤ 18446744073709551615
 | [], p, _, _, _, y, hy => by simp [BG] at hy
 | x :: l, p, hf, hp, hx, y, hy => by
  simp only [BW, Ao, Ar] at hf
  have h0 := hx x zO
  simp only [BG, List.mem_cons] at hy
  rcases hy with rfl | hy
  ·omega
  ·exact IH l x hf.2 zC (fun z hz => hx z (by simp [hz])) y hy
theorem Kj (w : World) {g base most : Nat} {J : List UInt8} {a : Option Addr} {c : Nat} (h : BR w g base most J a c) (pos : Int) (hpos : 0 ≤ pos ∧ pos ≤ 18446744073709551615) (l : List Int) (al : Option Addr) (nl cl : Nat)
  (hl : AY.r (· < w.heap.size) w [.slice al nl cl] l) (hf : BW pos l = true) (hlen : l.length ≤ 1000000) (hfit : J.length + (C4 pos l).length ≤ most) (hln2 : J.length + (C4 pos l).length ≤ 100000000000000) :
  Calls Tryz.prog 152 #[.pointer (some ⟨g, 0, none⟩), .int .u64 pos, .slice al nl cl] w fun r w' => r = .returned (.tuple #[]) ∧ At w g base most (J ++ C4 pos l) a w' := by
 obtain ⟨rfl, hm, _, _⟩ := AS hl
 have HS := hid (R9 pos l al _ cl w hpos hl zC)
 have hlt := h.len
 have hsl := Fe pos l
 have hnb := Gb (BG pos l)
 have hxs := DS hl
 have hsb := hid (IH l pos hf hpos.2 (fun x hx => (hxs x hx).1))
 have hvl := AX l.length
 have hdl : (C4 pos l).length = (Ay l.length).length + (Cu (BG pos l)).length := by unfold C4; rw [Ag]
 rw [hdl] at hfit hln2
 unfold PB at HS;rw [hf] at HS
 simp only [JG] at HS
 unfold C4;have HP := hid h
 have HMO := hid (fun k => Ey (BG pos l) k)
 have HNS := hid (fun (k : Nat) (h : k < (BG pos l).length) => Gp (BG pos l) k h)
 generalize BG pos l = T at *
 generalize hL : l.length = L at *
 have hLL := hid hL
 clear h hl hf hxs hdl hL;go_enter Tryz.func152, Tryz.ntmps152
 go_wp2_with fail;refine HS.out.mono ?_
 rintro r w1 ⟨v, rfl, hr, hb1⟩;obtain ⟨a1, c1, hv, hr2, _⟩ := AN hr
 simp only [Au, AO] at hv
 subst hv;rw [hsl] at hr2 ⊢
 have HR := hid (Hb HP.out hr2)
 have HP1 := hid (HP.out.later hb1)
 have HV := hid (B6 w1 HP1.out L zC zC zC)
 clear hr hr2;go_wp2_with fail;refine HV.out.mono ?_
 rintro r w2 ⟨rfl, hst⟩;have HST := hid hst
 clear hst;have hz1 := hb1.size
 go_wp2_with fail;go_loopw [27] (fun i wr => ∃ k : Nat, k ≤ L ∧ i = .int .i64 k ∧ Hid (At w1 g base most (J ++ Ay L ++ Cu (T.take k)) a wr)) (fun i _ => L - (intOf i).toNat)
 case atStart => exact ⟨0, Aj _, rfl, hid (by simpa [Cu] using HST.out)⟩
 case round =>
  obtain ⟨k, hk, rfl, hp⟩ := hrel
  obtain ⟨a3, c3, hp3, ht3, ha3⟩ := hp.out
  rcases Bd k L with hlt | hge
  ·have hd3 := Dk ht3 ha3 HR.out
   have hkT : k < T.length := zC
   obtain ⟨b, o, hA, hbb, hc, hx0, hx1⟩ := Cw hd3 hkT
   subst hA;have hst := HNS.out k hkT
   have hfk := HMO.out (k + 1)
   rw [hst, Ag] at hfk
   have HSK := hid hst
   have hvk := (AX T[k].toNat).1
   have hJ3 := hp3.len
   simp only [Ag] at hJ3
   have hV := B6 wr hp3 T[k].toNat zC zU zU
   rw [toNat_cast hx0, Av (J ++ Ay L), ← hst] at hV
   have HV3 := hid hV
   have HT3 := hid (And.intro ht3 ha3)
   have i1 : (k : Int) < (L : Int) := zC
   have d1 : decide ((k : Int) < (L : Int)) = true := Ae i1
   clear hV hd3 hst hp3 ht3 ha3 hp hfk hvk hJ3;generalize T[k] = y at *
   go_wp2_with fail;refine HV3.out.mono ?_
   rintro r w5 ⟨rfl, hst5⟩;have HN := hid (At.trans (J := J) HT3.out.1 HT3.out.2 hst5)
   clear hst5;go_wp2;go_roundw
   case rel => exact ⟨k + 1, zC, zV, HN⟩
   case measure => simp [intOf]; omega
  ·obtain rfl : k = L := by omega
   have d1 : decide ((k : Int) < (k : Int)) = false := Ad zC
   rw [CY zC] at hp
   have HN := hid (At.later hb1 hp.out)
   rw [Av] at HN
   clear hp hp3 ht3 ha3;go_wp2;first | go_end0 | refine Al (Aw rfl _ _ _) rfl ?_
   exact ⟨rfl, HN.out⟩
theorem Gj : ∀ (l : List Int) (k : Nat) (h : k + 1 < l.length), Ba l = true → l[k] < l[k + 1]
 | [], k, h, _ => by simp at h
 | [x], k, h, _ => by simp at h
 | x :: y :: l, k, h, hr => by
  simp only [Ba, Ao, Ar] at hr
  cases k with
  | zero => exact hr.1
  | succ k => exact Gj (y :: l) k ZS hr.2
theorem Ja : ∀ (l : List BM) (p : Option Int) (k : Nat) (h : k < l.length), (ED p l)[k]'zAj = if hk : k = 0 then (match p with | none => l[k].stream | some q => l[k].stream - q - 1) else l[k].stream - (l[k - 1]'zC).stream - 1
 | [], p, k, h => by simp at h
 | x :: l, p, 0, h => by cases p <;> simp [ED]
 | x :: l, p, k + 1, h => by
  simp only [ED, Az]
  rw [Ja l (some x.stream) k ZS]
  cases k with
  | zero => simp
  | succ k => simp
def GJ (pos : Int) (p : Option Int) (l : List BM) : List (List UInt8) := List.zipWith (fun (y : Int) (x : BM) => Ay y.toNat ++ C4 pos x.backs) (ED p l) l
theorem Hg (pos : Int) : ∀ (l : List BM) (p : Option Int), Hu pos p l = (GJ pos p l).flatten
 | [], p => rfl
 | x :: l, p => by
  simp only [Hu, GJ, ED, List.zipWith_cons_cons, Dx]
  rw [Hg pos l (some x.stream)]
  rfl
theorem Iz (pos : Int) (p : Option Int) (l : List BM) : (GJ pos p l).length = l.length := by simp [GJ, H3]
theorem M3 {α : Type} (Z : List (List α)) (k : Nat) (h : k < Z.length) : (Z.take (k + 1)).flatten = (Z.take k).flatten ++ Z[k] := by
 rw [AU h, Dy]; simp
theorem Jz {α : Type} (Z : List (List α)) (k : Nat) : (Z.take k).flatten.length ≤ Z.flatten.length := by
 have : Z.flatten = (Z.take k).flatten ++ (Z.drop k).flatten := by rw [← Dy, EC]
 rw [this, Ag]; omega
theorem MU (pos : Int) (l : List BM) (k : Nat) (h : k < l.length) : (GJ pos none l)[k]'(by rw [Iz]; exact h) = Ay ((ED none l)[k]'zAj).toNat ++ C4 pos l[k].backs := by
 simp [GJ]
theorem Qw (w : World) (l : List BM) (al : Option Addr) (nl cl : Nat) (hl : BU.r (· < w.heap.size) w [.slice al nl cl] l) (hri : Ba (l.map BM.stream) = true) (hlen : l.length ≤ 1000000) :
  Calls Tryz.prog 151 #[.slice al nl cl] w fun r w' => ∃ v, r = .returned v ∧ AY.r (fun q => w.heap.size ≤ q ∧ q < w'.heap.size) w' [v] (ED none l) ∧ Below w.heap.size w w' := by
 obtain ⟨rfl, hm, _, _⟩ := AS hl
 obtain ⟨i0, hi, hz0, hz1, hz2⟩ := A8 LV
 have HL := hid hl
 have hul := H3 none l
 have HU := hid (fun (k : Nat) (h : k < l.length) => Ja l none k h)
 have HRI := hid (fun (k : Nat) (h : k + 1 < l.length) => (by have := Gj (l.map BM.stream) k ZS hri; simpa using this : l[k].stream < l[k + 1].stream))
 clear hl hri;go_enter Tryz.func151, Tryz.ntmps151
 go_wp2_with fail;go_loopw [3, 9] (fun v i wr => ∃ k : Nat, k ≤ l.length ∧ i = .int .i64 k ∧ wr.ownsRow w.heap.size 22 1 v k (BF ((ED none l).take k)) ∧ Hid (∀ x ∈ (ED none l).take k, 0 ≤ x ∧ x ≤ 18446744073709551615) ∧ Below w.heap.size w wr) (fun _ i _ => l.length - (intOf i).toNat)
 case atStart => exact ⟨0, Aj _, rfl, ⟨rfl, .inl ⟨rfl, rfl⟩⟩, hid zO, Below.refl _ _⟩
 case round =>
  obtain ⟨k, hk, rfl, hown, hbd, hb⟩ := hrel
  obtain ⟨av, cv, rfl⟩ := AA hown
  rcases Bd k l.length with hlt | hge
  ·obtain ⟨b, o, hA, hbb, a2, c2, x0, x1, hx, xl⟩ := DE (lift HL.out hb) hlt
   subst hA;have hu := HU.out k hlt
   have i1 : (k : Int) < (l.length : Int) := zC
   have d1 : decide ((k : Int) < (l.length : Int)) = true := Ae i1
   have hbl : b < wr.heap.size := Cr _ _ x0
   have htk : BF ((ED none l).take (k + 1)) = BF ((ED none l).take k) ++ [.int .u64 ((ED none l)[k]'zC)] := by
    rw [AU zC]; unfold BF; rw [CS]; rfl
   have hnb : ∀ y : Int, (ED none l)[k]'zC = y → (0 ≤ y ∧ y ≤ 18446744073709551615) → ∀ x ∈ (ED none l).take (k + 1), 0 ≤ x ∧ x ≤ 18446744073709551615 := fun y e hy x hx => by
    rw [AU zC, Ed, Dg] at hx
    rcases hx with hx | rfl
    ·exact hbd.out x hx
    ·rw [e]; exact hy
   have HTK := hid htk
   have HNB := hid hnb
   have HO := hid hown
   have hz := hb.size
   rcases Cz k with rfl | hk0
   ·rw [dif_pos rfl] at hu
    (try dsimp only at hu)
    rw [hu] at HTK
    have HBD := hid (HNB.out _ hu hx)
    simp only [Hp, BE, A3] at x0 x1
    have d2 : decide ((0 : Int) < ((0 : Nat) : Int)) = false := zP
    generalize l[0] = y at *
    clear hu htk hnb hbd hown xl hx;go_wp2_with (at_builtin; go_loud (refine Aq rfl _ _ _ rfl w.heap.size 22 i0 (.int .u64 0) 1 8 CK hi hz0 hz1 hz2 rfl zP (.slice av 0 cv) 0 _ rfl (AD HO.out zA) (some ⟨wr.heap.size + 1, 0, none⟩) 1 1 [.int .u64 y.stream] rfl (Bx _ 22 _ rfl zO rfl) ZG zK zC zJ ?_; intro v' w3 hown3 hgrow3 hat3; obtain ⟨a3, c3, rfl⟩ := AA hown3; have HO3 := hid hown3; have hb3 : Below w.heap.size wr w3 := (Below.grown ((by (repeat (first | with_reducible exact Below.refl _ _ | with_reducible assumption | (with_reducible refine AF ?_ _) | (with_reducible refine Below.setCell ?_ zF _) | (with_reducible refine Below.drew ?_) | (with_reducible refine below_drewN ?_ _) | (refine Af zL ?_))) : Below wr.heap.size wr _).mono hz) hgrow3 zJ (fun g e => (HO.out.lt g e).1)); clear hown3 hgrow3 hat3))
    have ho3 := HO3.out
    rw [← HTK.out] at ho3
    have HO4 := hid ho3
    clear ho3 x0 x1;go_roundw
    case rel => exact ⟨1, zC, zV, by simpa using HO4.out, HBD, hb.trans hb3⟩
    case measure => simp [intOf]; omega
   ·obtain ⟨m, rfl⟩ : ∃ m, k = m + 1 := ⟨k - 1, zC⟩
    obtain ⟨b', o', hA', hbb', a3, c3, y0, y1, hy, yl⟩ := DE (lift HL.out hb) (show m < l.length by omega)
    simp only [Bk, Dd] at hA'
    obtain ⟨rfl, rfl, _⟩ := hA'
    have hri := HRI.out m hlt
    rw [dif_neg zC] at hu
    simp only [DR] at hu
    rw [hu] at HTK
    have HBD := hid (HNB.out _ hu zC)
    have i1' : (m : Int) + 1 < (l.length : Int) := zC
    have i2 : (m : Int) < (l.length : Int) := zC
    have d2 : decide ((m : Int) + 1 < (l.length : Int)) = true := Ae i1'
    have d3 : decide (m + 1 < l.length) = true := Ae hlt
    generalize l[m + 1] = y at *
    generalize l[m]'zC = z at *
    have w1 : 0 ≤ y.stream - (z.stream + 1) := zC
    have w2 : z.stream + 1 ≤ 18446744073709551615 := zC
    rw [show y.stream - z.stream - 1 = y.stream - (z.stream + 1) by omega] at HTK
    clear hu htk hnb hbd hown xl yl;go_wp2_with (at_builtin; go_loud (refine Aq rfl _ _ _ rfl w.heap.size 22 i0 (.int .u64 0) 1 8 CK hi hz0 hz1 hz2 rfl zP (.slice av (m + 1) cv) (m + 1) _ rfl (AD HO.out zA) (some ⟨wr.heap.size + 1, 0, none⟩) 1 1 [.int .u64 (y.stream - (z.stream + 1))] rfl (Bx _ 22 _ rfl zO rfl) ZG zK zC zJ ?_; intro v' w3 hown3 hgrow3 hat3; obtain ⟨a3, c3, rfl⟩ := AA hown3; have HO3 := hid hown3; have hb3 : Below w.heap.size wr w3 := (Below.grown ((by (repeat (first | with_reducible exact Below.refl _ _ | with_reducible assumption | (with_reducible refine AF ?_ _) | (with_reducible refine Below.setCell ?_ zF _) | (with_reducible refine Below.drew ?_) | (with_reducible refine below_drewN ?_ _) | (refine Af zL ?_))) : Below wr.heap.size wr _).mono hz) hgrow3 zJ (fun g e => (HO.out.lt g e).1)); clear hown3 hgrow3 hat3))
    have ho3 := HO3.out
    rw [← HTK.out] at ho3
    have HO4 := hid ho3
    clear ho3 x0 x1 y0 y1;go_roundw
    case rel => exact ⟨m + 1 + 1, zC, zV, HO4.out, HBD, hb.trans hb3⟩
    case measure => simp [intOf]; omega
  ·obtain rfl : k = l.length := by omega
   have d1 : decide ((l.length : Int) < (l.length : Int)) = false := Ad zC
   have hv := hown
   rw [CY zC] at hv hbd
   have HV := hid (EE hbd.out zC hv)
   clear hv hown;go_wp2;go_ret;exact ⟨_, rfl, HV.out, hb⟩
theorem Kr (l : List BM) (hri : Ba (l.map BM.stream) = true) (hx : ∀ x ∈ l, 0 ≤ x.stream ∧ x.stream ≤ 18446744073709551615) : ∀ k, (h : k < l.length) → 0 ≤ (ED none l)[k]'zAj ∧ (ED none l)[k]'zAj ≤ 18446744073709551615 := by
 intro k h;rw [Ja l none k h]
 have hk := hx l[k] (Bl h)
 split
 ·exact hk
 ·rename_i h0
  have h1 := hx (l[k - 1]'zC) (Bl _)
  have h2 := Gj (l.map BM.stream) (k - 1) zJ hri
  simp only [List.getElem_map, Nat.sub_add_cancel (show 1 ≤ k by omega)] at h2
  omega
theorem Ju {S : Nat → Prop} {w : World} {a : Option Addr} {n c : Nat} {l : List BM} (h : BU.r S w [.slice a n c] l) : ∀ x ∈ l, V2 x := by
 intro x hx;obtain ⟨i, hi, rfl⟩ := Hx hx
 obtain ⟨b, o, _, _, a2, c2, _, _, hs, xl⟩ := DE h hi
 exact ⟨hs, fun y hy => (DS xl y hy).1⟩
theorem Jv (pos : Int) (l : List BM) (hR : BK pos l = true) : (Hu pos none l).length ≤ 51 * l.length := by
 have key : ∀ (l : List BM) (p : Option Int), (∀ x ∈ l, C3 pos x = true) → (Hu pos p l).length ≤ 51 * l.length := by
  intro l;induction l with
  | nil => intro p _; simp [Hu]
  | cons x l ih =>
   intro p hx;have h1 := hx x zO
   simp only [C3, Ao, Ar] at h1
   have h2 := ih (some x.stream) (fun y hy => hx y (by simp [hy]))
   have h3 := QY pos x.backs zC
   cases p with
   | none =>
    have h4 := (AX x.stream.toNat).1
    simp only [Hu, Ag, AQ]
    omega
   | some q =>
    have h4 := (AX (x.stream - q - 1).toNat).1
    simp only [Hu, Ag, AQ]
    omega
 simp only [BK, Ao, Ar, List.all_eq_true] at hR
 exact key l none hR.2.2
theorem TX (w : World) {g base most : Nat} {J : List UInt8} {a : Option Addr} {c : Nat} (h : BR w g base most J a c) (pos : Int) (hpos : 0 ≤ pos ∧ pos ≤ 18446744073709551615) (l : List BM) (al : Option Addr) (nl cl : Nat)
  (hl : BU.r (fun q => q < w.heap.size ∧ ¬ Dr g a q) w [.slice al nl cl] l) (hR : BK pos l = true) (hbk : ∀ x ∈ l, x.backs.length ≤ 1000000) (hfit : J.length + (Cx pos l).length ≤ most) (hln2 : J.length + (Cx pos l).length ≤ 100000000000000) :
  Calls Tryz.prog 72 #[.pointer (some ⟨g, 0, none⟩), .int .u64 pos, .slice al nl cl] w fun r w' => r = .returned (.tuple #[]) ∧ At w g base most (J ++ Cx pos l) a w' := by
 obtain ⟨rfl, hm, _, _⟩ := AS hl
 have hN := Ju hl
 have HRT := hid (LQ pos l al _ cl w hpos (Iv hl) (fun x hx => zBp))
 have hR' := hR
 simp only [BK, Ao, Ar, List.all_eq_true] at hR'
 rw [hR] at HRT
 have hlk : ∀ x ∈ l, BW pos x.backs = true := fun x hx => by have := hR'.2.2 x hx; simp only [C3, Ao] at this; exact this.2
 have HLK := hid hlk
 have HBK := hid hbk
 have hup := hid (Kr l hR'.2.1 (fun x hx => (hN x hx).1))
 have hul := H3 none l
 have hzl := Iz pos none l
 have HSP := hid (fun (W : World) (hW : BU.r (· < W.heap.size) W [.slice al l.length cl] l) => Qw W l al _ cl hW hR'.2.1 zC)
 have hdl : (Cx pos l).length = (Ay l.length).length + ((GJ pos none l).flatten).length := by unfold Cx; rw [Ag, Hg]
 rw [hdl] at hfit hln2
 unfold Cx;rw [Hg]
 have HP := hid h
 have HL := hid hl
 have hvl := AX l.length
 have HV := hid (fun (W : World) (hW : Below w.heap.size w W) => B6 W (h.later hW) l.length zC zC zC)
 have HMO := hid (fun k => Jz (GJ pos none l) k)
 have HNS := hid (fun (k : Nat) (h : k < l.length) => (by have := M3 (GJ pos none l) k zC; rw [MU pos l k h] at this; exact this : ((GJ pos none l).take (k + 1)).flatten = ((GJ pos none l).take k).flatten ++ (Ay ((ED none l)[k]'zAj).toNat ++ C4 pos l[k].backs)))
 generalize GJ pos none l = Z at *
 have hll : l.length ≤ 16 := hR'.1
 clear h hl hR hR' hlk hbk hN hdl;go_enter Tryz.func72, Tryz.ntmps72
 go_wp2_with fail;refine HRT.out.mono ?_
 rintro r w1 ⟨rfl, hb1⟩;go_wp2_with fail;refine (HV.out _ hb1).mono ?_
 rintro r w2 ⟨rfl, a2, c2, hp2, ht2, ha2⟩;have hd2 := Dk ht2 ha2 (Fg hb1 HL.out)
 have HP2 := hid hp2
 have HD2 := hid hd2
 have HT2 := hid (And.intro ht2 ha2)
 clear hp2 hd2 ht2 ha2;go_wp2_with fail;refine (HSP.out w2 (Iv HD2.out)).mono ?_
 rintro r w3 ⟨v3, rfl, hr3, hb3⟩;obtain ⟨a3, c3, hv3, hr3', _⟩ := AN hr3
 simp only [Au, AO] at hv3
 subst hv3;have HR3 := hid (Hb HP2.out hr3')
 have HD3 := hid (Fg hb3 HD2.out)
 have HP3 := hid (HP2.out.later hb3)
 rw [hul] at HR3 ⊢
 clear hr3 hr3';go_wp2_with fail;go_loopw [22] (fun i wr => ∃ k : Nat, k ≤ l.length ∧ i = .int .i64 k ∧ Hid (At w3 g base most (J ++ Ay l.length ++ (Z.take k).flatten) a2 wr)) (fun i _ => l.length - (intOf i).toNat)
 case atStart => exact ⟨0, Aj _, rfl, hid (by simpa using At.refl HP3.out)⟩
 case round =>
  obtain ⟨k, hk, rfl, hp⟩ := hrel
  obtain ⟨a4, c4, hp4, ht4, ha4⟩ := hp.out
  rcases Bd k l.length with hlt | hge
  ·have hr4 := Dk ht4 ha4 HR3.out
   have hd4 := Dk ht4 ha4 HD3.out
   obtain ⟨b, o, hA, hbb, hc, hx0, hx1⟩ := Cw hr4 (show k < (ED none l).length by omega)
   obtain ⟨b', o', hA', hbb', a5, c5, y0, y1, hs, yl⟩ := DE hd4 hlt
   subst hA hA';have hst := HNS.out k hlt
   have hfk := HMO.out (k + 1)
   rw [hst, Ag, Ag] at hfk
   have hvk := (AX ((ED none l)[k]'zC).toNat).1
   have hJ4 := hp4.len
   simp only [Ag] at hJ4
   have hV := B6 wr hp4 ((ED none l)[k]'zC).toNat zC zU zU
   rw [toNat_cast hx0] at hV
   have HV4 := hid hV
   have HT4 := hid (And.intro ht4 ha4)
   have HYL := hid yl
   have HST := hid hst
   have HFK := hid hfk
   have hfl := HLK.out l[k] (Bl hlt)
   have hbl := HBK.out l[k] (Bl hlt)
   have HFL := hid hfl
   have HDY := hid (And.intro hbb' y1)
   have i1 : (k : Int) < (l.length : Int) := zC
   have d1 : decide ((k : Int) < (l.length : Int)) = true := Ae i1
   clear hV hr4 hd4 hst hp4 ht4 ha4 hp hfk hvk hJ4 hfl y0 yl y1 hbb';generalize (ED none l)[k]'zC = u at *
   generalize l[k] = y at *
   go_wp2_with fail;refine HV4.out.mono ?_
   rintro r w5 ⟨rfl, a6, c6, hp5, ht5, ha5⟩;have Y1 : w5.cell? ⟨b', o' + k * 2 + 1, none⟩ = some (.slice a5 y.backs.length c5) := (ht5.cell (p := ⟨b', o' + k * 2 + 1, none⟩) HDY.out.1.1 HDY.out.1.2).trans HDY.out.2
   have hy5 := Iv (Dk ht5 ha5 HYL.out)
   have HD5 := hid (Kj w5 hp5 pos hpos y.backs a5 _ c5 hy5 HFL.out hbl zB5 zB5)
   have HT5 := hid (And.intro ht5 ha5)
   clear hy5 hp5 ht5 ha5 hc;go_wp2_with fail;refine HD5.out.mono ?_
   rintro r w6 ⟨rfl, hst6⟩;have hn := At.trans (J := J) HT4.out.1 HT4.out.2 (At.trans (J := J) HT5.out.1 HT5.out.2 hst6)
   rw [Av, Av (J ++ Ay l.length), ← HST.out] at hn
   have HN := hid hn
   clear hst6 hn Y1;go_wp2;go_roundw
   case rel => exact ⟨k + 1, zC, zV, HN⟩
   case measure => simp [intOf]; omega
  ·obtain rfl : k = l.length := by omega
   have d1 : decide ((l.length : Int) < (l.length : Int)) = false := Ad zC
   rw [CY zC] at hp
   have hn := At.later hb1 (At.trans (J := J) HT2.out.1 HT2.out.2 (At.later hb3 hp.out))
   rw [Av] at hn
   have HN := hid hn
   clear hp hp4 ht4 ha4 hn;go_wp2;first | go_end0 | refine Al (Aw rfl _ _ _) rfl ?_
   exact ⟨rfl, HN.out⟩
theorem LZ (w : World) {g base most : Nat} {J : List UInt8} {a : Option Addr} {c : Nat} (h : BR w g base most J a c) (x : Nat) (hx : x < 18446744073709551616) (hfit : J.length + (Ay x).length ≤ most) (hlen : J.length + (Ay x).length ≤ 100000000000000) :
  Calls Tryz.prog 146 #[.pointer (some ⟨g, 0, none⟩), .int .u64 x, .bool true] w fun r w' => r = .returned (.tuple #[]) ∧ At w g base most (J ++ Ay x) a w' := by
 have HV := hid (B6 w h x hx hfit hlen)
 clear h;go_enter Tryz.func146, Tryz.ntmps146
 go_wp2_with fail;refine HV.out.mono ?_
 rintro r w1 ⟨rfl, hst⟩;have HST := hid hst
 clear hst;go_wp2;first | go_end0 | refine Al (Aw rfl _ _ _) rfl ?_
 exact ⟨rfl, HST.out⟩
theorem M9 (w : World) {g base most : Nat} {J : List UInt8} {a : Option Addr} {c : Nat} (h : BR w g base most J a c) (x : Nat) (hx : epR (x : Int) = true) (hfit : J.length + (Ay x).length ≤ most) (hlen : J.length + (Ay x).length ≤ 100000000000000) :
  Calls Tryz.prog 111 #[.pointer (some ⟨g, 0, none⟩), .int .u64 x] w fun r w' => r = .returned (.tuple #[]) ∧ At w g base most (J ++ Ay x) a w' := by
 have hx' := hx
 simp only [epR, Ar] at hx'
 have HR := hid (FH (x : Int) w)
 rw [hx] at HR
 have HV := hid (LZ w h x zC hfit hlen)
 clear h hx hx';go_enter Tryz.func111, Tryz.ntmps111
 go_wp2_with fail;refine HR.out.mono ?_
 rintro r w1 ⟨rfl, rfl⟩;go_wp2_with fail;refine HV.out.mono ?_
 rintro r w1 ⟨rfl, hst⟩;have HST := hid hst
 clear hst;go_wp2;first | go_end0 | refine Al (Aw rfl _ _ _) rfl ?_
 exact ⟨rfl, HST.out⟩
theorem NT (w : World) {g base most : Nat} {J : List UInt8} {a : Option Addr} {c : Nat} (h : BR w g base most J a c) (x : Nat) (hx : poR (x : Int) = true) (hfit : J.length + (Ay x).length ≤ most) (hlen : J.length + (Ay x).length ≤ 100000000000000) :
  Calls Tryz.prog 64 #[.pointer (some ⟨g, 0, none⟩), .int .u64 x] w fun r w' => r = .returned (.tuple #[]) ∧ At w g base most (J ++ Ay x) a w' := by
 have hx' := hx
 simp only [poR, Ar] at hx'
 have HR := hid (Ki (x : Int) w)
 rw [hx] at HR
 have HV := hid (LZ w h x zC hfit hlen)
 clear h hx hx';go_enter Tryz.func64, Tryz.ntmps64
 go_wp2_with fail;refine HR.out.mono ?_
 rintro r w1 ⟨rfl, rfl⟩;go_wp2_with fail;refine HV.out.mono ?_
 rintro r w1 ⟨rfl, hst⟩;have HST := hid hst
 clear hst;go_wp2;first | go_end0 | refine Al (Aw rfl _ _ _) rfl ?_
 exact ⟨rfl, HST.out⟩
theorem EV {w : World} {g : Nat} {t : TypeId} {v0 v1 v2 : Value} (h : Blk w g t #[v0, v1, v2]) : w.cell? ⟨g, 0, none⟩ = some v0 ∧ w.cell? ⟨g, 1, none⟩ = some v1 ∧ w.cell? ⟨g, 2, none⟩ = some v2 ∧ w.frozen? ⟨g, 0, none⟩ = false ∧ w.frozen? ⟨g, 1, none⟩ = false ∧ w.frozen? ⟨g, 2, none⟩ = false ∧ g < w.heap.size :=
 ⟨h.cell 0, h.cell 1, h.cell 2, h.free 0, h.free 1, h.free 2, h.lt⟩
theorem Hk {S : Nat → Prop} {w : World} {a : Option Addr} {m c : Nat} {l : List UInt8} (hl : l = []) (hm : m = 0) (hc : c ≤ 9223372036854775807) : Ah.r S w [.slice a m c] l := by
 subst hl hm;exact Bh (xs := []) rfl (Aj _) hc (.inl rfl)
theorem ON (w : World) {g base most : Nat} {J : List UInt8} {a : Option Addr} {c : Nat} (h : BR w g base most J a c) (k : Int) :
  Calls Tryz.prog 60 #[.pointer (some ⟨g, 0, none⟩), .int .i64 k] w fun r w' => r = .returned (.tuple #[]) ∧ Blk w' g 87 #[.int .i64 most, .slice a J.length c, .int .i64 k] ∧ Tch (· = g) w w' := by
 have HC := hid (Jl w h)
 have HB := hid h.blk
 have c2 : w.cell? ⟨g, 2, none⟩ = some (.int .i64 0) := h.blk.cell 2
 have f2 := h.blk.free 2
 have hgl := h.blk.lt
 clear h;go_enter Tryz.func60, Tryz.ntmps60
 go_wp2_with fail;refine HC.out.mono ?_
 rintro r w1 ⟨rfl, rfl⟩;go_wp2;first | go_end0 | refine Al (Aw rfl _ _ _) rfl ?_
 exact ⟨rfl, HB.out.set 2 _, Tch.setCell (F := (· = g)) (p := ⟨g, 2, none⟩) (Tch.refl _ _) (fun _ => rfl) _⟩
theorem Mp (w : World) {g : Nat} {v0 v1 : Value} {k : Int} (hk : k ≠ 0) (h : Blk w g 87 #[v0, v1, .int .i64 k]) :
  Calls Tryz.prog 17 #[.pointer (some ⟨g, 0, none⟩)] w fun r w' => r = .returned (.tuple #[.slice none 0 0, .int .i64 k]) ∧ w = w' := by
 have HC : Hid (Calls Tryz.prog 79 #[.pointer (some ⟨g, 0, none⟩)] w fun r w' => r = .returned (.int .i64 k) ∧ w = w') := hid (by
  have c2 : w.cell? ⟨g, 2, none⟩ = some (.int .i64 k) := h.cell 2
  clear h;go_enter Tryz.func79, Tryz.ntmps79
  go_wp2;go_ret;exact ⟨rfl, rfl⟩)
 have d1 : (k == (0 : Int)) = false := by simp [hk]
 have d2 : (k != (0 : Int)) = true := by simp [hk]
 clear h hk;go_enter Tryz.func17, Tryz.ntmps17
 go_wp2_with fail;refine HC.out.mono ?_
 rintro r w1 ⟨rfl, rfl⟩;go_wp2;go_ret2
 exact ⟨rfl, rfl⟩
theorem Lr : ∀ (l : List Int) (p : Int) (k : Nat) (h : k < l.length), (BG p l)[k]'(by rw [Fe]; exact h) = ahead p l k - l[k] - 1
 | [], p, k, h => by simp at h
 | x :: l, p, 0, h => by simp [BG, ahead]
 | x :: l, p, k + 1, h => by
  simp only [BG, Az]
  rw [Lr l x k ZS]
  congr 2
  unfold ahead;cases k with
  | zero => simp
  | succ k => simp
theorem O9 : ∀ (l : List Int) (p : Int) (k : Nat) (h : k < l.length), BW p l = true → l[k] < ahead p l k
 | [], p, k, h, _ => by simp at h
 | x :: l, p, 0, h, hf => by simp only [BW, Ao, Ar] at hf; simpa [ahead] using hf.1
 | x :: l, p, k + 1, h, hf => by
  simp only [BW, Ao, Ar] at hf
  have := O9 l x k ZS hf.2
  rw [Az]
  unfold ahead at this ⊢;cases k with
  | zero => simpa using this
  | succ k => simpa using this
theorem Ou (w : World) (pos : Int) (hpos : 0 ≤ pos ∧ pos ≤ 18446744073709551615) (l : List Int) (al : Option Addr) (nl cl : Nat) (hl : AY.r (· < w.heap.size) w [.slice al nl cl] l) (hf : BW pos l = true) (hlen : l.length ≤ 1000000) :
  Calls Tryz.prog 224 #[.int .u64 pos, .slice al nl cl] w fun r w' => ∃ v, r = .returned v ∧ AY.r (fun q => w.heap.size ≤ q ∧ q < w'.heap.size) w' [v] (BG pos l) ∧ Below w.heap.size w w' := by
 obtain ⟨rfl, hm, _, _⟩ := AS hl
 obtain ⟨i0, hi, hz0, hz1, hz2⟩ := A8 LV
 have HL := hid hl
 have hxs := DS hl
 have hul := Fe pos l
 have HU := hid (fun (k : Nat) (h : k < l.length) => Lr l pos k h)
 have HF := hid (fun (k : Nat) (h : k < l.length) => O9 l pos k h hf)
 have HXB := hid (fun (k : Nat) (h : k < l.length) => hxs l[k] (Bl h))
 clear hl hf hxs;go_enter Tryz.func224, Tryz.ntmps224
 go_wp2_with fail;go_loopw [5, 6] (fun v i wr => ∃ k : Nat, k ≤ l.length ∧ i = .int .i64 k ∧ wr.ownsRow w.heap.size 22 1 v k (BF ((BG pos l).take k)) ∧ Hid (∀ x ∈ (BG pos l).take k, 0 ≤ x ∧ x ≤ 18446744073709551615) ∧ Below w.heap.size w wr) (fun _ i _ => l.length - (intOf i).toNat)
 case atStart => exact ⟨0, Aj _, rfl, ⟨rfl, .inl ⟨rfl, rfl⟩⟩, hid zO, Below.refl _ _⟩
 case round =>
  obtain ⟨k, hk, rfl, hown, hbd, hb⟩ := hrel
  obtain ⟨av, cv, rfl⟩ := AA hown
  rcases Bd k l.length with hlt | hge
  ·obtain ⟨b, o, hA, hbb, x0, hx⟩ := Cw (lift HL.out hb) hlt
   subst hA;have hu := HU.out k hlt
   have hfa := HF.out k hlt
   have i1 : (k : Int) < (l.length : Int) := zC
   have d1 : decide ((k : Int) < (l.length : Int)) = true := Ae i1
   have htk : BF ((BG pos l).take (k + 1)) = BF ((BG pos l).take k) ++ [.int .u64 ((BG pos l)[k]'zC)] := by
    rw [AU zC]; unfold BF; rw [CS]; rfl
   have hnb : ∀ y : Int, (BG pos l)[k]'zC = y → (0 ≤ y ∧ y ≤ 18446744073709551615) → ∀ x ∈ (BG pos l).take (k + 1), 0 ≤ x ∧ x ≤ 18446744073709551615 := fun y e hy x hx => by
    rw [AU zC, Ed, Dg] at hx
    rcases hx with hx | rfl
    ·exact hbd.out x hx
    ·rw [e]; exact hy
   have HTK := hid htk
   have HNB := hid hnb
   have HO := hid hown
   have hz := hb.size
   rw [hu] at HTK
   rcases Cz k with rfl | hk0
   ·rw [ahead_zero] at hu hfa HTK
    have HBD := hid (HNB.out _ hu zC)
    simp only [Hp, BE, A3] at x0
    generalize l[0] = y at *
    have w1 : 0 ≤ pos - 1 - y := zC
    have w2 : 0 ≤ pos - 1 := zC
    rw [show pos - y - 1 = pos - 1 - y by omega] at HTK
    clear hu htk hnb hbd hown;go_wp2_with (at_builtin; go_loud (refine Aq rfl _ _ _ rfl w.heap.size 22 i0 (.int .u64 0) 1 8 CK hi hz0 hz1 hz2 rfl zP (.slice av 0 cv) 0 _ rfl (AD HO.out zA) (some ⟨wr.heap.size, 0, none⟩) 1 1 [.int .u64 (pos - 1 - y)] rfl (Bx _ 22 _ rfl zO rfl) ZG zK zC zJ ?_; intro v' w3 hown3 hgrow3 hat3; obtain ⟨a3, c3, rfl⟩ := AA hown3; have HO3 := hid hown3; have hb3 : Below w.heap.size wr w3 := (Below.grown ((by (repeat (first | with_reducible exact Below.refl _ _ | with_reducible assumption | (with_reducible refine AF ?_ _) | (with_reducible refine Below.setCell ?_ zF _) | (with_reducible refine Below.drew ?_) | (with_reducible refine below_drewN ?_ _) | (refine Af zL ?_))) : Below wr.heap.size wr _).mono hz) hgrow3 zJ (fun g e => (HO.out.lt g e).1)); clear hown3 hgrow3 hat3))
    have ho3 := HO3.out
    rw [← HTK.out] at ho3
    have HO4 := hid ho3
    clear ho3 x0;go_roundw
    case rel => exact ⟨1, zC, zV, by simpa using HO4.out, HBD, hb.trans hb3⟩
    case measure => simp [intOf]; omega
   ·obtain ⟨m, rfl⟩ : ∃ m, k = m + 1 := ⟨k - 1, zC⟩
    obtain ⟨b', o', hA', hbb', y0, hy⟩ := Cw (lift HL.out hb) (show m < l.length by omega)
    simp only [Bk, Dd] at hA'
    obtain ⟨rfl, rfl, _⟩ := hA'
    rw [Gv pos l m zC] at hu hfa HTK
    have hm0 := HXB.out m zC
    have hm1 := HXB.out (m + 1) hlt
    have HBD := hid (HNB.out _ hu zC)
    have i1' : (m : Int) + 1 < (l.length : Int) := zC
    have i2 : (m : Int) < (l.length : Int) := zC
    have d2 : decide ((m : Int) + 1 < (l.length : Int)) = true := Ae i1'
    have d3 : decide (m + 1 < l.length) = true := Ae hlt
    generalize l[m + 1] = y at *
    generalize l[m]'zC = z at *
    have w1 : 0 ≤ z - 1 - y := zC
    have w2 : 0 ≤ z - 1 := zC
    rw [show z - y - 1 = z - 1 - y by omega] at HTK
    clear hu htk hnb hbd hown;go_wp2_with (at_builtin; go_loud (refine Aq rfl _ _ _ rfl w.heap.size 22 i0 (.int .u64 0) 1 8 CK hi hz0 hz1 hz2 rfl zP (.slice av (m + 1) cv) (m + 1) _ rfl (AD HO.out zA) (some ⟨wr.heap.size, 0, none⟩) 1 1 [.int .u64 (z - 1 - y)] rfl (Bx _ 22 _ rfl zO rfl) ZG zK zC zJ ?_; intro v' w3 hown3 hgrow3 hat3; obtain ⟨a3, c3, rfl⟩ := AA hown3; have HO3 := hid hown3; have hb3 : Below w.heap.size wr w3 := (Below.grown ((by (repeat (first | with_reducible exact Below.refl _ _ | with_reducible assumption | (with_reducible refine AF ?_ _) | (with_reducible refine Below.setCell ?_ zF _) | (with_reducible refine Below.drew ?_) | (with_reducible refine below_drewN ?_ _) | (refine Af zL ?_))) : Below wr.heap.size wr _).mono hz) hgrow3 zJ (fun g e => (HO.out.lt g e).1)); clear hown3 hgrow3 hat3))
    have ho3 := HO3.out
    rw [← HTK.out] at ho3
    have HO4 := hid ho3
    clear ho3 x0 y0;go_roundw
    case rel => exact ⟨m + 1 + 1, zC, zV, HO4.out, HBD, hb.trans hb3⟩
    case measure => simp [intOf]; omega
  ·obtain rfl : k = l.length := by omega
   have d1 : decide ((l.length : Int) < (l.length : Int)) = false := Ad zC
   have hv := hown
   rw [CY zC] at hv hbd
   have HV := hid (EE hbd.out zC hv)
   clear hv hown;go_wp2;go_ret;exact ⟨_, rfl, HV.out, hb⟩
def BS (w : World) (base : Nat) (v : Value) (L : List UInt8) : Prop := w.ownsRow base 5 1 v L.length (byteCells L)
theorem Ej (l l' : List UInt8) : byteCells l ++ byteCells l' = byteCells (l ++ l') := zAp
theorem BS.app {w : World} {base : Nat} {v : Value} {L D : List UInt8} (h : w.ownsRow base 5 1 v (L.length + D.length) (byteCells L ++ byteCells D)) : BS w base v (L ++ D) := by
 unfold BS;rw [Ag, ← Ej]
 exact h
theorem Ow (w : World) (pos : Int) (hpos : 0 ≤ pos ∧ pos ≤ 18446744073709551615) (l : List Int) (al : Option Addr) (nl cl : Nat) (hl : AY.r (· < w.heap.size) w [.slice al nl cl] l) (hf : BW pos l = true) (hlen : l.length ≤ 1000000) :
  Calls Tryz.prog 173 #[.int .u64 pos, .slice al nl cl] w fun r w' => ∃ v, r = .returned v ∧ BS w' w.heap.size v (C4 pos l) ∧ Below w.heap.size w w' := by
 obtain ⟨rfl, hm, _, _⟩ := AS hl
 obtain ⟨i0, hi, hz0, hz1, hz2⟩ := A8 Dz
 have HS := hid (fun (W : World) (hW : Below w.heap.size w W) => Ou W pos hpos l al _ cl (lift hl hW) hf hlen)
 have HV := hid (EH l.length zC w)
 have hsl := Fe pos l
 have hnb := Gb (BG pos l)
 have hvl := (AX l.length).1
 unfold C4;have HMO := hid (fun k => Ey (BG pos l) k)
 have HNS := hid (fun (k : Nat) (h : k < (BG pos l).length) => Gp (BG pos l) k h)
 generalize BG pos l = T at *
 generalize Ay l.length = V at *
 clear hl hf;go_enter Tryz.func173, Tryz.ntmps173
 go_wp2_with fail;refine HV.out.mono ?_
 rintro r w1 ⟨v1, rfl, hv1, hb1⟩;obtain ⟨a1, c1, rfl⟩ := AA hv1
 have HO1 := hid hv1
 clear hv1;go_wp2_with fail;refine (HS.out _ hb1).mono ?_
 rintro r w2 ⟨v2, rfl, hr2, hb2⟩;obtain ⟨a2, c2, hv2, hr2', _⟩ := AN hr2
 simp only [Au, AO] at hv2
 subst hv2;have HT := hid (AY.mono (S' := fun q => w1.heap.size ≤ q ∧ q < w2.heap.size) hr2' fun q hq => hq)
 have HO2 := hid (AD HO1.out hb2)
 have hbw2 := Af hb2 hb1
 have hsz2 := hb2.size
 clear hr2 hr2';go_wp2_with fail;go_loopw [5, 7] (fun v i wr => ∃ (k : Nat) (J : List UInt8), k ≤ T.length ∧ i = .int .i64 k ∧ BS wr w.heap.size v J ∧ Hid (J = V ++ Cu (T.take k)) ∧ (∃ aJ cJ, v = .slice aJ J.length cJ) ∧ Below w.heap.size w wr ∧ w2.heap.size ≤ wr.heap.size ∧ AY.r (fun q => w1.heap.size ≤ q ∧ q < w2.heap.size) wr [.slice a2 T.length c2] T ∧ Hid (∀ q, v.ownBlock = some q → ¬ (w1.heap.size ≤ q ∧ q < w2.heap.size))) (fun _ i _ => T.length - (intOf i).toNat)
 case atStart => exact ⟨0, V, Aj _, rfl, HO2.out, hid (by simp [Cu]), ⟨_, _, rfl⟩, hbw2, Ak _, HT.out, hid (fun q e h => by have := (HO1.out.lt q e).2; omega)⟩
 case round =>
  obtain ⟨k, J, hk, rfl, hown, hJ, ⟨aJ, cJ, rfl⟩, hb, hsz, hT, hav⟩ := hrel
  rcases Bd k T.length with hlt | hge
  ·obtain ⟨b, o, hA, hbb, x0, hx0, hx1⟩ := Cw hT hlt
   subst hA;have hst := HNS.out k hlt
   have hmo := HMO.out (k + 1)
   rw [hst, Ag] at hmo
   have hJl : J.length + (Ay T[k].toNat).length ≤ 20000000 := zBi
   have HN := hid (fun (W : World) => (by have := EH T[k].toNat zC W; rw [toNat_cast hx0] at this; exact this : Calls Tryz.prog 104 #[.int .u64 T[k]] W fun r w' => ∃ v, r = .returned v ∧ w'.ownsRow W.heap.size 5 1 v (Ay T[k].toNat).length (byteCells (Ay T[k].toNat)) ∧ Below W.heap.size W w'))
   have HJ1 : Hid (J ++ Ay T[k].toNat = V ++ Cu (T.take (k + 1))) := hid (by rw [hst, hJ.out, Av])
   have HO := hid hown
   have HTT := hid hT
   have i1 : (k : Int) < (T.length : Int) := zC
   have d1 : decide ((k : Int) < (T.length : Int)) = true := Ae i1
   generalize Ay T[k].toNat = VK at *
   have HONE := hid (AI VK)
   generalize T[k] = y at *
   clear hst hmo hJ hown hT;go_wp2_with fail;refine (HN.out _).mono ?_
   rintro r w3 ⟨v3, rfl, hv3, hb3⟩;obtain ⟨a3, c3, rfl⟩ := AA hv3
   have HS3 := hid (A5 (BJ rfl hv3))
   have HO3 := hid (AD HO.out hb3)
   have hz := hb.size
   have hz3 := hb3.size
   clear hv3;go_wp2_with (at_builtin; go_loud (refine Aq rfl _ _ _ rfl w.heap.size 5 i0 (.int .u8 0) 1 1 As hi hz0 hz1 hz2 rfl zP (.slice aJ J.length cJ) J.length (byteCells J) rfl HO3.out a3 VK.length c3 (byteCells VK) rfl HS3.out HONE.out zK zC zC ?_; intro v' w4 hown4 hgrow4 hat4; obtain ⟨a4, c4, rfl⟩ := AA hown4; have HO4 := hid hown4; have HGR4 := hid hgrow4; have HA4 := hid hat4; clear hown4 hgrow4 hat4))
   have ho4 := BS.app HO4.out
   have hb4 : Below w.heap.size w3 w4 := (Below.grown (Below.refl _ _) HGR4.out zC (fun g e => (HO3.out.lt g e).1))
   have hg4 : AY.r (fun q => w1.heap.size ≤ q ∧ q < w2.heap.size) w4 [.slice (some ⟨b, o, none⟩) T.length c2] T := AY.keep HTT.out fun q hq => by
    have hq' : w1.heap.size ≤ q ∧ q < w2.heap.size := hq
    exact (HGR4.out.block q zC (fun e => hav.out q e.symm hq')).trans (hb3.block q zC)
   have HO5 := hid ho4
   have HG4 := hid hg4
   clear ho4 hg4;go_roundw
   case rel => exact ⟨k + 1, J ++ VK, zC, zV, HO5.out, HJ1, ⟨_, _, ZA⟩, hb.trans ((hb3.mono hb.size).trans hb4), by have := hb4.size; omega, HG4.out, hid (fun q e h => by
    rcases HA4.out with h1 | h1
    ·exact hav.out q (h1 ▸ e) h
    ·rw [h1] at e; simp at e; omega)⟩
   case measure => simp [intOf]; omega
  ·obtain rfl : k = T.length := by omega
   have d1 : decide ((T.length : Int) < (T.length : Int)) = false := Ad zC
   have hfin : Hid (J = V ++ Cu T) := hid zA1
   have HO := hid hown
   clear hown hJ;go_wp2;go_ret;rw [← hfin.out]
   exact ⟨_, rfl, HO.out, hb⟩
theorem BS.low {w : World} {b b' : Nat} {v : Value} {L : List UInt8} (h : BS w b v L) (hb : b' ≤ b) : BS w b' v L := by
 obtain ⟨h1, h2⟩ := h
 refine ⟨h1, ?_⟩
 rcases h2 with h2 | ⟨g, cap, cur, e1, e2, e3⟩
 ·exact .inl h2
 ·exact .inr ⟨g, cap, cur, e1, zC, e3⟩
theorem BS.form {w : World} {b : Nat} {v : Value} {L : List UInt8} (h : BS w b v L) : ∃ a c, v = .slice a L.length c := AA h
theorem Mo (w : World) {g base most : Nat} {J : List UInt8} {a : Option Addr} {c : Nat} (h : BR w g base most J a c) :
  Calls Tryz.prog 17 #[.pointer (some ⟨g, 0, none⟩)] w fun r w' => ∃ v, r = .returned (.tuple #[v, .int .i64 0]) ∧ BS w' w.heap.size v J ∧ Below w.heap.size w w' := by
 obtain ⟨i0, hi, hz0, hz1, hz2⟩ := A8 Dz
 have HC := hid (Jl w h)
 have hB := B9 rfl h.own
 obtain ⟨_, hm, _, _⟩ := AS hB
 have HD := hid (Ah.mono hB (S' := (· < w.heap.size)) fun q hq => hq.2)
 have HONE := hid (AI J)
 have c1 : w.cell? ⟨g, 1, none⟩ = some (.slice a J.length c) := h.blk.cell 1
 have hg1 := h.blk.lt
 have hle := h.le; have hmo := h.most; have hle14 := h.len
 clear h hB;go_enter Tryz.func17, Tryz.ntmps17
 go_wp2_with fail;refine HC.out.mono ?_
 rintro r w0 ⟨rfl, rfl⟩;go_wp2_with (at_builtin; go_loud (refine Aq rfl _ _ _ rfl w.heap.size 5 i0 (.int .u8 0) 1 1 As hi hz0 hz1 hz2 rfl zP _ 0 [] rfl (EI _ (Ak _) rfl) a J.length c (byteCells J) rfl (A5 (lift HD.out zB)) HONE.out zK zC zO ?_; intro v' w1 hown1 hgrow1 hat1; rw [A3, Bj] at hown1; obtain ⟨a', c', rfl⟩ := AA hown1; have HG := hid hgrow1; have HO := hid hown1; clear hgrow1 hown1 hat1))
 have hb1 : Below w.heap.size w w1 := Below.grown zB HG.out zO (fun g e => by
  have e' : some w.heap.size = some g := e
  injection e' with e'
  omega)
 go_ret2
 exact ⟨_, rfl, HO.out, hb1⟩
end Go.Proofs.YtlbffbkbkajciaaGreat
namespace Go.Bs
open Go.RowKit
end Go.Bs
namespace Go.Proofs.YtlbffbkbkajciaaGreat
open Go.RowKit Go.Bs Go.Maps
def Fa (w1 : World) (g most : Nat) (J : List UInt8) (w : World) : Prop := At w1 g g most J none w
theorem Fa.new {w : World} {g most : Nat} (h : BR w g g most [] none 0) : Fa w g most [] w := At.refl h
theorem Fa.step {w1 w w' : World} {g most : Nat} {J J' : List UInt8} (h : Fa w1 g most J w) (k : ∀ a c, BR w g g most J a c → At w g g most J' a w') : Fa w1 g most J' w' := by
 obtain ⟨a, c, h1, h2, h3⟩ := h
 exact At.trans (J := J) h2 h3 (k a c h1)
theorem Fa.at {w1 w : World} {g most : Nat} {J : List UInt8} (h : Fa w1 g most J w) : ∃ a c, BR w g g most J a c ∧ (∀ {J' : List UInt8} {w' : World}, At w g g most J' a w' → Fa w1 g most J' w') ∧ (∀ q, q < w1.heap.size → q ≠ g → ¬ Dr g a q) := by
 obtain ⟨a, c, h1, h2, h3⟩ := h
 refine ⟨a, c, h1, fun k => At.trans (J := J) h2 h3 k, fun q hq hn e => ?_⟩
 rw [FW] at e
 rcases e with e | e
 ·exact hn e
 ·rcases h3 with h3 | ⟨q', h3, h4⟩
  ·rw [h3] at e; cases e
  ·rw [h3] at e; have := BH e; omega
theorem Fa.later {w1 w w' : World} {g most : Nat} {J : List UInt8} (h : Fa w1 g most J w) (hb : Below w.heap.size w w') : Fa w1 g most J w' := by
 obtain ⟨a, c, h1, k, _⟩ := h.at
 exact k ⟨a, c, h1.later hb, Tch.Cl hb, .inl rfl⟩
theorem Fa.tch {w1 w : World} {g most : Nat} {J : List UInt8} (h : Fa w1 g most J w) : Tch (· = g) w1 w := by
 obtain ⟨a, c, h1, h2, h3⟩ := h
 refine h2.mono fun q _ e => ?_
 rw [FW] at e
 rcases e with e | e
 ·exact e
 ·cases e
theorem Fa.blk {w1 w : World} {g most : Nat} {J : List UInt8} (h : Fa w1 g most J w) {b : Nat} {t : TypeId} {cs : Array Value} (hB : Blk w1 b t cs) (hn : b ≠ g) : Blk w b t cs := hB.tch h.tch hn
theorem Fa.below {w0 w1 w : World} {g most : Nat} {J : List UInt8} (h : Fa w1 g most J w) (h0 : Below w0.heap.size w0 w1) (hg : w0.heap.size ≤ g) : Below w0.heap.size w0 w :=
 h0.trans (h.tch.Cj h0.size fun b _ e => zC)
end Go.Proofs.YtlbffbkbkajciaaGreat
namespace Go.Bs
open Go.RowKit
end Go.Bs
namespace Go.Proofs.YtlbffbkbkajciaaGreat
open Go.RowKit Go.Bs Go.Maps
def CE (p : List UInt8) : List UInt8 := Cg p ++ Cf 4 (Ct p)
theorem Gr (p : List UInt8) : (CE p).length = (Cg p).length + 4 := by simp [CE, EG]
theorem QR (n : Nat) (hn : n ≤ 100000000000000) (w : World) :
  Calls Tryz.prog 177 #[.int .i64 n] w fun r w' => r = .returned (.int .i64 ((Ay n).length + n + 4 : Nat)) ∧ Below w.heap.size w w' := by
 have HS := hid (Kl n hn w)
 have hl := AX n
 generalize (Ay n).length = k at *
 go_enter Tryz.func177, Tryz.ntmps177
 go_wp2_with fail;refine HS.out.mono ?_
 rintro r w1 ⟨rfl, hb1⟩;go_wp2;go_ret;exact ⟨zAz, hb1⟩
theorem Kf (w : World) {g base most : Nat} {J : List UInt8} {a : Option Addr} {c : Nat} (h : BR w g base most J a c) (D : List UInt8) (ad : Option Addr) (nd cd : Nat)
  (hD : Ah.r (fun q => q < w.heap.size ∧ ¬ Dr g a q) w [.slice ad nd cd] D) (hm : D.length ≤ 2097152) (hfit : J.length + (CE D).length ≤ most) (hlen : J.length + (CE D).length ≤ 100000000000000) :
  Calls Tryz.prog 112 #[.pointer (some ⟨g, 0, none⟩), .slice ad nd cd] w fun r w' => r = .returned (.tuple #[]) ∧ At w g base most (J ++ CE D) a w' := by
 obtain ⟨rfl, _, _, _⟩ := AS hD
 rw [Gr] at hfit hlen
 have d1 : decide ((2097152 : Int) < (D.length : Int)) = false := Ad zC
 have HB := hid (Px w h D ad _ cd hD zC zC)
 have HC := hid (fun (W : World) h => RI D ad D.length cd W h)
 have HL := Kk D
 have hb : Hid (CE D = Cg D ++ Cf 4 (Ct D)) := hid rfl
 have HD := hid hD
 generalize CE D = K at *
 generalize Ct D = s at *
 generalize Cg D = E at *
 clear h hD;go_enter Tryz.func112, Tryz.ntmps112
 go_wp2_with fail;refine HB.out.mono ?_
 rintro r w3 ⟨rfl, a3, c3, p3, t3, h3⟩;have hs3 := t3.size
 have HD3 := hid (Ah.keep HD.out fun q hq => t3.block q hq.1 hq.2)
 have HST := hid (fun (J' : List UInt8) (W : World) (k : At w3 g base most J' a3 W) => At.trans (J := J ++ E) t3 h3 k)
 have P3 := hid p3
 clear p3 t3 h3;go_wp2_with fail;refine (HC.out w3 (Ah.mono HD3.out fun q hq => zY)).mono ?_
 rintro r w4 ⟨rfl, hb4⟩;have e1 : (s : Int) % 18446744073709551616 = s := zC
 go_wp2_with fail;refine (Qo w4 (P3.out.later hb4) s zC 4 zC zJ zJ).mono ?_
 rintro r w5 ⟨rfl, hs5⟩;have hst := HST.out _ _ (At.later hb4 hs5)
 rw [Av, ← hb.out] at hst
 have HST2 := hid hst
 clear hst hs5;go_wp2;first | go_end0 | refine Al (Aw rfl _ _ _) rfl ?_
 exact ⟨rfl, HST2.out⟩
theorem O5 (w : World) (D : List UInt8) (ad : Option Addr) (nd cd : Nat) (hD : Ah.r (· < w.heap.size) w [.slice ad nd cd] D) (hm : D.length ≤ 2097152) :
  Calls Tryz.prog 110 #[.slice ad nd cd] w fun r w' => ∃ x, r = .returned (.tuple #[x, .int .i64 0]) ∧ BS w' w.heap.size x (CE D) ∧ Below w.heap.size w w' := by
 obtain ⟨rfl, _, _, _⟩ := AS hD
 have HS := hid (QR D.length zC w)
 have hvl := AX D.length
 have hl : (CE D).length = (Ay D.length).length + D.length + 4 := by rw [Gr, Em]
 have HN := hid (fun W : World => Jk W ((Ay D.length).length + D.length + 4) zC)
 have HP := hid (fun (W : World) (g : Nat) (h : BR W g g ((Ay D.length).length + D.length + 4) [] none 0) (h1 : Ah.r (fun q => q < W.heap.size ∧ ¬ Dr g none q) W [.slice ad D.length cd] D) => Kf W h D ad _ cd h1 hm zJ zJ)
 have HD := hid hD
 generalize CE D = K at *
 generalize (Ay D.length).length + D.length + 4 = M at *
 clear hD;go_enter Tryz.func110, Tryz.ntmps110
 go_wp2_with fail;refine HS.out.mono ?_
 rintro r w1 ⟨rfl, hb1⟩;go_wp2_with fail;refine (HN.out w1).mono ?_
 rintro r w2 ⟨rfl, hp2, hb2⟩;have hbw2 : Below w.heap.size w w2 := Af hb2 hb1
 have hz1 := hb1.size
 have hz2 := hb2.size
 have HQ := hid (HP.out w2 _ hp2 (Ah.mono (Ah.keep HD.out fun q hq => hbw2.block q hq) fun q hq => ⟨zC, by rw [FW]; rintro (e | e); omega; cases e⟩))
 clear hp2;go_wp2_with fail;refine HQ.out.mono ?_
 rintro r w3 ⟨rfl, hs3⟩;have K3 : Hid (Fa w2 w1.heap.size M K w3) := hid hs3
 clear hs3 HQ;go_wp2_with fail;obtain ⟨a7, b7, p7, k7, _⟩ := K3.out.at
 refine (Mo w3 p7).mono ?_
 rintro r w8 ⟨x, rfl, hr, hb8⟩;have hbw := K3.out.below hbw2 zC
 have HR := hid hr
 clear hr k7 p7;go_wp2;go_ret2
 exact ⟨_, rfl, HR.out.low hbw.size, Af hb8 hbw⟩
def FG : List UInt8 → Nat
 | [] => 0
 | b :: l => b.toNat + 256 * FG l
theorem RF : ∀ l : List UInt8, FG l < 256 ^ l.length
 | [] => by decide
 | b :: l => by
  have h1 := RF l
  have h2 := b.toNat_lt
  simp only [FG, AQ, CL]
  omega
theorem M5 : ∀ (l : List UInt8) (b : UInt8), FG (l ++ [b]) = FG l + b.toNat * 256 ^ l.length
 | [], b => by simp [FG]
 | x :: l, b => by
  simp only [Et, FG, AQ, M5 l b, CL, Nat.mul_add, Bw]
  congr 1
  congr 1
  rw [De 256, Nat.mul_assoc]
theorem KP : ∀ (n x : Nat), FG (Cf n x) = x % 256 ^ n
 | 0, x => by simp [Cf, FG, Nat.mod_one]
 | n + 1, x => by
  have h : (UInt8.ofNat (x % 256)).toNat = x % 256 := by rw [F6]; omega
  simp only [Cf, FG, h, KP n (x / 256)]
  rw [CL, De (256 ^ n) 256, Nat.mod_mul]
theorem UH {i X c : Nat} (hX : X < 256 ^ i) (hi : i ≤ 7) (hc : c < 256) : bits .or .u64 (X : Int) (IntKind.u64.wrap ((c : Int) * 2 ^ (8 * i))) = ((X + c * 256 ^ i : Nat) : Int) := by
 have h1 : (256 : Nat) ^ i = 2 ^ (8 * i) := by rw [Nat.pow_mul]
 have h2 : (256 : Nat) ^ i ≤ 256 ^ 7 := G4 zP hi
 have h3 : (256 : Nat) ^ 7 = 72057594037927936 := zP
 have h4 : c * 256 ^ i ≤ 255 * 256 ^ i := CQ _ zC
 have e : (c : Int) * 2 ^ (8 * i) = ((c * 256 ^ i : Nat) : Int) := by
  rw [h1]
  simp
 rw [e, Hq, Int.emod_eq_of_lt zC zC, bits_or_u64_nat _ _ zC zC]
 rw [h1] at hX ⊢
 rw [Nat.or_comm, ← Nat.shiftLeft_eq, ← Nat.shiftLeft_add_eq_or_of_lt hX, Nat.add_comm]
theorem Me (w : World) {g : Nat} {B : List UInt8} {a : Option Addr} {s : Rs} (h : AZ w g B a s) (hB : B.length ≤ 1000000000) (n : Nat) (hn : n ≤ 8) :
  Calls Tryz.prog 262 #[.pointer (some ⟨g, 0, none⟩), .int .i64 (n : Int)] w fun r w' => r = .returned (.int .u64 (FG (s.take B n).2 : Nat)) ∧ AE w g B a (s.take B n).1 w' := by
 have HT := hid (K5 w h (n : Int) zC zC)
 have hlen : (s.take B n).2.length ≤ n := by
  unfold Rs.take;split
  ·simp; omega
  ·simp
 have hlt := h.blk.lt
 generalize s.take B (n : Int) = T at *
 obtain ⟨s1, L⟩ := T
 dsimp only at *;have n0 : (0 : Int) ≤ (n : Int) := zC
 have n8 : (n : Int) ≤ 8 := zC
 clear h;go_enter Tryz.func262, Tryz.ntmps262
 go_wp2_with fail;refine HT.out.mono ?_
 rintro r w1 ⟨v, rfl, hv, hst⟩;obtain ⟨a1, c1, hfv, hv2, _⟩ := AN hv
 simp only [Au, AO] at hfv
 subst hfv;have HV := hid hv2
 have HST := hid hst
 clear hv hv2 hst;go_wp2_with fail;go_loopw [5, 14] (fun x i wr => ∃ j : Nat, j ≤ L.length ∧ i = .int .i64 j ∧ x = .int .u64 ((FG (L.take j) : Nat) : Int) ∧ w1 = wr) (fun _ i _ => L.length - (intOf i).toNat)
 case atStart => exact ⟨0, Aj _, rfl, rfl, rfl⟩
 case round =>
  obtain ⟨j, hj, rfl, rfl, rfl⟩ := hrel
  by_cases hlt2 : j < L.length
  ·have d1 : decide ((j : Int) < (L.length : Int)) = true := Ae zC
   have i1 : (j : Int) < (L.length : Int) := zC
   obtain ⟨b, o, rfl, _, hc⟩ := CO HV.out hlt2
   have hff := hid (show FG (L.take (j + 1)) = FG (L.take j) + L[j].toNat * 256 ^ j by
    rw [AU hlt2, M5]
    congr 3
    simp
    omega)
   have hX : FG (L.take j) < 256 ^ j := by
    have := RF (L.take j)
    rwa [K2, Nat.min_eq_left hj] at this
   have hb := L[j].toNat_lt
   have E := hid (UH (c := L[j].toNat) hX zC zC)
   have hXb : FG (L.take j) < 18446744073709551616 := Ai hX (A4 (G4 zP (show j ≤ 7 by omega)) zP)
   generalize L[j].toNat = y at *
   generalize FG (L.take j) = X at *
   clear hX;have m0 : (0 : Int) ≤ 8 * (j : Int) := zC
   have m1 : 8 * (j : Int) ≤ 64 := zC
   go_wp2_with fail;go_roundw
   case rel => exact ⟨j + 1, zC, zV, by rw [E.out, hff.out], by trivial⟩
   case measure => (simp [intOf]; try omega)
  ·obtain rfl : j = L.length := by omega
   have d1 : decide ((L.length : Int) < (L.length : Int)) = false := Ad zC
   rw [Es]
   go_wp2_with fail;go_ret;exact ⟨rfl, HST.out⟩
theorem O6 (m : Int) (w : World) : Calls Tryz.prog 261 #[.int .i64 m] w fun r w' => r = .returned (.int .i64 (min m 2097152)) ∧ w = w' := by
 by_cases h : m ≤ 2097152
 ·have e : min m 2097152 = m := by omega
  rw [e]
  clear e;go_enter Tryz.func261, Tryz.ntmps261
  go_wp2_with fail;go_ret;exact ⟨rfl, rfl⟩
 ·have e : min m 2097152 = 2097152 := by omega
  have h' : 2097152 < m := zC
  rw [e]
  clear e;go_enter Tryz.func261, Tryz.ntmps261
  go_wp2_with fail;go_ret;exact ⟨rfl, rfl⟩
theorem Ms {w : World} {g : Nat} {B : List UInt8} {a : Option Addr} {s : Rs} (h : AZ w g B a s) (D : List UInt8) (ad : Option Addr) (cd : Nat) (hD : Ah.r (· < w.heap.size) w [.slice ad D.length cd] D) (v : Nat) (p : Int) :
  Calls Tryz.prog 263 #[.slice ad D.length cd, .int .u64 (v : Int), .func (Fn.func 180) #[.pointer (some ⟨g, 0, none⟩)] #[], .int .i64 p] w fun r w' => r = .returned (.tuple #[]) ∧ AE w g B a (if Ct D = v then s else s.fail 6 p) w' := by
 have HC := hid (RI D ad _ cd w hD)
 have hlt := Kk D
 have HH := hid h
 clear h hD;generalize Ct D = q at *
 by_cases hq : q = v
 ·rw [Am hq]
  subst hq;have d1 : ((q : Int) != (q : Int)) = false := zO
  go_enter Tryz.func263, Tryz.ntmps263
  go_wp2_with fail;refine HC.out.mono ?_
  rintro r w1 ⟨rfl, hb⟩;have HST := hid (AE.later HH.out hb)
  clear hb;go_wp2_with fail;first | go_end0 | refine Al (Aw rfl _ _ _) rfl ?_
  exact ⟨rfl, HST.out⟩
 ·rw [An hq]
  have d1 : ((q : Int) != (v : Int)) = true := zJ
  clear hq;go_enter Tryz.func263, Tryz.ntmps263
  go_wp2_with fail;refine HC.out.mono ?_
  rintro r w1 ⟨rfl, hb⟩;have HST := hid (AE.later HH.out hb)
  have HF := hid (BB w1 HST.out.1 6 p zC)
  clear hb;go_wp2_with fail;refine HF.out.mono ?_
  rintro r w2 ⟨rfl, hst⟩;have HS2 := hid (AE.trans HST.out.2 hst)
  clear hst;go_wp2_with fail;first | go_end0 | refine Al (Aw rfl _ _ _) rfl ?_
  exact ⟨rfl, HS2.out⟩
def Rs.frame (B : List UInt8) (s : Rs) (m : Int) : Rs × List UInt8 :=
 let b := s.Er B (min m 2097152)
 let f := b.1.take B 4
 let r := if Ct b.2 = FG f.2 then f.1 else f.1.fail 6 b.1.p
 (r, if r.k = 0 then b.2 else [])
theorem QS (w : World) {g : Nat} {B : List UInt8} {a : Option Addr} {s : Rs} (h : AZ w g B a s) (hB : B.length ≤ 1000000000) (m : Int) (hm : -9223372036854775808 ≤ m ∧ m ≤ 9223372036854775807) :
  Calls Tryz.prog 245 #[.pointer (some ⟨g, 0, none⟩), .int .i64 m] w fun r w' => ∃ v, r = .returned v ∧ Ah.r (fun q => w.heap.size ≤ q ∧ q < w'.heap.size) w' [v] (s.frame B m).2 ∧ AE w g B a (s.frame B m).1 w' := by
 have hlt := h.blk.lt
 have HBD := hid (O6 m w)
 have HBL := hid (Ni w h zC (min m 2097152) zC)
 unfold Rs.frame;dsimp only;generalize s.Er B (min m 2097152) = P at *
 obtain ⟨s1, D⟩ := P
 dsimp only at *;have HFX := hid (fun (W : World) (hW : AZ W g B a s1) => (by have := Me W hW hB 4 zC; exact this : Calls Tryz.prog 262 #[.pointer (some ⟨g, 0, none⟩), .int .i64 4] W fun r w' => r = .returned (.int .u64 ((FG (s1.take B 4).2 : Nat) : Int)) ∧ AE W g B a (s1.take B 4).1 w'))
 have HAT := hid (fun (W : World) (hW : AZ W g B a s1) => Cc W hW)
 generalize s1.take B 4 = T at *
 obtain ⟨s2, F⟩ := T
 dsimp only at *;generalize FG F = v at *
 have HCK := hid (fun (W : World) (hW : AZ W g B a s2) (ad : Option Addr) (cd : Nat) (hD : Ah.r (· < W.heap.size) W [.slice ad D.length cd] D) => Ms hW D ad cd hD v (s1.p : Int))
 generalize (if Ct D = v then s2 else s2.fail 6 (s1.p : Int)) = s3 at *
 generalize hRS : (if s3.k = 0 then D else []) = RES
 have HRS := hid hRS
 generalize min m 2097152 = mm at *
 clear h hRS;by_cases hk : s3.k = 0
 ·have HG := hid (fun (V : World) (hV : AZ V g B a s3) => (by have := AH V hV; rw [Ae hk] at this; exact this : Calls Tryz.prog 44 #[.pointer (some ⟨g, 0, none⟩)] V fun r w' => r = .returned (.bool true) ∧ Below V.heap.size V w'))
  have HR2 : Hid (RES = D) := hid (by rw [← HRS.out]; exact Am hk)
  clear hk;go_enter Tryz.func245, Tryz.ntmps245
  go_wp2_with fail;refine HBD.out.mono ?_
  rintro r w0 ⟨rfl, rfl⟩;go_wp2_with fail;refine HBL.out.mono ?_
  rintro r w1 ⟨v1, rfl, hv1, hst1⟩;obtain ⟨ad, cd, hfv, hv2, _⟩ := AN hv1
  simp only [Au, AO] at hfv
  subst hfv;have HV1 := hid hv2
  have HS1 := hid hst1
  have hz1 := hst1.2.size
  clear hv1 hv2 hst1;go_wp2_with fail;refine (HAT.out w1 HS1.out.1).mono ?_
  rintro r w1' ⟨rfl, rfl⟩;go_wp2_with fail;refine (HFX.out w1 HS1.out.1).mono ?_
  rintro r w3 ⟨rfl, hst3⟩;have HV3 := hid (Ah.mono (Ah.keep HV1.out (w' := w3) fun q hq => hst3.2.block q hq.2 zY) (S' := fun q => w.heap.size ≤ q ∧ q < w3.heap.size) fun q hq => ⟨hq.1, Ai hq.2 hst3.2.size⟩)
  have HS3 := hid (AE.trans HS1.out.2 hst3)
  clear hst3;go_wp2_with fail;refine (HCK.out w3 HS3.out.1 ad cd (Ah.mono HV3.out fun q hq => hq.2)).mono ?_
  rintro r w4 ⟨rfl, hst4⟩;have HV4 := hid (Ah.mono (Ah.keep HV3.out (w' := w4) fun q hq => hst4.2.block q hq.2 zY) (S' := fun q => w.heap.size ≤ q ∧ q < w4.heap.size) fun q hq => ⟨hq.1, Ai hq.2 hst4.2.size⟩)
  have HS4 := hid (AE.trans HS3.out.2 hst4)
  clear hst4;go_wp2_with fail;refine (HG.out w4 HS4.out.1).mono ?_
  rintro r w5 ⟨rfl, hb5⟩;have HSE := hid (HS4.out.then hb5)
  have HVF := hid (show Ah.r (fun q => w.heap.size ≤ q ∧ q < w5.heap.size) w5 [.slice ad D.length cd] D from Ah.mono (Ah.keep HV4.out fun q hq => hb5.block q hq.2) fun q hq => ⟨hq.1, Ai hq.2 hb5.size⟩)
  clear hb5;go_wp2_with fail;go_ret;rw [HR2.out]
  exact ⟨_, rfl, HVF.out, HSE.out⟩
 ·have HG := hid (fun (V : World) (hV : AZ V g B a s3) => (by have := AH V hV; rw [Ad hk] at this; exact this : Calls Tryz.prog 44 #[.pointer (some ⟨g, 0, none⟩)] V fun r w' => r = .returned (.bool false) ∧ Below V.heap.size V w'))
  have HR2 : Hid (RES = []) := hid (by rw [← HRS.out]; exact An hk)
  clear hk;go_enter Tryz.func245, Tryz.ntmps245
  go_wp2_with fail;refine HBD.out.mono ?_
  rintro r w0 ⟨rfl, rfl⟩;go_wp2_with fail;refine HBL.out.mono ?_
  rintro r w1 ⟨v1, rfl, hv1, hst1⟩;obtain ⟨ad, cd, hfv, hv2, _⟩ := AN hv1
  simp only [Au, AO] at hfv
  subst hfv;have HV1 := hid hv2
  have HS1 := hid hst1
  have hz1 := hst1.2.size
  clear hv1 hv2 hst1;go_wp2_with fail;refine (HAT.out w1 HS1.out.1).mono ?_
  rintro r w1' ⟨rfl, rfl⟩;go_wp2_with fail;refine (HFX.out w1 HS1.out.1).mono ?_
  rintro r w3 ⟨rfl, hst3⟩;have HV3 := hid (Ah.mono (Ah.keep HV1.out (w' := w3) fun q hq => hst3.2.block q hq.2 zY) (S' := fun q => w.heap.size ≤ q ∧ q < w3.heap.size) fun q hq => ⟨hq.1, Ai hq.2 hst3.2.size⟩)
  have HS3 := hid (AE.trans HS1.out.2 hst3)
  clear hst3;go_wp2_with fail;refine (HCK.out w3 HS3.out.1 ad cd (Ah.mono HV3.out fun q hq => hq.2)).mono ?_
  rintro r w4 ⟨rfl, hst4⟩;have HV4 := hid (Ah.mono (Ah.keep HV3.out (w' := w4) fun q hq => hst4.2.block q hq.2 zY) (S' := fun q => w.heap.size ≤ q ∧ q < w4.heap.size) fun q hq => ⟨hq.1, Ai hq.2 hst4.2.size⟩)
  have HS4 := hid (AE.trans HS3.out.2 hst4)
  clear hst4;go_wp2_with fail;refine (HG.out w4 HS4.out.1).mono ?_
  rintro r w5 ⟨rfl, hb5⟩;have HSE := hid (HS4.out.then hb5)
  clear hb5;go_wp2_with fail;go_ret;rw [HR2.out]
  exact ⟨_, rfl, Bh (xs := []) rfl (Ak _) (Aj _) (.inl rfl), HSE.out⟩
def Cq : List UInt8 → Nat → List UInt8
 | [], _ => []
 | y :: Y, E => (y ^^^ UInt8.ofNat (E % 256)) :: Cq Y (E / 256)
theorem Ga : ∀ (Y : List UInt8) (E : Nat), (Cq Y E).length = Y.length
 | [], _ => rfl
 | y :: Y, E => by simp [Cq, Ga Y]
theorem Lj : ∀ Y : List UInt8, Cq Y 0 = Y
 | [] => rfl
 | y :: Y => by
  simp only [Cq, Nat.zero_mod, Nat.zero_div, Lj Y]
  simp
theorem MA : ∀ (Y : List UInt8) (E : Nat), Cq Y (E % 256 ^ Y.length) = Cq Y E
 | [], _ => rfl
 | y :: Y, E => by
  have h1 : E % 256 ^ (Y.length + 1) % 256 = E % 256 := Nat.mod_mod_of_dvd _ (by rw [CL]; exact Nat.dvd_mul_left _ _)
  have h2 : E % 256 ^ (Y.length + 1) / 256 = E / 256 % 256 ^ Y.length := by
   rw [CL, De, Nat.mod_mul_right_div_self]
  simp only [Cq, AQ, h1, h2, MA Y]
theorem JQ : ∀ (A C : List UInt8) (E : Nat), Cq (A ++ C) E = Cq A E ++ Cq C (E / 256 ^ A.length)
 | [], C, E => by simp [Cq]
 | y :: A, C, E => by
  simp only [Et, Cq, JQ A C, AQ]
  rw [F9, CL, De 256]
def Gu : Nat → Nat → Nat
 | 0, c => c
 | n + 1, c => Gu n (CF c)
theorem L7 : ∀ (a b c : Nat), Gu (a + b) c = Gu b (Gu a c)
 | 0, b, c => by rw [A3]; rfl
 | a + 1, b, c => by rw [Nat.add_right_comm]; exact L7 a b (CF c)
theorem Nd (c : Nat) (x : UInt8) : EU c x = Gu 8 (c ^^^ x.toNat) := rfl
theorem L2 (x : Nat) : CF (2 * x) = x := by
 unfold CF;rw [An zC]
 omega
theorem Ir : ∀ (n x : Nat), Gu n (2 ^ n * x) = x
 | 0, x => by simp [Gu]
 | n + 1, x => by
  rw [CL, De (2 ^ n) 2, Nat.mul_assoc, Gu, L2, Ir n]
theorem L6 : ∀ (n a h : Nat), Gu n (a ^^^ 2 ^ n * h) = Gu n a ^^^ h
 | 0, a, h => by simp [Gu]
 | n + 1, a, h => by
  rw [CL, De (2 ^ n) 2, Nat.mul_assoc, Gu, FI, L6 n]
  rfl
theorem Pg (a b : Nat) : CF (a ^^^ b) = CF a ^^^ CF b := by
 have hm : (a ^^^ b) % 2 = (a % 2 + b % 2) % 2 := by
  have h := Nat.xor_mod_two_pow (a := a) (b := b) (n := 1)
  rw [Nat.pow_one] at h
  rw [h]
  rcases EA a with e | e <;> rcases EA b with e' | e' <;> rw [e, e'] <;> decide
 have hd : (a ^^^ b) / 2 = a / 2 ^^^ b / 2 := Nat.xor_div_two
 unfold CF;rw [hm, hd]
 rcases EA a with e | e <;> rcases EA b with e' | e' <;> rw [e, e']
 ·simp
 ·rw [Am zP, An zP, Am zP, Cv]
 ·rw [Am zP, Am zP, An zP, Cv, Cv, Nat.xor_comm (b / 2)]
 ·rw [An zP, Am zP, Am zP]
  rw [Cv, Nat.xor_comm 2197175160 (b / 2 ^^^ 2197175160), Cv, JI, Nat.xor_zero]
theorem Ph : ∀ (n a b : Nat), Gu n (a ^^^ b) = Gu n a ^^^ Gu n b
 | 0, a, b => rfl
 | n + 1, a, b => by rw [Gu, Pg, Ph n]; rfl
theorem Nc : ∀ (n : Nat) {x : Nat}, x < 4294967296 → Gu n x = 0 → x = 0
 | 0, x, _, h => h
 | n + 1, x, hx, h => by
  have h1 := Nc n (Fk hx) h
  unfold CF at h1;split at h1
  ·have h2 := D8 (· ^^^ 2197175160) h1
   simp only [Cv, JI, Nat.xor_zero, Nat.zero_xor] at h2
   omega
  ·omega
theorem JO (E n : Nat) : E % 2 ^ n ^^^ 2 ^ n * (E / 2 ^ n) = E := by
 apply Nat.eq_of_testBit_eq
 intro i;rw [Nat.testBit_xor, Nat.testBit_mod_two_pow, Nat.testBit_two_pow_mul, Nat.testBit_div_two_pow]
 by_cases h : i < n
 ·simp [h, show ¬ n ≤ i by omega]
 ·simp [h, show n ≤ i by omega]
theorem L9 (y : UInt8) (E : Nat) : (y ^^^ UInt8.ofNat (E % 256)).toNat = y.toNat ^^^ E % 256 := by
 rw [UInt8.toNat_xor, F6]
 congr 1
 omega
theorem KR : ∀ (Y : List UInt8) (c c' E : Nat), DO c Y ^^^ DO c' (Cq Y E) ^^^ (E / 256 ^ Y.length) = Gu (8 * Y.length) (c ^^^ c' ^^^ E)
 | [], c, c', E => by simp [DO, Cq, Gu]
 | y :: Y, c, c', E => by
  have ih := KR Y (EU c y) (EU c' (y ^^^ UInt8.ofNat (E % 256))) (E / 256)
  have h1 : EU c y ^^^ EU c' (y ^^^ UInt8.ofNat (E % 256)) ^^^ E / 256 = Gu 8 (c ^^^ c' ^^^ E) := by
   have hE : c ^^^ c' ^^^ E = ((c ^^^ y.toNat) ^^^ (c' ^^^ (y.toNat ^^^ E % 256))) ^^^ 2 ^ 8 * (E / 256) := by
    have hs := JO E 8
    rw [show (2 : Nat) ^ 8 = 256 from rfl] at hs ⊢
    rw [show (c ^^^ y.toNat) ^^^ (c' ^^^ (y.toNat ^^^ E % 256)) ^^^ 256 * (E / 256) = c ^^^ (y.toNat ^^^ (c' ^^^ (y.toNat ^^^ (E % 256 ^^^ 256 * (E / 256))))) by simp only [Cv], hs]
    rw [Nat.xor_comm y.toNat (c' ^^^ (y.toNat ^^^ E)), Cv c', Nat.xor_comm y.toNat E, Cv E, JI, Nat.xor_zero, Cv]
   rw [hE, L6, Ph, Nd, Nd, L9]
  have h2 : DO c (y :: Y) ^^^ DO c' (Cq (y :: Y) E) ^^^ E / 256 ^ (y :: Y).length = DO (EU c y) Y ^^^ DO (EU c' (y ^^^ UInt8.ofNat (E % 256))) (Cq Y (E / 256)) ^^^ E / 256 / 256 ^ Y.length := by
   rw [F9, AQ, CL, De 256]
   rfl
  rw [h2, ih, h1, AQ, Nat.mul_add, Nat.add_comm, DA, L7]
theorem M4 : ∀ (k s F : Nat), FG (Cq (Cf k s) F) = (s ^^^ F) % 256 ^ k
 | 0, s, F => by simp [Cf, Cq, FG, Nat.mod_one]
 | k + 1, s, F => by
  have h1 : (UInt8.ofNat (s % 256)).toNat = s % 256 := by rw [F6]; omega
  have h2 : (s ^^^ F) % 256 = s % 256 ^^^ F % 256 := Nat.xor_mod_two_pow (n := 8)
  have h3 : (s ^^^ F) / 256 = s / 256 ^^^ F / 256 := Nat.xor_div_two_pow (n := 8)
  simp only [Cf, Cq, FG, L9, h1, M4 k]
  rw [CL, De (256 ^ k), Nat.mod_mul, h2, h3]
theorem RM {A : Nat} (h : A < 4294967296) : 4294967295 - A = 4294967295 ^^^ A := by
 apply Nat.eq_of_testBit_eq
 intro i;have h1 := Nat.testBit_two_pow_sub_succ (n := 32) (x := A) h i
 rw [show (2 : Nat) ^ 32 - (A + 1) = 4294967295 - A by omega] at h1
 have h2 := Nat.testBit_two_pow_sub_one 32 i
 rw [show (2 : Nat) ^ 32 - 1 = 4294967295 by decide] at h2
 rw [h1, Nat.testBit_xor, h2]
 by_cases hi : i < 32
 ·simp [hi]
 ·have : A.testBit i = false := Nat.testBit_lt_two_pow (Ai h (A4 (by decide : 4294967296 ≤ 2 ^ 32) (G4 zP zC)))
  simp [hi, this]
theorem Ra {P : List UInt8} {d at_ : Nat} (hd : d < 4294967296) (hat : at_ ≤ 8 * P.length + 32) (h : Ct (Cq P (d * 2 ^ at_)) = FG (Cq (Cf 4 (Ct P)) (d * 2 ^ at_ / 256 ^ P.length))) :
  Cq (P ++ Cf 4 (Ct P)) (d * 2 ^ at_) = P ++ Cf 4 (Ct P) := by
 have hm := KR P 4294967295 4294967295 (d * 2 ^ at_)
 rw [JI, Nat.zero_xor] at hm
 have hA := IA P (c := 4294967295) zP
 have hA' := IA (Cq P (d * 2 ^ at_)) (c := 4294967295) zP
 rw [M4] at h
 unfold Ct at h;rw [RM hA, RM hA'] at h
 have h256 : ∀ n : Nat, (256 : Nat) ^ n = 2 ^ (8 * n) := fun n => by rw [Nat.pow_mul]
 rw [h256] at h hm
 rw [h256] at h
 have hs := JO (d * 2 ^ at_ / 2 ^ (8 * P.length)) 32
 have e0 : (d * 2 ^ at_) % 2 ^ (8 * P.length + 32) = 0 := by
  have hT := JO (d * 2 ^ at_) (8 * P.length + 32)
  have hq : d * 2 ^ at_ / 2 ^ (8 * P.length + 32) = d * 2 ^ at_ / 2 ^ (8 * P.length) / 2 ^ 32 := by rw [F9, ← Nat.pow_add]
  have hlow : Gu (8 * P.length) (d * 2 ^ at_ % 2 ^ (8 * P.length + 32)) = 0 := by
   have hR : Gu (8 * P.length) (d * 2 ^ at_) = Gu (8 * P.length) (d * 2 ^ at_ % 2 ^ (8 * P.length + 32)) ^^^ 2 ^ 32 * (d * 2 ^ at_ / 2 ^ (8 * P.length) / 2 ^ 32) := by
    conv => lhs; rw [← hT]
    rw [Nat.pow_add, Nat.mul_assoc, L6, ← Nat.pow_add, hq]
   rw [hR] at hm
   have h4 : 8 * 4 = 32 := rfl
   rw [h4, Nat.xor_mod_two_pow, Nat.xor_mod_two_pow] at h
   rw [Ds (show (4294967295 : Nat) < 2 ^ 32 by decide), Ds (show DO 4294967295 P < 2 ^ 32 from hA)] at h
   generalize DO 4294967295 P = A at *
   generalize DO 4294967295 (Cq P (d * 2 ^ at_)) = A' at *
   generalize d * 2 ^ at_ / 2 ^ (8 * P.length) = F at *
   have hx : A' = A ^^^ F % 2 ^ 32 := by
    have := D8 (4294967295 ^^^ ·) h
    simp only [← Cv, JI, Nat.zero_xor] at this
    exact this
   rw [hx, ← Cv, JI, Nat.zero_xor] at hm
   have hs2 : F % 2 ^ 32 ^^^ F = 2 ^ 32 * (F / 2 ^ 32) := by
    have := D8 (F % 2 ^ 32 ^^^ ·) hs
    simp only [← Cv, JI, Nat.zero_xor] at this
    exact this.symm
   rw [hs2] at hm
   have := D8 (· ^^^ 2 ^ 32 * (F / 2 ^ 32)) hm
   simp only [Cv, JI, Nat.xor_zero] at this
   exact this.symm
  have he : d * 2 ^ at_ % 2 ^ (8 * P.length + 32) = 2 ^ at_ * (d % 2 ^ (8 * P.length + 32 - at_)) := by
   rw [De, ← Nat.mul_mod_mul_left, ← Nat.pow_add, Nat.add_sub_cancel' hat]
  rw [he] at hlow ⊢
  have hb : d % 2 ^ (8 * P.length + 32 - at_) < 4294967296 := Nat.lt_of_le_of_lt (Nat.mod_le _ _) hd
  generalize d % 2 ^ (8 * P.length + 32 - at_) = e at *
  have hz : e = 0 := by
   by_cases hc : at_ ≤ 8 * P.length
   ·rw [show 8 * P.length = at_ + (8 * P.length - at_) by omega, L7, Ir] at hlow
    exact Nc _ hb hlow
   ·rw [show at_ = 8 * P.length + (at_ - 8 * P.length) by omega, Nat.pow_add, Nat.mul_assoc, Ir] at hlow
    rcases Nat.mul_eq_zero.1 hlow with h0 | h0
    ·exact absurd h0 (Nat.ne_of_gt (Nat.two_pow_pos _))
    ·exact h0
  rw [hz, Nat.mul_zero]
 rw [← MA, h256, Ag, EG, Nat.mul_add, show 8 * 4 = 32 from rfl, e0, Lj]
end Go.Proofs.YtlbffbkbkajciaaGreat
namespace Go.Bs
open Go.RowKit
structure Wa where
 pos : Int
 count : Int
 at_ : Int
theorem QO {n : Int} (h : -9223372036854775808 ≤ n ∧ n ≤ 9223372036854775807) : (Lit.int .i64 n).wf = true := by
 simp [Lit.wf, IntKind.min, IntKind.max, IntKind.signed, IntKind.bits]; omega
end Go.Bs
namespace Go.Proofs.YtlbffbkbkajciaaGreat
open Go.RowKit Go.Bs Go.Maps
end Go.Proofs.YtlbffbkbkajciaaGreat
namespace Go.Bs
open Go.RowKit
end Go.Bs
namespace Go.Proofs.YtlbffbkbkajciaaGreat
open Go.RowKit Go.Bs Go.Maps
theorem At.at {w1 w : World} {g base most : Nat} {J : List UInt8} {a : Option Addr} (h : At w1 g base most J a w) : ∃ a' c', BR w g base most J a' c' ∧ (∀ (J' : List UInt8) (w' : World), At w g base most J' a' w' → At w1 g base most J' a w') := by
 obtain ⟨a', c', h1, h2, h3⟩ := h
 exact ⟨a', c', h1, fun J' w' k => At.trans (J := J) h2 h3 k⟩
theorem At.blk {w1 w : World} {g base most : Nat} {J : List UInt8} {a : Option Addr} (h : At w1 g base most J a w) {b : Nat} {t : TypeId} {cs : Array Value} (hB : Blk w1 b t cs) (hn : ¬ Dr g a b) : Blk w b t cs := by
 obtain ⟨a', c', h1, h2, h3⟩ := h
 exact hB.tch h2 hn
theorem At.tch {w1 w : World} {g base most : Nat} {J : List UInt8} {a : Option Addr} (h : At w1 g base most J a w) : Tch (Dr g a) w1 w := by
 obtain ⟨a', c', h1, h2, h3⟩ := h
 exact h2
end Go.Proofs.YtlbffbkbkajciaaGreat
namespace Go.Bs
open Go.RowKit
structure Vl where
 ep : Int
 n : Int
 en : Int
 first : Int
 fin : Int
 at_ : Int
 size : Int
def Vl.val (f : Vl) : Array Value := #[.int .u64 f.ep, .int .i64 f.n, .int .i64 f.en, .int .u64 f.first, .int .u64 f.fin, .int .i64 f.at_, .int .i64 f.size]
end Go.Bs
namespace Go.Proofs.YtlbffbkbkajciaaGreat
open Go.RowKit Go.Bs Go.Maps
end Go.Proofs.YtlbffbkbkajciaaGreat
