/- Mini: Needed by rpcTells_walk, part 9: texts put together by shake.py; no condition. -/
import Derived.Test.YtlbffbkbkajciaaGreatZR5
import Derived.Test.YtlbffbkbkajciaaGreatZR4
import Derived.Test.YtlbffbkbkajciaaGreatZR2
import Derived.Test.YtlbffbkbkajciaaGreatZR8
import Derived.Deep.AppendLies
import Derived.Deep.RegionLaw
import Derived.Test.YtlbffbkbkajciaaGreatZR7
import Derived.Test.YtlbffbkbkajciaaGreatZR6
import Derived.Deep.Cut
import Derived.Deep.CutRange
import Derived.BigRegion
import Derived.Test.YtlbffbkbkajciaaGreatZR3
import Derived.Laws.Bits64
import Derived.Scope
import Derived.Test.YtlbffbkbkajciaaGreatZR1
set_option linter.unusedVariables false
set_option linter.unusedSimpArgs false
set_option maxRecDepth 100000
set_option maxHeartbeats 6400000
namespace Go.Bs
theorem zB9{p:Prop}(h:p:=by simp [Bv]):p:=h
theorem zAm{p:Prop}(h:p:=by rw [hff.out, hfin.out]; rfl):p:=h
theorem zAl{p:Prop}(h:p:=by simp [results, Tryz.results236, go_sem, n0, n1, n2, ln]):p:=h
theorem zAg{p:Prop}(h:p:=by have := hb.1; omega):p:=h
theorem ZY{p:Prop}(h:p:=by unfold Bm; dsimp only; rw [hG]):p:=h
theorem ZW{p:Prop}(h:p:=by simp [results, Tryz.results196, go_sem, n0, n1, ln]):p:=h
theorem ZR{p:Prop}(h:p:=by unfold Bm; dsimp only; rw [Ad hG]; rfl):p:=h
theorem DF:type_of% @Decidable.byContradiction:=@Decidable.byContradiction
end Go.Bs
namespace Go.Proofs.YtlbffbkbkajciaaGreat
open Go.RowKit Go.Bs Go.Maps
theorem Rs.LN {B : List UInt8} {s : Rs} {m : Int} (h : (s.many B m).1.k = 0) : 1 ≤ (s.many B m).2 := by
 unfold Rs.many at *;dsimp only at *;split at h
 ·exact absurd h (Rs.CU zC)
 ·omega
theorem Rs.Kz {B : List UInt8} {s : Rs} {out : List Int} (h : s.k ≠ 0) : ∀ n, (Rs.EZ B n s out).1.k ≠ 0
 | 0 => h
 | n + 1 => by
  unfold Rs.EZ;rw [Rs.D5 h, An h]
  exact h
theorem Rs.Ji {B : List UInt8} : ∀ (n : Nat) (s : Rs) (out : List Int), (Rs.EZ B n s out).1.k = 0 → (Rs.EZ B n s out).2.length = n + out.length
 | 0, s, out, _ => by simp [Rs.EZ]
 | n + 1, s, out, h => by
  unfold Rs.EZ at h ⊢;split at h
  ·rename_i h1
   rw [Am h1]
   split at h
   ·exact absurd h (Rs.CU zC)
   ·rename_i h2
    rw [An h2]
    rw [Rs.Ji n _ _ h]
    simp
    omega
  ·rename_i h1
   exact absurd h h1
theorem Lp (w : World) {g : Nat} {B : List UInt8} {a : Option Addr} {s : Rs} (h : AZ w g B a s) (hB : B.length ≤ 1000000000) (O : List (List Int)) (ao : Option Addr) (no co : Nat) (ho : DW.r (fun q => q < w.heap.size ∧ q ≠ g) w [.slice ao no co] O) :
  Calls Tryz.prog 257 #[.pointer (some ⟨g, 0, none⟩), .slice ao no co] w fun r w' => ∃ v, r = .returned v ∧ AY.r (fun q => w.heap.size ≤ q ∧ q < w'.heap.size) w' [v] (s.FT B O).2 ∧ AE w g B a (s.FT B O).1 w' := by
 have hlt := h.blk.lt
 have HIN := hid (Dc.refl h)
 have HMN := hid (Ku w h hB 8 zC)
 have hnl := Rs.Jt (B := B) (s := s) (m := 8)
 have hnp := Rs.LN (B := B) (s := s) (m := 8)
 have HO := hid ho
 clear h ho;unfold Rs.FT;dsimp only;generalize s.many B 8 = R at *
 obtain ⟨s1, n⟩ := R
 dsimp only at *;have HZR := hid (fun (W : World) (hW : AZ W g B a s1) => Oa W hW hB n zC)
 have hbd := fun hk => Rs.Kz (B := B) (s := s1) (out := []) hk n
 have hrl := Rs.Ji (B := B) n s1 []
 generalize Rs.EZ B n s1 [] = R at *
 obtain ⟨s2, L⟩ := R
 dsimp only at *;by_cases hk : s2.k = 0
 ·rw [Am hk]
  have HK : decide (s2.k = 0) = true := Ae hk
  have hk1 : s1.k = 0 := DF fun hh => hbd hh hk
  have hL := hrl hk
  simp only [Bu, BE] at hL
  have hL1 : 1 ≤ L.length := by have := hnp hk1; omega
  obtain ⟨m, hm⟩ : ∃ m, L.length = m + 1 := ⟨L.length - 1, zC⟩
  have hla := Jw L hL1
  have HLAST : Hid (∀ hh : m < L.length, L[m] = L.getLastD 0) := hid (fun hh => by rw [hla]; congr 1; omega)
  have j1 : (L.length : Int) - 1 = (m : Int) := zC
  have j2 : (0 : Int) ≤ (L.length : Int) - 1 := zC
  have j3 : (m : Int) < (L.length : Int) := zC
  generalize L.getLastD 0 = q at *
  have HM := hid hm
  clear hbd hrl hnp hk hk1 hla hL hm;by_cases hq : 4294967295 < q
  ·rw [Am hq]
   have d1 : decide (4294967295 < q) = true := Ae hq
   go_enter Tryz.func257, Tryz.ntmps257
   go_wp2_with fail;refine HMN.out.mono ?_
   rintro r w1 ⟨rfl, hst⟩;have HIN1 := hid (HIN.out.step hst)
   clear hst;go_wp2_with fail;refine (Cc w1 HIN1.out.rd).mono ?_
   rintro r w2 ⟨rfl, rfl⟩;go_wp2_with fail;refine (HZR.out _ HIN1.out.rd).mono ?_
   rintro r w3 ⟨v, rfl, hv, hst⟩;obtain ⟨av, cv, e, hv2, hlen⟩ := AN hv
   cases e;have HIN3 := hid (HIN1.out.step hst)
   have HV := hid (AY.mono hv fun q hq => (⟨A4 HIN1.out.tch.size hq.1, hq.2⟩ : w.heap.size ≤ q ∧ q < w3.heap.size))
   have hg := AH w3 HIN3.out.rd
   rw [HK] at hg
   have HG := hid hg
   clear hst hv hv2 hg;go_wp2_with fail;refine HG.out.mono ?_
   rintro r w4 ⟨rfl, hb4⟩;have HIN4 := hid (HIN3.out.step (AE.later HIN3.out.rd hb4))
   have HV4 := hid (AY.mono (AY.keep HV.out fun q hq => hb4.block q hq.2) fun q hq => (⟨hq.1, Ai hq.2 hb4.size⟩ : w.heap.size ≤ q ∧ q < w4.heap.size))
   clear hb4;obtain ⟨b, o, rfl, _, hc, _⟩ := Cw HV4.out (i := m) (by have := HM.out; omega)
   rw [HLAST.out] at hc
   go_wp2_with fail;refine (BB w4 HIN4.out.rd 3 (s1.p : Int) zC).mono ?_
   rintro r w5 ⟨rfl, hst⟩;have HV5 := hid (AY.mono (AY.keep HV4.out fun q hq => hst.2.block q hq.2 zY) fun q hq => (⟨hq.1, Ai hq.2 hst.2.size⟩ : w.heap.size ≤ q ∧ q < w5.heap.size))
   have HIN5 := hid (HIN4.out.step hst)
   clear hst;go_wp2;go_ret;exact ⟨_, rfl, HV5.out, HIN5.out.to⟩
  ·rw [An hq]
   have d1 : decide (4294967295 < q) = false := Ad hq
   by_cases hap : Cp L O = true
   ·rw [Am hap]
    have HAP := hap
    clear hap;go_enter Tryz.func257, Tryz.ntmps257
    go_wp2_with fail;refine HMN.out.mono ?_
    rintro r w1 ⟨rfl, hst⟩;have HIN1 := hid (HIN.out.step hst)
    clear hst;go_wp2_with fail;refine (Cc w1 HIN1.out.rd).mono ?_
    rintro r w2 ⟨rfl, rfl⟩;go_wp2_with fail;refine (HZR.out _ HIN1.out.rd).mono ?_
    rintro r w3 ⟨v, rfl, hv, hst⟩;obtain ⟨av, cv, e, hv2, hlen⟩ := AN hv
    cases e;have HIN3 := hid (HIN1.out.step hst)
    have HV := hid (AY.mono hv fun q hq => (⟨A4 HIN1.out.tch.size hq.1, hq.2⟩ : w.heap.size ≤ q ∧ q < w3.heap.size))
    have hg := AH w3 HIN3.out.rd
    rw [HK] at hg
    have HG := hid hg
    clear hst hv hv2 hg;go_wp2_with fail;refine HG.out.mono ?_
    rintro r w4 ⟨rfl, hb4⟩;have HIN4 := hid (HIN3.out.step (AE.later HIN3.out.rd hb4))
    have HV4 := hid (AY.mono (AY.keep HV.out fun q hq => hb4.block q hq.2) fun q hq => (⟨hq.1, Ai hq.2 hb4.size⟩ : w.heap.size ≤ q ∧ q < w4.heap.size))
    clear hb4;obtain ⟨b, o, rfl, _, hc, _⟩ := Cw HV4.out (i := m) (by have := HM.out; omega)
    rw [HLAST.out] at hc
    go_wp2_with fail;refine (DZ L O (some ⟨b, o, none⟩) L.length cv ao no co w4 (AY.mono HV4.out fun q hq => hq.2) (DW.mono (DW.keep HO.out fun q hq => HIN4.out.tch.block q hq.1 hq.2) fun q hq => Ai hq.1 HIN4.out.tch.size)).mono ?_
    rw [HAP]
    rintro r w5 ⟨rfl, hb5⟩;have hst := AE.later HIN4.out.rd hb5
    have HV5 := hid (AY.mono (AY.keep HV4.out fun q hq => hst.2.block q hq.2 zY) fun q hq => (⟨hq.1, Ai hq.2 hst.2.size⟩ : w.heap.size ≤ q ∧ q < w5.heap.size))
    have HIN5 := hid (HIN4.out.step hst)
    clear hst;go_wp2;go_ret;exact ⟨_, rfl, HV5.out, HIN5.out.to⟩
   ·rw [An hap]
    have HAP := Bool.eq_false_iff.2 hap
    clear hap;go_enter Tryz.func257, Tryz.ntmps257
    go_wp2_with fail;refine HMN.out.mono ?_
    rintro r w1 ⟨rfl, hst⟩;have HIN1 := hid (HIN.out.step hst)
    clear hst;go_wp2_with fail;refine (Cc w1 HIN1.out.rd).mono ?_
    rintro r w2 ⟨rfl, rfl⟩;go_wp2_with fail;refine (HZR.out _ HIN1.out.rd).mono ?_
    rintro r w3 ⟨v, rfl, hv, hst⟩;obtain ⟨av, cv, e, hv2, hlen⟩ := AN hv
    cases e;have HIN3 := hid (HIN1.out.step hst)
    have HV := hid (AY.mono hv fun q hq => (⟨A4 HIN1.out.tch.size hq.1, hq.2⟩ : w.heap.size ≤ q ∧ q < w3.heap.size))
    have hg := AH w3 HIN3.out.rd
    rw [HK] at hg
    have HG := hid hg
    clear hst hv hv2 hg;go_wp2_with fail;refine HG.out.mono ?_
    rintro r w4 ⟨rfl, hb4⟩;have HIN4 := hid (HIN3.out.step (AE.later HIN3.out.rd hb4))
    have HV4 := hid (AY.mono (AY.keep HV.out fun q hq => hb4.block q hq.2) fun q hq => (⟨hq.1, Ai hq.2 hb4.size⟩ : w.heap.size ≤ q ∧ q < w4.heap.size))
    clear hb4;obtain ⟨b, o, rfl, _, hc, _⟩ := Cw HV4.out (i := m) (by have := HM.out; omega)
    rw [HLAST.out] at hc
    go_wp2_with fail;refine (DZ L O (some ⟨b, o, none⟩) L.length cv ao no co w4 (AY.mono HV4.out fun q hq => hq.2) (DW.mono (DW.keep HO.out fun q hq => HIN4.out.tch.block q hq.1 hq.2) fun q hq => Ai hq.1 HIN4.out.tch.size)).mono ?_
    rw [HAP]
    rintro r w5 ⟨rfl, hb5⟩;have hst := AE.later HIN4.out.rd hb5
    have HV5 := hid (AY.mono (AY.keep HV4.out fun q hq => hst.2.block q hq.2 zY) fun q hq => (⟨hq.1, Ai hq.2 hst.2.size⟩ : w.heap.size ≤ q ∧ q < w5.heap.size))
    have HIN5 := hid (HIN4.out.step hst)
    clear hst;go_wp2_with fail;refine (BB w5 HIN5.out.rd 13 (s1.p : Int) zC).mono ?_
    rintro r w6 ⟨rfl, hst⟩;have HV6 := hid (AY.mono (AY.keep HV5.out fun q hq => hst.2.block q hq.2 zY) fun q hq => (⟨hq.1, Ai hq.2 hst.2.size⟩ : w.heap.size ≤ q ∧ q < w6.heap.size))
    have HIN6 := hid (HIN5.out.step hst)
    clear hst;go_wp2;go_ret;exact ⟨_, rfl, HV6.out, HIN6.out.to⟩
 ·rw [An hk]
  have HK : decide (s2.k = 0) = false := Ad hk
  clear hbd hrl hnp hk;go_enter Tryz.func257, Tryz.ntmps257
  go_wp2_with fail;refine HMN.out.mono ?_
  rintro r w1 ⟨rfl, hst⟩;have HIN1 := hid (HIN.out.step hst)
  clear hst;go_wp2_with fail;refine (Cc w1 HIN1.out.rd).mono ?_
  rintro r w2 ⟨rfl, rfl⟩;go_wp2_with fail;refine (HZR.out _ HIN1.out.rd).mono ?_
  rintro r w3 ⟨v, rfl, hv, hst⟩;obtain ⟨av, cv, e, hv2, hlen⟩ := AN hv
  cases e;have HIN3 := hid (HIN1.out.step hst)
  have HV := hid (AY.mono hv fun q hq => (⟨A4 HIN1.out.tch.size hq.1, hq.2⟩ : w.heap.size ≤ q ∧ q < w3.heap.size))
  have hg := AH w3 HIN3.out.rd
  rw [HK] at hg
  have HG := hid hg
  clear hst hv hv2 hg;go_wp2_with fail;refine HG.out.mono ?_
  rintro r w4 ⟨rfl, hb4⟩;have HIN4 := hid (HIN3.out.step (AE.later HIN3.out.rd hb4))
  have HV4 := hid (AY.mono (AY.keep HV.out fun q hq => hb4.block q hq.2) fun q hq => (⟨hq.1, Ai hq.2 hb4.size⟩ : w.heap.size ≤ q ∧ q < w4.heap.size))
  clear hb4;go_wp2;go_ret;exact ⟨_, rfl, Bh (xs := []) rfl (Ak _) (Aj _) (.inl rfl), HIN4.out.to⟩
theorem Rs.R3 {B : List UInt8} {s : Rs} (h : s.k ≠ 0) : s.tl B = (s, 0) := by
 unfold Rs.tl;rw [Rs.D5 h, An h]
theorem Rs.L1 {B : List UInt8} {s : Rs} (h : s.k ≠ 0) : s.ep B = (s, 0) := by
 unfold Rs.ep;rw [Rs.D5 h, An h]
theorem Rs.Jq {B : List UInt8} {s : Rs} {m : Nat} (h : s.k ≠ 0) : s.most B m = (s, 0) := by
 unfold Rs.most;rw [Rs.D5 h]
 dsimp only;rw [Rs.Ch h]
 split <;> (try split) <;> rfl
theorem Rs.Io {B : List UInt8} {s : Rs} {m : Int} (h : s.k ≠ 0) : s.int B m = (s, 0) := by
 unfold Rs.int;split
 ·rw [Rs.Jq h]
 ·rw [Rs.D5 h]
  dsimp only;first | rfl | (rw [Rs.Ch h])
theorem Rs.Kw {B : List UInt8} {s : Rs} (h : s.k ≠ 0) : s.seal_ B = (s, Dw) := by
 unfold Rs.seal_;rw [Rs.L1 h]
 dsimp only;rw [Rs.Jq h]
 dsimp only;rw [Rs.R3 h]
 dsimp only;rw [An h]
theorem Rs.FF {B : List UInt8} {s : Rs} {m : Int} (h : s.k ≠ 0) : s.many B m = (s, 0) := by
 unfold Rs.many;rw [Rs.Io h]
 dsimp only;rw [Am rfl, Rs.Ch h]
theorem Rs.PR {B : List UInt8} {s : Rs} {O : List (List Int)} (h : s.k ≠ 0) : s.FT B O = (s, []) := by
 unfold Rs.FT;rw [Rs.FF h]
 exact An h
theorem Rs.Oh {B : List UInt8} {s : Rs} {lo : Int} (h : s.k ≠ 0) : s.span B lo = (s, 0) := by
 unfold Rs.span;dsimp only;rw [show (if 4611686018427387904 < lo then s.fail 3 s.p else s) = s by rw [Rs.Ch h]; split <;> rfl, Rs.D5 h]
 dsimp only;rw [Rs.Ch h]
 split <;> rfl
theorem Rs.GN {B : List UInt8} {s : Rs} {lo : Int} (h : s.k ≠ 0) : s.BY B lo = (s, GX) := by
 unfold Rs.BY;rw [Rs.Oh h]
 dsimp only;rw [Rs.FF h]
 exact An h
theorem Rs.KJ {B : List UInt8} {s : Rs} (h : s.k ≠ 0) : s.Ew B = (s, DL) := by
 unfold Rs.Ew;rw [Rs.L1 h]
 dsimp only;rw [Rs.FF h]
 have e : (if (Rs.Dv B 0 s 0 []).2.1 = 4611686018427387904 then (Rs.Dv B 0 s 0 []).1 else (Rs.Dv B 0 s 0 []).1.fail 3 (Rs.Dv B 0 s 0 []).1.p) = s := (An (show ¬ ((0 : Int) = 4611686018427387904) by omega)).trans (Rs.Ch h)
 rw [e]
 exact An h
theorem Rs.VU {B : List UInt8} {s : Rs} {O : List (List Int)} (h : (s.FT B O).1.k = 0) : s.k = 0 :=
 DF fun hh => by rw [Rs.PR hh] at h; exact hh h
theorem Rs.TV {B : List UInt8} {s : Rs} {m : Int} (h : (s.many B m).1.k = 0) : s.k = 0 :=
 DF fun hh => by rw [Rs.FF hh] at h; exact hh h
theorem Rs.Tg {B : List UInt8} {s : Rs} {lo : Int} (h : (s.BY B lo).1.k = 0) : s.k = 0 :=
 DF fun hh => by rw [Rs.GN hh] at h; exact hh h
theorem Rs.UC {B : List UInt8} {s : Rs} {O : List (List Int)} (h : (s.FT B O).1.k = 0) : (s.FT B O).2.length ≤ 8 := by
 unfold Rs.FT at h ⊢;dsimp only at h ⊢;have hl := Rs.Ji (B := B) (s.many B 8).2 (s.many B 8).1 []
 have hm : (s.many B 8).2 ≤ 8 := Rs.Jt (m := 8)
 simp only [Bu, BE] at hl
 generalize Rs.EZ B (s.many B 8).2 (s.many B 8).1 [] = f at *
 split at h
 ·rename_i h1
  have := hl h1
  rw [Am h1]
  split
  ·dsimp only; omega
  ·split
   ·omega
   ·dsimp only; omega
 ·rename_i h1
  exact absurd h h1
theorem MJ : ∀ (l : List Int) (x : Int), Ba l = true → (l ≠ [] → l.getLastD 0 < x) → Ba (l ++ [x]) = true
 | [], x, _, _ => rfl
 | [y], x, _, h => by
  have := h zO
  simp [Ba] at this ⊢
  exact this
 | y :: z :: l, x, h, hx => by
  simp only [Ba, Ao, Ar] at h
  have hx2 := hx zO
  have := MJ (z :: l) x h.2 (fun _ => by simpa using hx2)
  simp only [Et, Ba, Ao, Ar] at this ⊢
  exact ⟨h.1, this⟩
theorem Rs.LD {B : List UInt8} : ∀ (n : Nat) (s : Rs) (out : List Int), Ba out = true → (Rs.EZ B n s out).1.k = 0 → Ba (Rs.EZ B n s out).2 = true
 | 0, s, out, h, _ => h
 | n + 1, s, out, h, hk => by
  unfold Rs.EZ at hk ⊢;split at hk
  ·rename_i h1
   rw [Am h1]
   split at hk
   ·exact absurd hk (Rs.CU zC)
   ·rename_i h2
    rw [An h2]
    refine Rs.LD n _ _ (MJ _ _ h fun hne => ?_) hk
    rw [An hne]
    omega
  ·rename_i h1
   exact absurd hk h1
theorem Rs.Vq {B : List UInt8} {s : Rs} {O : List (List Int)} (h : (s.FT B O).1.k = 0) : CT (s.FT B O).2 = true ∧ Cp (s.FT B O).2 O = true := by
 have hle := Rs.UC h
 unfold Rs.FT at h hle ⊢;dsimp only at h hle ⊢;have hl := Rs.Ji (B := B) (s.many B 8).2 (s.many B 8).1 []
 have hr := Rs.LD (B := B) (s.many B 8).2 (s.many B 8).1 [] rfl
 have hb := fun hk => Rs.Kz (B := B) (s := (s.many B 8).1) (out := []) hk (s.many B 8).2
 have hp := Rs.LN (B := B) (s := s) (m := 8)
 simp only [Bu, BE] at hl
 generalize Rs.EZ B (s.many B 8).2 (s.many B 8).1 [] = f at *
 split at h
 ·rename_i h1
  rw [Am h1] at hle ⊢
  have hk1 : (s.many B 8).1.k = 0 := DF fun hh => hb hh h1
  have := hl h1
  have := hp hk1
  split at h
  ·exact absurd h (Rs.CU zC)
  ·rename_i h2
   rw [An h2] at hle ⊢
   split at h
   ·rename_i h3
    rw [Am h3] at hle ⊢
    refine ⟨?_, h3⟩
    unfold CT;rw [hr h1, Ae (show 1 ≤ f.2.length ∧ f.2.length ≤ 8 from ⟨zC, hle⟩), Ae zC]
    rfl
   ·exact absurd h (Rs.CU zC)
 ·rename_i h1
  exact absurd h h1
theorem Tk {L : List (List Int)} {x : List Int} {i : Nat} (h : i < L.length) : Fu (L ++ [x]) i = Fu L i := by
 unfold Fu;rw [show (L ++ [x]).getD i [] = L.getD i [] by simp [G5, Bq h], List.take_append_of_le_length zC]
theorem ME {L : List (List Int)} {x : List Int} : ∀ n, n ≤ L.length → Bv (L ++ [x]) n = Bv L n
 | 0, _ => rfl
 | n + 1, h => by
  unfold Bv;rw [ME n zC, Tk zC]
theorem PQ {L : List (List Int)} {x : List Int} (h : Bv L L.length = true) (hn : CT x = true) (ha : Cp x L = true) : Bv (L ++ [x]) (L ++ [x]).length = true := by
 rw [Ag]
 show (Bv (L ++ [x]) L.length && Fu (L ++ [x]) L.length) = true
 have e : (L ++ [x]).getD L.length [] = x := by simp [G5]
 rw [ME _ (Ak _), h]
 unfold Fu;rw [e, List.take_left, hn, ha]
 rfl
theorem Rs.Rx {B : List UInt8} : ∀ (n : Nat) (s : Rs) (out : List (List Int)), Bv out out.length = true → (Rs.Ft B n s out).1.k = 0 → Bv (Rs.Ft B n s out).2 (Rs.Ft B n s out).2.length = true ∧ (Rs.Ft B n s out).2.length = n + out.length
 | 0, s, out, h, _ => ⟨h, by simp [Rs.Ft]⟩
 | n + 1, s, out, h, hk => by
  unfold Rs.Ft at hk ⊢;split at hk
  ·rename_i h1
   rw [Am h1]
   obtain ⟨h2, h3⟩ := Rs.Vq h1
   obtain ⟨h4, h5⟩ := Rs.Rx n _ _ (PQ h h2 h3) hk
   refine ⟨h4, ?_⟩
   rw [h5, Ag]
   simp
   omega
  ·rename_i h1
   exact absurd hk h1
theorem Rs.Tj {B : List UInt8} {s : Rs} (n : Nat) {out : List (List Int)} (h : (Rs.Ft B n s out).1.k = 0) : s.k = 0 := by
 cases n with
 | zero => exact h
 | succ n =>
  unfold Rs.Ft at h;split at h
  ·rename_i h1
   exact Rs.VU h1
  ·rename_i h1
   exact absurd h h1
theorem Rs.Rv {B : List UInt8} {s : Rs} {lo : Int} (h : (s.span B lo).1.k = 0) : lo ≤ 4611686018427387904 ∧ lo + (s.span B lo).2 + 1 ≤ 4611686018427387904 := by
 unfold Rs.span at h ⊢;dsimp only at h ⊢;by_cases hlo : 4611686018427387904 < lo
 ·rw [Am hlo] at h
  have hb : (s.fail 3 s.p).k ≠ 0 := Rs.CU zC
  rw [Rs.D5 hb] at h
  dsimp only at h;rw [Rs.Ch hb] at h
  split at h <;> exact absurd h hb
 ·rw [An hlo] at h ⊢
  split at h
  ·exact absurd h (Rs.CU zC)
  ·rename_i h2
   constructor
   ·omega
   ·omega
theorem Rs.R5 {B : List UInt8} {s : Rs} {lo : Int} (h : (s.BY B lo).1.k = 0) : Bm (s.BY B lo).2 = true ∧ (s.BY B lo).2.lo = lo := by
 unfold Rs.BY at h ⊢;dsimp only at h ⊢;have h1 := Rs.Rx (B := B) ((s.span B lo).1.many B 8).2 ((s.span B lo).1.many B 8).1 [] rfl
 have h2 := Rs.Tj (B := B) (s := ((s.span B lo).1.many B 8).1) ((s.span B lo).1.many B 8).2 (out := [])
 have h3 := Rs.TV (B := B) (s := (s.span B lo).1) (m := 8)
 have h4 := Rs.LN (B := B) (s := (s.span B lo).1) (m := 8)
 have h5 : ((s.span B lo).1.many B 8).2 ≤ 8 := Rs.Jt (m := 8)
 have h6 := Rs.Rv (B := B) (s := s) (lo := lo)
 generalize Rs.Ft B ((s.span B lo).1.many B 8).2 ((s.span B lo).1.many B 8).1 [] = u at *
 split at h
 ·rename_i hk
  rw [Am hk]
  obtain ⟨a1, a2⟩ := h1 hk
  have hk2 := h2 hk
  obtain ⟨a3, a4⟩ := h6 (h3 hk2)
  have a5 := h4 hk2
  simp only [Bu, BE] at a2
  refine ⟨?_, rfl⟩
  unfold Bm;dsimp only;rw [a1, Ae zC]
  rfl
 ·rename_i hk
  exact absurd h hk
open Go.RowKit Go.Bs
theorem T4 : (Tryz.prog.info? 23).map (fun i => (i.zero, i.size, i.bytes)) = some (some (.slice none 0 0), 1, 24) := zG
theorem QN : (Tryz.prog.info? 155).map (fun i => (i.zero, i.size, i.bytes)) = some (some (.agg #[.int .u64 0, .int .u64 0, .slice none 0 0]), 3, 40) := zG
theorem A6.Uy {w w' : World} {α : Type} {lo : Nat} {A : Rp α} {e : TypeId} {sz : Nat} {v : Value} {xs : List α} {F : Nat → Prop} (h : A6 lo A lo e sz w v xs) (hb : Tch F w w') (hF : ∀ b, lo ≤ b → b < w.heap.size → ¬ F b) : A6 lo A lo e sz w' v xs := by
 have hk : ∀ b, lo ≤ b → b < w.heap.size → w'.heap[b]? = w.heap[b]? := fun b h1 h2 => hb.block b h2 (hF b h1 h2)
 obtain ⟨cells, ho, hlen, hsz, hA⟩ := h
 refine ⟨cells, ⟨ho.1, ?_⟩, hlen, hsz, fun i cs x hi hx => A.mono (A.keep (hA i cs x hi hx) fun b h => hk b h.1 h.2.1) fun b h => ⟨h.1, Ai h.2.1 hb.size, h.2.2⟩⟩
 rcases ho.2 with h0 | ⟨g', cap, cur, h1, h2, h3, h4⟩
 ·exact .inl h0
 ·exact .inr ⟨g', cap, cur, h1, h2, (hk _ h2 (Blk.lt h3)).trans h3, h4⟩
theorem IJ {w : World} {g : Nat} {t : TypeId} {v0 v1 v2 : Value} (h : Blk w g t #[v0, v1, v2]) : w.cell? ⟨g, 0, none⟩ = some v0 ∧ w.cell? ⟨g, 1, none⟩ = some v1 ∧ w.cell? ⟨g, 2, none⟩ = some v2 ∧ w.frozen? ⟨g, 0, none⟩ = false ∧ w.frozen? ⟨g, 1, none⟩ = false ∧ w.frozen? ⟨g, 2, none⟩ = false ∧ g < w.heap.size :=
 ⟨h.cell 0, h.cell 1, h.cell 2, h.free 0, h.free 1, h.free 2, h.lt⟩
theorem U3 {w : World} {g : Nat} {t : TypeId} {cs : Array Value} (h : Blk w g t cs) (i : Nat) : w.frozen? ⟨g, i, none⟩ = false := h.free i
theorem GV (w : World) (p : Addr) (u : Value) : (w.setCell p u).heap.size = w.heap.size := ZT
theorem Oe (w : World) {g : Nat} {B : List UInt8} {a : Option Addr} {s : Rs} (h : AZ w g B a s) (hB : B.length ≤ 1000000000) (lo : Int) (hlo : 0 ≤ lo ∧ lo ≤ 18446744073709551615) :
  Calls Tryz.prog 236 #[.pointer (some ⟨g, 0, none⟩), .int .u64 lo] w fun r w' => ∃ v, r = .returned (.agg #[.int .u64 (s.BY B lo).2.lo, .int .u64 (s.BY B lo).2.hi, v]) ∧ DW.r (EX w w') w' [v] (s.BY B lo).2.sets ∧ AE w g B a (s.BY B lo).1 w' := by
 have hlt := h.blk.lt
 have HIN := hid (Dc.refl h)
 obtain ⟨j0, ji, jz0, jz1, jz2⟩ := A8 T4
 have hspin := Rs.Rv (B := B) (s := s) (lo := lo)
 unfold Rs.BY Rs.span;unfold Rs.span at hspin;dsimp only at *;obtain ⟨s0, hs0⟩ : ∃ t, t = (if 4611686018427387904 < lo then s.fail 3 s.p else s) := ⟨_, rfl⟩
 rw [← hs0] at hspin ⊢
 have HS0 := hid hs0
 clear hs0;have HAT := hid (fun (W : World) (hW : AZ W g B a s) => Cc W hW)
 have hsp9 := h.ok.le
 have HVR := hid (fun (W : World) (hW : AZ W g B a s0) => CM W hW zC)
 have hnn := Rs.DJ (B := B) (s := s0)
 generalize s0.num B = D at *
 obtain ⟨s1, n⟩ := D
 dsimp only at *;obtain ⟨s2, hs2⟩ : ∃ t, t = (if 4611686018427387904 - min lo 4611686018427387904 ≤ (n : Int) then s1.fail 3 s.p else s1) := ⟨_, rfl⟩
 rw [← hs2] at hspin ⊢
 have HS2 := hid hs2
 clear hs2;have HMN := hid (fun (W : World) (hW : AZ W g B a s2) => Ku W hW hB 8 zC)
 have hmk := Rs.TV (B := B) (s := s2) (m := 8)
 have hml : (s2.many B 8).2 ≤ 8 := Rs.Jt (m := 8)
 generalize s2.many B 8 = M at *
 obtain ⟨s3, k⟩ := M
 dsimp only at *;have hsk := Rs.Tj (B := B) (s := s3) k (out := [])
 obtain ⟨U, hU⟩ : ∃ t, t = Rs.Ft B k s3 [] := ⟨_, rfl⟩
 rw [← hU] at hsk ⊢
 have HU := hid hU
 have HYY : Hid (U.1.k = 0 → lo ≤ 4611686018427387904 ∧ lo + n + 1 ≤ 4611686018427387904) := hid (fun e => hspin (hmk (hsk e)))
 generalize hRS : (if U.1.k = 0 then (U.1, (⟨lo, lo + n + 1, U.2⟩ : BD)) else (U.1, GX)) = RES
 have HRZ := hid hRS
 clear h hspin hmk hsk hU hRS;go_enter Tryz.func236, Tryz.ntmps236
 go_wp2_with fail;go_step3
 go_wp2_with fail;refine (HAT.out _ (HIN.out.row zA).rd).mono ?_
 rintro r w1 ⟨rfl, rfl⟩;go_upto_if 12 with (fail)
 go_cut [] from 11 to 15 (fun V => Hid (Dc w V g B a s0) ∧ Hid (Blk V w.heap.size 155 #[.int .u64 0, .int .u64 0, .slice none 0 0]))
 case first =>
  by_cases hp : 4611686018427387904 < lo
  ·have d1 : decide (4611686018427387904 < lo) = true := Ae hp
   have HE := HS0.out
   rw [Am hp] at HE
   have HE2 := hid HE
   clear HE hp;rw [d1]
   go_wp2_with fail;refine (BB _ (HIN.out.row zA).rd 3 (s.p : Int) zC).mono ?_
   rintro r w2 ⟨rfl, hst⟩;have HB2 := hid (Blk.tch (Blk.new w 155 #[.int .u64 0, .int .u64 0, .slice none 0 0]) hst.2 zC)
   have HI2 := hid ((HIN.out.row zA).step hst)
   clear hst;go_wp2_with fail;go_meet
   case rel => exact ⟨hid (by rw [HE2.out]; exact HI2.out), HB2⟩
  ·have d1 : decide (4611686018427387904 < lo) = false := Ad hp
   have HE := HS0.out
   rw [An hp] at HE
   have HE2 := hid HE
   clear HE hp;rw [d1]
   go_wp2_with fail;go_meet
   case rel => exact ⟨hid (by rw [HE2.out]; exact HIN.out.row (by (repeat (first | with_reducible exact Below.refl _ _ | with_reducible assumption | (with_reducible refine AF ?_ _) | (with_reducible refine Below.setCell ?_ (by first | omega | (simp; done) | (simp; omega)) _) | (with_reducible refine Below.drew ?_) | (with_reducible refine below_drewN ?_ _) | (refine Af (by with_reducible assumption) ?_))))), hid (Blk.new w _ _)⟩
 case rest =>
  obtain ⟨hI1, hR1⟩ := hcut
  obtain ⟨w1, hwn⟩ : ∃ W : World, W = wc := ⟨_, rfl⟩
  subst hwn;have hz1 : w.heap.size < w1.heap.size := hR1.out.lt
  go_wp2_with fail;refine (HVR.out _ (hI1.out.row ((by (repeat (first | with_reducible exact Below.refl _ _ | with_reducible assumption | (with_reducible refine AF ?_ _) | (with_reducible refine Below.setCell ?_ zF _) | (with_reducible refine Below.drew ?_) | (with_reducible refine below_drewN ?_ _) | (refine Af zL ?_))) : Below w1.heap.size w1 _).mono zC)).rd).mono ?_
  rintro r w2 ⟨rfl, hst⟩;have hS2 : Hid (Blk w2 w1.heap.size 155 #[.int .u64 lo, .int .u64 0, .slice none 0 0]) := hid (Blk.tch (Blk.new w1 _ _) hst.2 zC)
  have hR2 := hid (Blk.tch (hR1.out.alloc _) hst.2 zC)
  have hI2 := hid ((hI1.out.row ((by (repeat (first | with_reducible exact Below.refl _ _ | with_reducible assumption | (with_reducible refine AF ?_ _) | (with_reducible refine Below.setCell ?_ zF _) | (with_reducible refine Below.drew ?_) | (with_reducible refine below_drewN ?_ _) | (refine Af zL ?_))) : Below w1.heap.size w1 _).mono zC)).step hst)
  have hz2 : w1.heap.size < w2.heap.size := hS2.out.lt
  clear hst;go_upto_region 6 with (fail)
  obtain ⟨R, hR⟩ : ∃ R, R = decide (4611686018427387904 - min lo 4611686018427387904 ≤ (n : Int)) := ⟨_, rfl⟩
  have HR := hid hR
  clear hR;go_cut [24] from 20 to 23 (fun v V => v = .bool R ∧ Hid (V = w2))
  case first =>
   by_cases hp : lo ≤ 4611686018427387904
   ·have v1 : 0 ≤ 4611686018427387904 - lo := by omega
    have v2 : 4611686018427387904 - lo ≤ 18446744073709551615 := zC
    go_wp2_with fail;go_meet
    case rel => exact ⟨D8 Value.bool (by rw [HR.out]; first | exact decide_eq_decide.2 zC | exact (Ae zC).symm), hid rfl⟩
   ·have v1 : 4611686018427387904 < lo := by omega
    go_wp2_with fail;go_meet
    case rel => exact ⟨D8 Value.bool (by rw [HR.out]; first | exact decide_eq_decide.2 zC | exact (Ae zC).symm), hid rfl⟩
  case rest =>
  obtain ⟨rfl, hV⟩ := hcut
  have hV' := hV.out.symm
  subst hV';go_upto_if 24 with (fail)
  go_cut [] from 25 to 27 (fun V => Hid (Dc w V g B a s2) ∧ Hid (Blk V w.heap.size 155 #[.int .u64 0, .int .u64 0, .slice none 0 0]) ∧ Hid (Blk V w1.heap.size 155 #[.int .u64 lo, .int .u64 0, .slice none 0 0]))
  case first =>
   have HE := HS2.out
   have hR := HR.out
   cases R
   ·rw [An (of_decide_eq_false hR.symm)] at HE
    have HE2 := hid HE
    clear HE hR;go_wp2_with fail;go_meet
    case rel => exact ⟨hid (by rw [HE2.out]; exact hI2.out), hR2, hS2⟩
   ·rw [Am (A9 hR.symm)] at HE
    have HE2 := hid HE
    clear HE hR;go_wp2_with fail;refine (BB _ hI2.out.rd 3 (s.p : Int) zC).mono ?_
    rintro r w3 ⟨rfl, hst⟩;have hI3 := hid (hI2.out.step hst)
    have hR3 := hid (Blk.tch hR2.out hst.2 zC)
    have hS3 := hid (Blk.tch hS2.out hst.2 zC)
    clear hst;go_wp2_with fail;go_meet
    case rel => exact ⟨hid (by rw [HE2.out]; exact hI3.out), hR3, hS3⟩
  case rest =>
   obtain ⟨hI3, hR3, hS3⟩ := hcut
   obtain ⟨w3, hwn⟩ : ∃ W : World, W = wc := ⟨_, rfl⟩
   subst hwn;obtain ⟨x0, x1, x2, f0, f1, f2, l3⟩ := IJ hS3.out
   have hg3 : g ≠ w1.heap.size := zC
   go_upto_region 8 with (fail)
   go_cut [] from 28 to 32 (fun V => ∃ y : Int, Hid (U.1.k = 0 → y = lo + n + 1) ∧ Hid (Dc w V g B a s2) ∧ Hid (Blk V w.heap.size 155 #[.int .u64 0, .int .u64 0, .slice none 0 0]) ∧ Hid (Blk V w1.heap.size 155 #[.int .u64 lo, .int .u64 y, .slice none 0 0]))
   case first =>
    go_wp2_with fail;go_meet
    case rel =>
     refine ⟨_, hid (fun e => ?_), hid (hI3.out.row zA), hid (Blk.far hR3.out zN _), hid (hS3.out.set 1 _)⟩
     have := HYY.out e
     rw [Hq, Hq]
     omega
   case rest =>
    obtain ⟨y, HY, hI4, hR4, hS4⟩ := hcut
    obtain ⟨w4, hwn⟩ : ∃ W : World, W = wc := ⟨_, rfl⟩
    subst hwn;clear x0 x1 x2 f0 f1 f2 l3;go_wp2_with fail;refine (HMN.out _ hI4.out.rd).mono ?_
    rintro r w5 ⟨rfl, hst⟩;have hS5 := hid (Blk.tch hS4.out hst.2 zC)
    have hR5 := hid (Blk.tch hR4.out hst.2 zC)
    have hI5 := hid (hI4.out.step hst)
    have hz5 : w1.heap.size < w5.heap.size := hS5.out.lt
    clear hst;go_wp2_with fail;go_step3
    go_wp2_with fail;go_loopw [36] (fun i wr => ∃ (j : Nat) (J : List (List Int)) (st : Rs) (av : Option Addr) (cv : Nat), j ≤ k ∧ i = .int .i64 j ∧ Hid (J.length = j) ∧ Hid (A6 w5.heap.size AY w5.heap.size 23 1 wr (.slice av J.length cv) J) ∧ Hid (Dc w wr g B a st) ∧ Hid (Blk wr w.heap.size 155 #[.int .u64 0, .int .u64 0, .slice none 0 0]) ∧ Hid (Blk wr w1.heap.size 155 #[.int .u64 lo, .int .u64 y, .slice av J.length cv]) ∧ Hid (U = Rs.Ft B (k - j) st J) ∧ w5.heap.size ≤ wr.heap.size) (fun i _ => k - (intOf i).toNat)
    case atStart => exact ⟨0, [], s3, none, 0, Aj _, rfl, hid rfl, hid A6.nil, hI5, hR5, hS5, HU, Ak _⟩
    case round =>
     obtain ⟨j, J, st, av, cv, hj, rfl, HJ, HO, hIr, hRr, hSr, HSP, hzr⟩ := hrel
     obtain ⟨x0, x1, x2, f0, f1, f2, l8⟩ := IJ hSr.out
     have lr := hRr.out.lt
     rcases Bd j k with hlt2 | hge
     ·have i1 : (j : Int) < (k : Int) := by omega
      have d1 : decide ((j : Int) < (k : Int)) = true := Ae i1
      have hJ9 : J.length ≤ 8 := by have := HJ.out; omega
      have hstep : U = (if (st.FT B J).1.k = 0 then Rs.Ft B (k - (j + 1)) (st.FT B J).1 (J ++ [(st.FT B J).2]) else ((st.FT B J).1, [])) := by
       rw [HSP.out, show k - j = (k - (j + 1)) + 1 by omega]; rfl
      have HRS := hid (Lp wr.drew (hIr.out.rd.later (show Below wr.heap.size wr wr.drew from (Below.refl _ _).drew)) hB J av J.length cv (DW.mono (A6.slice (Ak _) (A6.below HO.out (show Below wr.heap.size wr wr.drew from (Below.refl _ _).drew))) fun b hb => ⟨hb.2, zAg⟩))
      generalize st.FT B J = T at *
      obtain ⟨s5, L⟩ := T
      dsimp only at *;have HST := hid hstep
      have HOB : Hid (∀ q, (Value.slice av J.length cv).ownBlock = some q → w5.heap.size ≤ q ∧ q < wr.heap.size) := hid (by
       obtain ⟨cells0, OA0⟩ := HO.out
       exact fun q e => Eo OA0.1 q e)
      clear hstep;go_wp2_with fail;refine DC (fun w' => w'.cell? ⟨w1.heap.size, 2, none⟩ = some (.slice av J.length cv)) _ zG rfl zG x2 (fun hHeld => ?_)
      simp only [Cm, GO]
      refine Ap (i := 0) (oi := _) (v := ?_) rfl zE zE zE (fun _ _ _ h => h) (Or.inl ⟨zT, ?_⟩) zM ?_
      rotate_left
      ·(intro w hSw; (try dsimp only at hSw); go_simp <;> with_reducible rfl)
      (try simp only [Act.put, Aa, Ab, Ac])
      refine Ap (i := 1) (oi := _) (v := ?_) rfl zE zE zE (fun _ _ _ h => h) (Or.inl ⟨zT, ?_⟩) zM ?_
      rotate_left
      ·(intro w hSw; (try dsimp only at hSw); go_simp <;> with_reducible rfl)
      (try simp only [Act.put, Aa, Ab, Ac])
      refine Ap (i := 2) (oi := _) (v := ?_) rfl zE zE zE (fun _ _ _ h => h) (Or.inl ⟨zT, ?_⟩) zM ?_
      rotate_left
      ·(intro w hSw; (try dsimp only at hSw); go_simp <;> with_reducible rfl)
      (try simp only [Act.put, Aa, Ab, Ac])
      refine Ap (i := 3) (oi := _) (v := ?_) rfl zE zE zE (fun _ _ _ h => h) (Or.inl ⟨zT, ?_⟩) zM ?_
      rotate_left
      ·(intro w hSw; (try dsimp only at hSw); go_simp <;> with_reducible rfl)
      (try simp only [Act.put, Aa, Ab, Ac])
      refine Ap (i := 4) (oi := _) (v := ?_) rfl zE zE zE (fun _ _ _ h => h) (Or.inl ⟨zT, ?_⟩) zM ?_
      rotate_left
      ·(intro w hSw; (try dsimp only at hSw); go_simp <;> with_reducible rfl)
      (try simp only [Act.put, Aa, Ab, Ac])
      refine AP (rs := [5]) zE zO ?_
      refine AG (o := _) rfl (fun K hK => ?_) AllReadyH.nil
      (go_simp; go_at_call 257; refine HRS.out.mono ?_; rintro e1 w7 ⟨v7, rfl, hv7, hst7⟩; obtain ⟨a7, c7, hfv, _, _⟩ := AN hv7; simp only [Au, AO] at hfv; subst hfv; have hst8 : AE wr g B a s5 w7 := ⟨hst7.1, (Tch.refl (· = g) wr).drew.trans hst7.2 fun _ _ e => e⟩; have HV7 := hid hv7; have HI7 := hid (hIr.out.step hst8); have HR7 := hid (Blk.tch hRr.out hst8.2 zC); have HS7 := hid (Blk.tch hSr.out hst8.2 zC); have HO7 := hid (A6.Uy HO.out hst8.2 (fun b h1 h2 e => zC)); have z7 := hst8.2.size; have m1 : w7.cell? ⟨w1.heap.size, 2, none⟩ = some (.slice av J.length cv) := HS7.out.cell 2; have l7 : w1.heap.size < w7.heap.size := zC; clear hst7 hst8 hv7; (try dsimp only))
      refine hK.out _ _ ?_ (fun hHeld => ?_)
      ·((try dsimp only); first | assumption | (go_keep; done))
      clear hK K
      (try simp only [Act.put, Aa, Ab, Ac])
      refine AP (rs := [6]) zE zO ?_
      refine AG (o := _) rfl (fun K hK => ?_) AllReadyH.nil
      go_simp
      refine hK.out _ _ ?_ (fun hHeld => ?_)
      ·((try dsimp only); first | assumption | (go_keep; done))
      clear hK K
      (try simp only [Act.put, Aa, Ab, Ac])
      have hb78 : Below w7.heap.size w7 (w7.alloc (.cells #[.slice a7 L.length c7] 23)) := zA
      obtain ⟨cells, OA⟩ := A6.below HO7.out hb78
      have hx : AY.r (fun b => w5.heap.size ≤ b ∧ b < (w7.alloc (.cells #[.slice a7 L.length c7] 23)).heap.size ∧ (Value.slice av J.length cv).ownBlock ≠ some b) (w7.alloc (.cells #[.slice a7 L.length c7] 23)) [.slice a7 L.length c7] L := by
       refine AY.mono (AY.keep HV7.out fun b hb => hb78.block b hb.2) fun b hb => ⟨?_, ?_, fun e => ?_⟩
       ·have h1 : wr.heap.size ≤ b := hb.1; omega
       ·have := hb.2; simp; omega
       ·have h1 : wr.heap.size ≤ b := hb.1
        have := (HOB.out b e).2
        omega
      have HX := hid hx
      have HA := hid OA
      have HS9 : Hid (w5.heap.size ≤ (w7.alloc (.cells #[.slice a7 L.length c7] 23)).heap.size) := hid zJ
      clear hx OA;refine AP (rs := [7]) zE zO ?_
      refine AG (o := _) rfl (fun K hK => ?_) AllReadyH.nil
      (refine BI zT _ _ _ zT w5.heap.size 23 j0 (.slice none 0 0) 1 24 Tryz.underlying153 ji jz0 jz1 jz2 rfl zP (.slice av J.length cv) J.length _ zT HA.out.1 (some ⟨w7.heap.size, 0, none⟩) 1 1 [.slice a7 L.length c7] zT (Bx w7 23 _ zT zT rfl) zW zK zC HS9.out ?_; intro a9 c9 w9 hown9 hgrow9 hat9; have OP := hid (A6.push HA.out rfl HX.out hown9 hgrow9 hat9 hgrow9.size); have HB9 := hid (show Below w5.heap.size w7 w9 from Below.grown (hb78.mono zC) hgrow9 HS9.out (fun g e => (HOB.out g e).1)); have hz9 := hgrow9.size; simp at hz9; have HS9b := hid (HS7.out.below HB9.out zC); have m2 : w9.cell? ⟨w1.heap.size, 2, none⟩ = some (.slice av J.length cv) := HS9b.out.cell 2; have m3 := U3 HS9b.out 2; clear hown9 hgrow9 hat9; (try dsimp only))
      refine hK.out _ _ ?_ (fun hHeld => ?_)
      ·((try dsimp only); first | assumption | (go_keep; done))
      clear hK K
      (try simp only [Act.put, Aa, Ab, Ac])
      refine Ap (i := 8) (oi := _) (v := ?_) rfl zE zE zE (fun _ _ _ h => h) (Or.inl ⟨zT, ?_⟩) zM ?_
      rotate_left
      ·(intro w hSw; (try dsimp only at hSw); go_simp <;> with_reducible rfl)
      (try simp only [Act.put, Aa, Ab, Ac])
      refine Ap (i := 9) (oi := _) (v := ?_) rfl zE zE zE (fun _ _ _ h => h) (Or.inl ⟨zT, ?_⟩) zM ?_
      rotate_left
      ·(intro w hSw; (try dsimp only at hSw); go_simp <;> with_reducible rfl)
      (try simp only [Act.put, Aa, Ab, Ac])
      refine CG zG ?_ _
      show wpList _ _ _ _ _ _
      have HIW := hid (show Dc w (w9.setCell ⟨w1.heap.size, 2, none⟩ (.slice a9 (J.length + 1) c9)) g B a s5 from (HI7.out.row (HB9.out.mono zC)).row zA)
      have HOW := hid (A6.Uy OP.out ((Tch.refl (· = w1.heap.size) w9).setCell (p := ⟨w1.heap.size, 2, none⟩) (fun _ => rfl) (.slice a9 (J.length + 1) c9)) (fun b h1 h2 e => zC))
      have HSW := hid (HS9b.out.set 2 (.slice a9 (J.length + 1) c9))
      have HRW := hid (Blk.far (HR7.out.below HB9.out zC) (p := ⟨w1.heap.size, 2, none⟩) zN (.slice a9 (J.length + 1) c9))
      by_cases hk : s5.k = 0
      ·have HE := HST.out
       rw [Am hk] at HE
       have HSP2 := hid HE
       have HG := AH _ HIW.out.rd
       rw [Ae hk] at HG
       have HGG := hid HG
       clear HE HG hk;go_wp2_with fail;refine HGG.out.mono ?_
       rintro r w10 ⟨rfl, hb10⟩;have hz10 := hb10.size
       rw [GV] at hz10
       have HI10 := hid (HIW.out.row (hb10.mono (by rw [GV]; omega)))
       have HR10 := hid (HRW.out.later hb10)
       have HS10 := hid (HSW.out.later hb10)
       have HO10 := hid (A6.below HOW.out hb10)
       clear hb10;go_wp2_with fail;go_roundw
       case rel => exact ⟨j + 1, J ++ [L], s5, a9, c9, zC, zV, hid (by rw [Ag, HJ.out]; rfl), hid (by rw [Ag]; exact HO10.out), HI10, HR10, hid (by rw [Ag]; exact HS10.out), HSP2, zC⟩
       case measure => (simp [intOf]; try omega)
      ·have HE := HST.out
       rw [An hk] at HE
       have HRES : Hid (RES = (s5, GX)) := hid (by rw [← HRZ.out, HE]; exact An hk)
       have HG := hid (fun (W : World) (hW : AZ W g B a s5) => (by have := AH W hW; rw [Ad hk] at this; exact this : Calls Tryz.prog 44 #[.pointer (some ⟨g, 0, none⟩)] W fun r w' => r = .returned (.bool false) ∧ Below W.heap.size W w'))
       clear HE hk;go_wp2_with fail;refine (HG.out _ HIW.out.rd).mono ?_
       rintro r w10 ⟨rfl, hb10⟩;have hz10 := hb10.size
       rw [GV] at hz10
       have HI10 := hid (HIW.out.row (hb10.mono (by rw [GV]; omega)))
       have HR10 := hid (HRW.out.later hb10)
       clear hb10;go_wp2_with fail;refine (HG.out _ HI10.out.rd).mono ?_
       rintro r w11 ⟨rfl, hb11⟩;have HI11 := hid (HI10.out.row (hb11.mono zC))
       have HR11 := hid (HR10.out.later hb11)
       clear hb11;obtain ⟨r0, r1, r2, g0, g1, g2, lr2⟩ := IJ HR11.out
       go_wp2_with fail;obtain ⟨n0, n1, n2, _, _, _, ln⟩ := IJ (((HR11.out.set 0 (.int .u64 0)).set 1 (.int .u64 0)).set 2 (.slice none 0 0))
       simp only [Exit.noGoto]
       go_wp2_with fail;rw [HRES.out]
       refine Al (v := .agg #[.int .u64 0, .int .u64 0, .slice none 0 0]) zAl rfl ⟨_, rfl, Bh (xs := []) rfl (Ak _) (Aj _) (.inl rfl), (HI11.out.row zA).to⟩
     ·obtain rfl : j = k := by omega
      have d1 : decide ((j : Int) < (j : Int)) = false := Ad zC
      have HE := HSP.out
      rw [JK] at HE
      have HE2 : U = (st, J) := HE
      clear HE;by_cases hk : st.k = 0
      ·have hy := HY.out (by rw [HE2]; exact hk)
       have HRES : Hid (RES = (st, ⟨lo, y, J⟩)) := hid (by rw [← HRZ.out, HE2, hy]; exact Am hk)
       have HG := hid (fun (W : World) (hW : AZ W g B a st) => (by have := AH W hW; rw [Ae hk] at this; exact this : Calls Tryz.prog 44 #[.pointer (some ⟨g, 0, none⟩)] W fun r w' => r = .returned (.bool true) ∧ Below W.heap.size W w'))
       clear HE2 hk hy;go_wp2_with fail;refine (HG.out _ hIr.out.rd).mono ?_
       rintro r w11 ⟨rfl, hb11⟩;have hz11 := hb11.size
       have HI11 := hid (hIr.out.row (hb11.mono zC))
       have HS11 := hSr.out.later hb11
       have HR11 := hRr.out.later hb11
       have HO11 := hid (A6.slice (Ak _) (A6.below HO.out hb11))
       clear x0 x1 x2 f0 f1 f2 l8 hb11;obtain ⟨x0, x1, x2, f0, f1, f2, l8⟩ := IJ HS11
       obtain ⟨r0, r1, r2, g0, g1, g2, lr2⟩ := IJ HR11
       go_wp2_with fail;obtain ⟨n0, n1, n2, _, _, _, ln⟩ := IJ (((HR11.set 0 (.int .u64 lo)).set 1 (.int .u64 y)).set 2 (.slice av J.length cv))
       simp only [Exit.noGoto]
       go_wp2_with fail;rw [HRES.out]
       refine Al (v := .agg #[.int .u64 lo, .int .u64 y, .slice av J.length cv]) zAl rfl ⟨_, rfl, ?_, (HI11.out.row zA).to⟩
       refine DW.mono (DW.keep HO11.out fun b hb => ?_) fun b hb => ⟨zAg, by have := hb.2; simp; omega⟩
       have := hb.1
       repeat rw [AM _ _ _ _ zN]
      ·have HRES : Hid (RES = (st, GX)) := hid (by rw [← HRZ.out, HE2]; exact An hk)
       have HG := hid (fun (W : World) (hW : AZ W g B a st) => (by have := AH W hW; rw [Ad hk] at this; exact this : Calls Tryz.prog 44 #[.pointer (some ⟨g, 0, none⟩)] W fun r w' => r = .returned (.bool false) ∧ Below W.heap.size W w'))
       clear HE2 hk;go_wp2_with fail;refine (HG.out _ hIr.out.rd).mono ?_
       rintro r w11 ⟨rfl, hb11⟩;have hz11 := hb11.size
       have HI11 := hid (hIr.out.row (hb11.mono zC))
       have HR11 := hid (hRr.out.later hb11)
       clear x0 x1 x2 f0 f1 f2 l8 hb11;obtain ⟨r0, r1, r2, g0, g1, g2, lr2⟩ := IJ HR11.out
       go_wp2_with fail;obtain ⟨n0, n1, n2, _, _, _, ln⟩ := IJ (((HR11.out.set 0 (.int .u64 0)).set 1 (.int .u64 0)).set 2 (.slice none 0 0))
       simp only [Exit.noGoto]
       go_wp2_with fail;rw [HRES.out]
       refine Al (v := .agg #[.int .u64 0, .int .u64 0, .slice none 0 0]) zAl rfl ⟨_, rfl, Bh (xs := []) rfl (Ak _) (Aj _) (.inl rfl), (HI11.out.row zA).to⟩
structure Rr (w : World) (a : Option Addr) (n c : Nat) (g6 g8 L0 : Nat) (lo y : Int) (st : Rs) (v : Value) (J : List (List Int)) (W : World) : Prop where
 d : Blk W g6 60 #[.slice a n c, .int .i64 (st.p : Int), .int .i64 st.k, .int .i64 st.f]
 s : Blk W g8 155 #[.int .u64 lo, .int .u64 y, v]
 r4 : Blk W (w.heap.size + 1) 60 #[.slice none 0 0, .int .i64 0, .int .i64 0, .int .i64 0]
 r5 : Blk W (w.heap.size + 1 + 1) 155 #[.int .u64 0, .int .u64 0, .slice none 0 0]
 own : A6 L0 AY L0 23 1 W v J
 bel : Below w.heap.size w W
 le : L0 ≤ W.heap.size
theorem Rr.later {w W W' : World} {a : Option Addr} {n c g6 g8 L0 : Nat} {lo y : Int} {st : Rs} {v : Value} {J : List (List Int)} (h : Rr w a n c g6 g8 L0 lo y st v J W) (hb : Below W.heap.size W W') : Rr w a n c g6 g8 L0 lo y st v J W' :=
 ⟨h.d.later hb, h.s.later hb, h.r4.later hb, h.r5.later hb, A6.below h.own hb, Af hb h.bel, A4 h.le hb.size⟩
theorem Rs.Of {B : List UInt8} {s : Rs} {lo : Int} (h : (s.BY B lo).1.k ≠ 0) : (s.BY B lo).2 = GX := by
 unfold Rs.BY at h ⊢;dsimp only at h ⊢;split at h
 ·rename_i h1
  exact absurd h1 h
 ·rename_i h1
  rw [An h1]
theorem Rs.Tf {B : List UInt8} {s : Rs} {lo : Int} (h0 : 0 ≤ lo) : inU (s.BY B lo).2.lo ∧ inU (s.BY B lo).2.hi := by
 by_cases hk : (s.BY B lo).1.k = 0
 ·obtain ⟨h1, h2⟩ := Rs.R5 hk
  simp only [Bm, Ao, Ar] at h1
  unfold inU;omega
 ·rw [Rs.Of hk]
  exact ⟨⟨zP, zP⟩, ⟨zP, zP⟩⟩
theorem FN {w : World} {g : Nat} {t : TypeId} {v0 v1 : Value} (h : Blk w g t #[v0, v1]) : w.cell? ⟨g, 0, none⟩ = some v0 ∧ w.cell? ⟨g, 1, none⟩ = some v1 ∧ w.frozen? ⟨g, 0, none⟩ = false ∧ w.frozen? ⟨g, 1, none⟩ = false ∧ g < w.heap.size :=
 ⟨h.cell 0, h.cell 1, h.free 0, h.free 1, h.lt⟩
theorem Rs.Lo {B : List UInt8} {s : Rs} {lo : Int} {out : List BD} (h : s.k ≠ 0) : ∀ n, (Rs.Dv B n s lo out).1 = s
 | 0 => rfl
 | n + 1 => by
  unfold Rs.Dv;rw [Rs.GN h, An h]
theorem Sp (w : World) {g : Nat} {B : List UInt8} {a : Option Addr} {s : Rs} (h : AZ w g B a s) (hB : B.length ≤ 1000000000) :
  Calls Tryz.prog 196 #[.pointer (some ⟨g, 0, none⟩)] w fun r w' => ∃ v, r = .returned (.agg #[.int .u64 (s.Ew B).2.epoch, v]) ∧ Bg.r (EX w w') w' [v] (s.Ew B).2.stripes ∧ AE w g B a (s.Ew B).1 w' := by
 have hlt := h.blk.lt
 have HIN := hid (Dc.refl h)
 obtain ⟨j0, ji, jz0, jz1, jz2⟩ := A8 QN
 have HEP := hid (fun (W : World) (hW : AZ W g B a s) => I3 W hW hB)
 unfold Rs.Ew Rs.many;clear h;generalize s.ep B = E at *
 obtain ⟨s1, e⟩ := E
 dsimp only at *;have HAT := hid (fun (W : World) (hW : AZ W g B a s1) => Cc W hW)
 have HVI := hid (fun (W : World) (hW : AZ W g B a s1) => Ef W hW zC 64 zC)
 have hn64 := Rs.GP (B := B) (s := s1) (m := 64)
 generalize s1.int B 64 = I at *
 obtain ⟨s2, n⟩ := I
 dsimp only at *;have hn : n ≤ 64 := zC
 clear hn64;obtain ⟨s3, hs3⟩ : ∃ t, t = (if n = 0 then s2.fail 3 s1.p else s2) := ⟨_, rfl⟩
 rw [← hs3]
 have HS3 := hid hs3
 clear hs3;obtain ⟨U, hU⟩ : ∃ t, t = Rs.Dv B n s3 0 [] := ⟨_, rfl⟩
 rw [← hU]
 have HU := hid hU
 clear hU;generalize hRES : (if (if U.2.1 = 4611686018427387904 then U.1 else U.1.fail 3 U.1.p).k = 0 then ((if U.2.1 = 4611686018427387904 then U.1 else U.1.fail 3 U.1.p), (⟨(e : Int), U.2.2⟩ : El)) else ((if U.2.1 = 4611686018427387904 then U.1 else U.1.fail 3 U.1.p), DL)) = RES
 have HRES := hid hRES
 clear hRES;go_enter Tryz.func196, Tryz.ntmps196
 go_wp2_with fail;refine (HEP.out _ (HIN.out.row zA).rd).mono ?_
 rintro r w1 ⟨rfl, hst⟩;have hR1 := hid (Blk.tch (Blk.new w 30 #[.int .u64 0, .slice none 0 0]) hst.2 zC)
 have hI1 := hid ((HIN.out.row zA).step hst)
 have hz1 : w.heap.size < w1.heap.size := hR1.out.lt
 clear hst;go_wp2_with fail;refine (HAT.out _ (hI1.out.row ((by (repeat (first | with_reducible exact Below.refl _ _ | with_reducible assumption | (with_reducible refine AF ?_ _) | (with_reducible refine Below.setCell ?_ zF _) | (with_reducible refine Below.drew ?_) | (with_reducible refine below_drewN ?_ _) | (refine Af zL ?_))) : Below w1.heap.size w1 _).mono zC)).rd).mono ?_
 rintro r w1' ⟨rfl, rfl⟩;go_wp2_with fail;refine (HVI.out _ (hI1.out.row ((by (repeat (first | with_reducible exact Below.refl _ _ | with_reducible assumption | (with_reducible refine AF ?_ _) | (with_reducible refine Below.setCell ?_ zF _) | (with_reducible refine Below.drew ?_) | (with_reducible refine below_drewN ?_ _) | (refine Af zL ?_))) : Below w1.heap.size w1 _).mono zC)).rd).mono ?_
 rintro r w2 ⟨rfl, hst⟩;have hP2 := hid (Blk.tch (Blk.new w1 30 #[.int .u64 (e : Int), .slice none 0 0]) hst.2 zC)
 have hR2 := hid (Blk.tch (hR1.out.alloc _) hst.2 zC)
 have hI2 := hid ((hI1.out.row ((by (repeat (first | with_reducible exact Below.refl _ _ | with_reducible assumption | (with_reducible refine AF ?_ _) | (with_reducible refine Below.setCell ?_ zF _) | (with_reducible refine Below.drew ?_) | (with_reducible refine below_drewN ?_ _) | (refine Af zL ?_))) : Below w1.heap.size w1 _).mono zC)).step hst)
 have hz2 : w1.heap.size < w2.heap.size := hP2.out.lt
 clear hst;go_upto_if 16 with (fail)
 go_cut [] from 15 to 19 (fun V => Hid (Dc w V g B a s3) ∧ Hid (Blk V w.heap.size 30 #[.int .u64 0, .slice none 0 0]) ∧ Hid (Blk V w1.heap.size 30 #[.int .u64 (e : Int), .slice none 0 0]))
 case first =>
  by_cases hp : n = 0
  ·have HE := HS3.out
   rw [Am hp] at HE
   have HE2 := hid HE
   have d1 : ((n : Int) == 0) = true := by simp [hp]
   clear HE hp;rw [d1]
   go_wp2_with fail;refine (BB _ hI2.out.rd 3 (s1.p : Int) zC).mono ?_
   rintro r w3 ⟨rfl, hst⟩;have hI3 := hid (hI2.out.step hst)
   have hR3 := hid (Blk.tch hR2.out hst.2 zC)
   have hP3 := hid (Blk.tch hP2.out hst.2 zC)
   clear hst;go_wp2_with fail;go_meet
   case rel => exact ⟨hid (by rw [HE2.out]; exact hI3.out), hR3, hP3⟩
  ·have HE := HS3.out
   rw [An hp] at HE
   have HE2 := hid HE
   have d1 : ((n : Int) == 0) = false := by simp [hp]
   clear HE hp;rw [d1]
   go_wp2_with fail;go_meet
   case rel => exact ⟨hid (by rw [HE2.out]; exact hI2.out), hR2, hP2⟩
 case rest =>
  obtain ⟨hI3, hR3, hP3⟩ := hcut
  obtain ⟨w3, hwn⟩ : ∃ W : World, W = wc := ⟨_, rfl⟩
  subst hwn;have lP3 := hP3.out.lt
  go_wp2_with fail;go_loopw [6, 21] (fun f i wr => ∃ (j : Nat) (J : List BD) (st : Rs) (lo : Int) (av : Option Addr) (cv : Nat), j ≤ n ∧ i = .int .i64 j ∧ f = .int .u64 lo ∧ 0 ≤ lo ∧ lo ≤ 18446744073709551615 ∧ Hid (J.length = j) ∧ Hid (A6 w3.heap.size G8 w3.heap.size 155 3 wr (.slice av J.length cv) J) ∧ Hid (Dc w wr g B a st) ∧ Hid (Blk wr w.heap.size 30 #[.int .u64 0, .slice none 0 0]) ∧ Hid (Blk wr w1.heap.size 30 #[.int .u64 (e : Int), .slice av J.length cv]) ∧ Hid (st.k = 0 → U = Rs.Dv B (n - j) st lo J) ∧ Hid (st.k ≠ 0 → U.1 = st) ∧ w3.heap.size ≤ wr.heap.size) (fun _ i _ => n - (intOf i).toNat)
  case atStart => exact ⟨0, [], s3, 0, none, 0, Aj _, rfl, rfl, zC, zC, hid rfl, hid A6.nil, hI3, hR3, hP3, hid (fun _ => HU.out), hid (fun hk => by rw [HU.out]; exact Rs.Lo hk n), Ak _⟩
  case round =>
   obtain ⟨j, J, st, lo, av, cv, hj, rfl, rfl, hl0, hl1, HJ, HO, hIr, hRr, hPr, HSP, HSN, hzr⟩ := hrel
   obtain ⟨x0, x1, f0, f1, l8⟩ := FN hPr.out
   have lr := hRr.out.lt
   have hJ9 : J.length ≤ 64 := by have := HJ.out; omega
   rcases Bd j n with hlt2 | hge
   ·have i1 : (j : Int) < (n : Int) := by omega
    have d1 : decide ((j : Int) < (n : Int)) = true := Ae i1
    have hsp1 : (st.BY B lo).1.k = 0 → U = Rs.Dv B (n - (j + 1)) (st.BY B lo).1 (st.BY B lo).2.hi (J ++ [(st.BY B lo).2]) := fun hk => by
     rw [HSP.out (Rs.Tg hk), show n - j = (n - (j + 1)) + 1 by omega]
     exact Am hk
    have hsn1 : (st.BY B lo).1.k ≠ 0 → U.1 = (st.BY B lo).1 := fun hk => by
     by_cases hs : st.k = 0
     ·rw [HSP.out hs, show n - j = (n - (j + 1)) + 1 by omega]
      exact D8 Prod.fst (An hk)
     ·rw [Rs.GN hs]
      exact HSN.out hs
    have hbu := Rs.Tf (B := B) (s := st) hl0
    have HSR := hid (Oe wr hIr.out.rd hB lo ⟨hl0, hl1⟩)
    generalize st.BY B lo = T at *
    obtain ⟨s5, z⟩ := T
    dsimp only at *;have HS1 := hid hsp1
    have HS2 := hid hsn1
    have HOB : Hid (∀ q, (Value.slice av J.length cv).ownBlock = some q → w3.heap.size ≤ q ∧ q < wr.heap.size) := hid (by
     obtain ⟨cells0, OA0⟩ := HO.out
     exact fun q e => Eo OA0.1 q e)
    clear hsp1 hsn1;go_wp2_with fail;refine HSR.out.mono ?_
    rintro r w5 ⟨v5, rfl, hv5, hst⟩;obtain ⟨a5, c5, hfv, hv5', _⟩ := AN hv5
    simp only [Au, AO] at hfv
    subst hfv;have hI5 := hid (hIr.out.step hst)
    have hR5 := hid (Blk.tch hRr.out hst.2 zC)
    have hP5 := hid (Blk.tch hPr.out hst.2 zC)
    have hO5 := hid (A6.Uy HO.out hst.2 (fun b h1 h2 e => zC))
    have hz5 := hst.2.size
    obtain ⟨y0, y1, g0, g1, l5⟩ := FN hP5.out
    have hb68 : Below w5.heap.size w5 ((w5.alloc (.cells #[.int .u64 z.lo, .int .u64 z.hi, .slice a5 z.sets.length c5] 155)).alloc (.cells #[.int .u64 z.lo, .int .u64 z.hi, .slice a5 z.sets.length c5] 155)) := zA
    obtain ⟨cells, OA⟩ := A6.below hO5.out hb68
    have hx : G8.r (fun b => w3.heap.size ≤ b ∧ b < ((w5.alloc (.cells #[.int .u64 z.lo, .int .u64 z.hi, .slice a5 z.sets.length c5] 155)).alloc (.cells #[.int .u64 z.lo, .int .u64 z.hi, .slice a5 z.sets.length c5] 155)).heap.size ∧ (Value.slice av J.length cv).ownBlock ≠ some b) ((w5.alloc (.cells #[.int .u64 z.lo, .int .u64 z.hi, .slice a5 z.sets.length c5] 155)).alloc (.cells #[.int .u64 z.lo, .int .u64 z.hi, .slice a5 z.sets.length c5] 155)) [.int .u64 z.lo, .int .u64 z.hi, .slice a5 z.sets.length c5] z := by
     refine R4 hbu.1 hbu.2 (DW.mono (DW.keep hv5 fun b hb => hb68.block b hb.2) fun b hb => ⟨?_, ?_, fun e => ?_⟩)
     ·have := hb.1; omega
     ·have := hb.2; simp; omega
     ·have := (HOB.out b e).2; have := hb.1; omega
    have HX := hid hx
    have HA := hid OA
    have HS9 : Hid (w3.heap.size ≤ ((w5.alloc (.cells #[.int .u64 z.lo, .int .u64 z.hi, .slice a5 z.sets.length c5] 155)).alloc (.cells #[.int .u64 z.lo, .int .u64 z.hi, .slice a5 z.sets.length c5] 155)).heap.size) := hid zJ
    have Q6 : Blk ((w5.alloc (.cells #[.int .u64 z.lo, .int .u64 z.hi, .slice a5 z.sets.length c5] 155)).alloc (.cells #[.int .u64 z.lo, .int .u64 z.hi, .slice a5 z.sets.length c5] 155)) w5.heap.size 155 #[.int .u64 z.lo, .int .u64 z.hi, .slice a5 z.sets.length c5] := zD
    have HQ6 := hid Q6
    clear hx OA hst hv5 hv5' Q6 x0 x1 f0 f1;go_wp2_with (at_builtin; go_loud (refine Aq rfl _ _ _ rfl w3.heap.size 155 j0 (.agg #[.int .u64 0, .int .u64 0, .slice none 0 0]) 3 40 Tryz.underlying28 ji jz0 jz1 jz2 rfl zP (.slice av J.length cv) J.length _ rfl HA.out.1 (some ⟨w5.heap.size + 1, 0, none⟩) 1 1 [.int .u64 z.lo, .int .u64 z.hi, .slice a5 z.sets.length c5] rfl (Bx (w5.alloc (.cells #[.int .u64 z.lo, .int .u64 z.hi, .slice a5 z.sets.length c5] 155)) 155 _ rfl zO rfl) (by intro u hu; simp at hu; rcases hu with rfl | rfl | rfl <;> rfl) zK zC HS9.out ?_; intro v9 w9 hown9 hgrow9 hat9; obtain ⟨a9, c9, rfl⟩ := AA hown9; have OP := hid (A6.push HA.out rfl HX.out hown9 hgrow9 hat9 hgrow9.size); have hb9 := hid (show Below w3.heap.size w5 w9 from Below.grown (hb68.mono zC) hgrow9 HS9.out (fun g e => (HOB.out g e).1)); have hz9 := hgrow9.size; simp at hz9; have hQ9 : Blk w9 w5.heap.size 155 #[.int .u64 z.lo, .int .u64 z.hi, .slice a5 z.sets.length c5] := (hgrow9.block w5.heap.size zJ (fun e => by have := (HOB.out _ e.symm).2; omega)).trans HQ6.out; have hP9 := hP5.out.below hb9.out zC; obtain ⟨n0, n1, n2, n3, n4⟩ := FN hP9; obtain ⟨q0, q1, q2, _, _, _, lq⟩ := IJ (Blk.far hQ9 (p := ⟨w1.heap.size, 1, none⟩) zN (.slice a9 (J.length + 1) c9)); have HP9 := hid hP9; clear hown9 hgrow9 hat9 hQ9 hP9 y0 y1 g0 g1 l5))
    have HO9 := hid (A6.Uy OP.out ((Tch.refl (· = w1.heap.size) w9).setCell (p := ⟨w1.heap.size, 1, none⟩) (fun _ => rfl) (.slice a9 (J.length + 1) c9)) (fun b h1 h2 e => zC))
    go_roundw
    case rel => exact ⟨j + 1, J ++ [z], s5, z.hi, a9, c9, zC, zV, rfl, hbu.2.1, hbu.2.2, hid (by rw [Ag, HJ.out]; rfl), hid (by rw [Ag]; exact HO9.out), hid ((hI5.out.row (hb9.out.mono zC)).row zA), hid (Blk.far (hR5.out.below hb9.out zC) zN _), hid (by rw [Ag]; exact HP9.out.set 1 _), HS1, HS2, by rw [GV]; omega⟩
    case measure => (simp [intOf]; try omega)
   ·obtain rfl : j = n := by omega
    have d1 : decide ((j : Int) < (j : Int)) = false := Ad zC
    by_cases hk : st.k = 0
    ·have HE := HSP.out hk
     rw [JK] at HE
     have HE2 : U = (st, lo, J) := HE
     clear HE;by_cases hm : lo = 4611686018427387904
     ·have HR2 : Hid (RES = (st, ⟨(e : Int), J⟩)) := hid (by
       rw [← HRES.out, HE2]
       dsimp only;rw [Am hm]
       exact Am hk)
      have dn : (lo != 4611686018427387904) = false := by simp [hm]
      have HG := hid (fun (W : World) (hW : AZ W g B a st) => (by have := AH W hW; rw [Ae hk] at this; exact this : Calls Tryz.prog 44 #[.pointer (some ⟨g, 0, none⟩)] W fun r w' => r = .returned (.bool true) ∧ Below W.heap.size W w'))
      clear hm hk HE2;go_wp2_with fail;refine (HG.out _ hIr.out.rd).mono ?_
      rintro r w11 ⟨rfl, hb11⟩;have hz11 := hb11.size
      have HI11 := hid (hIr.out.row (hb11.mono zC))
      have HP11 := hPr.out.later hb11
      have HR11 := hRr.out.later hb11
      have HO11 := hid (A6.slice (Ak _) (A6.below HO.out hb11))
      clear x0 x1 f0 f1 l8 hb11;obtain ⟨x0, x1, f0, f1, l8⟩ := FN HP11
      obtain ⟨r0, r1, g0, g1, lr2⟩ := FN HR11
      go_wp2_with fail;obtain ⟨n0, n1, _, _, ln⟩ := FN ((HR11.set 0 (.int .u64 (e : Int))).set 1 (.slice av J.length cv))
      rw [HR2.out]
      refine Al (v := .agg #[.int .u64 (e : Int), .slice av J.length cv]) ZW rfl ⟨_, rfl, ?_, (HI11.out.row zA).to⟩
      refine Bg.mono (Bg.keep HO11.out fun b hb => ?_) fun b hb => ⟨zAg, by have := hb.2; simp; omega⟩
      have := hb.1
      repeat rw [AM _ _ _ _ zN]
     ·have hfk : (st.fail 3 (st.p : Int)).k ≠ 0 := Rs.CU zC
      have HR2 : Hid (RES = (st.fail 3 (st.p : Int), DL)) := hid (by
       rw [← HRES.out, HE2]
       dsimp only;rw [An hm]
       exact An hfk)
      have dn : (lo != 4611686018427387904) = true := by simp [hm]
      have HFA := hid (fun (W : World) (hW : AZ W g B a st) => BB W hW 3 (st.p : Int) zC)
      have HAS := hid (fun (W : World) (hW : AZ W g B a st) => Cc W hW)
      have HG := hid (fun (W : World) (hW : AZ W g B a (st.fail 3 (st.p : Int))) => (by have := AH W hW; rw [Ad hfk] at this; exact this : Calls Tryz.prog 44 #[.pointer (some ⟨g, 0, none⟩)] W fun r w' => r = .returned (.bool false) ∧ Below W.heap.size W w'))
      clear hm hk hfk HE2;go_wp2_with fail;refine (HAS.out _ hIr.out.rd).mono ?_
      rintro r wr' ⟨rfl, rfl⟩;go_wp2_with fail;refine (HFA.out _ hIr.out.rd).mono ?_
      rintro r w10 ⟨rfl, hst⟩;have hI10 := hid (hIr.out.step hst)
      have hR10 := hid (Blk.tch hRr.out hst.2 zC)
      clear hst;go_wp2_with fail;refine (HG.out _ hI10.out.rd).mono ?_
      rintro r w11 ⟨rfl, hb11⟩;have HI11 := hid (hI10.out.row (hb11.mono (by have := hI10.out.tch.size; omega)))
      have HR11 := hid (hR10.out.later hb11)
      clear hb11 x0 x1 f0 f1 l8;obtain ⟨r0, r1, g0, g1, lr2⟩ := FN HR11.out
      go_wp2_with fail;obtain ⟨n0, n1, _, _, ln⟩ := FN ((HR11.out.set 0 (.int .u64 0)).set 1 (.slice none 0 0))
      rw [HR2.out]
      refine Al (v := .agg #[.int .u64 0, .slice none 0 0]) ZW rfl ⟨_, rfl, Bh (xs := []) rfl (Ak _) (Aj _) (.inl rfl), (HI11.out.row zA).to⟩
    ·have HE := HSN.out hk
     have hfb : st.fail 3 (st.p : Int) = st := Rs.Ch hk
     have HR2 : Hid (RES = (st, DL)) := hid (by
      rw [← HRES.out, HE, hfb, ite_self]
      exact An hk)
     have HG := hid (fun (W : World) (hW : AZ W g B a st) => (by have := AH W hW; rw [Ad hk] at this; exact this : Calls Tryz.prog 44 #[.pointer (some ⟨g, 0, none⟩)] W fun r w' => r = .returned (.bool false) ∧ Below W.heap.size W w'))
     have HFB := hid hfb
     clear hk HE hfb;by_cases hm : lo = 4611686018427387904
     ·have dn : (lo != 4611686018427387904) = false := by simp [hm]
      clear hm;go_wp2_with fail;refine (HG.out _ hIr.out.rd).mono ?_
      rintro r w11 ⟨rfl, hb11⟩;have HI11 := hid (hIr.out.row (hb11.mono zC))
      have HR11 := hid (hRr.out.later hb11)
      clear hb11 x0 x1 f0 f1 l8;obtain ⟨r0, r1, g0, g1, lr2⟩ := FN HR11.out
      go_wp2_with fail;obtain ⟨n0, n1, _, _, ln⟩ := FN ((HR11.out.set 0 (.int .u64 0)).set 1 (.slice none 0 0))
      rw [HR2.out]
      refine Al (v := .agg #[.int .u64 0, .slice none 0 0]) ZW rfl ⟨_, rfl, Bh (xs := []) rfl (Ak _) (Aj _) (.inl rfl), (HI11.out.row zA).to⟩
     ·have dn : (lo != 4611686018427387904) = true := by simp [hm]
      clear hm;have HFA := hid (fun (W : World) (hW : AZ W g B a st) => (by have := BB W hW 3 (st.p : Int) zC; rw [HFB.out] at this; exact this : Calls Tryz.prog 180 #[.pointer (some ⟨g, 0, none⟩), .int .i64 3, .int .i64 (st.p : Int)] W fun r w' => r = .returned (.tuple #[]) ∧ AE W g B a st w'))
      have HAS := hid (fun (W : World) (hW : AZ W g B a st) => Cc W hW)
      go_wp2_with fail;refine (HAS.out _ hIr.out.rd).mono ?_
      rintro r wr' ⟨rfl, rfl⟩;go_wp2_with fail;refine (HFA.out _ hIr.out.rd).mono ?_
      rintro r w10 ⟨rfl, hst⟩;have hI10 := hid (hIr.out.step hst)
      have hR10 := hid (Blk.tch hRr.out hst.2 zC)
      clear hst;go_wp2_with fail;refine (HG.out _ hI10.out.rd).mono ?_
      rintro r w11 ⟨rfl, hb11⟩;have HI11 := hid (hI10.out.row (hb11.mono (by have := hI10.out.tch.size; omega)))
      have HR11 := hid (hR10.out.later hb11)
      clear hb11 x0 x1 f0 f1 l8;obtain ⟨r0, r1, g0, g1, lr2⟩ := FN HR11.out
      go_wp2_with fail;obtain ⟨n0, n1, _, _, ln⟩ := FN ((HR11.out.set 0 (.int .u64 0)).set 1 (.slice none 0 0))
      rw [HR2.out]
      refine Al (v := .agg #[.int .u64 0, .slice none 0 0]) ZW rfl ⟨_, rfl, Bh (xs := []) rfl (Ak _) (Aj _) (.inl rfl), (HI11.out.row zA).to⟩
structure Uu (w : World) (a : Option Addr) (n c : Nat) (g6 g8 L0 : Nat) (e : Int) (st : Rs) (v : Value) (J : List BD) (W : World) : Prop where
 d : Blk W g6 60 #[.slice a n c, .int .i64 (st.p : Int), .int .i64 st.k, .int .i64 st.f]
 s : Blk W g8 30 #[.int .u64 e, v]
 r4 : Blk W (w.heap.size + 1) 60 #[.slice none 0 0, .int .i64 0, .int .i64 0, .int .i64 0]
 r5 : Blk W (w.heap.size + 1 + 1) 30 #[.int .u64 0, .slice none 0 0]
 own : A6 L0 G8 L0 155 3 W v J
 bel : Below w.heap.size w W
 le : L0 ≤ W.heap.size
theorem Uu.later {w W W' : World} {a : Option Addr} {n c g6 g8 L0 : Nat} {e : Int} {st : Rs} {v : Value} {J : List BD} (h : Uu w a n c g6 g8 L0 e st v J W) (hb : Below W.heap.size W W') : Uu w a n c g6 g8 L0 e st v J W' :=
 ⟨h.d.later hb, h.s.later hb, h.r4.later hb, h.r5.later hb, A6.below h.own hb, Af hb h.bel, A4 h.le hb.size⟩
theorem MD (L : List (List Int)) : ∀ n k, k ≤ n → Bv L n = true → Bv L k = true
 | 0, k, h, hs => by rw [show k = 0 by omega]; rfl
 | n + 1, k, h, hs => by
  by_cases hk : k = n + 1
  ·rw [hk]; exact hs
  ·simp only [Bv, Ao] at hs
   exact MD L n k zC hs.1
theorem Je (lo hi : Int) (L : List (List Int)) (a : Option Addr) (n c : Nat) (w : World) (hl : DW.r (· < w.heap.size) w [.slice a n c] L) :
  Calls Tryz.prog 161 #[.agg #[.int .u64 lo, .int .u64 hi, .slice a n c]] w fun r w' => r = .returned (.bool (Bm ⟨lo, hi, L⟩)) ∧ Below w.heap.size w w' := by
 obtain ⟨rfl, hm, hcc, hcm⟩ := AS hl
 have HL := hid hl
 clear hl;by_cases h1 : lo < hi
 ·have d1' : decide (lo < hi) = true := Ae h1
  by_cases h2 : hi ≤ 4611686018427387904
  ·have d2' : decide (hi ≤ 4611686018427387904) = true := Ae h2
   by_cases h3 : 1 ≤ L.length
   ·have d3' : decide ((1 : Int) ≤ (L.length : Int)) = true := Ae zC
    by_cases h4 : L.length ≤ 8
    ·have d4' : decide ((L.length : Int) ≤ 8) = true := Ae zC
     have hG : decide (lo < hi ∧ hi ≤ 4611686018427387904 ∧ 1 ≤ L.length ∧ L.length ≤ 8) = true := Ae ⟨h1, h2, h3, h4⟩
     go_enter Tryz.func161, Tryz.ntmps161
     have hff : Hid (Bm ⟨lo, hi, L⟩ = (true && Bv L L.length)) := hid ZY
     have x0 : (w.alloc (.cells #[.int .u64 lo, .int .u64 hi, .slice a L.length c] 155)).cell? ⟨w.heap.size, 2, none⟩ = some (.slice a L.length c) := zO
     have hb0 : Below w.heap.size w (w.alloc (.cells #[.int .u64 lo, .int .u64 hi, .slice a L.length c] 155)) := zB
     have hs0 : w.heap.size < (w.alloc (.cells #[.int .u64 lo, .int .u64 hi, .slice a L.length c] 155)).heap.size := zO
     go_wp2_with fail;refine wp_scope_straight ?_
     go_wp2_with fail;refine wp_label ?_
     go_wp2_with fail;generalize w.alloc (.cells #[.int .u64 lo, .int .u64 hi, .slice a L.length c] 155) = w0 at *
     have HB0 := hid hb0
     clear hb0;go_loopw [3, 31] (fun g i wr => ∃ k : Nat, k ≤ L.length ∧ i = .int .i64 k ∧ g = .bool (true && Bv L k) ∧ Below w0.heap.size w0 wr) (fun _ i _ => L.length - (intOf i).toNat)
     case atStart => exact ⟨0, Aj _, rfl, zB9, Below.refl _ _⟩
     case round =>
      obtain ⟨k, hk, rfl, rfl, hb⟩ := hrel
      have HB := hid hb
      have HBW := hid (HB0.out.trans (hb.mono HB0.out.size))
      have hsz := hb.size
      by_cases hlt : k < L.length
      ·have i1 : (k : Int) < (L.length : Int) := by omega
       have i2 : (k : Int) ≤ (c : Int) := zC
       have d1 : decide ((k : Int) < (L.length : Int)) = true := Ae i1
       have X0 := (hb.cell (p := ⟨w.heap.size, 2, none⟩) hs0).trans x0
       obtain ⟨b, o, hA, hbb, ak, ck, u0, xl⟩ := EO (lift HL.out HBW.out) hlt
       subst hA;have hmono : (true && Bv L k) = false → (true && Bv L L.length) = false := fun h => by
        cases hg : true
        ·rfl
        ·rw [hg] at h
         rcases hh : Bv L L.length with _ | _
         ·rfl
         ·exfalso
          have := MD L L.length k zC hh
          rw [this] at h; cases h
       have hstep : Bv L (k + 1) = (Bv L k && (CT L[k] && Cp L[k] (L.take k))) := by
        show (Bv L k && Fu L k) = _
        unfold Fu; rw [Hj L k [] hlt]
       have HN := hid (EN L[k] ak _ ck wr xl)
       have HAP := hid (fun (W : World) (hW : Below wr.heap.size wr W) => DZ L[k] (L.take k) ak _ ck (some ⟨b, o, none⟩) k c W (lift xl hW) (GD (lift (lift HL.out HBW.out) hW) zC))
       have HMO := hid hmono
       have HST := hid hstep
       have hc0 : k ≤ c := zC
       obtain ⟨s1, hs1⟩ : ∃ s1, Bv L (k + 1) = s1 := ⟨_, rfl⟩
       have HS1 := hid hs1
       rw [hs1] at HST
       clear hs1;generalize Bv L k = s0 at *
       generalize CT L[k] = nn at *
       generalize Cp L[k] (L.take k) = ap at *
       generalize L[k] = X at *
       clear hb xl hmono hstep;rcases hg : (true && s0) with _ | _
       ·have hfin := hid (HMO.out hg)
        clear hg;go_wp2_with fail
        (try simp only [Exit.noGoto])
        (try go_wp2_with fail)
        go_ret;exact ⟨zAm, HBW.out⟩
       ·have hg2 : (true && s1) = (nn && ap) := by
         rw [HST.out, ← Bool.and_assoc, hg, Ce]
        have HG2 := hid hg2
        clear hg hg2;cases nn
        ·go_wp2_with fail
         refine HN.out.mono ?_
         rintro r w3 ⟨rfl, hb3⟩;have hbe := Af hb3 HB.out
         go_wp2_with fail;go_roundw
         case rel => exact ⟨k + 1, zC, zV, by rw [HS1.out, HG2.out]; rfl, hbe⟩
         case measure => (simp [intOf]; try omega)
        ·go_wp2_with fail
         refine HN.out.mono ?_
         rintro r w3 ⟨rfl, hb3⟩;have Y0 := (hb3.cell (p := ⟨w.heap.size, 2, none⟩) zN).trans X0
         have hbe := Af hb3 HB.out
         have HA2 := hid (HAP.out w3 hb3)
         go_wp2_with fail;refine HA2.out.mono ?_
         rintro r w4 ⟨rfl, hb4⟩;have hbf := Af hb4 hbe
         go_wp2_with fail;go_roundw
         case rel => exact ⟨k + 1, zC, zV, by rw [HS1.out, HG2.out]; rfl, hbf⟩
         case measure => (simp [intOf]; try omega)
      ·obtain rfl : k = L.length := by omega
       have d1 : decide ((L.length : Int) < (L.length : Int)) = false := Ad zC
       clear hb;go_wp2_with fail
       (try simp only [Exit.noGoto])
       (try go_wp2_with fail)
       go_ret;exact ⟨by rw [hff.out]; first | done | rfl | (simp; done) | simp [Exit.noGoto], HBW.out⟩
    ·have d4' : decide ((L.length : Int) ≤ 8) = false := Ad zC
     have hG : decide (lo < hi ∧ hi ≤ 4611686018427387904 ∧ 1 ≤ L.length ∧ L.length ≤ 8) = false := Ad zC
     go_enter Tryz.func161, Tryz.ntmps161
     have hff : Hid (Bm ⟨lo, hi, L⟩ = (false && Bv L L.length)) := hid ZY
     have x0 : (w.alloc (.cells #[.int .u64 lo, .int .u64 hi, .slice a L.length c] 155)).cell? ⟨w.heap.size, 2, none⟩ = some (.slice a L.length c) := zO
     have hb0 : Below w.heap.size w (w.alloc (.cells #[.int .u64 lo, .int .u64 hi, .slice a L.length c] 155)) := zB
     have hs0 : w.heap.size < (w.alloc (.cells #[.int .u64 lo, .int .u64 hi, .slice a L.length c] 155)).heap.size := zO
     go_wp2_with fail;refine wp_scope_straight ?_
     go_wp2_with fail;refine wp_label ?_
     go_wp2_with fail;generalize w.alloc (.cells #[.int .u64 lo, .int .u64 hi, .slice a L.length c] 155) = w0 at *
     have HB0 := hid hb0
     clear hb0;go_loopw [3, 31] (fun g i wr => ∃ k : Nat, k ≤ L.length ∧ i = .int .i64 k ∧ g = .bool (false && Bv L k) ∧ Below w0.heap.size w0 wr) (fun _ i _ => L.length - (intOf i).toNat)
     case atStart => exact ⟨0, Aj _, rfl, zB9, Below.refl _ _⟩
     case round =>
      obtain ⟨k, hk, rfl, rfl, hb⟩ := hrel
      have HB := hid hb
      have HBW := hid (HB0.out.trans (hb.mono HB0.out.size))
      have hsz := hb.size
      by_cases hlt : k < L.length
      ·have i1 : (k : Int) < (L.length : Int) := by omega
       have i2 : (k : Int) ≤ (c : Int) := zC
       have d1 : decide ((k : Int) < (L.length : Int)) = true := Ae i1
       have X0 := (hb.cell (p := ⟨w.heap.size, 2, none⟩) hs0).trans x0
       obtain ⟨b, o, hA, hbb, ak, ck, u0, xl⟩ := EO (lift HL.out HBW.out) hlt
       subst hA;have hmono : (false && Bv L k) = false → (false && Bv L L.length) = false := fun _ => rfl
       have hstep : Bv L (k + 1) = (Bv L k && (CT L[k] && Cp L[k] (L.take k))) := by
        show (Bv L k && Fu L k) = _
        unfold Fu; rw [Hj L k [] hlt]
       have HN := hid (EN L[k] ak _ ck wr xl)
       have HAP := hid (fun (W : World) (hW : Below wr.heap.size wr W) => DZ L[k] (L.take k) ak _ ck (some ⟨b, o, none⟩) k c W (lift xl hW) (GD (lift (lift HL.out HBW.out) hW) zC))
       have HMO := hid hmono
       have HST := hid hstep
       have hc0 : k ≤ c := zC
       obtain ⟨s1, hs1⟩ : ∃ s1, Bv L (k + 1) = s1 := ⟨_, rfl⟩
       have HS1 := hid hs1
       rw [hs1] at HST
       clear hs1;generalize Bv L k = s0 at *
       generalize CT L[k] = nn at *
       generalize Cp L[k] (L.take k) = ap at *
       generalize L[k] = X at *
       clear hb xl hmono hstep;rcases hg : (false && s0) with _ | _
       ·have hfin := hid (HMO.out hg)
        clear hg;go_wp2_with fail
        (try simp only [Exit.noGoto])
        (try go_wp2_with fail)
        go_ret;exact ⟨zAm, HBW.out⟩
       ·exfalso; simp at hg
      ·obtain rfl : k = L.length := by omega
       have d1 : decide ((L.length : Int) < (L.length : Int)) = false := Ad zC
       clear hb;go_wp2_with fail
       (try simp only [Exit.noGoto])
       (try go_wp2_with fail)
       go_ret;exact ⟨by rw [hff.out]; first | done | rfl | (simp; done) | simp [Exit.noGoto], HBW.out⟩
   ·have d3' : decide ((1 : Int) ≤ (L.length : Int)) = false := Ad zC
    have hG : decide (lo < hi ∧ hi ≤ 4611686018427387904 ∧ 1 ≤ L.length ∧ L.length ≤ 8) = false := Ad zC
    go_enter Tryz.func161, Tryz.ntmps161
    have hff : Hid (Bm ⟨lo, hi, L⟩ = (false && Bv L L.length)) := hid ZY
    have x0 : (w.alloc (.cells #[.int .u64 lo, .int .u64 hi, .slice a L.length c] 155)).cell? ⟨w.heap.size, 2, none⟩ = some (.slice a L.length c) := zO
    have hb0 : Below w.heap.size w (w.alloc (.cells #[.int .u64 lo, .int .u64 hi, .slice a L.length c] 155)) := zB
    have hs0 : w.heap.size < (w.alloc (.cells #[.int .u64 lo, .int .u64 hi, .slice a L.length c] 155)).heap.size := zO
    go_wp2_with fail;refine wp_scope_straight ?_
    go_wp2_with fail;refine wp_label ?_
    go_wp2_with fail;generalize w.alloc (.cells #[.int .u64 lo, .int .u64 hi, .slice a L.length c] 155) = w0 at *
    have HB0 := hid hb0
    clear hb0;go_loopw [3, 31] (fun g i wr => ∃ k : Nat, k ≤ L.length ∧ i = .int .i64 k ∧ g = .bool (false && Bv L k) ∧ Below w0.heap.size w0 wr) (fun _ i _ => L.length - (intOf i).toNat)
    case atStart => exact ⟨0, Aj _, rfl, zB9, Below.refl _ _⟩
    case round =>
     obtain ⟨k, hk, rfl, rfl, hb⟩ := hrel
     have HB := hid hb
     have HBW := hid (HB0.out.trans (hb.mono HB0.out.size))
     have hsz := hb.size
     by_cases hlt : k < L.length
     ·have i1 : (k : Int) < (L.length : Int) := by omega
      have i2 : (k : Int) ≤ (c : Int) := zC
      have d1 : decide ((k : Int) < (L.length : Int)) = true := Ae i1
      have X0 := (hb.cell (p := ⟨w.heap.size, 2, none⟩) hs0).trans x0
      obtain ⟨b, o, hA, hbb, ak, ck, u0, xl⟩ := EO (lift HL.out HBW.out) hlt
      subst hA;have hmono : (false && Bv L k) = false → (false && Bv L L.length) = false := fun _ => rfl
      have hstep : Bv L (k + 1) = (Bv L k && (CT L[k] && Cp L[k] (L.take k))) := by
       show (Bv L k && Fu L k) = _
       unfold Fu; rw [Hj L k [] hlt]
      have HN := hid (EN L[k] ak _ ck wr xl)
      have HAP := hid (fun (W : World) (hW : Below wr.heap.size wr W) => DZ L[k] (L.take k) ak _ ck (some ⟨b, o, none⟩) k c W (lift xl hW) (GD (lift (lift HL.out HBW.out) hW) zC))
      have HMO := hid hmono
      have HST := hid hstep
      have hc0 : k ≤ c := zC
      obtain ⟨s1, hs1⟩ : ∃ s1, Bv L (k + 1) = s1 := ⟨_, rfl⟩
      have HS1 := hid hs1
      rw [hs1] at HST
      clear hs1;generalize Bv L k = s0 at *
      generalize CT L[k] = nn at *
      generalize Cp L[k] (L.take k) = ap at *
      generalize L[k] = X at *
      clear hb xl hmono hstep;rcases hg : (false && s0) with _ | _
      ·have hfin := hid (HMO.out hg)
       clear hg;go_wp2_with fail
       (try simp only [Exit.noGoto])
       (try go_wp2_with fail)
       go_ret;exact ⟨zAm, HBW.out⟩
      ·exfalso; simp at hg
     ·obtain rfl : k = L.length := by omega
      have d1 : decide ((L.length : Int) < (L.length : Int)) = false := Ad zC
      clear hb;go_wp2_with fail
      (try simp only [Exit.noGoto])
      (try go_wp2_with fail)
      go_ret;exact ⟨by rw [hff.out]; first | done | rfl | (simp; done) | simp [Exit.noGoto], HBW.out⟩
  ·have d2' : decide (hi ≤ 4611686018427387904) = false := Ad h2
   have hG : decide (lo < hi ∧ hi ≤ 4611686018427387904 ∧ 1 ≤ L.length ∧ L.length ≤ 8) = false := Ad zC
   go_enter Tryz.func161, Tryz.ntmps161
   have hff : Hid (Bm ⟨lo, hi, L⟩ = (false && Bv L L.length)) := hid ZY
   have x0 : (w.alloc (.cells #[.int .u64 lo, .int .u64 hi, .slice a L.length c] 155)).cell? ⟨w.heap.size, 2, none⟩ = some (.slice a L.length c) := zO
   have hb0 : Below w.heap.size w (w.alloc (.cells #[.int .u64 lo, .int .u64 hi, .slice a L.length c] 155)) := zB
   have hs0 : w.heap.size < (w.alloc (.cells #[.int .u64 lo, .int .u64 hi, .slice a L.length c] 155)).heap.size := zO
   go_wp2_with fail;refine wp_scope_straight ?_
   go_wp2_with fail;refine wp_label ?_
   go_wp2_with fail;generalize w.alloc (.cells #[.int .u64 lo, .int .u64 hi, .slice a L.length c] 155) = w0 at *
   have HB0 := hid hb0
   clear hb0;go_loopw [3, 31] (fun g i wr => ∃ k : Nat, k ≤ L.length ∧ i = .int .i64 k ∧ g = .bool (false && Bv L k) ∧ Below w0.heap.size w0 wr) (fun _ i _ => L.length - (intOf i).toNat)
   case atStart => exact ⟨0, Aj _, rfl, zB9, Below.refl _ _⟩
   case round =>
    obtain ⟨k, hk, rfl, rfl, hb⟩ := hrel
    have HB := hid hb
    have HBW := hid (HB0.out.trans (hb.mono HB0.out.size))
    have hsz := hb.size
    by_cases hlt : k < L.length
    ·have i1 : (k : Int) < (L.length : Int) := by omega
     have i2 : (k : Int) ≤ (c : Int) := zC
     have d1 : decide ((k : Int) < (L.length : Int)) = true := Ae i1
     have X0 := (hb.cell (p := ⟨w.heap.size, 2, none⟩) hs0).trans x0
     obtain ⟨b, o, hA, hbb, ak, ck, u0, xl⟩ := EO (lift HL.out HBW.out) hlt
     subst hA;have hmono : (false && Bv L k) = false → (false && Bv L L.length) = false := fun _ => rfl
     have hstep : Bv L (k + 1) = (Bv L k && (CT L[k] && Cp L[k] (L.take k))) := by
      show (Bv L k && Fu L k) = _
      unfold Fu; rw [Hj L k [] hlt]
     have HN := hid (EN L[k] ak _ ck wr xl)
     have HAP := hid (fun (W : World) (hW : Below wr.heap.size wr W) => DZ L[k] (L.take k) ak _ ck (some ⟨b, o, none⟩) k c W (lift xl hW) (GD (lift (lift HL.out HBW.out) hW) zC))
     have HMO := hid hmono
     have HST := hid hstep
     have hc0 : k ≤ c := zC
     obtain ⟨s1, hs1⟩ : ∃ s1, Bv L (k + 1) = s1 := ⟨_, rfl⟩
     have HS1 := hid hs1
     rw [hs1] at HST
     clear hs1;generalize Bv L k = s0 at *
     generalize CT L[k] = nn at *
     generalize Cp L[k] (L.take k) = ap at *
     generalize L[k] = X at *
     clear hb xl hmono hstep;rcases hg : (false && s0) with _ | _
     ·have hfin := hid (HMO.out hg)
      clear hg;go_wp2_with fail
      (try simp only [Exit.noGoto])
      (try go_wp2_with fail)
      go_ret;exact ⟨zAm, HBW.out⟩
     ·exfalso; simp at hg
    ·obtain rfl : k = L.length := by omega
     have d1 : decide ((L.length : Int) < (L.length : Int)) = false := Ad zC
     clear hb;go_wp2_with fail
     (try simp only [Exit.noGoto])
     (try go_wp2_with fail)
     go_ret;exact ⟨by rw [hff.out]; first | done | rfl | (simp; done) | simp [Exit.noGoto], HBW.out⟩
 ·have d1' : decide (lo < hi) = false := Ad h1
  have hG : decide (lo < hi ∧ hi ≤ 4611686018427387904 ∧ 1 ≤ L.length ∧ L.length ≤ 8) = false := Ad zC
  go_enter Tryz.func161, Tryz.ntmps161
  have hff : Hid (Bm ⟨lo, hi, L⟩ = (false && Bv L L.length)) := hid ZY
  have x0 : (w.alloc (.cells #[.int .u64 lo, .int .u64 hi, .slice a L.length c] 155)).cell? ⟨w.heap.size, 2, none⟩ = some (.slice a L.length c) := zO
  have hb0 : Below w.heap.size w (w.alloc (.cells #[.int .u64 lo, .int .u64 hi, .slice a L.length c] 155)) := zB
  have hs0 : w.heap.size < (w.alloc (.cells #[.int .u64 lo, .int .u64 hi, .slice a L.length c] 155)).heap.size := zO
  go_wp2_with fail;refine wp_scope_straight ?_
  go_wp2_with fail;refine wp_label ?_
  go_wp2_with fail;generalize w.alloc (.cells #[.int .u64 lo, .int .u64 hi, .slice a L.length c] 155) = w0 at *
  have HB0 := hid hb0
  clear hb0;go_loopw [3, 31] (fun g i wr => ∃ k : Nat, k ≤ L.length ∧ i = .int .i64 k ∧ g = .bool (false && Bv L k) ∧ Below w0.heap.size w0 wr) (fun _ i _ => L.length - (intOf i).toNat)
  case atStart => exact ⟨0, Aj _, rfl, zB9, Below.refl _ _⟩
  case round =>
   obtain ⟨k, hk, rfl, rfl, hb⟩ := hrel
   have HB := hid hb
   have HBW := hid (HB0.out.trans (hb.mono HB0.out.size))
   have hsz := hb.size
   by_cases hlt : k < L.length
   ·have i1 : (k : Int) < (L.length : Int) := by omega
    have i2 : (k : Int) ≤ (c : Int) := zC
    have d1 : decide ((k : Int) < (L.length : Int)) = true := Ae i1
    have X0 := (hb.cell (p := ⟨w.heap.size, 2, none⟩) hs0).trans x0
    obtain ⟨b, o, hA, hbb, ak, ck, u0, xl⟩ := EO (lift HL.out HBW.out) hlt
    subst hA;have hmono : (false && Bv L k) = false → (false && Bv L L.length) = false := fun _ => rfl
    have hstep : Bv L (k + 1) = (Bv L k && (CT L[k] && Cp L[k] (L.take k))) := by
     show (Bv L k && Fu L k) = _
     unfold Fu; rw [Hj L k [] hlt]
    have HN := hid (EN L[k] ak _ ck wr xl)
    have HAP := hid (fun (W : World) (hW : Below wr.heap.size wr W) => DZ L[k] (L.take k) ak _ ck (some ⟨b, o, none⟩) k c W (lift xl hW) (GD (lift (lift HL.out HBW.out) hW) zC))
    have HMO := hid hmono
    have HST := hid hstep
    have hc0 : k ≤ c := zC
    obtain ⟨s1, hs1⟩ : ∃ s1, Bv L (k + 1) = s1 := ⟨_, rfl⟩
    have HS1 := hid hs1
    rw [hs1] at HST
    clear hs1;generalize Bv L k = s0 at *
    generalize CT L[k] = nn at *
    generalize Cp L[k] (L.take k) = ap at *
    generalize L[k] = X at *
    clear hb xl hmono hstep;rcases hg : (false && s0) with _ | _
    ·have hfin := hid (HMO.out hg)
     clear hg;go_wp2_with fail
     (try simp only [Exit.noGoto])
     (try go_wp2_with fail)
     go_ret;exact ⟨zAm, HBW.out⟩
    ·exfalso; simp at hg
   ·obtain rfl : k = L.length := by omega
    have d1 : decide ((L.length : Int) < (L.length : Int)) = false := Ad zC
    clear hb;go_wp2_with fail
    (try simp only [Exit.noGoto])
    (try go_wp2_with fail)
    go_ret;exact ⟨by rw [hff.out]; first | done | rfl | (simp; done) | simp [Exit.noGoto], HBW.out⟩
theorem OB (lo hi : Int) (L : List (List Int)) (a : Option Addr) (n c : Nat) (w : World) (hl : DW.r (· < w.heap.size) w [.slice a n c] L) :
  Calls Tryz.prog 164 #[.agg #[.int .u64 lo, .int .u64 hi, .slice a n c]] w fun r w' => r = .returned (.bool (Bm ⟨lo, hi, L⟩)) ∧ Below w.heap.size w w' := by
 obtain ⟨rfl, hm, hcc, hcm⟩ := AS hl
 have HL := hid hl
 clear hl;by_cases hG : lo < hi ∧ hi ≤ 4611686018427387904 ∧ 1 ≤ L.length ∧ L.length ≤ 8
 ·obtain ⟨g1, g2, g3, g4⟩ := hG
  have hS : Bm ⟨lo, hi, L⟩ = Bv L L.length := by unfold Bm; dsimp only; rw [Ae (⟨g1, g2, g3, g4⟩ : lo < hi ∧ hi ≤ 4611686018427387904 ∧ 1 ≤ L.length ∧ L.length ≤ 8), Ce]
  have HBAD := hid (fun (k : Nat) (h : k < L.length) (hb : Fu L k = false) => (show Bm ⟨lo, hi, L⟩ = false by
   rw [hS]
   rcases hh : Bv L L.length with _ | _
   ·rfl
   ·have := Lv L L.length k hh h
    rw [hb] at this; cases this))
  have HS := hid hS
  have d1 : decide (hi ≤ lo) = false := Ad zC
  have d2 : decide ((4611686018427387904 : Int) < hi) = false := Ad zC
  have d3 : decide ((L.length : Int) < 1) = false := Ad zC
  have d4 : decide ((8 : Int) < (L.length : Int)) = false := Ad zC
  have x0 : (w.alloc (.cells #[.int .u64 lo, .int .u64 hi, .slice a L.length c] 155)).cell? ⟨w.heap.size, 2, none⟩ = some (.slice a L.length c) := zO
  have hb0 : Below w.heap.size w (w.alloc (.cells #[.int .u64 lo, .int .u64 hi, .slice a L.length c] 155)) := zB
  have hs0 : w.heap.size < (w.alloc (.cells #[.int .u64 lo, .int .u64 hi, .slice a L.length c] 155)).heap.size := zO
  clear hS;go_enter Tryz.func164, Tryz.ntmps164
  go_wp2_with fail;generalize (w.alloc (.cells #[.int .u64 lo, .int .u64 hi, .slice a L.length c] 155)) = w0 at *
  have HB0 := hid hb0
  clear hb0;go_loopw [3] (fun i wr => ∃ k : Nat, k ≤ L.length ∧ i = .int .i64 k ∧ Hid (Bv L k = true) ∧ Below w0.heap.size w0 wr) (fun i _ => L.length - (intOf i).toNat)
  case atStart => exact ⟨0, Aj _, rfl, hid rfl, Below.refl _ _⟩
  case round =>
   obtain ⟨k, hk, rfl, hf, hb⟩ := hrel
   have HB := hid hb
   have HBW := hid (HB0.out.trans (hb.mono HB0.out.size))
   have hsz := hb.size
   have X0 := (hb.cell (p := ⟨w.heap.size, 2, none⟩) hs0).trans x0
   by_cases hlt : k < L.length
   ·have i1 : (k : Int) < (L.length : Int) := by omega
    have e0 : decide ((k : Int) < (L.length : Int)) = true := Ae i1
    obtain ⟨b, o, hA, hbb, ak, ck, u0, xl⟩ := EO (lift HL.out HBW.out) hlt
    subst hA;obtain ⟨X, hX⟩ : ∃ X, L[k] = X := ⟨_, rfl⟩
    have hset : Fu L k = (CT X && Cp X (L.take k)) := by unfold Fu; rw [Hj L k [] hlt, hX]
    rw [hX] at u0 xl
    clear hX;have hbd := HBAD.out k hlt
    have hgd : Fu L k = true → Bv L (k + 1) = true := fun h => by show (Bv L k && Fu L k) = true; rw [hf.out, h]; rfl
    have hnr : CT X = (decide (1 ≤ X.length ∧ X.length ≤ 8) && (Ba X && decide (X.getLastD 0 ≤ 4294967295))) := rfl
    have HR := hid (KE X ak _ ck wr xl)
    have HT := hid (fun (W : World) (hW : Below wr.heap.size wr W) => Oz L k X (some ⟨b, o, none⟩) _ c ak _ ck W (lift (lift HL.out HBW.out) hW) (lift xl hW) zC)
    have hla := Jw X
    have hu := fun (h : 1 ≤ X.length) => Cw xl (i := X.length - 1) zC
    clear hb xl;generalize Cp X (L.take k) = ap at *
    by_cases hx1 : 1 ≤ X.length
    ·have e1 : decide ((X.length : Int) < 1) = false := Ad zC
     by_cases hx2 : X.length ≤ 8
     ·have e2 : decide ((8 : Int) < (X.length : Int)) = false := Ad zC
      rw [Ae (⟨hx1, hx2⟩ : 1 ≤ X.length ∧ X.length ≤ 8), Ce, hla hx1] at hnr
      obtain ⟨b2, o2, hA2, hbb2, y0, hy0, hy1⟩ := hu hx1
      subst hA2;rw [hnr] at hset
      clear hu hla hnr;obtain ⟨m, hm'⟩ : ∃ m, X.length = m + 1 := ⟨X.length - 1, zC⟩
      simp only [hm', DR] at hset y0 hy0 hy1 HR HT u0 e1 e2
      have q1 : (0 : Int) ≤ (m : Int) + 1 - 1 := zC
      have hmm : m ≤ 7 := zC
      generalize X[m]'zC = y at *
      generalize Ba X = R at *
      clear hx1 hx2 hm';cases R
      ·have hff : Hid (Bm ⟨lo, hi, L⟩ = false) := hid (hbd (by rw [hset]; rfl))
       clear hset hbd hgd;go_wp2_with fail;refine HR.out.mono ?_
       rintro r w3 ⟨rfl, hb3⟩;have hbe := Af hb3 HBW.out
       go_wp2_with fail;go_ret;exact ⟨zH, hbe⟩
      ·by_cases hy : 4294967296 ≤ y
       ·have e3 : decide ((4294967296 : Int) ≤ y) = true := Ae hy
        have hff : Hid (Bm ⟨lo, hi, L⟩ = false) := hid (hbd (by rw [hset, Ad (by omega : ¬ y ≤ 4294967295)]; rfl))
        clear hset hbd hgd hy;go_wp2_with fail;refine HR.out.mono ?_
        rintro r w3 ⟨rfl, hb3⟩;have Y0 := (hb3.cell (p := ⟨b2, o2 + m, none⟩) hbb2).trans y0
        have hbe := Af hb3 HBW.out
        go_wp2_with fail;go_ret;exact ⟨zH, hbe⟩
       ·have e3 : decide ((4294967296 : Int) ≤ y) = false := Ad hy
        rw [Ae (by omega : y ≤ 4294967295)] at hset
        have HSE := hid hset
        have HBD := hid hbd
        have HGD := hid hgd
        clear hset hbd hgd hy;go_wp2_with fail;refine HR.out.mono ?_
        rintro r w3 ⟨rfl, hb3⟩;have Y0 := (hb3.cell (p := ⟨b2, o2 + m, none⟩) hbb2).trans y0
        have Z0 := (hb3.cell (p := ⟨w.heap.size, 2, none⟩) zN).trans X0
        have hbe := Af hb3 HBW.out
        have hbe2 := Af hb3 HB.out
        have HTT := hid (HT.out w3 hb3)
        clear X0 y0;cases ap
        ·have hff : Hid (Bm ⟨lo, hi, L⟩ = false) := hid (HBD.out (by rw [HSE.out]; rfl))
         go_wp2_with fail;refine HTT.out.mono ?_
         rintro r w4 ⟨rfl, hb4⟩;have hbf := Af hb4 hbe
         go_wp2_with fail;go_ret;exact ⟨zH, hbf⟩
        ·have hnx : Hid (Bv L (k + 1) = true) := hid (HGD.out (by rw [HSE.out]; rfl))
         go_wp2_with fail;refine HTT.out.mono ?_
         rintro r w4 ⟨rfl, hb4⟩;have hbf := Af hb4 hbe2
         go_wp2_with fail;go_roundw
         case rel => exact ⟨k + 1, zC, zV, hnx, hbf⟩
         case measure => (simp [intOf]; try omega)
     ·have e2 : decide ((8 : Int) < (X.length : Int)) = true := Ae zC
      have hff : Hid (Bm ⟨lo, hi, L⟩ = false) := hid (hbd (by rw [hset, hnr, Ad (fun h => hx2 h.2 : ¬ (1 ≤ X.length ∧ X.length ≤ 8))]; rfl))
      clear hset hbd hgd hnr hla hu hx1 hx2;go_wp2_with fail;go_ret;exact ⟨zH, HBW.out⟩
    ·have e1 : decide ((X.length : Int) < 1) = true := Ae zC
     have hff : Hid (Bm ⟨lo, hi, L⟩ = false) := hid (hbd (by rw [hset, hnr, Ad (fun h => hx1 h.1 : ¬ (1 ≤ X.length ∧ X.length ≤ 8))]; rfl))
     clear hset hbd hgd hnr hla hu hx1;go_wp2_with fail;go_ret;exact ⟨zH, HBW.out⟩
   ·obtain rfl : k = L.length := by omega
    have e0 : decide ((L.length : Int) < (L.length : Int)) = false := Ad zC
    have hff : Hid (Bm ⟨lo, hi, L⟩ = true) := hid (by rw [HS.out, hf.out])
    clear hb;go_wp2_with fail;go_ret;exact ⟨zH, HBW.out⟩
 ·by_cases g1 : lo < hi
  ·have d1 : decide (hi ≤ lo) = false := Ad zC
   by_cases g2 : hi ≤ 4611686018427387904
   ·have d2 : decide ((4611686018427387904 : Int) < hi) = false := Ad zC
    by_cases g3 : 1 ≤ L.length
    ·have d3 : decide ((L.length : Int) < 1) = false := Ad zC
     have d4 : decide ((8 : Int) < (L.length : Int)) = true := Ae zC
     have hff : Hid (Bm ⟨lo, hi, L⟩ = false) := hid ZR
     clear hG;go_enter Tryz.func164, Tryz.ntmps164
     go_wp2_with fail;go_ret;exact ⟨zH, zB⟩
    ·have d3 : decide ((L.length : Int) < 1) = true := Ae zC
     have hff : Hid (Bm ⟨lo, hi, L⟩ = false) := hid ZR
     clear hG;go_enter Tryz.func164, Tryz.ntmps164
     go_wp2_with fail;go_ret;exact ⟨zH, zB⟩
   ·have d2 : decide ((4611686018427387904 : Int) < hi) = true := Ae zC
    have hff : Hid (Bm ⟨lo, hi, L⟩ = false) := hid ZR
    clear hG;go_enter Tryz.func164, Tryz.ntmps164
    go_wp2_with fail;go_ret;exact ⟨zH, zB⟩
  ·have d1 : decide (hi ≤ lo) = true := Ae zC
   have hff : Hid (Bm ⟨lo, hi, L⟩ = false) := hid ZR
   clear hG;go_enter Tryz.func164, Tryz.ntmps164
   go_wp2_with fail;go_ret;exact ⟨zH, zB⟩
end Go.Proofs.YtlbffbkbkajciaaGreat
