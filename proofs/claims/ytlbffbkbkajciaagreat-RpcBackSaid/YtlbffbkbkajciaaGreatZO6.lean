/- Mini: Needed by rpcOnce_walk, part 6: texts put together by shake.py; no condition. -/
import Derived.Test.YtlbffbkbkajciaaGreatZO5
import Derived.Test.YtlbffbkbkajciaaGreatZO3
import Derived.Laws.Bits64
import Derived.Deep.AppendLies
import Derived.Deep.RegionLaw
import Derived.Test.YtlbffbkbkajciaaGreatZO2
import Derived.Test.YtlbffbkbkajciaaGreatZO1
set_option linter.unusedVariables false
set_option linter.unusedSimpArgs false
set_option maxRecDepth 100000
set_option maxHeartbeats 6400000
namespace Go.Bs
theorem zBp{p:Prop}(h:p:=by simp [results, Tryz.results213, go_sem, y0, y1, l1]):p:=h
theorem Fq:type_of% @Proofs.Tryz.ntmps231:=@Proofs.Tryz.ntmps231
theorem Gv:type_of% @Proofs.Tryz.func231:=@Proofs.Tryz.func231
open Go.RowKit
end Go.Bs
namespace Go.Proofs.YtlbffbkbkajciaaGreat
open Go.RowKit Go.Bs Go.Maps
def Eg (w1 : World) (g most : Nat) (J : List UInt8) (w : World) : Prop := Ao w1 g g most J none w
theorem Eg.new {w : World} {g most : Nat} (h : Bv w g g most [] none 0) : Eg w g most [] w := Ao.refl h
theorem Eg.step {w1 w w' : World} {g most : Nat} {J J' : List UInt8} (h : Eg w1 g most J w) (k : ∀ a c, Bv w g g most J a c → Ao w g g most J' a w') : Eg w1 g most J' w' := by
 obtain ⟨a, c, h1, h2, h3⟩ := h
 exact Ao.trans (J := J) h2 h3 (k a c h1)
theorem Eg.at {w1 w : World} {g most : Nat} {J : List UInt8} (h : Eg w1 g most J w) : ∃ a c, Bv w g g most J a c ∧ (∀ {J' : List UInt8} {w' : World}, Ao w g g most J' a w' → Eg w1 g most J' w') ∧ (∀ q, q < w1.heap.size → q ≠ g → ¬ CT g a q) := by
 obtain ⟨a, c, h1, h2, h3⟩ := h
 refine ⟨a, c, h1, fun k => Ao.trans (J := J) h2 h3 k, fun q hq hn e => ?_⟩
 rw [EJ] at e
 rcases e with e | e
 ·exact hn e
 ·rcases h3 with h3 | ⟨q', h3, h4⟩
  ·rw [h3] at e; cases e
  ·rw [h3] at e; have := Cf e; omega
theorem Eg.later {w1 w w' : World} {g most : Nat} {J : List UInt8} (h : Eg w1 g most J w) (hb : Below w.heap.size w w') : Eg w1 g most J w' := by
 obtain ⟨a, c, h1, k, _⟩ := h.at
 exact k ⟨a, c, h1.later hb, Tch.BQ hb, .inl rfl⟩
theorem Eg.tch {w1 w : World} {g most : Nat} {J : List UInt8} (h : Eg w1 g most J w) : Tch (· = g) w1 w := by
 obtain ⟨a, c, h1, h2, h3⟩ := h
 refine h2.mono fun q _ e => ?_
 rw [EJ] at e
 rcases e with e | e
 ·exact e
 ·cases e
theorem Eg.blk {w1 w : World} {g most : Nat} {J : List UInt8} (h : Eg w1 g most J w) {b : Nat} {t : TypeId} {cs : Array Value} (hB : Blk w1 b t cs) (hn : b ≠ g) : Blk w b t cs := hB.tch h.tch hn
theorem Eg.below {w0 w1 w : World} {g most : Nat} {J : List UInt8} (h : Eg w1 g most J w) (h0 : Below w0.heap.size w0 w1) (hg : w0.heap.size ≤ g) : Below w0.heap.size w0 w :=
 h0.trans (h.tch.BE h0.size fun b _ e => zD)
end Go.Proofs.YtlbffbkbkajciaaGreat
namespace Go.Bs
open Go.RowKit
end Go.Bs
namespace Go.Proofs.YtlbffbkbkajciaaGreat
open Go.RowKit Go.Bs Go.Maps
def BU (p : List UInt8) : List UInt8 := Db p ++ Cq 4 (CS p)
theorem Gn (p : List UInt8) : (BU p).length = (Db p).length + 4 := by simp [BU, Fj]
theorem Pe (n : Nat) (hn : n ≤ 100000000000000) (w : World) :
  Calls Tryz.prog 177 #[.int .i64 n] w fun r w' => r = .returned (.int .i64 ((AH n).length + n + 4 : Nat)) ∧ Below w.heap.size w w' := by
 have HS := hid (Jc n hn w)
 have hl := A2 n
 generalize (AH n).length = k at *
 go_enter Tryz.func177, Tryz.ntmps177
 go_wp2_with fail;refine HS.out.mono ?_
 rintro r w1 ⟨rfl, hb1⟩;go_wp2;go_ret;exact ⟨zAm, hb1⟩
theorem I5 (w : World) {g base most : Nat} {J : List UInt8} {a : Option Addr} {c : Nat} (h : Bv w g base most J a c) (D : List UInt8) (ad : Option Addr) (nd cd : Nat)
  (hD : Ag.r (fun q => q < w.heap.size ∧ ¬ CT g a q) w [.slice ad nd cd] D) (hm : D.length ≤ 2097152) (hfit : J.length + (BU D).length ≤ most) (hlen : J.length + (BU D).length ≤ 100000000000000) :
  Calls Tryz.prog 112 #[.pointer (some ⟨g, 0, none⟩), .slice ad nd cd] w fun r w' => r = .returned (.tuple #[]) ∧ Ao w g base most (J ++ BU D) a w' := by
 obtain ⟨rfl, _, _, _⟩ := AP hD
 rw [Gn] at hfit hlen
 have d1 : decide ((2097152 : Int) < (D.length : Int)) = false := Ab zD
 have HB := hid (NU w h D ad _ cd hD zD zD)
 have HC := hid (fun (W : World) h => Qb D ad D.length cd W h)
 have HL := G9 D
 have hb : Hid (BU D = Db D ++ Cq 4 (CS D)) := hid rfl
 have HD := hid hD
 generalize BU D = K at *
 generalize CS D = s at *
 generalize Db D = E at *
 clear h hD;go_enter Tryz.func112, Tryz.ntmps112
 go_wp2_with fail;refine HB.out.mono ?_
 rintro r w3 ⟨rfl, a3, c3, p3, t3, h3⟩;have hs3 := t3.size
 have HD3 := hid (Ag.keep HD.out fun q hq => t3.block q hq.1 hq.2)
 have HST := hid (fun (J' : List UInt8) (W : World) (k : Ao w3 g base most J' a3 W) => Ao.trans (J := J ++ E) t3 h3 k)
 have P3 := hid p3
 clear p3 t3 h3;go_wp2_with fail;refine (HC.out w3 (Ag.mono HD3.out fun q hq => zU)).mono ?_
 rintro r w4 ⟨rfl, hb4⟩;have e1 : (s : Int) % 18446744073709551616 = s := zD
 go_wp2_with fail;refine (OM w4 (P3.out.later hb4) s zD 4 zD zL zL).mono ?_
 rintro r w5 ⟨rfl, hs5⟩;have hst := HST.out _ _ (Ao.later hb4 hs5)
 rw [Au, ← hb.out] at hst
 have HST2 := hid hst
 clear hst hs5;go_wp2;first | go_end0 | refine Ai (Aq rfl _ _ _) rfl ?_
 exact ⟨rfl, HST2.out⟩
theorem Nx (w : World) (D : List UInt8) (ad : Option Addr) (nd cd : Nat) (hD : Ag.r (· < w.heap.size) w [.slice ad nd cd] D) (hm : D.length ≤ 2097152) :
  Calls Tryz.prog 110 #[.slice ad nd cd] w fun r w' => ∃ x, r = .returned (.tuple #[x, .int .i64 0]) ∧ Ih w' w.heap.size x (BU D) ∧ Below w.heap.size w w' := by
 obtain ⟨rfl, _, _, _⟩ := AP hD
 have HS := hid (Pe D.length zD w)
 have hvl := A2 D.length
 have hl : (BU D).length = (AH D.length).length + D.length + 4 := by rw [Gn, EW]
 have HN := hid (fun W : World => Iu W ((AH D.length).length + D.length + 4) zD)
 have HP := hid (fun (W : World) (g : Nat) (h : Bv W g g ((AH D.length).length + D.length + 4) [] none 0) (h1 : Ag.r (fun q => q < W.heap.size ∧ ¬ CT g none q) W [.slice ad D.length cd] D) => I5 W h D ad _ cd h1 hm zL zL)
 have HD := hid hD
 generalize BU D = K at *
 generalize (AH D.length).length + D.length + 4 = M at *
 clear hD;go_enter Tryz.func110, Tryz.ntmps110
 go_wp2_with fail;refine HS.out.mono ?_
 rintro r w1 ⟨rfl, hb1⟩;go_wp2_with fail;refine (HN.out w1).mono ?_
 rintro r w2 ⟨rfl, hp2, hb2⟩;have hbw2 : Below w.heap.size w w2 := Af hb2 hb1
 have hz1 := hb1.size
 have hz2 := hb2.size
 have HQ := hid (HP.out w2 _ hp2 (Ag.mono (Ag.keep HD.out fun q hq => hbw2.block q hq) fun q hq => ⟨zD, by rw [EJ]; rintro (e | e); omega; cases e⟩))
 clear hp2;go_wp2_with fail;refine HQ.out.mono ?_
 rintro r w3 ⟨rfl, hs3⟩;have K3 : Hid (Eg w2 w1.heap.size M K w3) := hid hs3
 clear hs3 HQ;go_wp2_with fail;obtain ⟨a7, b7, p7, k7, _⟩ := K3.out.at
 refine (K1 w3 p7).mono ?_
 rintro r w8 ⟨x, rfl, hr, hb8⟩;have hbw := K3.out.below hbw2 zD
 have HR := hid hr
 clear hr k7 p7;go_wp2;go_ret2
 exact ⟨_, rfl, HR.out.low hbw.size, Af hb8 hbw⟩
def FM : List UInt8 → Nat
 | [] => 0
 | b :: l => b.toNat + 256 * FM l
theorem PW : ∀ l : List UInt8, FM l < 256 ^ l.length
 | [] => by decide
 | b :: l => by
  have h1 := PW l
  have h2 := b.toNat_lt
  simp only [FM, A7, ER]
  omega
theorem LK : ∀ (l : List UInt8) (b : UInt8), FM (l ++ [b]) = FM l + b.toNat * 256 ^ l.length
 | [], b => by simp [FM]
 | x :: l, b => by
  simp only [Ez, FM, A7, LK l b, ER, Nat.mul_add, Nat.add_assoc]
  congr 1
  congr 1
  rw [Nat.mul_comm 256, Nat.mul_assoc]
theorem Jw : ∀ (n x : Nat), FM (Cq n x) = x % 256 ^ n
 | 0, x => by simp [Cq, FM, Nat.mod_one]
 | n + 1, x => by
  have h : (UInt8.ofNat (x % 256)).toNat = x % 256 := by rw [UInt8.toNat_ofNat']; omega
  simp only [Cq, FM, h, Jw n (x / 256)]
  rw [ER, Nat.mul_comm (256 ^ n) 256, Nat.mod_mul]
theorem Tg {i X c : Nat} (hX : X < 256 ^ i) (hi : i ≤ 7) (hc : c < 256) : bits .or .u64 (X : Int) (IntKind.u64.wrap ((c : Int) * 2 ^ (8 * i))) = ((X + c * 256 ^ i : Nat) : Int) := by
 have h1 : (256 : Nat) ^ i = 2 ^ (8 * i) := by rw [Nat.pow_mul]
 have h2 : (256 : Nat) ^ i ≤ 256 ^ 7 := Nat.pow_le_pow_right zP hi
 have h3 : (256 : Nat) ^ 7 = 72057594037927936 := zP
 have h4 : c * 256 ^ i ≤ 255 * 256 ^ i := Cl _ zD
 have e : (c : Int) * 2 ^ (8 * i) = ((c * 256 ^ i : Nat) : Int) := by
  rw [h1]
  simp
 rw [e, IntKind.wrap_u64, Int.emod_eq_of_lt zD zD, bits_or_u64_nat _ _ zD zD]
 rw [h1] at hX ⊢
 rw [Nat.or_comm, ← Nat.shiftLeft_eq, ← Nat.shiftLeft_add_eq_or_of_lt hX, Nat.add_comm]
theorem KT (w : World) {g : Nat} {B : List UInt8} {a : Option Addr} {s : Rs} (h : AK w g B a s) (hB : B.length ≤ 1000000000) (n : Nat) (hn : n ≤ 8) :
  Calls Tryz.prog 262 #[.pointer (some ⟨g, 0, none⟩), .int .i64 (n : Int)] w fun r w' => r = .returned (.int .u64 (FM (s.take B n).2 : Nat)) ∧ Av w g B a (s.take B n).1 w' := by
 have HT := hid (JP w h (n : Int) zD zD)
 have hlen : (s.take B n).2.length ≤ n := by
  unfold Rs.take;split
  ·simp; omega
  ·simp
 have hlt := h.blk.lt
 generalize s.take B (n : Int) = T at *
 obtain ⟨s1, L⟩ := T
 dsimp only at *;have n0 : (0 : Int) ≤ (n : Int) := zD
 have n8 : (n : Int) ≤ 8 := zD
 clear h;go_enter Tryz.func262, Tryz.ntmps262
 go_wp2_with fail;refine HT.out.mono ?_
 rintro r w1 ⟨v, rfl, hv, hst⟩;obtain ⟨a1, c1, hfv, hv2, _⟩ := AE hv
 simp only [Ap, AD] at hfv
 subst hfv;have HV := hid hv2
 have HST := hid hst
 clear hv hv2 hst;go_wp2_with fail;go_loopw [5, 14] (fun x i wr => ∃ j : Nat, j ≤ L.length ∧ i = .int .i64 j ∧ x = .int .u64 ((FM (L.take j) : Nat) : Int) ∧ w1 = wr) (fun _ i _ => L.length - (intOf i).toNat)
 case atStart => exact ⟨0, Aj _, rfl, rfl, rfl⟩
 case round =>
  obtain ⟨j, hj, rfl, rfl, rfl⟩ := hrel
  by_cases hlt2 : j < L.length
  ·have d1 : decide ((j : Int) < (L.length : Int)) = true := Ac zD
   have i1 : (j : Int) < (L.length : Int) := zD
   obtain ⟨b, o, rfl, _, hc⟩ := Cx HV.out hlt2
   have hff := hid (show FM (L.take (j + 1)) = FM (L.take j) + L[j].toNat * 256 ^ j by
    rw [A6 hlt2, LK]
    congr 3
    simp
    omega)
   have hX : FM (L.take j) < 256 ^ j := by
    have := PW (L.take j)
    rwa [List.length_take, Nat.min_eq_left hj] at this
   have hb := L[j].toNat_lt
   have E := hid (Tg (c := L[j].toNat) hX zD zD)
   have hXb : FM (L.take j) < 18446744073709551616 := Ah hX (A5 (Nat.pow_le_pow_right zP (show j ≤ 7 by omega)) zP)
   generalize L[j].toNat = y at *
   generalize FM (L.take j) = X at *
   clear hX;have m0 : (0 : Int) ≤ 8 * (j : Int) := zD
   have m1 : 8 * (j : Int) ≤ 64 := zD
   go_wp2_with fail;go_roundw
   case rel => exact ⟨j + 1, zD, zW, by rw [E.out, hff.out], by trivial⟩
   case measure => (simp [intOf]; try omega)
  ·obtain rfl : j = L.length := by omega
   have d1 : decide ((L.length : Int) < (L.length : Int)) = false := Ab zD
   rw [Gx]
   go_wp2_with fail;go_ret;exact ⟨rfl, HST.out⟩
theorem Ny (m : Int) (w : World) : Calls Tryz.prog 261 #[.int .i64 m] w fun r w' => r = .returned (.int .i64 (min m 2097152)) ∧ w = w' := by
 by_cases h : m ≤ 2097152
 ·have e : min m 2097152 = m := by omega
  rw [e]
  clear e;go_enter Tryz.func261, Tryz.ntmps261
  go_wp2_with fail;go_ret;exact ⟨rfl, rfl⟩
 ·have e : min m 2097152 = 2097152 := by omega
  have h' : 2097152 < m := zD
  rw [e]
  clear e;go_enter Tryz.func261, Tryz.ntmps261
  go_wp2_with fail;go_ret;exact ⟨rfl, rfl⟩
theorem K6 {w : World} {g : Nat} {B : List UInt8} {a : Option Addr} {s : Rs} (h : AK w g B a s) (D : List UInt8) (ad : Option Addr) (cd : Nat) (hD : Ag.r (· < w.heap.size) w [.slice ad D.length cd] D) (v : Nat) (p : Int) :
  Calls Tryz.prog 263 #[.slice ad D.length cd, .int .u64 (v : Int), .func (Fn.func 180) #[.pointer (some ⟨g, 0, none⟩)] #[], .int .i64 p] w fun r w' => r = .returned (.tuple #[]) ∧ Av w g B a (if CS D = v then s else s.fail 6 p) w' := by
 have HC := hid (Qb D ad _ cd w hD)
 have hlt := G9 D
 have HH := hid h
 clear h hD;generalize CS D = q at *
 by_cases hq : q = v
 ·rw [Ak hq]
  subst hq;have d1 : ((q : Int) != (q : Int)) = false := zO
  go_enter Tryz.func263, Tryz.ntmps263
  go_wp2_with fail;refine HC.out.mono ?_
  rintro r w1 ⟨rfl, hb⟩;have HST := hid (Av.later HH.out hb)
  clear hb;go_wp2_with fail;first | go_end0 | refine Ai (Aq rfl _ _ _) rfl ?_
  exact ⟨rfl, HST.out⟩
 ·rw [An hq]
  have d1 : ((q : Int) != (v : Int)) = true := zL
  clear hq;go_enter Tryz.func263, Tryz.ntmps263
  go_wp2_with fail;refine HC.out.mono ?_
  rintro r w1 ⟨rfl, hb⟩;have HST := hid (Av.later HH.out hb)
  have HF := hid (Bf w1 HST.out.1 6 p zD)
  clear hb;go_wp2_with fail;refine HF.out.mono ?_
  rintro r w2 ⟨rfl, hst⟩;have HS2 := hid (Av.trans HST.out.2 hst)
  clear hst;go_wp2_with fail;first | go_end0 | refine Ai (Aq rfl _ _ _) rfl ?_
  exact ⟨rfl, HS2.out⟩
def Rs.frame (B : List UInt8) (s : Rs) (m : Int) : Rs × List UInt8 :=
 let b := s.DH B (min m 2097152)
 let f := b.1.take B 4
 let r := if CS b.2 = FM f.2 then f.1 else f.1.fail 6 b.1.p
 (r, if r.k = 0 then b.2 else [])
theorem Pf (w : World) {g : Nat} {B : List UInt8} {a : Option Addr} {s : Rs} (h : AK w g B a s) (hB : B.length ≤ 1000000000) (m : Int) (hm : -9223372036854775808 ≤ m ∧ m ≤ 9223372036854775807) :
  Calls Tryz.prog 245 #[.pointer (some ⟨g, 0, none⟩), .int .i64 m] w fun r w' => ∃ v, r = .returned v ∧ Ag.r (fun q => w.heap.size ≤ q ∧ q < w'.heap.size) w' [v] (s.frame B m).2 ∧ Av w g B a (s.frame B m).1 w' := by
 have hlt := h.blk.lt
 have HBD := hid (Ny m w)
 have HBL := hid (LY w h zD (min m 2097152) zD)
 unfold Rs.frame;dsimp only;generalize s.DH B (min m 2097152) = P at *
 obtain ⟨s1, D⟩ := P
 dsimp only at *;have HFX := hid (fun (W : World) (hW : AK W g B a s1) => (by have := KT W hW hB 4 zD; exact this : Calls Tryz.prog 262 #[.pointer (some ⟨g, 0, none⟩), .int .i64 4] W fun r w' => r = .returned (.int .u64 ((FM (s1.take B 4).2 : Nat) : Int)) ∧ Av W g B a (s1.take B 4).1 w'))
 have HAT := hid (fun (W : World) (hW : AK W g B a s1) => BI W hW)
 generalize s1.take B 4 = T at *
 obtain ⟨s2, F⟩ := T
 dsimp only at *;generalize FM F = v at *
 have HCK := hid (fun (W : World) (hW : AK W g B a s2) (ad : Option Addr) (cd : Nat) (hD : Ag.r (· < W.heap.size) W [.slice ad D.length cd] D) => K6 hW D ad cd hD v (s1.p : Int))
 generalize (if CS D = v then s2 else s2.fail 6 (s1.p : Int)) = s3 at *
 generalize hRS : (if s3.k = 0 then D else []) = RES
 have HRS := hid hRS
 generalize min m 2097152 = mm at *
 clear h hRS;by_cases hk : s3.k = 0
 ·have HG := hid (fun (V : World) (hV : AK V g B a s3) => (by have := Ax V hV; rw [Ac hk] at this; exact this : Calls Tryz.prog 44 #[.pointer (some ⟨g, 0, none⟩)] V fun r w' => r = .returned (.bool true) ∧ Below V.heap.size V w'))
  have HR2 : Hid (RES = D) := hid (by rw [← HRS.out]; exact Ak hk)
  clear hk;go_enter Tryz.func245, Tryz.ntmps245
  go_wp2_with fail;refine HBD.out.mono ?_
  rintro r w0 ⟨rfl, rfl⟩;go_wp2_with fail;refine HBL.out.mono ?_
  rintro r w1 ⟨v1, rfl, hv1, hst1⟩;obtain ⟨ad, cd, hfv, hv2, _⟩ := AE hv1
  simp only [Ap, AD] at hfv
  subst hfv;have HV1 := hid hv2
  have HS1 := hid hst1
  have hz1 := hst1.2.size
  clear hv1 hv2 hst1;go_wp2_with fail;refine (HAT.out w1 HS1.out.1).mono ?_
  rintro r w1' ⟨rfl, rfl⟩;go_wp2_with fail;refine (HFX.out w1 HS1.out.1).mono ?_
  rintro r w3 ⟨rfl, hst3⟩;have HV3 := hid (Ag.mono (Ag.keep HV1.out (w' := w3) fun q hq => hst3.2.block q hq.2 zU) (S' := fun q => w.heap.size ≤ q ∧ q < w3.heap.size) fun q hq => ⟨hq.1, Ah hq.2 hst3.2.size⟩)
  have HS3 := hid (Av.trans HS1.out.2 hst3)
  clear hst3;go_wp2_with fail;refine (HCK.out w3 HS3.out.1 ad cd (Ag.mono HV3.out fun q hq => hq.2)).mono ?_
  rintro r w4 ⟨rfl, hst4⟩;have HV4 := hid (Ag.mono (Ag.keep HV3.out (w' := w4) fun q hq => hst4.2.block q hq.2 zU) (S' := fun q => w.heap.size ≤ q ∧ q < w4.heap.size) fun q hq => ⟨hq.1, Ah hq.2 hst4.2.size⟩)
  have HS4 := hid (Av.trans HS3.out.2 hst4)
  clear hst4;go_wp2_with fail;refine (HG.out w4 HS4.out.1).mono ?_
  rintro r w5 ⟨rfl, hb5⟩;have HSE := hid (HS4.out.then hb5)
  have HVF := hid (show Ag.r (fun q => w.heap.size ≤ q ∧ q < w5.heap.size) w5 [.slice ad D.length cd] D from Ag.mono (Ag.keep HV4.out fun q hq => hb5.block q hq.2) fun q hq => ⟨hq.1, Ah hq.2 hb5.size⟩)
  clear hb5;go_wp2_with fail;go_ret;rw [HR2.out]
  exact ⟨_, rfl, HVF.out, HSE.out⟩
 ·have HG := hid (fun (V : World) (hV : AK V g B a s3) => (by have := Ax V hV; rw [Ab hk] at this; exact this : Calls Tryz.prog 44 #[.pointer (some ⟨g, 0, none⟩)] V fun r w' => r = .returned (.bool false) ∧ Below V.heap.size V w'))
  have HR2 : Hid (RES = []) := hid (by rw [← HRS.out]; exact An hk)
  clear hk;go_enter Tryz.func245, Tryz.ntmps245
  go_wp2_with fail;refine HBD.out.mono ?_
  rintro r w0 ⟨rfl, rfl⟩;go_wp2_with fail;refine HBL.out.mono ?_
  rintro r w1 ⟨v1, rfl, hv1, hst1⟩;obtain ⟨ad, cd, hfv, hv2, _⟩ := AE hv1
  simp only [Ap, AD] at hfv
  subst hfv;have HV1 := hid hv2
  have HS1 := hid hst1
  have hz1 := hst1.2.size
  clear hv1 hv2 hst1;go_wp2_with fail;refine (HAT.out w1 HS1.out.1).mono ?_
  rintro r w1' ⟨rfl, rfl⟩;go_wp2_with fail;refine (HFX.out w1 HS1.out.1).mono ?_
  rintro r w3 ⟨rfl, hst3⟩;have HV3 := hid (Ag.mono (Ag.keep HV1.out (w' := w3) fun q hq => hst3.2.block q hq.2 zU) (S' := fun q => w.heap.size ≤ q ∧ q < w3.heap.size) fun q hq => ⟨hq.1, Ah hq.2 hst3.2.size⟩)
  have HS3 := hid (Av.trans HS1.out.2 hst3)
  clear hst3;go_wp2_with fail;refine (HCK.out w3 HS3.out.1 ad cd (Ag.mono HV3.out fun q hq => hq.2)).mono ?_
  rintro r w4 ⟨rfl, hst4⟩;have HV4 := hid (Ag.mono (Ag.keep HV3.out (w' := w4) fun q hq => hst4.2.block q hq.2 zU) (S' := fun q => w.heap.size ≤ q ∧ q < w4.heap.size) fun q hq => ⟨hq.1, Ah hq.2 hst4.2.size⟩)
  have HS4 := hid (Av.trans HS3.out.2 hst4)
  clear hst4;go_wp2_with fail;refine (HG.out w4 HS4.out.1).mono ?_
  rintro r w5 ⟨rfl, hb5⟩;have HSE := hid (HS4.out.then hb5)
  clear hb5;go_wp2_with fail;go_ret;rw [HR2.out]
  exact ⟨_, rfl, A3 (xs := []) rfl (Al _) (Aj _) (.inl rfl), HSE.out⟩
theorem QZ (w : World) (B : List UInt8) (a : Option Addr) (n c : Nat) (hl : Ag.r (· < w.heap.size) w [.slice a n c] B) (hB : B.length ≤ 1000000000) (most : Int) (hm : -9223372036854775808 ≤ most ∧ most ≤ 9223372036854775807) :
  Calls Tryz.prog 213 #[.slice a n c, .int .i64 most] w fun r w' => ∃ v, r = .returned (.tuple #[v, .int .i64 ((KA (((⟨0, 0, 0⟩ : Rs).frame B most))).2.1 : Int), .agg #[.int .i64 (KA (((⟨0, 0, 0⟩ : Rs).frame B most))).2.2.1, .int .i64 (KA (((⟨0, 0, 0⟩ : Rs).frame B most))).2.2.2]]) ∧ Ag.r (fun q => w.heap.size ≤ q ∧ q < w'.heap.size) w' [v] (KA (((⟨0, 0, 0⟩ : Rs).frame B most))).1 ∧ Below w.heap.size w w' := by
 obtain ⟨rfl, hmx, hcc, hcm⟩ := AP hl
 have HN := hid (OH (w.alloc (.cells #[.int .i64 0, .int .i64 0] 58)) B a _ c (lift hl zA))
 have hLS := hid (fun (W : World) (h : AK W (w.heap.size + 1) B a ⟨0, 0, 0⟩) => Pf W h hB most hm)
 unfold KA;generalize ((⟨0, 0, 0⟩ : Rs).frame B most) = L at *
 obtain ⟨s1, D⟩ := L
 dsimp only at *;clear hl;by_cases hk : s1.k = 0
 ·rw [Ak hk]
  have d1 : decide (s1.k = 0) = true := Ac hk
  clear hk;dsimp only;go_enter Tryz.func213, Tryz.ntmps213
  go_wp2_with fail;refine HN.out.mono ?_
  rintro r w1 ⟨rfl, hrd, hb1⟩;have F1 : Blk w1 w.heap.size 58 #[.int .i64 0, .int .i64 0] := Blk.later zC hb1
  have hbw1 : Below w.heap.size w w1 := zA
  have hgl := hrd.blk.lt
  simp at hrd hgl
  have HRD := hid hrd
  have HLS := hid (hLS.out w1 hrd)
  clear hrd hb1;go_wp2_with fail;refine HLS.out.mono ?_
  rintro r w2 ⟨v, rfl, hr, hst⟩;obtain ⟨aD, cD, hv, hr2, _⟩ := AE hr
  simp only [Ap, AD] at hv
  subst hv;have HST := hid hst
  have HR := hid hr2
  have hs2 := hst.size
  have F2 := F1.tch hst.2 zD
  have hbw2 : Below w.heap.size w w2 := hbw1.trans (hst.below zD zD)
  have HFA := hid (GP w2 hst.1)
  clear hr hr2 hst F1;go_wp2_with fail;refine HFA.out.mono ?_
  rintro r w3 ⟨rfl, hb3⟩;have F3 := F2.later hb3
  have hG := CA (w3.alloc (.cells #[.int .i64 s1.k, .int .i64 s1.f] 58)) s1.k s1.f
  rw [d1] at hG
  have HG := hid hG
  have hbw3 := Af hb3 hbw2
  clear hG d1;go_wp2_with fail;refine HG.out.mono ?_
  rintro r w4 ⟨rfl, hb4⟩;have F4 := (F3.alloc _).later hb4
  obtain ⟨y0, y1, g0, g1, l1⟩ := Bu F4
  have hb24 : Below w2.heap.size w2 w4 := zA
  have hbw4 := Af hb24 hbw2
  have HST4 := hid (HST.out.then hb24)
  have hs4 := hb24.size
  have HAT := hid (BI w4 HST4.out.1)
  have HRK := hid (Ag.mono (S' := fun q => w.heap.size + 1 < q ∧ q < w4.heap.size) (Ag.keep HR.out fun q hq => hb24.block q hq.2) fun q hq => ⟨zD, zD⟩)
  clear F2 F3 F4;go_wp2_with fail;refine HAT.out.mono ?_
  rintro r w4' ⟨rfl, rfl⟩;go_wp2;refine Ai (v := .tuple #[.slice aD D.length cD, .int .i64 (s1.p : Int), .agg #[.int .i64 0, .int .i64 0]]) zBp rfl ⟨_, rfl, ?_, zA⟩
  refine Ag.mono (Ag.keep HRK.out fun q hq => ?_) fun q hq => ⟨zD, by simp [World.setCell]; exact hq.2⟩
  repeat (rw [AG _ _ _ _ zM])
 ·rw [An hk]
  have d1 : decide (s1.k = 0) = false := Ab hk
  clear hk;dsimp only;go_enter Tryz.func213, Tryz.ntmps213
  go_wp2_with fail;refine HN.out.mono ?_
  rintro r w1 ⟨rfl, hrd, hb1⟩;have F1 : Blk w1 w.heap.size 58 #[.int .i64 0, .int .i64 0] := Blk.later zC hb1
  have hbw1 : Below w.heap.size w w1 := zA
  have hgl := hrd.blk.lt
  simp at hrd hgl
  have HRD := hid hrd
  have HLS := hid (hLS.out w1 hrd)
  clear hrd hb1;go_wp2_with fail;refine HLS.out.mono ?_
  rintro r w2 ⟨v, rfl, hr, hst⟩;obtain ⟨aD, cD, hv, hr2, _⟩ := AE hr
  simp only [Ap, AD] at hv
  subst hv;have HST := hid hst
  have HR := hid hr2
  have hs2 := hst.size
  have F2 := F1.tch hst.2 zD
  have hbw2 : Below w.heap.size w w2 := hbw1.trans (hst.below zD zD)
  have HFA := hid (GP w2 hst.1)
  clear hr hr2 hst F1;go_wp2_with fail;refine HFA.out.mono ?_
  rintro r w3 ⟨rfl, hb3⟩;have F3 := F2.later hb3
  have hG := CA (w3.alloc (.cells #[.int .i64 s1.k, .int .i64 s1.f] 58)) s1.k s1.f
  rw [d1] at hG
  have HG := hid hG
  have hbw3 := Af hb3 hbw2
  clear hG d1;go_wp2_with fail;refine HG.out.mono ?_
  rintro r w4 ⟨rfl, hb4⟩;have F4 := (F3.alloc _).later hb4
  obtain ⟨y0, y1, g0, g1, l1⟩ := Bu F4
  have hb24 : Below w2.heap.size w2 w4 := zA
  have hbw4 := Af hb24 hbw2
  have HST4 := hid (HST.out.then hb24)
  have hs4 := hb24.size
  obtain ⟨z0, z1, e0, e1, l2⟩ := Bu (Blk.later (Blk.newAt w3 _ _ rfl) hb4)
  clear F2 F3 F4;go_wp2_with fail;go_region
  all_goals
   go_wp2;refine Ai (v := .tuple #[.slice none 0 0, .int .i64 0, .agg #[.int .i64 s1.k, .int .i64 s1.f]]) zBp rfl ⟨_, rfl, Cd rfl rfl zD, zA⟩
theorem Rs.GW {B : List UInt8} {s : Rs} (h : s.ok B.length) (most : Int) : (s.loose B most).1.ok B.length := by
 have hb := Rs.Gs (B := B) (Rs.EE h (m := min most 1048576))
 unfold Rs.loose;split
 ·split
  ·split
   ·exact Rs.Im hb _
   ·exact Rs.Im hb _
  ·split
   ·split
    ·exact Rs.Rw hb _
    ·exact Rs.Rw hb _
   ·exact Rs.BS hb zD
 ·exact hb
theorem Le (rest : List UInt8) : ∀ (f i x y : Nat), f + i = 9 → (0 < i → 0 < x) → x * 128 ^ i < 18446744073709551616 → De i y (Eh f x ++ rest) = (y + x * 128 ^ i, i + (Eh f x).length, 0)
 | 0, i, x, y, h, hp, hx => by
  obtain rfl : i = 9 := zD
  have hx2 : x < 2 := zD
  have ht : (UInt8.ofNat x).toNat = x := zL
  have := hp zD
  simp only [Eh, Ez, A8, A7, Br]
  unfold De;rw [ht, An zD, An zD, Ak zD]
 | f + 1, i, x, y, h, hp, hx => by
  simp only [Eh]
  by_cases h128 : x < 128
  ·rw [Ak h128]
   have ht : (UInt8.ofNat x).toNat = x := zL
   simp only [Ez, A8, A7, Br]
   unfold De;rw [ht, An zD, An zD, Ak zD]
  ·rw [An h128]
   have ht : (UInt8.ofNat (128 + x % 128)).toNat = 128 + x % 128 := zL
   simp only [Ez, A7]
   unfold De;rw [ht, An zD, An zD, An zD]
   have hdm : x = 128 * (x / 128) + x % 128 := (Nat.div_add_mod x 128).symm
   have he : x / 128 * 128 ^ (i + 1) + x % 128 * 128 ^ i = x * 128 ^ i := by
    rw [ER]
    generalize 128 ^ i = k
    conv => rhs; rw [hdm]
    rw [Nat.add_mul, Nat.mul_comm k 128, ← Nat.mul_assoc, Nat.mul_comm 128]
   rw [Le rest f (i + 1) (x / 128) _ zD (fun _ => zD) zD]
   refine Prod.ext ?_ (Prod.ext ?_ rfl)
   ·dsimp only
    rw [show (128 + x % 128) % 128 = x % 128 by omega]
    omega
   ·dsimp only; omega
theorem Qk (x : Nat) (rest : List UInt8) (hx : x < 18446744073709551616) : De 0 0 (AH x ++ rest) = (x, (AH x).length, 0) := by
 have := Le rest 9 0 x 0 rfl (fun h => zD) (by simpa using hx)
 unfold AH;rw [this]; simp
theorem Rs.Sr {B rest : List UInt8} {p x : Nat} (hx : x < 18446744073709551616) (h : B.drop p = AH x ++ rest) : (⟨p, 0, 0⟩ : Rs).num B = (⟨p + (AH x).length, 0, 0⟩, x) := by
 unfold Rs.num;rw [Ak rfl]
 dsimp only;rw [h, Qk x rest hx]
 rfl
theorem LP {B D rest : List UInt8} {p : Nat} (h : B.drop p = D ++ rest) : B.drop (p + D.length) = rest := by
 rw [← List.drop_drop, h]; simp
theorem I9 {B D rest : List UInt8} {p : Nat} (h : B.drop p = D ++ rest) (hp : p ≤ B.length) : p + D.length + rest.length = B.length := by
 have := IF List.length h
 simp at this
 omega
theorem Rs.MS {B D rest : List UInt8} {p : Nat} (h : B.drop p = D ++ rest) (hp : p ≤ B.length) : (⟨p, 0, 0⟩ : Rs).take B (D.length : Int) = (⟨p + D.length, 0, 0⟩, D) := by
 have hr := I9 h hp
 unfold Rs.take Rs.skip;rw [Ak rfl, An zD, An zM]
 simp [h]
theorem Rs.Tp {B rest : List UInt8} {p x : Nat} {m : Int} (hx : x < 18446744073709551616) (h : B.drop p = AH x ++ rest) (hm : (x : Int) ≤ m) : (⟨p, 0, 0⟩ : Rs).int B m = (⟨p + (AH x).length, 0, 0⟩, x) := by
 unfold Rs.int Rs.most;rw [Ak zD, Rs.Sr hx h, An zM]
theorem Rs.SX {B D rest : List UInt8} {p : Nat} {m : Int} (hx : D.length < 18446744073709551616) (h : B.drop p = Db D ++ rest) (hp : p ≤ B.length) (hm : (D.length : Int) ≤ m) : (⟨p, 0, 0⟩ : Rs).DH B m = (⟨p + (Db D).length, 0, 0⟩, D) := by
 unfold Db at h;rw [Au] at h
 have h2 := LP h
 have hr := I9 h hp
 unfold Rs.DH;rw [Rs.Tp hx h hm]
 dsimp only;rw [Rs.MS h2 zD]
 simp [Db, Nat.add_assoc]
def Rs.Ex (B : List UInt8) : Nat → Rs → Int → List Int → Rs × List Int
 | 0, s, _, out => (s, out)
 | n + 1, s, below, out =>
  if (s.num B).1.k = 0 then
   (if below ≤ ((s.num B).2 : Int) then ((s.num B).1.fail 13 s.p, []) else Rs.Ex B n (s.num B).1 (below - (s.num B).2 - 1) (out ++ [below - (s.num B).2 - 1]))
  else ((s.num B).1, [])
def Rs.delta (B : List UInt8) (s : Rs) (below : Int) (most : Int) : Rs × List Int := Rs.Ex B (s.int B most).2 (s.int B most).1 below []
def Rs.stream (B : List UInt8) (s : Rs) (prev : Option Int) : Rs × Int :=
 match prev with
 | none => ((s.num B).1, ((s.num B).2 : Int))
 | some q => (if 18446744073709551615 - q ≤ ((s.num B).2 : Int) then (s.num B).1.fail 13 s.p else (s.num B).1, ((s.num B).2 : Int) + q + 1)
def Rs.Dk (B : List UInt8) (pos : Int) : Nat → Rs → Option Int → List BB → Rs × List BB
 | 0, s, _, out => (s, out)
 | n + 1, s, prev, out =>
  if ((s.stream B prev).1.delta B pos 4).1.k = 0 then Rs.Dk B pos n ((s.stream B prev).1.delta B pos 4).1 (some (s.stream B prev).2) (out ++ [⟨(s.stream B prev).2, ((s.stream B prev).1.delta B pos 4).2⟩])
  else (((s.stream B prev).1.delta B pos 4).1, [])
def Rs.links (B : List UInt8) (s : Rs) (pos : Int) : Rs × List BB := Rs.Dk B pos (s.int B 16).2 (s.int B 16).1 none []
def Rs.ep (B : List UInt8) (s : Rs) : Rs × Nat := if (s.num B).1.k = 0 then (if epR ((s.num B).2 : Int) = true then s.num B else ((s.num B).1.fail 3 s.p, 0)) else ((s.num B).1, 0)
def Rs.po (B : List UInt8) (s : Rs) : Rs × Nat := if (s.num B).1.k = 0 then (if poR ((s.num B).2 : Int) = true then s.num B else ((s.num B).1.fail 3 s.p, 0)) else ((s.num B).1, 0)
def C4 (B : List UInt8) (s : Rs) : Rs × List UInt8 × Bool := ((Rs.strict (s.loose B 1048576)).1, (Rs.strict (s.loose B 1048576)).2, true)
def CM (B : List UInt8) (s : Rs) : Rs × List UInt8 × Bool := s.loose B 1048576
theorem Hy {c : UInt8} {n : Nat} (h : n = c.toNat) : UInt8.ofNat n = c := by
 subst h;exact UInt8.ofNat_toNat
theorem J1 : ∀ (l : List UInt8) (i x v u : Nat), i ≤ 9 → De i x l = (v, u, 0) → ∃ y, v = x + y * 128 ^ i ∧ (0 < i → 0 < y) ∧ l.take (u - i) = Eh (9 - i) y ∧ i < u ∧ u - i ≤ l.length
 | [], i, x, v, u, _, h => by simp [De] at h
 | c :: l, i, x, v, u, hi, h => by
  have hc := c.toNat_lt
  unfold De at h;by_cases h1 : i = 9 ∧ 1 < c.toNat
  ·rw [Ak h1] at h; simp at h
  ·rw [An h1] at h
   by_cases h2 : 0 < i ∧ c.toNat = 0
   ·rw [Ak h2] at h; simp at h
   ·rw [An h2] at h
    by_cases h3 : c.toNat < 128
    ·rw [Ak h3] at h
     simp only [CG, AD] at h
     obtain ⟨rfl, rfl⟩ := h
     refine ⟨c.toNat, rfl, fun h => zD, ?_, zD, by rw [A7]; omega⟩
     rw [show i + 1 - i = 1 by omega, List.take_succ_cons, List.take_zero]
     obtain ⟨f, hf⟩ : ∃ f, f = 9 - i := ⟨_, rfl⟩
     rw [← hf]
     cases f with
     | zero => simp only [Eh]; rw [Hy rfl]
     | succ f => simp only [Eh]; rw [Ak h3, Hy rfl]
    ·rw [An h3] at h
     have hi9 : i < 9 := by
      rcases Bo i 9 with h | h
      ·exact h
      ·exact absurd ⟨zD, zD⟩ h1
     obtain ⟨y, hv, hy, ht, hu, hlu⟩ := J1 l (i + 1) _ v u zD h
     have hy0 := hy zD
     refine ⟨c.toNat % 128 + 128 * y, ?_, fun _ => zD, ?_, zD, by rw [A7]; omega⟩
     ·rw [hv, ER, Nat.add_mul]
      generalize 128 ^ i = k
      rw [Nat.mul_comm k 128, ← Nat.mul_assoc y 128 k, Nat.mul_comm y 128]
      omega
     ·rw [show u - i = (u - (i + 1)) + 1 by omega, List.take_succ_cons, ht, show 9 - i = (9 - (i + 1)) + 1 by omega]
      simp only [Eh]
      rw [An zD, Hy (c := c) zD, show (c.toNat % 128 + 128 * y) / 128 = y by omega]
theorem Rs.C9 {B : List UInt8} {s : Rs} (hs : s.ok B.length) (h : (s.num B).1.k = 0) : B.drop s.p = AH (s.num B).2 ++ B.drop (s.num B).1.p ∧ (s.num B).1.f = 0 := by
 have hm := Rs.DL h
 have hle := hs.le
 unfold Rs.num at *;rw [Ak hm.2] at *
 dsimp only at h ⊢;obtain ⟨y, hv, _, ht, hu, hlu⟩ := J1 (B.drop s.p) 0 0 _ _ zD (show De 0 0 (B.drop s.p) = ((De 0 0 (B.drop s.p)).1, (De 0 0 (B.drop s.p)).2.1, 0) from by rw [← h])
 simp only [Nat.pow_zero, Eb, Bn, Nat.sub_zero] at hv ht
 refine ⟨?_, by rw [Ak h]⟩
 have : AH (De 0 0 (B.drop s.p)).1 = (B.drop s.p).take (De 0 0 (B.drop s.p)).2.1 := by rw [ht, hv]; rfl
 rw [this, ← List.drop_drop, Fs]
theorem Rs.G8 {B : List UInt8} {s : Rs} {m : Int} (hs : s.ok B.length) (h : (s.int B m).1.k = 0) : B.drop s.p = AH (s.int B m).2 ++ B.drop (s.int B m).1.p ∧ ((s.int B m).2 : Int) ≤ m ∧ s.k = 0 := by
 unfold Rs.int Rs.most at *;by_cases h0 : 0 ≤ m
 ·rw [Ak h0] at h ⊢
  by_cases h1 : m.toNat < (s.num B).2
  ·rw [Ak h1] at h; exact absurd h (Rs.Be zD)
  ·rw [An h1] at h ⊢
   exact ⟨(Rs.C9 hs h).1, zD, (Rs.DL h).2⟩
 ·rw [An h0] at h; exact absurd h (Rs.Be zD)
theorem Rs.NB {B : List UInt8} : ∀ (n : Nat) (s : Rs) (below : Int) (out : List Int), s.ok B.length → (Rs.Ex B n s below out).1.ok B.length
 | 0, s, below, out, h => h
 | n + 1, s, below, out, h => by
  simp only [Rs.Ex]
  split
  ·split
   ·exact Rs.BS (Rs.Cz h) zD
   ·exact Rs.NB n _ _ _ (Rs.Cz h)
  ·exact Rs.Cz h
theorem Rs.KJ {B : List UInt8} {s : Rs} {below most : Int} (h : s.ok B.length) : (s.delta B below most).1.ok B.length := Rs.NB _ _ _ _ (Rs.EE h)
theorem Rs.FR {B : List UInt8} {s : Rs} {prev : Option Int} (h : s.ok B.length) : (s.stream B prev).1.ok B.length := by
 unfold Rs.stream;cases prev with
 | none => exact Rs.Cz h
 | some q =>
  dsimp only;split
  ·exact Rs.BS (Rs.Cz h) zD
  ·exact Rs.Cz h
theorem Rs.LA {B : List UInt8} {pos : Int} : ∀ (n : Nat) (s : Rs) (prev : Option Int) (out : List BB), s.ok B.length → (Rs.Dk B pos n s prev out).1.ok B.length
 | 0, s, prev, out, h => h
 | n + 1, s, prev, out, h => by
  simp only [Rs.Dk]
  split
  ·exact Rs.LA n _ _ _ (Rs.KJ (Rs.FR h))
  ·exact Rs.KJ (Rs.FR h)
theorem Rs.Sy {B : List UInt8} {s : Rs} {pos : Int} (h : s.ok B.length) : (s.links B pos).1.ok B.length := Rs.LA _ _ _ _ (Rs.EE h)
theorem Rs.Jy {B : List UInt8} : ∀ (n : Nat) (s : Rs) (below : Int) (out : List Int), s.ok B.length → below ≤ 18446744073709551615 → (Rs.Ex B n s below out).1.k = 0 →
  ∃ l : List Int, (Rs.Ex B n s below out).2 = out ++ l ∧ l.length = n ∧ Cb below l = true ∧ (∀ x ∈ l, 0 ≤ x) ∧ B.drop s.p = CJ (Co below l) ++ B.drop (Rs.Ex B n s below out).1.p ∧ s.k = 0
 | 0, s, below, out, hs, _, h => ⟨[], by simp [Rs.Ex], rfl, rfl, zO, by simp [Rs.Ex, Co, CJ], h⟩
 | n + 1, s, below, out, hs, hb, h => by
  simp only [Rs.Ex] at h ⊢
  by_cases h1 : (s.num B).1.k = 0
  ·rw [Ak h1] at h ⊢
   by_cases h2 : below ≤ ((s.num B).2 : Int)
   ·rw [Ak h2] at h; exact absurd h (Rs.Be zD)
   ·rw [An h2] at h ⊢
    obtain ⟨l, e1, e2, e3, e4, e5, _⟩ := Rs.Jy n _ _ _ (Rs.Cz hs) zD h
    have hc := (Rs.C9 hs h1).1
    refine ⟨(below - (s.num B).2 - 1) :: l, ?_, by simp [e2], ?_, ?_, ?_, (Rs.DL h1).2⟩
    ·rw [e1]; simp
    ·simp only [Cb]; rw [e3, Bool.and_true]; exact Ac zD
    ·intro x hx
     rcases List.mem_cons.1 hx with rfl | hx
     ·omega
     ·exact e4 x hx
    ·simp only [Co]
     rw [Fg, Au, ← e5, show (below - (below - ((s.num B).2 : Int) - 1) - 1).toNat = (s.num B).2 by omega]
     exact hc
  ·rw [An h1] at h; exact absurd h h1
theorem Rs.Jz {B : List UInt8} {s : Rs} {below most : Int} (hs : s.ok B.length) (hb : below ≤ 18446744073709551615) (h : (s.delta B below most).1.k = 0) :
  Cb below (s.delta B below most).2 = true ∧ ((s.delta B below most).2.length : Int) ≤ most ∧ (∀ x ∈ (s.delta B below most).2, 0 ≤ x) ∧ B.drop s.p = D8 below (s.delta B below most).2 ++ B.drop (s.delta B below most).1.p ∧ s.k = 0 := by
 unfold Rs.delta at *;obtain ⟨l, e1, e2, e3, e4, e5, e6⟩ := Rs.Jy _ _ _ _ (Rs.EE hs) hb h
 have hi := Rs.G8 hs e6
 rw [A8] at e1
 rw [e1]
 refine ⟨e3, by rw [e2]; exact hi.2.1, e4, ?_, hi.2.2⟩
 unfold D8;rw [Au, ← e5, e2]
 exact hi.1
theorem Rs.Mc {B : List UInt8} {s : Rs} {prev : Option Int} (hs : s.ok B.length) (hp : ∀ q, prev = some q → 0 ≤ q ∧ q ≤ 18446744073709551615) (h : (s.stream B prev).1.k = 0) :
  (0 ≤ (s.stream B prev).2 ∧ (s.stream B prev).2 ≤ 18446744073709551615) ∧ (∀ q, prev = some q → q < (s.stream B prev).2) ∧ B.drop s.p = AH (match prev with | none => (s.stream B prev).2 | some q => (s.stream B prev).2 - q - 1).toNat ++ B.drop (s.stream B prev).1.p ∧ s.k = 0 := by
 have hsm := Rs.CL (B := B) (s := s)
 unfold Rs.stream at *;cases prev with
 | none =>
  dsimp only at h ⊢;have hc := (Rs.C9 hs h).1
  exact ⟨⟨zD, zD⟩, fun q e => (by cases e), by rw [Ch]; exact hc, (Rs.DL h).2⟩
 | some q =>
  have hq := hp q rfl
  dsimp only at h ⊢;by_cases h1 : 18446744073709551615 - q ≤ ((s.num B).2 : Int)
  ·rw [Ak h1] at h; exact absurd h (Rs.Be zD)
  ·rw [An h1] at h ⊢
   have hc := (Rs.C9 hs h).1
   refine ⟨⟨zD, zD⟩, fun q' e => ?_, ?_, (Rs.DL h).2⟩
   ·simp only [Bc] at e; omega
   ·rw [show (((s.num B).2 : Int) + q + 1 - q - 1).toNat = (s.num B).2 by omega]
    exact hc
theorem Rs.Iz {B : List UInt8} {pos : Int} (hpos : pos ≤ 18446744073709551615) : ∀ (n : Nat) (s : Rs) (prev : Option Int) (out : List BB), s.ok B.length → (∀ q, prev = some q → 0 ≤ q ∧ q ≤ 18446744073709551615) → (Rs.Dk B pos n s prev out).1.k = 0 →
  ∃ l : List BB, (Rs.Dk B pos n s prev out).2 = out ++ l ∧ l.length = n ∧ A1 (l.map BB.stream) = true ∧ (∀ q, prev = some q → A1 (q :: l.map BB.stream) = true) ∧ (∀ x ∈ l, Cv pos x = true ∧ LC x) ∧ B.drop s.p = JK pos prev l ++ B.drop (Rs.Dk B pos n s prev out).1.p ∧ s.k = 0
 | 0, s, prev, out, hs, _, h => ⟨[], by simp [Rs.Dk], rfl, rfl, fun q _ => rfl, zO, by simp [Rs.Dk, JK], h⟩
 | n + 1, s, prev, out, hs, hp, h => by
  simp only [Rs.Dk] at h ⊢
  by_cases h1 : ((s.stream B prev).1.delta B pos 4).1.k = 0
  ·rw [Ak h1] at h ⊢
   obtain ⟨d1, d2, d3, d4, d5⟩ := Rs.Jz (Rs.FR hs) hpos h1
   obtain ⟨s1, s2, s3, s4⟩ := Rs.Mc hs hp d5
   obtain ⟨l, e1, e2, e3, e4, e5, e6, _⟩ := Rs.Iz hpos n _ _ _ (Rs.KJ (Rs.FR hs)) (fun q e => by simp only [Bc] at e; subst e; exact s1) h
   refine ⟨⟨(s.stream B prev).2, ((s.stream B prev).1.delta B pos 4).2⟩ :: l, ?_, by simp [e2], ?_, ?_, ?_, ?_, s4⟩
   ·rw [e1]; simp
   ·exact e4 _ rfl
   ·intro q hq
    have := e4 _ rfl
    simp only [List.map_cons, A1]
    rw [As]
    exact ⟨Ac (s2 q hq), this⟩
   ·intro x hx
    rcases List.mem_cons.1 hx with rfl | hx
    ·refine ⟨?_, s1, d3⟩
     simp only [Cv, As, Aw]
     exact ⟨zD, d1⟩
    ·exact e5 x hx
   ·rw [s3, d4, e6]
    cases prev <;> simp only [JK, Au]
  ·rw [An h1] at h; exact absurd h h1
theorem Rs.Fz {B : List UInt8} {s : Rs} {pos : Int} (hs : s.ok B.length) (hpos : pos ≤ 18446744073709551615) (h : (s.links B pos).1.k = 0) :
  Bl pos (s.links B pos).2 = true ∧ (∀ x ∈ (s.links B pos).2, LC x) ∧ B.drop s.p = CR pos (s.links B pos).2 ++ B.drop (s.links B pos).1.p ∧ s.k = 0 := by
 unfold Rs.links at *;obtain ⟨l, e1, e2, e3, _, e5, e6, e7⟩ := Rs.Iz hpos _ _ _ _ (Rs.EE hs) (fun q e => by cases e) h
 have hi := Rs.G8 hs e7
 rw [A8] at e1
 rw [e1]
 refine ⟨?_, fun x hx => (e5 x hx).2, ?_, hi.2.2⟩
 ·simp only [Bl, As, Aw, List.all_eq_true]
  exact ⟨zD, e3, fun x hx => (e5 x hx).1⟩
 ·unfold CR
  rw [Au, ← e6, e2]
  exact hi.1
theorem Rs.KI {B : List UInt8} {s : Rs} (hs : s.ok B.length) (h : (s.ep B).1.k = 0) : epR ((s.ep B).2 : Int) = true ∧ B.drop s.p = AH (s.ep B).2 ++ B.drop (s.ep B).1.p ∧ s.k = 0 := by
 unfold Rs.ep at *;by_cases h1 : (s.num B).1.k = 0
 ·rw [Ak h1] at h ⊢
  by_cases h2 : epR ((s.num B).2 : Int) = true
  ·rw [Ak h2]; exact ⟨h2, (Rs.C9 hs h1).1, (Rs.DL h1).2⟩
  ·rw [An h2] at h; exact absurd h (Rs.Be zD)
 ·rw [An h1] at h; exact absurd h h1
theorem Rs.Sg {B : List UInt8} {s : Rs} (hs : s.ok B.length) (h : (s.po B).1.k = 0) : poR ((s.po B).2 : Int) = true ∧ B.drop s.p = AH (s.po B).2 ++ B.drop (s.po B).1.p ∧ s.k = 0 := by
 unfold Rs.po at *;by_cases h1 : (s.num B).1.k = 0
 ·rw [Ak h1] at h ⊢
  by_cases h2 : poR ((s.num B).2 : Int) = true
  ·rw [Ak h2]; exact ⟨h2, (Rs.C9 hs h1).1, (Rs.DL h1).2⟩
  ·rw [An h2] at h; exact absurd h (Rs.Be zD)
 ·rw [An h1] at h; exact absurd h h1
structure Cy (w W : World) (g : Nat) (B : List UInt8) (a : Option Addr) (s : Rs) : Prop where
 rd : AK W g B a s
 dat : Ag.r (fun q => q < w.heap.size ∧ q ≠ g) W [.slice a B.length B.length] B
 tch : Tch (· = g) w W
 lt : g < w.heap.size
section
variable {w W W' : World} {g : Nat} {B : List UInt8} {a : Option Addr} {s s' : Rs}
theorem Cy.refl (h : AK w g B a s) : Cy w w g B a s := ⟨h, h.dat, Tch.refl _ _, h.blk.lt⟩
theorem Cy.step (h : Cy w W g B a s) (k : Av W g B a s' W') : Cy w W' g B a s' :=
 ⟨k.1, Ag.keep h.dat fun q hq => k.2.block q (Ah hq.1 h.tch.size) hq.2, h.tch.trans k.2 fun _ _ h => h, h.lt⟩
theorem Cy.row (h : Cy w W g B a s) (hb : Below w.heap.size W W') : Cy w W' g B a s := by
 have hd := Ag.keep h.dat (w' := W') fun q hq => hb.block q hq.1
 have hs := h.tch.size
 have hs2 := hb.size
 exact ⟨⟨h.rd.blk.below hb h.lt, Ag.mono hd fun q hq => ⟨zD, hq.2⟩, h.rd.ok⟩, hd, h.tch.trans (Tch.Ff hb) (fun b hb hle => zD), h.lt⟩
theorem Cy.to (h : Cy w W g B a s) : Av w g B a s W := ⟨h.rd, h.tch⟩
theorem Ev {base : Nat} {e : TypeId} {size : Nat} {v : Value} {n : Nat} {xs : List Value} (h : W.ownsRow base e size v n xs) (hg : g < base) (hb : Tch (· = g) W W') : W'.ownsRow base e size v n xs := by
 refine ⟨h.1, ?_⟩
 rcases h.2 with h0 | ⟨g', cap, cur, h1, h2, h3, h4⟩
 ·exact .inl h0
 ·exact .inr ⟨g', cap, cur, h1, h2, (hb.block _ (Blk.lt h3) zD).trans h3, h4⟩
end
theorem Ia (w : World) {g : Nat} {B : List UInt8} {a : Option Addr} {s : Rs} (h : AK w g B a s) (hB : B.length ≤ 1000000000) (below : Int) (hbl : 0 ≤ below ∧ below ≤ 18446744073709551615) (most : Int) (hmo : 0 ≤ most ∧ most ≤ 1000) :
  Calls Tryz.prog 234 #[.pointer (some ⟨g, 0, none⟩), .int .u64 below, .int .i64 most] w fun r w' => ∃ v, r = .returned v ∧ AQ.r (fun q => w.heap.size ≤ q ∧ q < w'.heap.size) w' [v] (s.delta B below most).2 ∧ Av w g B a (s.delta B below most).1 w' := by
 obtain ⟨i0, hi, hz0, hz1, hz2⟩ := Bq LF
 have HI := hid (Dt w h zD most zD)
 have hNm := Rs.FK (B := B) (s := s) (m := most)
 have hlt := h.blk.lt
 have HIN := hid (Cy.refl h)
 unfold Rs.delta;generalize s.int B most = I at *
 obtain ⟨s1, N⟩ := I
 dsimp only at *;have hN : N ≤ 1000 := zD
 clear h;go_enter Tryz.func234, Tryz.ntmps234
 go_wp2_with fail;refine HI.out.mono ?_
 rintro r w1 ⟨rfl, hst⟩;have HIN1 := hid (HIN.out.step hst)
 clear hst;go_wp2_with fail;go_loopw [1, 7, 13] (fun b v i wr => ∃ (k : Nat) (bel : Int) (J : List Int) (st : Rs), k ≤ N ∧ i = .int .i64 k ∧ b = .int .u64 bel ∧ 0 ≤ bel ∧ bel ≤ 18446744073709551615 ∧ Hid (J.length = k) ∧ wr.ownsRow w.heap.size 22 1 v J.length (Bx J) ∧ Hid (∀ x ∈ J, 0 ≤ x ∧ x ≤ 18446744073709551615) ∧ Hid (Cy w wr g B a st) ∧ Hid (Rs.Ex B N s1 below [] = Rs.Ex B (N - k) st bel J)) (fun _ _ i _ => N - (intOf i).toNat)
 case atStart => exact ⟨0, below, [], s1, Aj _, rfl, rfl, hbl.1, hbl.2, hid rfl, ⟨rfl, .inl ⟨rfl, rfl⟩⟩, hid zO, HIN1, hid rfl⟩
 case round =>
  obtain ⟨k, bel, J, st, hk, rfl, rfl, hb0, hb1, hJl, hown, hJb, hin, hsp⟩ := hrel
  obtain ⟨av, cv, rfl⟩ := Bh hown
  have hJ9 : J.length ≤ 1000 := by have := hJl.out; omega
  rcases Bo k N with hlt2 | hge
  ·have HAT := hid (BI wr hin.out.rd)
   have HVR := hid (Cj wr hin.out.rd zD)
   have hx := Rs.CL (B := B) (s := st)
   have hxb := Rs.Iw (B := B) (s := st)
   have hstep : Rs.Ex B (N - k) st bel J = (if (st.num B).1.k = 0 then (if bel ≤ ((st.num B).2 : Int) then ((st.num B).1.fail 13 st.p, []) else Rs.Ex B (N - (k + 1)) (st.num B).1 (bel - (st.num B).2 - 1) (J ++ [bel - (st.num B).2 - 1])) else ((st.num B).1, [])) := by
    rw [show N - k = (N - (k + 1)) + 1 by omega]; rfl
   have HO := hid hown
   have i1 : (k : Int) < (N : Int) := zD
   have d1 : decide ((k : Int) < (N : Int)) = true := Ac i1
   have d1' : decide (k < N) = true := Ac hlt2
   generalize st.num B = R at *
   obtain ⟨st1, x⟩ := R
   dsimp only at *;have HBAD := hid hxb
   clear hown hxb;by_cases hk1 : st1.k = 0
   ·rw [Ak hk1] at hstep
    by_cases hbx : bel ≤ (x : Int)
    ·rw [Ak hbx] at hstep
     have d2 : decide (bel ≤ (x : Int)) = true := Ac hbx
     have hfk : (st1.fail 13 st.p).k ≠ 0 := Rs.Be zD
     have HSP := hid (hsp.out.trans hstep)
     clear hstep hsp hk1;go_wp2_with fail;refine HAT.out.mono ?_
     rintro r w2 ⟨rfl, rfl⟩;go_wp2_with fail;refine HVR.out.mono ?_
     rintro r w3 ⟨rfl, hst3⟩;have HIN3 := hid (hin.out.step hst3)
     clear hst3;go_wp2_with fail;refine (Bf w3 HIN3.out.rd 13 (st.p : Int) zD).mono ?_
     rintro r w4 ⟨rfl, hst4⟩;have HIN4 := hid (HIN3.out.step hst4)
     have hg := Ax w4 HIN4.out.rd
     rw [Ab hfk] at hg
     have HG := hid hg
     clear hst4 hg hfk;go_wp2_with fail;refine HG.out.mono ?_
     rintro r w5 ⟨rfl, hb5⟩;have HE := hid (HIN4.out.to.then hb5)
     go_wp2;go_ret;rw [HSP.out]
     exact ⟨_, rfl, A3 (xs := []) rfl (Al _) (Aj _) (.inl rfl), HE.out⟩
    ·rw [An hbx] at hstep
     have d2 : decide (bel ≤ (x : Int)) = false := Ab hbx
     have HSP := hid (hsp.out.trans hstep)
     have w1' : 0 ≤ bel - ((x : Int) + 1) := zD
     have w2' : (x : Int) + 1 ≤ 18446744073709551615 := zD
     have hk1' : decide (st1.k = 0) = true := Ac hk1
     clear hstep hsp hk1;go_wp2_with fail;refine HAT.out.mono ?_
     rintro r w2 ⟨rfl, rfl⟩;go_wp2_with fail;refine HVR.out.mono ?_
     rintro r w3 ⟨rfl, hst3⟩;have HIN3 := hid (hin.out.step hst3)
     have HO3 := hid (Ev HO.out hlt hst3.2)
     have hg := Ax w3 HIN3.out.rd
     rw [hk1'] at hg
     have HG := hid hg
     clear hst3 hg hk1';go_wp2_with fail;refine HG.out.mono ?_
     rintro r w4 ⟨rfl, hb4⟩;have HIN4 := hid (HIN3.out.step (Av.later HIN3.out.rd hb4))
     have HO4 := hid (By HO3.out hb4)
     have hsz4 := HIN4.out.tch.size
     clear hb4;go_wp2_with (at_builtin; go_loud (refine AB rfl _ _ _ rfl w.heap.size 22 i0 (.int .u64 0) 1 8 Dr hi hz0 hz1 hz2 rfl zP (.slice av J.length cv) J.length _ rfl (By HO4.out zA) (some ⟨w4.heap.size, 0, none⟩) 1 1 [.int .u64 (bel - ((x : Int) + 1))] rfl (B9 _ 22 _ rfl zO rfl) ZL zQ zD zL ?_; intro v' w5 hown5 hgrow5 hat5; obtain ⟨a5, c5, rfl⟩ := Bh hown5; have HO5 := hid hown5; have hb5 : Below w.heap.size w4 w5 := (Below.grown ((by (repeat (first | with_reducible exact Below.refl _ _ | with_reducible assumption | (with_reducible refine Az ?_ _) | (with_reducible refine Below.setCell ?_ zE _) | (with_reducible refine Below.drew ?_) | (with_reducible refine below_drewN ?_ _) | (refine Af zJ ?_))) : Below w4.heap.size w4 _).mono hsz4) hgrow5 zL (fun g e => (HO4.out.lt g e).1)); clear hown5 hgrow5 hat5))
     have HIN5 := hid (HIN4.out.row hb5)
     have ho5 : w5.ownsRow w.heap.size 22 1 (.slice a5 (J.length + 1) c5) (J ++ [bel - ((x : Int) + 1)]).length (Bx (J ++ [bel - ((x : Int) + 1)])) := by
      have e : Bx (J ++ [bel - ((x : Int) + 1)]) = Bx J ++ [.int .u64 (bel - ((x : Int) + 1))] := by simp [Bx]
      rw [e, Am]
      exact HO5.out
     have HO6 := hid ho5
     have HB6 : Hid (∀ y ∈ J ++ [bel - ((x : Int) + 1)], 0 ≤ y ∧ y ≤ 18446744073709551615) := hid (fun y hy => by
      rw [DY, Dd] at hy
      rcases hy with hy | rfl
      ·exact hJb.out y hy
      ·omega)
     have HSP6 : Hid (Rs.Ex B N s1 below [] = Rs.Ex B (N - (k + 1)) st1 (bel - ((x : Int) + 1)) (J ++ [bel - ((x : Int) + 1)])) := hid (by rw [HSP.out, show bel - (x : Int) - 1 = bel - ((x : Int) + 1) by omega])
     clear ho5;go_roundw
     case rel => exact ⟨k + 1, bel - ((x : Int) + 1), J ++ [bel - ((x : Int) + 1)], st1, zD, zW, rfl, zD, zD, hid (by simp; exact hJl.out), HO6.out, HB6, HIN5, HSP6⟩
     case measure => simp [intOf]; omega
   ·rw [An hk1] at hstep
    have HSP := hid (hsp.out.trans hstep)
    have hx0 := HBAD.out hk1
    subst hx0;have hk1' : decide (st1.k = 0) = false := Ab hk1
    have hfid : st1.fail 13 st.p = st1 := Rs.Bw hk1
    clear hstep hsp hk1;by_cases hbx : bel ≤ 0
    ·have d2 : decide (bel ≤ ((0 : Nat) : Int)) = true := Ac zD
     have d2' : decide (bel ≤ 0) = true := Ac hbx
     go_wp2_with fail;refine HAT.out.mono ?_
     rintro r w2 ⟨rfl, rfl⟩;go_wp2_with fail;refine HVR.out.mono ?_
     rintro r w3 ⟨rfl, hst3⟩;have HIN3 := hid (hin.out.step hst3)
     clear hst3;go_wp2_with fail;refine (Bf w3 HIN3.out.rd 13 (st.p : Int) zD).mono ?_
     rintro r w4 ⟨rfl, hst4⟩;rw [hfid] at hst4
     have HIN4 := hid (HIN3.out.step hst4)
     have hg := Ax w4 HIN4.out.rd
     rw [hk1'] at hg
     have HG := hid hg
     clear hst4 hg hk1' hfid;go_wp2_with fail;refine HG.out.mono ?_
     rintro r w5 ⟨rfl, hb5⟩;have HE := hid (HIN4.out.to.then hb5)
     go_wp2;go_ret;rw [HSP.out]
     exact ⟨_, rfl, A3 (xs := []) rfl (Al _) (Aj _) (.inl rfl), HE.out⟩
    ·have d2 : decide (bel ≤ ((0 : Nat) : Int)) = false := Ab zD
     have d2' : decide (bel ≤ 0) = false := Ab hbx
     go_wp2_with fail;refine HAT.out.mono ?_
     rintro r w2 ⟨rfl, rfl⟩;go_wp2_with fail;refine HVR.out.mono ?_
     rintro r w3 ⟨rfl, hst3⟩;have HIN3 := hid (hin.out.step hst3)
     have hg := Ax w3 HIN3.out.rd
     rw [hk1'] at hg
     have HG := hid hg
     clear hst3 hg hk1' hfid;go_wp2_with fail;refine HG.out.mono ?_
     rintro r w5 ⟨rfl, hb5⟩;have HE := hid (HIN3.out.to.then hb5)
     go_wp2;go_ret;rw [HSP.out]
     exact ⟨_, rfl, A3 (xs := []) rfl (Al _) (Aj _) (.inl rfl), HE.out⟩
  ·obtain rfl : k = N := by omega
   have d1 : decide ((k : Int) < (k : Int)) = false := Ab zD
   have HSP : Hid (Rs.Ex B k s1 below [] = (st, J)) := hid (by rw [hsp.out, Nat.sub_self]; rfl)
   have HV := hid (El hJb.out rfl hown)
   have HE := hid hin.out.to
   clear hown hsp;go_wp2;go_ret;rw [HSP.out]
   exact ⟨_, rfl, HV.out, HE.out⟩
theorem Rs.O9 {B : List UInt8} {s : Rs} {m : Int} (h : s.k ≠ 0) : s.int B m = (s, 0) := by
 unfold Rs.int Rs.most;rw [Rs.C5 h]
 split
 ·rw [An zM]
 ·rw [Rs.Bw h]
theorem Rs.JC {B : List UInt8} {s : Rs} (h : s.k ≠ 0) : s.byte B = (s, 0) := by
 unfold Rs.byte;rw [Rs.Jm h]
 rfl
theorem Rs.EL {B : List UInt8} {s : Rs} {m : Int} (h : s.k ≠ 0) : s.loose B m = (s, [], false) := by
 unfold Rs.loose;rw [Rs.O9 h]
 dsimp only;rw [Rs.JC h]
 dsimp only;rw [An h]
theorem La (w : World) {g : Nat} {B : List UInt8} {a : Option Addr} {s : Rs} (h : AK w g B a s) (hB : B.length ≤ 1000000000) :
  Calls Tryz.prog 231 #[.pointer (some ⟨g, 0, none⟩), .func (Fn.func 113) #[] #[]] w fun r w' => r = .returned (.int .u64 ((s.ep B).2 : Int)) ∧ Av w g B a (s.ep B).1 w' := by
 have HAT := hid (BI w h)
 have HVR := hid (Cj w h zD)
 have hxb := Rs.Iw (B := B) (s := s)
 have HIN := hid (Cy.refl h)
 unfold Rs.ep;generalize s.num B = R at *
 obtain ⟨st1, x⟩ := R
 dsimp only at *;have HRT := hid (fun (W : World) => Ey (x : Int) W)
 have HBAD := hid hxb
 clear h hxb;by_cases hk1 : st1.k = 0
 ·rw [Ak hk1]
  by_cases hr : epR (x : Int) = true
  ·rw [Ak hr]
   rw [hr] at HRT
   have HK : Hid (decide (st1.k = 0) = true) := hid (Ac hk1)
   clear hk1 hr;go_enter Gv, Fq
   go_wp2_with fail;refine HAT.out.mono ?_
   rintro r w2 ⟨rfl, rfl⟩;go_wp2_with fail;refine HVR.out.mono ?_
   rintro r w3 ⟨rfl, hst3⟩;have HIN3 := hid (HIN.out.step hst3)
   clear hst3;go_wp2_with fail;refine (HRT.out w3).mono ?_
   rintro r w3' ⟨rfl, rfl⟩;go_wp2_with fail;refine ((by have := Ax w3 HIN3.out.rd; rw [HK.out] at this; exact this : Calls Tryz.prog 44 #[.pointer (some ⟨g, 0, none⟩)] w3 fun r w' => r = .returned (.bool true) ∧ Below w3.heap.size w3 w')).mono ?_
   rintro r w5 ⟨rfl, hb5⟩;have HE := hid (HIN3.out.to.then hb5)
   go_wp2;go_ret;exact ⟨rfl, HE.out⟩
  ·rw [An hr]
   rw [Bool.eq_false_iff.2 hr] at HRT
   have hfk : (st1.fail 3 s.p).k ≠ 0 := Rs.Be zD
   clear hk1 hr;go_enter Gv, Fq
   go_wp2_with fail;refine HAT.out.mono ?_
   rintro r w2 ⟨rfl, rfl⟩;go_wp2_with fail;refine HVR.out.mono ?_
   rintro r w3 ⟨rfl, hst3⟩;have HIN3 := hid (HIN.out.step hst3)
   clear hst3;go_wp2_with fail;refine (HRT.out w3).mono ?_
   rintro r w3' ⟨rfl, rfl⟩;go_wp2_with fail;refine (Bf w3 HIN3.out.rd 3 (s.p : Int) zD).mono ?_
   rintro r w4 ⟨rfl, hst4⟩;have HIN4 := hid (HIN3.out.step hst4)
   have hg := Ax w4 HIN4.out.rd
   rw [Ab hfk] at hg
   have HG := hid hg
   clear hst4 hg hfk;go_wp2_with fail;refine HG.out.mono ?_
   rintro r w5 ⟨rfl, hb5⟩;have HE := hid (HIN4.out.to.then hb5)
   go_wp2;go_ret;exact ⟨rfl, HE.out⟩
 ·rw [An hk1]
  have hx0 := HBAD.out hk1
  subst hx0;have hfk : st1.k ≠ 0 := hk1
  have hfid : st1.fail 3 s.p = st1 := Rs.Bw hk1
  rw [show epR ((0 : Nat) : Int) = false from zP] at HRT
  clear hk1;go_enter Gv, Fq
  go_wp2_with fail;refine HAT.out.mono ?_
  rintro r w2 ⟨rfl, rfl⟩;go_wp2_with fail;refine HVR.out.mono ?_
  rintro r w3 ⟨rfl, hst3⟩;have HIN3 := hid (HIN.out.step hst3)
  clear hst3;go_wp2_with fail;refine (HRT.out w3).mono ?_
  rintro r w3' ⟨rfl, rfl⟩;go_wp2_with fail;refine (Bf w3 HIN3.out.rd 3 (s.p : Int) zD).mono ?_
  rintro r w4 ⟨rfl, hst4⟩;rw [hfid] at hst4
  clear hfid;have HIN4 := hid (HIN3.out.step hst4)
  have hg := Ax w4 HIN4.out.rd
  rw [Ab hfk] at hg
  have HG := hid hg
  clear hst4 hg hfk;go_wp2_with fail;refine HG.out.mono ?_
  rintro r w5 ⟨rfl, hb5⟩;have HE := hid (HIN4.out.to.then hb5)
  go_wp2;go_ret;exact ⟨rfl, HE.out⟩
theorem H9 (w : World) {g : Nat} {B : List UInt8} {a : Option Addr} {s : Rs} (h : AK w g B a s) (hB : B.length ≤ 1000000000) :
  Calls Tryz.prog 209 #[.pointer (some ⟨g, 0, none⟩)] w fun r w' => r = .returned (.int .u64 ((s.ep B).2 : Int)) ∧ Av w g B a (s.ep B).1 w' := by
 have HR := hid (La w h hB)
 generalize s.ep B = R at *
 clear h;go_enter Tryz.func209, Tryz.ntmps209
 go_wp2_with fail;refine HR.out.mono ?_
 rintro r w1 ⟨rfl, hst⟩;have HST := hid hst
 clear hst;go_wp2;go_ret;exact ⟨rfl, HST.out⟩
theorem K9 (w : World) {g : Nat} {B : List UInt8} {a : Option Addr} {s : Rs} (h : AK w g B a s) (hB : B.length ≤ 1000000000) :
  Calls Tryz.prog 231 #[.pointer (some ⟨g, 0, none⟩), .func (Fn.func 82) #[] #[]] w fun r w' => r = .returned (.int .u64 ((s.po B).2 : Int)) ∧ Av w g B a (s.po B).1 w' := by
 have HAT := hid (BI w h)
 have HVR := hid (Cj w h zD)
 have hxb := Rs.Iw (B := B) (s := s)
 have HIN := hid (Cy.refl h)
 unfold Rs.po;generalize s.num B = R at *
 obtain ⟨st1, x⟩ := R
 dsimp only at *;have HRT := hid (fun (W : World) => I7 (x : Int) W)
 have HBAD := hid hxb
 clear h hxb;by_cases hk1 : st1.k = 0
 ·rw [Ak hk1]
  by_cases hr : poR (x : Int) = true
  ·rw [Ak hr]
   rw [hr] at HRT
   have HK : Hid (decide (st1.k = 0) = true) := hid (Ac hk1)
   clear hk1 hr;go_enter Gv, Fq
   go_wp2_with fail;refine HAT.out.mono ?_
   rintro r w2 ⟨rfl, rfl⟩;go_wp2_with fail;refine HVR.out.mono ?_
   rintro r w3 ⟨rfl, hst3⟩;have HIN3 := hid (HIN.out.step hst3)
   clear hst3;go_wp2_with fail;refine (HRT.out w3).mono ?_
   rintro r w3' ⟨rfl, rfl⟩;go_wp2_with fail;refine ((by have := Ax w3 HIN3.out.rd; rw [HK.out] at this; exact this : Calls Tryz.prog 44 #[.pointer (some ⟨g, 0, none⟩)] w3 fun r w' => r = .returned (.bool true) ∧ Below w3.heap.size w3 w')).mono ?_
   rintro r w5 ⟨rfl, hb5⟩;have HE := hid (HIN3.out.to.then hb5)
   go_wp2;go_ret;exact ⟨rfl, HE.out⟩
  ·rw [An hr]
   rw [Bool.eq_false_iff.2 hr] at HRT
   have hfk : (st1.fail 3 s.p).k ≠ 0 := Rs.Be zD
   clear hk1 hr;go_enter Gv, Fq
   go_wp2_with fail;refine HAT.out.mono ?_
   rintro r w2 ⟨rfl, rfl⟩;go_wp2_with fail;refine HVR.out.mono ?_
   rintro r w3 ⟨rfl, hst3⟩;have HIN3 := hid (HIN.out.step hst3)
   clear hst3;go_wp2_with fail;refine (HRT.out w3).mono ?_
   rintro r w3' ⟨rfl, rfl⟩;go_wp2_with fail;refine (Bf w3 HIN3.out.rd 3 (s.p : Int) zD).mono ?_
   rintro r w4 ⟨rfl, hst4⟩;have HIN4 := hid (HIN3.out.step hst4)
   have hg := Ax w4 HIN4.out.rd
   rw [Ab hfk] at hg
   have HG := hid hg
   clear hst4 hg hfk;go_wp2_with fail;refine HG.out.mono ?_
   rintro r w5 ⟨rfl, hb5⟩;have HE := hid (HIN4.out.to.then hb5)
   go_wp2;go_ret;exact ⟨rfl, HE.out⟩
 ·rw [An hk1]
  have hx0 := HBAD.out hk1
  subst hx0;have hfk : st1.k ≠ 0 := hk1
  have hfid : st1.fail 3 s.p = st1 := Rs.Bw hk1
  rw [show poR ((0 : Nat) : Int) = true from zP] at HRT
  clear hk1;go_enter Gv, Fq
  go_wp2_with fail;refine HAT.out.mono ?_
  rintro r w2 ⟨rfl, rfl⟩;go_wp2_with fail;refine HVR.out.mono ?_
  rintro r w3 ⟨rfl, hst3⟩;have HIN3 := hid (HIN.out.step hst3)
  clear hst3;go_wp2_with fail;refine (HRT.out w3).mono ?_
  rintro r w3' ⟨rfl, rfl⟩;go_wp2_with fail;refine ((by have := Ax w3 HIN3.out.rd; rw [Ab hfk] at this; exact this : Calls Tryz.prog 44 #[.pointer (some ⟨g, 0, none⟩)] w3 fun r w' => r = .returned (.bool false) ∧ Below w3.heap.size w3 w')).mono ?_
  rintro r w5 ⟨rfl, hb5⟩;have HE := hid (HIN3.out.to.then hb5)
  clear hfk hfid;go_wp2;go_ret;exact ⟨rfl, HE.out⟩
theorem K7 (w : World) {g : Nat} {B : List UInt8} {a : Option Addr} {s : Rs} (h : AK w g B a s) (hB : B.length ≤ 1000000000) :
  Calls Tryz.prog 183 #[.pointer (some ⟨g, 0, none⟩)] w fun r w' => r = .returned (.int .u64 ((s.po B).2 : Int)) ∧ Av w g B a (s.po B).1 w' := by
 have HR := hid (K9 w h hB)
 generalize s.po B = R at *
 clear h;go_enter Tryz.func183, Tryz.ntmps183
 go_wp2_with fail;refine HR.out.mono ?_
 rintro r w1 ⟨rfl, hst⟩;have HST := hid hst
 clear hst;go_wp2;go_ret;exact ⟨rfl, HST.out⟩
theorem AY.RE {w w' : World} {α : Type} {lo g : Nat} {A : Rp α} {e : TypeId} {sz : Nat} {v : Value} {xs : List α} (h : AY lo A lo e sz w v xs) (hb : Tch (fun b => b = g ∨ w.heap.size ≤ b) w w') (hg : g < lo) : AY lo A lo e sz w' v xs := by
 have hk : ∀ b, lo ≤ b → b < w.heap.size → w'.heap[b]? = w.heap[b]? := fun b h1 h2 => hb.block b h2 zD
 obtain ⟨cells, ho, hlen, hsz, hA⟩ := h
 refine ⟨cells, ⟨ho.1, ?_⟩, hlen, hsz, fun i cs x hi hx => A.mono (A.keep (hA i cs x hi hx) fun b h => hk b h.1 h.2.1) fun b h => ⟨h.1, Ah h.2.1 hb.size, h.2.2⟩⟩
 rcases ho.2 with h0 | ⟨g', cap, cur, h1, h2, h3, h4⟩
 ·exact .inl h0
 ·exact .inr ⟨g', cap, cur, h1, h2, (hk _ h2 (Blk.lt h3)).trans h3, h4⟩
theorem AY.form {w : World} {α : Type} {lo base : Nat} {A : Rp α} {e : TypeId} {sz : Nat} {v : Value} {xs : List α} (h : AY lo A base e sz w v xs) : ∃ a c, v = .slice a xs.length c := by
 obtain ⟨cells, h1, _⟩ := h
 exact Bh h1
theorem Ti {z : Int} (h : 0 ≤ z ∧ z ≤ 18446744073709551615) : bits BinOp.xor IntKind.u64 IntKind.u64.max z = 18446744073709551615 - z := by
 obtain ⟨a, rfl⟩ := Int.eq_ofNat_of_zero_le h.1
 have ha : a < 18446744073709551616 := zD
 have e : IntKind.u64.max = ((18446744073709551615 : Nat) : Int) := rfl
 rw [e, bits_xor_u64_nat _ _ zP ha]
 have h1 : 18446744073709551615 ^^^ a = 18446744073709551615 - a := by
  have h2 := BitVec.toNat_not (x := BitVec.ofNat 64 a)
  rw [BitVec.not_def, BitVec.toNat_xor, BitVec.toNat_allOnes, BitVec.toNat_ofNat, Gw zD] at h2
  exact h2
 rw [h1]
 omega
theorem QV (w : World) {g : Nat} {B : List UInt8} {a : Option Addr} {s : Rs} (h : AK w g B a s) (hB : B.length ≤ 1000000000) (pos : Int) (hpos : 0 ≤ pos ∧ pos ≤ 18446744073709551615) :
  Calls Tryz.prog 192 #[.pointer (some ⟨g, 0, none⟩), .int .u64 pos] w fun r w' => ∃ v, r = .returned v ∧ PQ.r (Dq w w') w' [v] (s.links B pos).2 ∧ Av w g B a (s.links B pos).1 w' := by
 obtain ⟨i0, hi, hz0, hz1, hz2⟩ := Bq SF
 have HI := hid (Dt w h zD 16 zD)
 have hNm := Rs.FK (B := B) (s := s) (m := 16)
 have hlt := h.blk.lt
 have HIN := hid (Cy.refl h)
 unfold Rs.links;generalize s.int B 16 = I at *
 obtain ⟨s1, N⟩ := I
 dsimp only at *;have hN : N ≤ 16 := zD
 clear h;go_enter Tryz.func192, Tryz.ntmps192
 go_wp2_with fail;refine HI.out.mono ?_
 rintro r w1 ⟨rfl, hst⟩;have HIN1 := hid (HIN.out.step hst)
 clear hst;go_wp2_with fail;go_loopw [5, 12] (fun v i wr => ∃ (k : Nat) (J : List BB) (st : Rs), k ≤ N ∧ i = .int .i64 k ∧ Hid (J.length = k) ∧ AY w.heap.size Kn w.heap.size 151 2 wr v J ∧ Hid (∀ x ∈ J, 0 ≤ x.stream ∧ x.stream ≤ 18446744073709551615) ∧ Hid (Cy w wr g B a st) ∧ Hid (Rs.Dk B pos N s1 none [] = Rs.Dk B pos (N - k) st (J.getLast?.map BB.stream) J)) (fun _ i _ => N - (intOf i).toNat)
 case atStart => exact ⟨0, [], s1, Aj _, rfl, hid rfl, AY.nil, hid zO, HIN1, hid rfl⟩
 case round =>
  obtain ⟨k, J, st, hk, rfl, hJl, hown, hJb, hin, hsp⟩ := hrel
  obtain ⟨av, cv, rfl⟩ := AY.form hown
  rcases Bo k N with hlt2 | hge
  ·have HAT := hid (BI wr hin.out.rd)
   have HVR := hid (Cj wr hin.out.rd zD)
   have hx := Rs.CL (B := B) (s := st)
   have hsz0 := hin.out.tch.size
   have i1 : (k : Int) < (N : Int) := zD
   have d1 : decide ((k : Int) < (N : Int)) = true := Ac i1
   have d1' : decide (k < N) = true := Ac hlt2
   have HO := hid hown
   clear hown;have hJ16 : J.length ≤ 16 := by have := hJl.out; omega
   by_cases hJe : J = []
   ·have hstep : Rs.Dk B pos (N - k) st (J.getLast?.map BB.stream) J = (if ((st.num B).1.delta B pos 4).1.k = 0 then Rs.Dk B pos (N - (k + 1)) ((st.num B).1.delta B pos 4).1 (some ((st.num B).2 : Int)) (J ++ [⟨((st.num B).2 : Int), ((st.num B).1.delta B pos 4).2⟩]) else (((st.num B).1.delta B pos 4).1, [])) := by
     rw [show N - k = (N - (k + 1)) + 1 by omega, hJe]; rfl
    have hk0 : k = 0 := by have := hJl.out; rw [hJe] at this; simpa using this.symm
    subst hk0;clear hJe;generalize st.num B = R at *
    obtain ⟨st1, x⟩ := R
    dsimp only at *;have hxb : (0 : Int) ≤ (x : Int) ∧ (x : Int) ≤ 18446744073709551615 := zD
    have HD := hid (fun (W : World) (hW : AK W g B a st1) => Ia W hW hB pos hpos 4 zD)
    generalize st1.delta B pos 4 = D at *
    obtain ⟨s6, bk⟩ := D
    dsimp only at *;go_wp2_with fail;refine HAT.out.mono ?_
    rintro r w2 ⟨rfl, rfl⟩;go_wp2_with fail;refine HVR.out.mono ?_
    rintro r w3 ⟨rfl, hst3⟩;have HIN3 := hid (hin.out.step hst3)
    have HO3 := hid (AY.RE HO.out (hst3.2.mono fun b hb e => .inl e) hlt)
    have hsz3 := HIN3.out.tch.size
    clear hst3;go_wp2_with fail;refine (HD.out _ (HIN3.out.row ((by (repeat (first | with_reducible exact Below.refl _ _ | with_reducible assumption | (with_reducible refine Az ?_ _) | (with_reducible refine Below.setCell ?_ zE _) | (with_reducible refine Below.drew ?_) | (with_reducible refine below_drewN ?_ _) | (refine Af zJ ?_))) : Below w3.heap.size w3 _).mono hsz3)).rd).mono ?_
    rintro r w6 ⟨v6, rfl, hv6, hst6⟩;obtain ⟨a6, c6, hfv, _, _⟩ := AE hv6
    simp only [Ap, AD] at hfv
    subst hfv;have BK6 : Blk w6 w3.heap.size 151 #[.int .u64 (x : Int), .slice none 0 0] := Blk.tch zC hst6.2 zD
    have HIN6 := hid ((HIN3.out.row ((by (repeat (first | with_reducible exact Below.refl _ _ | with_reducible assumption | (with_reducible refine Az ?_ _) | (with_reducible refine Below.setCell ?_ zE _) | (with_reducible refine Below.drew ?_) | (with_reducible refine below_drewN ?_ _) | (refine Af zJ ?_))) : Below w3.heap.size w3 _).mono hsz3)).step hst6)
    have HK6 : Hid (Tch (fun b => b = g ∨ w3.heap.size ≤ b) w3 w6) := hid ((Tch.Ff (by (repeat (first | with_reducible exact Below.refl _ _ | with_reducible assumption | (with_reducible refine Az ?_ _) | (with_reducible refine Below.setCell ?_ zE _) | (with_reducible refine Below.drew ?_) | (with_reducible refine below_drewN ?_ _) | (refine Af zJ ?_))) : Below w3.heap.size w3 _)).mono (fun b hb e => .inr e) |>.trans hst6.2 (fun b hb e => .inl e))
    by_cases hk6 : s6.k = 0
    ·rw [Ak hk6] at hstep
     have HSP := hid (hsp.out.trans hstep)
     have HG := hid (fun (W : World) (hW : AK W g B a s6) => (by have := Ax W hW; rw [Ac hk6] at this; exact this : Calls Tryz.prog 44 #[.pointer (some ⟨g, 0, none⟩)] W fun r w' => r = .returned (.bool true) ∧ Below W.heap.size W w'))
     obtain ⟨y0, y1, f0, f1, hl6⟩ := Bu BK6
     have HV6 := hid hv6
     have hq6 := hst6.2.size
     simp at hq6
     clear hsp hstep hk6 hv6 hst6;go_wp2_with fail;refine (HG.out _ (HIN6.out.row ((by (repeat (first | with_reducible exact Below.refl _ _ | with_reducible assumption | (with_reducible refine Az ?_ _) | (with_reducible refine Below.setCell ?_ zE _) | (with_reducible refine Below.drew ?_) | (with_reducible refine below_drewN ?_ _) | (refine Af zJ ?_))) : Below w3.heap.size w6 _).mono hsz3)).rd).mono ?_
     rintro r w7 ⟨rfl, hb7⟩;have B7 : Blk w7 w3.heap.size 151 #[.int .u64 (x : Int), .slice a6 bk.length c6] := Blk.later (BK6.set 1 _) hb7
     obtain ⟨z0, z1, _, _, hl7⟩ := Bu B7
     have hb67 : Below w3.heap.size w6 w7 := (by (repeat (first | with_reducible exact Below.refl _ _ | with_reducible assumption | (with_reducible refine Az ?_ _) | (with_reducible refine Below.setCell ?_ zE _) | (with_reducible refine Below.drew ?_) | (with_reducible refine below_drewN ?_ _) | (refine Af zJ ?_))) : Below w3.heap.size w6 (w6.setCell ⟨w3.heap.size, 1, none⟩ (.slice a6 bk.length c6))).trans (hb7.mono zL)
     have HIN7 := hid (HIN6.out.row (hb67.mono hsz3))
     have hsz7 := HIN7.out.tch.size
     have hk7 : Tch (fun b => b = g ∨ w3.heap.size ≤ b) w3 w7 := HK6.out.trans (Tch.Ff hb67) (fun b hb hle => .inr hle)
     have O7 := AY.RE HO3.out hk7 hlt
     obtain ⟨cells0, OA0⟩ := HO3.out
     have hlt0 : ∀ g', (Value.slice av J.length cv).ownBlock = some g' → g' < w3.heap.size := fun g' e => (OA0.1.lt g' e).2
     obtain ⟨cells, OA⟩ := AY.below O7 (show Below w7.heap.size w7 (w7.alloc (.cells #[.int .u64 (x : Int), .slice a6 bk.length c6] 151)) from zA)
     have hk8 : ∀ b, w3.heap.size + 1 ≤ b → b < w6.heap.size → (w7.alloc (.cells #[.int .u64 (x : Int), .slice a6 bk.length c6] 151)).heap[b]? = w6.heap[b]? := fun b h1 h2 => (BD w7 _ b (by have := hb67.size; omega)).trans ((hb7.block b zA1).trans (AG _ _ _ _ zM))
     have hv8 := AQ.keep (w' := (w7.alloc (.cells #[.int .u64 (x : Int), .slice a6 bk.length c6] 151))) HV6.out (fun b (hb : (w3.alloc (.cells #[.int .u64 (x : Int), .slice none 0 0] 151)).heap.size ≤ b ∧ b < w6.heap.size) => hk8 b (by have := hb.1; simp at this; omega) hb.2)
     have hx8 : Kn.r (fun b => w.heap.size ≤ b ∧ b < (w7.alloc (.cells #[.int .u64 (x : Int), .slice a6 bk.length c6] 151)).heap.size ∧ (Value.slice av J.length cv).ownBlock ≠ some b) (w7.alloc (.cells #[.int .u64 (x : Int), .slice a6 bk.length c6] 151)) [.int .u64 (x : Int), .slice a6 bk.length c6] ⟨(x : Int), bk⟩ := by
      refine PU (x := ⟨(x : Int), bk⟩) hxb (AQ.mono hv8 fun b hb => ?_)
      have h1 := hb.1
      have h2 := hb.2
      have h3 := hb67.size
      simp at h1
      refine ⟨zD, zL, fun e => ?_⟩
      have := hlt0 b e
      omega
     have HX := hid hx8
     have HA := hid OA
     have HS9 : Hid (w.heap.size ≤ (w7.alloc (.cells #[.int .u64 (x : Int), .slice a6 bk.length c6] 151)).heap.size) := hid zL
     clear hx8 hv8 OA OA0 hlt0 hk8 O7 hk7 hb67 hb7 B7 y0 y1 f0 f1 HV6;go_wp2_with (at_builtin; go_loud (refine AB rfl _ _ _ rfl w.heap.size 151 i0 (.agg #[.int .u64 0, .slice none 0 0]) 2 32 Tryz.underlying24 hi hz0 hz1 hz2 rfl zP (.slice av J.length cv) J.length _ rfl HA.out.1 (some ⟨w7.heap.size, 0, none⟩) 1 1 [.int .u64 (x : Int), .slice a6 bk.length c6] rfl (B9 w7 151 _ rfl rfl rfl) (by intro u hu; simp at hu; rcases hu with rfl | rfl <;> rfl) zQ zD HS9.out ?_; intro v1 w9 hown1 hgrow1 hat1; have OP := hid (AY.push HA.out rfl HX.out hown1 hgrow1 hat1 hgrow1.size); have hb9 : Below w.heap.size w7 w9 := (Below.grown ((by (repeat (first | with_reducible exact Below.refl _ _ | with_reducible assumption | (with_reducible refine Az ?_ _) | (with_reducible refine Below.setCell ?_ zE _) | (with_reducible refine Below.drew ?_) | (with_reducible refine below_drewN ?_ _) | (refine Af zJ ?_))) : Below w7.heap.size w7 _).mono hsz7) hgrow1 HS9.out (fun g e => (HA.out.1.lt g e).1)); clear hown1 hgrow1 hat1))
     have HIN9 := hid (HIN7.out.row hb9)
     have HJ9 : Hid (∀ y ∈ J ++ [(⟨(x : Int), bk⟩ : BB)], 0 ≤ y.stream ∧ y.stream ≤ 18446744073709551615) := hid (fun y hy => by
      rw [DY, Dd] at hy
      rcases hy with hy | rfl
      ·exact hJb.out y hy
      ·exact hxb)
     go_roundw
     case rel => exact ⟨0 + 1, J ++ [⟨(x : Int), bk⟩], s6, zD, zW, hid (by rw [Am, hJl.out]; rfl), OP.out, HJ9, HIN9, hid (by rw [HSP.out]; simp)⟩
     case measure => simp [intOf]; omega
    ·rw [An hk6] at hstep
     have HSP := hid (hsp.out.trans hstep)
     have HG := hid (fun (W : World) (hW : AK W g B a s6) => (by have := Ax W hW; rw [Ab hk6] at this; exact this : Calls Tryz.prog 44 #[.pointer (some ⟨g, 0, none⟩)] W fun r w' => r = .returned (.bool false) ∧ Below W.heap.size W w'))
     obtain ⟨y0, y1, f0, f1, hl6⟩ := Bu BK6
     clear hsp hstep hk6 hv6;go_wp2_with fail;refine (HG.out _ (HIN6.out.row ((by (repeat (first | with_reducible exact Below.refl _ _ | with_reducible assumption | (with_reducible refine Az ?_ _) | (with_reducible refine Below.setCell ?_ zE _) | (with_reducible refine Below.drew ?_) | (with_reducible refine below_drewN ?_ _) | (refine Af zJ ?_))) : Below w3.heap.size w6 _).mono hsz3)).rd).mono ?_
     rintro r w7 ⟨rfl, hb7⟩;have hb67 : Below w3.heap.size w6 w7 := (by (repeat (first | with_reducible exact Below.refl _ _ | with_reducible assumption | (with_reducible refine Az ?_ _) | (with_reducible refine Below.setCell ?_ zE _) | (with_reducible refine Below.drew ?_) | (with_reducible refine below_drewN ?_ _) | (refine Af zJ ?_))) : Below w3.heap.size w6 (w6.setCell ⟨w3.heap.size, 1, none⟩ (.slice a6 bk.length c6))).trans (hb7.mono zL)
     have HE := hid (HIN6.out.row (hb67.mono hsz3)).to
     clear hb7;go_wp2;go_ret;rw [HSP.out]
     exact ⟨.slice none 0 0, rfl, AY.Mf (e := 0) (Al _) AY.nil, HE.out⟩
   ·obtain ⟨m, rfl⟩ : ∃ m, k = m + 1 := ⟨k - 1, by
     have := hJl.out
     have : J.length ≠ 0 := fun e => hJe (AO e)
     omega⟩
    have hmJ : m < J.length := by have := hJl.out; omega
    have hlast : J.getLast?.map BB.stream = some J[m].stream := by
     have := hJl.out
     rw [List.getLast?_eq_getElem?, this, ET, AJ hmJ]
     rfl
    have hzb := hJb.out J[m] (BZ hmJ)
    obtain ⟨bq, o, hA, hbb, a1, c1, hc0, hc1, hst, hd⟩ := DR (AY.slice (Al _) HO.out) hmJ
    subst hA;have hbg : bq ≠ g := by have := hbb.1; omega
    have hbr : bq < wr.heap.size := hbb.2
    have hstep : Rs.Dk B pos (N - (m + 1)) st (J.getLast?.map BB.stream) J = (if ((st.stream B (some J[m].stream)).1.delta B pos 4).1.k = 0 then Rs.Dk B pos (N - (m + 1 + 1)) ((st.stream B (some J[m].stream)).1.delta B pos 4).1 (some (st.stream B (some J[m].stream)).2) (J ++ [⟨(st.stream B (some J[m].stream)).2, ((st.stream B (some J[m].stream)).1.delta B pos 4).2⟩]) else (((st.stream B (some J[m].stream)).1.delta B pos 4).1, [])) := by
     rw [hlast, show N - (m + 1) = (N - (m + 1 + 1)) + 1 by omega]; rfl
    clear hlast hd hc1 hbb;generalize J[m] = z at *
    have i1' : (m : Int) + 1 < (N : Int) := zD
    have i2 : (m : Int) < (J.length : Int) := zD
    have d2 : decide ((m : Int) + 1 < (N : Int)) = true := Ac i1'
    have e1 := Ti hzb
    have hsg : IntKind.u64.signed = false := rfl
    by_cases hf : 18446744073709551615 - z.stream ≤ ((st.num B).2 : Int)
    ·have hS : (st.stream B (some z.stream)).1 = (st.num B).1.fail 13 st.p := by
      simp only [Rs.stream]
      rw [Ak hf]
     have hbad : ((st.stream B (some z.stream)).1.delta B pos 4).1.k ≠ 0 := fun e => (Rs.Be (s := (st.num B).1) (c := 13) (at_ := (st.p : Int)) zD) (by rw [← hS]; exact (Rs.Jz (Rs.FR hin.out.rd.ok) hpos.2 e).2.2.2.2)
     rw [An hbad, hS] at hstep
     rw [hS] at hbad
     clear hS;generalize st.num B = R at *
     obtain ⟨st1, x⟩ := R
     dsimp only at *;have d4 : decide (bits BinOp.xor IntKind.u64 IntKind.u64.max z.stream ≤ (x : Int)) = true := by rw [e1]; exact Ac hf
     clear hf e1;have HD := hid (fun (W : World) (hW : AK W g B a (st1.fail 13 (st.p : Int))) => Ia W hW hB pos hpos 4 zD)
     generalize (st1.fail 13 (st.p : Int)).delta B pos 4 = D at *
     obtain ⟨s6, bk⟩ := D
     dsimp only at *;go_wp2_with fail;refine HAT.out.mono ?_
     rintro r w2 ⟨rfl, rfl⟩;go_wp2_with fail;refine HVR.out.mono ?_
     rintro r w3 ⟨rfl, hst3⟩;have HIN3 := hid (hin.out.step hst3)
     have HO3 := hid (AY.RE HO.out (hst3.2.mono fun b hb e => .inl e) hlt)
     have hsz3 := HIN3.out.tch.size
     have X0 := (hst3.2.cell (p := ⟨bq, o + m * 2, none⟩) hbr hbg).trans hc0
     have hb3 : bq < w3.heap.size := Ah hbr hst3.2.size
     clear hst3 hc0;go_wp2_with fail;refine (Bf _ (HIN3.out.row ((by (repeat (first | with_reducible exact Below.refl _ _ | with_reducible assumption | (with_reducible refine Az ?_ _) | (with_reducible refine Below.setCell ?_ zE _) | (with_reducible refine Below.drew ?_) | (with_reducible refine below_drewN ?_ _) | (refine Af zJ ?_))) : Below w3.heap.size w3 _).mono hsz3)).rd 13 (st.p : Int) zD).mono ?_
     rintro r w4 ⟨rfl, hst4⟩;have B4 : Blk w4 w3.heap.size 151 #[.int .u64 (x : Int), .slice none 0 0] := Blk.tch zC hst4.2 zD
     have HIN4 := hid ((HIN3.out.row ((by (repeat (first | with_reducible exact Below.refl _ _ | with_reducible assumption | (with_reducible refine Az ?_ _) | (with_reducible refine Below.setCell ?_ zE _) | (with_reducible refine Below.drew ?_) | (with_reducible refine below_drewN ?_ _) | (refine Af zJ ?_))) : Below w3.heap.size w3 _).mono hsz3)).step hst4)
     have hsz4 := hst4.2.size
     obtain ⟨q0, q1, e0, e1, l4⟩ := Bu B4
     clear hst4;go_wp2_with fail;refine (HD.out _ (HIN4.out.row ((by (repeat (first | with_reducible exact Below.refl _ _ | with_reducible assumption | (with_reducible refine Az ?_ _) | (with_reducible refine Below.setCell ?_ zE _) | (with_reducible refine Below.drew ?_) | (with_reducible refine below_drewN ?_ _) | (refine Af zJ ?_))) : Below w3.heap.size w4 _).mono hsz3)).rd).mono ?_
     rintro r w6 ⟨v6, rfl, hv6, hst6⟩;obtain ⟨a6, c6, hfv, _, _⟩ := AE hv6
     simp only [Ap, AD] at hfv
     subst hfv;have BK6 : Blk w6 w3.heap.size 151 #[_, .slice none 0 0] := Blk.tch (B4.set 0 _) hst6.2 zD
     have HIN6 := hid ((HIN4.out.row ((by (repeat (first | with_reducible exact Below.refl _ _ | with_reducible assumption | (with_reducible refine Az ?_ _) | (with_reducible refine Below.setCell ?_ zE _) | (with_reducible refine Below.drew ?_) | (with_reducible refine below_drewN ?_ _) | (refine Af zJ ?_))) : Below w3.heap.size w4 _).mono hsz3)).step hst6)
     have HSP := hid (hsp.out.trans hstep)
     have HG := hid (fun (W : World) (hW : AK W g B a s6) => (by have := Ax W hW; rw [Ab hbad] at this; exact this : Calls Tryz.prog 44 #[.pointer (some ⟨g, 0, none⟩)] W fun r w' => r = .returned (.bool false) ∧ Below W.heap.size W w'))
     obtain ⟨y0, y1, f0, f1, hl6⟩ := Bu BK6
     clear hsp hstep hbad hv6 B4 q0 q1 e0 e1 l4;go_wp2_with fail;refine (HG.out _ (HIN6.out.row ((by (repeat (first | with_reducible exact Below.refl _ _ | with_reducible assumption | (with_reducible refine Az ?_ _) | (with_reducible refine Below.setCell ?_ zE _) | (with_reducible refine Below.drew ?_) | (with_reducible refine below_drewN ?_ _) | (refine Af zJ ?_))) : Below w3.heap.size w6 _).mono hsz3)).rd).mono ?_
     rintro r w7 ⟨rfl, hb7⟩;have hb67 : Below w3.heap.size w6 w7 := (by (repeat (first | with_reducible exact Below.refl _ _ | with_reducible assumption | (with_reducible refine Az ?_ _) | (with_reducible refine Below.setCell ?_ zE _) | (with_reducible refine Below.drew ?_) | (with_reducible refine below_drewN ?_ _) | (refine Af zJ ?_))) : Below w3.heap.size w6 (w6.setCell ⟨w3.heap.size, 1, none⟩ (.slice a6 bk.length c6))).trans (hb7.mono zL)
     have HE := hid (HIN6.out.row (hb67.mono hsz3)).to
     clear hb7;go_wp2;go_ret;rw [HSP.out]
     exact ⟨.slice none 0 0, rfl, AY.Mf (e := 0) (Al _) AY.nil, HE.out⟩
    ·have hS : st.stream B (some z.stream) = ((st.num B).1, ((st.num B).2 : Int) + (z.stream + 1)) := by
      simp only [Rs.stream]
      rw [An hf, Int.add_assoc]
     rw [hS] at hstep
     clear hS;generalize st.num B = R at *
     obtain ⟨st1, x⟩ := R
     dsimp only at *;have hxb : (0 : Int) ≤ (x : Int) + (z.stream + 1) ∧ (x : Int) + (z.stream + 1) ≤ 18446744073709551615 := zD
     have d4 : decide (bits BinOp.xor IntKind.u64 IntKind.u64.max z.stream ≤ (x : Int)) = false := by rw [e1]; exact Ab hf
     have v1 : 0 ≤ z.stream + 1 := zD
     have v2 : z.stream + 1 ≤ 18446744073709551615 := zD
     have v3 := hxb.1
     have v4 := hxb.2
     clear hf e1;have HD := hid (fun (W : World) (hW : AK W g B a st1) => Ia W hW hB pos hpos 4 zD)
     generalize st1.delta B pos 4 = D at *
     obtain ⟨s6, bk⟩ := D
     dsimp only at *;go_wp2_with fail;refine HAT.out.mono ?_
     rintro r w2 ⟨rfl, rfl⟩;go_wp2_with fail;refine HVR.out.mono ?_
     rintro r w3 ⟨rfl, hst3⟩;have HIN3 := hid (hin.out.step hst3)
     have HO3 := hid (AY.RE HO.out (hst3.2.mono fun b hb e => .inl e) hlt)
     have hsz3 := HIN3.out.tch.size
     have X0 := (hst3.2.cell (p := ⟨bq, o + m * 2, none⟩) hbr hbg).trans hc0
     have hb3 : bq < w3.heap.size := Ah hbr hst3.2.size
     clear hst3 hc0;go_wp2_with fail;refine (HD.out _ (HIN3.out.row ((by (repeat (first | with_reducible exact Below.refl _ _ | with_reducible assumption | (with_reducible refine Az ?_ _) | (with_reducible refine Below.setCell ?_ zE _) | (with_reducible refine Below.drew ?_) | (with_reducible refine below_drewN ?_ _) | (refine Af zJ ?_))) : Below w3.heap.size w3 _).mono hsz3)).rd).mono ?_
     rintro r w6 ⟨v6, rfl, hv6, hst6⟩;obtain ⟨a6, c6, hfv, _, _⟩ := AE hv6
     simp only [Ap, AD] at hfv
     subst hfv;have BK6 : Blk w6 w3.heap.size 151 #[.int .u64 ((x : Int) + (z.stream + 1)), .slice none 0 0] := Blk.tch zC hst6.2 zD
     have HIN6 := hid ((HIN3.out.row ((by (repeat (first | with_reducible exact Below.refl _ _ | with_reducible assumption | (with_reducible refine Az ?_ _) | (with_reducible refine Below.setCell ?_ zE _) | (with_reducible refine Below.drew ?_) | (with_reducible refine below_drewN ?_ _) | (refine Af zJ ?_))) : Below w3.heap.size w3 _).mono hsz3)).step hst6)
     have HK6 : Hid (Tch (fun b => b = g ∨ w3.heap.size ≤ b) w3 w6) := hid ((Tch.Ff (by (repeat (first | with_reducible exact Below.refl _ _ | with_reducible assumption | (with_reducible refine Az ?_ _) | (with_reducible refine Below.setCell ?_ zE _) | (with_reducible refine Below.drew ?_) | (with_reducible refine below_drewN ?_ _) | (refine Af zJ ?_))) : Below w3.heap.size w3 _)).mono (fun b hb e => .inr e) |>.trans hst6.2 (fun b hb e => .inl e))
     by_cases hk6 : s6.k = 0
     ·rw [Ak hk6] at hstep
      have HSP := hid (hsp.out.trans hstep)
      have HG := hid (fun (W : World) (hW : AK W g B a s6) => (by have := Ax W hW; rw [Ac hk6] at this; exact this : Calls Tryz.prog 44 #[.pointer (some ⟨g, 0, none⟩)] W fun r w' => r = .returned (.bool true) ∧ Below W.heap.size W w'))
      obtain ⟨y0, y1, f0, f1, hl6⟩ := Bu BK6
      have HV6 := hid hv6
      have hq6 := hst6.2.size
      simp at hq6
      clear hsp hstep hk6 hv6 hst6;go_wp2_with fail;refine (HG.out _ (HIN6.out.row ((by (repeat (first | with_reducible exact Below.refl _ _ | with_reducible assumption | (with_reducible refine Az ?_ _) | (with_reducible refine Below.setCell ?_ zE _) | (with_reducible refine Below.drew ?_) | (with_reducible refine below_drewN ?_ _) | (refine Af zJ ?_))) : Below w3.heap.size w6 _).mono hsz3)).rd).mono ?_
      rintro r w7 ⟨rfl, hb7⟩;have B7 : Blk w7 w3.heap.size 151 #[.int .u64 ((x : Int) + (z.stream + 1)), .slice a6 bk.length c6] := Blk.later (BK6.set 1 _) hb7
      obtain ⟨z0, z1, _, _, hl7⟩ := Bu B7
      have hb67 : Below w3.heap.size w6 w7 := (by (repeat (first | with_reducible exact Below.refl _ _ | with_reducible assumption | (with_reducible refine Az ?_ _) | (with_reducible refine Below.setCell ?_ zE _) | (with_reducible refine Below.drew ?_) | (with_reducible refine below_drewN ?_ _) | (refine Af zJ ?_))) : Below w3.heap.size w6 (w6.setCell ⟨w3.heap.size, 1, none⟩ (.slice a6 bk.length c6))).trans (hb7.mono zL)
      have HIN7 := hid (HIN6.out.row (hb67.mono hsz3))
      have hsz7 := HIN7.out.tch.size
      have hk7 : Tch (fun b => b = g ∨ w3.heap.size ≤ b) w3 w7 := HK6.out.trans (Tch.Ff hb67) (fun b hb hle => .inr hle)
      have O7 := AY.RE HO3.out hk7 hlt
      obtain ⟨cells0, OA0⟩ := HO3.out
      have hlt0 : ∀ g', (Value.slice (some ⟨bq, o, none⟩) J.length cv).ownBlock = some g' → g' < w3.heap.size := fun g' e => (OA0.1.lt g' e).2
      obtain ⟨cells, OA⟩ := AY.below O7 (show Below w7.heap.size w7 (w7.alloc (.cells #[.int .u64 ((x : Int) + (z.stream + 1)), .slice a6 bk.length c6] 151)) from zA)
      have hk8 : ∀ b, w3.heap.size + 1 ≤ b → b < w6.heap.size → (w7.alloc (.cells #[.int .u64 ((x : Int) + (z.stream + 1)), .slice a6 bk.length c6] 151)).heap[b]? = w6.heap[b]? := fun b h1 h2 => (BD w7 _ b (by have := hb67.size; omega)).trans ((hb7.block b zA1).trans (AG _ _ _ _ zM))
      have hv8 := AQ.keep (w' := (w7.alloc (.cells #[.int .u64 ((x : Int) + (z.stream + 1)), .slice a6 bk.length c6] 151))) HV6.out (fun b (hb : (w3.alloc (.cells #[.int .u64 ((x : Int) + (z.stream + 1)), .slice none 0 0] 151)).heap.size ≤ b ∧ b < w6.heap.size) => hk8 b (by have := hb.1; simp at this; omega) hb.2)
      have hx8 : Kn.r (fun b => w.heap.size ≤ b ∧ b < (w7.alloc (.cells #[.int .u64 ((x : Int) + (z.stream + 1)), .slice a6 bk.length c6] 151)).heap.size ∧ (Value.slice (some ⟨bq, o, none⟩) J.length cv).ownBlock ≠ some b) (w7.alloc (.cells #[.int .u64 ((x : Int) + (z.stream + 1)), .slice a6 bk.length c6] 151)) [.int .u64 ((x : Int) + (z.stream + 1)), .slice a6 bk.length c6] ⟨((x : Int) + (z.stream + 1)), bk⟩ := by
       refine PU (x := ⟨((x : Int) + (z.stream + 1)), bk⟩) hxb (AQ.mono hv8 fun b hb => ?_)
       have h1 := hb.1
       have h2 := hb.2
       have h3 := hb67.size
       simp at h1
       refine ⟨zD, zL, fun e => ?_⟩
       have := hlt0 b e
       omega
      have HX := hid hx8
      have HA := hid OA
      have HS9 : Hid (w.heap.size ≤ (w7.alloc (.cells #[.int .u64 ((x : Int) + (z.stream + 1)), .slice a6 bk.length c6] 151)).heap.size) := hid zL
      clear hx8 hv8 OA OA0 hlt0 hk8 O7 hk7 hb67 hb7 B7 y0 y1 f0 f1 HV6;go_wp2_with (at_builtin; go_loud (refine AB rfl _ _ _ rfl w.heap.size 151 i0 (.agg #[.int .u64 0, .slice none 0 0]) 2 32 Tryz.underlying24 hi hz0 hz1 hz2 rfl zP (.slice (some ⟨bq, o, none⟩) J.length cv) J.length _ rfl HA.out.1 (some ⟨w7.heap.size, 0, none⟩) 1 1 [.int .u64 ((x : Int) + (z.stream + 1)), .slice a6 bk.length c6] rfl (B9 w7 151 _ rfl rfl rfl) (by intro u hu; simp at hu; rcases hu with rfl | rfl <;> rfl) zQ zD HS9.out ?_; intro v1 w9 hown1 hgrow1 hat1; have OP := hid (AY.push HA.out rfl HX.out hown1 hgrow1 hat1 hgrow1.size); have hb9 : Below w.heap.size w7 w9 := (Below.grown ((by (repeat (first | with_reducible exact Below.refl _ _ | with_reducible assumption | (with_reducible refine Az ?_ _) | (with_reducible refine Below.setCell ?_ zE _) | (with_reducible refine Below.drew ?_) | (with_reducible refine below_drewN ?_ _) | (refine Af zJ ?_))) : Below w7.heap.size w7 _).mono hsz7) hgrow1 HS9.out (fun g e => (HA.out.1.lt g e).1)); clear hown1 hgrow1 hat1))
      have HIN9 := hid (HIN7.out.row hb9)
      have HJ9 : Hid (∀ y ∈ J ++ [(⟨((x : Int) + (z.stream + 1)), bk⟩ : BB)], 0 ≤ y.stream ∧ y.stream ≤ 18446744073709551615) := hid (fun y hy => by
       rw [DY, Dd] at hy
       rcases hy with hy | rfl
       ·exact hJb.out y hy
       ·exact hxb)
      go_roundw
      case rel => exact ⟨m + 1 + 1, J ++ [⟨((x : Int) + (z.stream + 1)), bk⟩], s6, zD, zW, hid (by rw [Am, hJl.out]; rfl), OP.out, HJ9, HIN9, hid (by rw [HSP.out]; simp)⟩
      case measure => simp [intOf]; omega
     ·rw [An hk6] at hstep
      have HSP := hid (hsp.out.trans hstep)
      have HG := hid (fun (W : World) (hW : AK W g B a s6) => (by have := Ax W hW; rw [Ab hk6] at this; exact this : Calls Tryz.prog 44 #[.pointer (some ⟨g, 0, none⟩)] W fun r w' => r = .returned (.bool false) ∧ Below W.heap.size W w'))
      obtain ⟨y0, y1, f0, f1, hl6⟩ := Bu BK6
      clear hsp hstep hk6 hv6;go_wp2_with fail;refine (HG.out _ (HIN6.out.row ((by (repeat (first | with_reducible exact Below.refl _ _ | with_reducible assumption | (with_reducible refine Az ?_ _) | (with_reducible refine Below.setCell ?_ zE _) | (with_reducible refine Below.drew ?_) | (with_reducible refine below_drewN ?_ _) | (refine Af zJ ?_))) : Below w3.heap.size w6 _).mono hsz3)).rd).mono ?_
      rintro r w7 ⟨rfl, hb7⟩;have hb67 : Below w3.heap.size w6 w7 := (by (repeat (first | with_reducible exact Below.refl _ _ | with_reducible assumption | (with_reducible refine Az ?_ _) | (with_reducible refine Below.setCell ?_ zE _) | (with_reducible refine Below.drew ?_) | (with_reducible refine below_drewN ?_ _) | (refine Af zJ ?_))) : Below w3.heap.size w6 (w6.setCell ⟨w3.heap.size, 1, none⟩ (.slice a6 bk.length c6))).trans (hb7.mono zL)
      have HE := hid (HIN6.out.row (hb67.mono hsz3)).to
      clear hb7;go_wp2;go_ret;rw [HSP.out]
      exact ⟨.slice none 0 0, rfl, AY.Mf (e := 0) (Al _) AY.nil, HE.out⟩
  ·obtain rfl : k = N := by omega
   have hE := hsp.out
   rw [Nat.sub_self] at hE
   have HSP : Hid (Rs.Dk B pos k s1 none [] = (st, J)) := hid hE
   have hv := AY.Mf (Al _) hown
   have HV := hid hv
   have HE := hid hin.out.to
   clear hE hv hown;go_wp2;go_ret;rw [HSP.out]
   exact ⟨_, rfl, HV.out, HE.out⟩
theorem DG {W : World} {lo : Nat} {e : TypeId} {sz n : Nat} {v : Value} {xs : List Value} (h : W.ownsRow lo e sz v n xs) : ∀ b, v.ownBlock = some b → lo ≤ b ∧ b < W.heap.size := by
 intro b hv;rcases h.2 with ⟨rfl, _⟩ | ⟨g, cap, cur, rfl, hb, hg, _⟩
 ·cases hv
 ·have e1 : g = b := by simpa [Value.ownBlock] using hv
  subst e1;exact ⟨hb, Blk.lt hg⟩
end Go.Proofs.YtlbffbkbkajciaaGreat
namespace Go.Bs
open Go.RowKit
structure Hd where
 epoch : Int
 node : Int
 tail : Int
 deriving DecidableEq
structure Bk where
 lo : Int
 hi : Int
 sets : List (List Int)
 deriving DecidableEq
structure Ea where
 epoch : Int
 stripes : List Bk
 deriving DecidableEq
structure Msg where
 kind : Int
 epoch : Int
 seq : Int
 pos : Int
 count : Int
 state : Int
 streams : List Int
 links : List BB
 data : List UInt8
 sea : Hd
 proj : Ea
 deriving DecidableEq
def Dw : Rp (List (List Int)) := rSl 1 AQ
def G2 : Rp Bk := rBy (fun s => (s.lo, s.hi, s.sets)) (Js (Nf .u64) (Js (Nf .u64) Dw))
def A9 : Rp (List Bk) := rSl 3 G2
def inU (x : Int) : Prop := 0 ≤ x ∧ x ≤ 18446744073709551615
def inI (x : Int) : Prop := -9223372036854775808 ≤ x ∧ x ≤ 9223372036854775807
section
variable {S : Nat → Prop} {w : World} {cs : List Value}
theorem Ma {x : Bk} (h : G2.r S w cs x) : ∃ a c, cs = [.int .u64 x.lo, .int .u64 x.hi, .slice a x.sets.length c] ∧ inU x.lo ∧ inU x.hi ∧ Dw.r S w [.slice a x.sets.length c] x.sets := by
 obtain ⟨c1, c2, rfl, ⟨rfl, h1⟩, c3, c4, rfl, ⟨rfl, h2⟩, h3⟩ := h
 obtain ⟨a, c, rfl, h4, _⟩ := AE h3
 exact ⟨a, c, rfl, bounds_u64 h1, bounds_u64 h2, h4⟩
structure AF (S : Nat → Prop) (w : World) (m : Msg) (a1 : Option Addr) (c1 : Nat) (a2 : Option Addr) (c2 : Nat) (a3 : Option Addr) (c3 : Nat) (a4 : Option Addr) (c4 : Nat) : Prop where
 kind : inI m.kind
 epoch : inU m.epoch
 seq : inU m.seq
 pos : inU m.pos
 count : inI m.count
 state : inI m.state
 sealE : inU m.sea.epoch
 sealN : inU m.sea.node
 sealT : inU m.sea.tail
 projE : inU m.proj.epoch
 streams : AQ.r S w [.slice a1 m.streams.length c1] m.streams
 links : BK.r S w [.slice a2 m.links.length c2] m.links
 data : Ag.r S w [.slice a3 m.data.length c3] m.data
 stripes : A9.r S w [.slice a4 m.proj.stripes.length c4] m.proj.stripes
theorem Qu {x : Bk} {v : Value} (h0 : inU x.lo) (h1 : inU x.hi) (h : Dw.r S w [v] x.sets) : G2.r S w [.int .u64 x.lo, .int .u64 x.hi, v] x :=
 ⟨[_], [_, _], rfl, ⟨rfl, IL h0⟩, [_], [_], rfl, ⟨rfl, IL h1⟩, h⟩
theorem EZ {xs : List (List Int)} {a : Option Addr} {n c : Nat} (h : Dw.r S w [.slice a n c] xs) {i : Nat} (hi : i < xs.length) : ∃ b off, a = some ⟨b, off, none⟩ ∧ S b ∧ ∃ a' c', w.cell? ⟨b, off + i, none⟩ = some (.slice a' xs[i].length c') ∧ AQ.r S w [.slice a' xs[i].length c'] xs[i] := by
 obtain ⟨b, off, e, hS, cs, _, hc, hA⟩ := Ke h hi
 obtain ⟨a', c', rfl, h1, _⟩ := AE hA
 have := hc 0 _ rfl
 rw [Eb, BR] at this
 exact ⟨b, off, e, hS, a', c', this, h1⟩
theorem DV {xs : List Bk} {a : Option Addr} {n c : Nat} (h : A9.r S w [.slice a n c] xs) {i : Nat} (hi : i < xs.length) : ∃ b off, a = some ⟨b, off, none⟩ ∧ S b ∧ ∃ a' c', w.cell? ⟨b, off + i * 3, none⟩ = some (.int .u64 xs[i].lo) ∧ w.cell? ⟨b, off + i * 3 + 1, none⟩ = some (.int .u64 xs[i].hi) ∧ w.cell? ⟨b, off + i * 3 + 2, none⟩ = some (.slice a' xs[i].sets.length c') ∧
  inU xs[i].lo ∧ inU xs[i].hi ∧ Dw.r S w [.slice a' xs[i].sets.length c'] xs[i].sets := by
 obtain ⟨b, off, e, hS, cs, _, hc, hA⟩ := Ke h hi
 obtain ⟨a', c', rfl, h1, h2, h3⟩ := Ma hA
 exact ⟨b, off, e, hS, a', c', hc 0 _ rfl, hc 1 _ rfl, hc 2 _ rfl, h1, h2, h3⟩
end
def Dv (s : Hd) : Bool := epR s.epoch && (decide (s.node ≤ 4294967295) && decide (s.tail ≤ 4611686018427387904))
def CH (l : List Int) : Bool := decide (1 ≤ l.length ∧ l.length ≤ 8) && (A1 l && decide (l.getLastD 0 ≤ 4294967295))
def BW (l : List Int) (others : List (List Int)) : Bool := others.all fun o => l.all fun n => !o.contains n
def E0 (L : List (List Int)) (i : Nat) : Bool := CH (L.getD i []) && BW (L.getD i []) (L.take i)
def Bd (L : List (List Int)) : Nat → Bool
 | 0 => true
 | n + 1 => Bd L n && E0 L n
def Bb (s : Bk) : Bool := decide (s.lo < s.hi ∧ s.hi ≤ 4611686018427387904 ∧ 1 ≤ s.sets.length ∧ s.sets.length ≤ 8) && Bd s.sets s.sets.length
def CY : Int → List Bk → Bool
 | p, [] => decide (p = 4611686018427387904)
 | p, s :: l => decide (s.lo = p) && (Bb s && CY s.hi l)
def Cc (p : Ea) : Bool := epR p.epoch && (decide (1 ≤ p.stripes.length ∧ p.stripes.length ≤ 64) && CY 0 p.stripes)
def CW (k : Int) : Nat := if k < 1 ∨ 14 < k then 0 else [0, 1, 33, 0, 1, 1, 10, 0, 128, 36, 0, 64, 17, 128, 4].getD k.toNat 0
def Ay (k : Int) (p : Nat) : Bool := CW k / p % 2 == 1
def CK (k : Int) : Int := if k = 9 then 4 else 20
def Bj (k st : Int) : Bool := decide (k = 2) || (decide (k = 9) && decide (st = 1))
def AM (h r z : Bool) : Bool := if h then r else z
def Mp : Hd := ⟨0, 0, 0⟩
def En (m : Msg) : Bool :=
 decide (1 ≤ m.kind ∧ m.kind ≤ 14) && (AM (Ay m.kind 1) (poR m.pos) (decide (m.pos = 0)) && (AM (Ay m.kind 2) (decide (1 ≤ m.count ∧ m.count ≤ 65536)) (decide (m.count = 0)) &&
 (AM (Ay m.kind 4) (decide (1 ≤ m.state ∧ m.state ≤ CK m.kind)) (decide (m.state = 0)) && (AM (Ay m.kind 8) (decide (m.streams.length ≤ 16) && A1 m.streams) (decide (m.streams.length = 0)) &&
 (AM (Ay m.kind 16) (Bl m.pos m.links) (decide (m.links.length = 0)) && (AM (Ay m.kind 64) (Dv m.sea) (decide (m.sea = Mp)) &&
 (AM (Ay m.kind 128) (Cc m.proj) (decide (m.proj.epoch = 0) && decide (m.proj.stripes.length = 0)) && (decide (m.data.length = 0) || (Bj m.kind m.state && decide (m.data.length ≤ 1048576))))))))))
theorem Kr (k : Int) : CW k ∈ [0, 1, 33, 10, 128, 36, 64, 17, 4] := by
 unfold CW;split
 ·simp
 ·rename_i h
  have h' : k.toNat = 1 ∨ k.toNat = 2 ∨ k.toNat = 3 ∨ k.toNat = 4 ∨ k.toNat = 5 ∨ k.toNat = 6 ∨ k.toNat = 7 ∨ k.toNat = 8 ∨ k.toNat = 9 ∨ k.toNat = 10 ∨ k.toNat = 11 ∨ k.toNat = 12 ∨ k.toNat = 13 ∨ k.toNat = 14 := zD
  rcases h' with h | h | h | h | h | h | h | h | h | h | h | h | h | h <;> rw [h] <;> decide
theorem QX (k : Int) : Ay k 32 = (decide (k = 2) || decide (k = 9)) := by
 unfold Ay CW;split
 ·have h1 : decide (k = 2) = false := Ab zD
  have h2 : decide (k = 9) = false := Ab zD
  rw [h1, h2]; decide
 ·rename_i h
  have h' : k = 1 ∨ k = 2 ∨ k = 3 ∨ k = 4 ∨ k = 5 ∨ k = 6 ∨ k = 7 ∨ k = 8 ∨ k = 9 ∨ k = 10 ∨ k = 11 ∨ k = 12 ∨ k = 13 ∨ k = 14 := zD
  rcases h' with h | h | h | h | h | h | h | h | h | h | h | h | h | h <;> subst h <;> decide
end Go.Bs
namespace Go.Proofs.YtlbffbkbkajciaaGreat
open Go.RowKit Go.Bs Go.Maps
def tlR (x : Int) : Bool := decide (x ≤ 4611686018427387904)
def Rs.tl (B : List UInt8) (s : Rs) : Rs × Nat := if (s.num B).1.k = 0 then (if tlR ((s.num B).2 : Int) = true then s.num B else ((s.num B).1.fail 3 s.p, 0)) else ((s.num B).1, 0)
def Rs.DC (B : List UInt8) : Nat → Rs → List Int → Rs × List Int
  | 0, s, out => (s, out)
  | n + 1, s, out =>
    if (s.num B).1.k = 0 then
      (if out ≠ [] ∧ 18446744073709551615 - out.getLastD 0 ≤ ((s.num B).2 : Int) then ((s.num B).1.fail 13 s.p, [])
       else Rs.DC B n (s.num B).1 (out ++ [if out = [] then ((s.num B).2 : Int) else ((s.num B).2 : Int) + (out.getLastD 0 + 1)]))
    else ((s.num B).1, [])
def CI : Hd := ⟨0, 0, 0⟩
def Rs.seal_ (B : List UInt8) (s : Rs) : Rs × Hd :=
 let e := s.ep B
 let n := e.1.most B 4294967295
 let t := n.1.tl B
 if t.1.k = 0 then (t.1, ⟨(e.2 : Int), (n.2 : Int), (t.2 : Int)⟩) else (t.1, CI)
def Rs.many (B : List UInt8) (s : Rs) (m : Int) : Rs × Nat := (if (s.int B m).2 = 0 then (s.int B m).1.fail 3 s.p else (s.int B m).1, (s.int B m).2)
def Rs.DX (B : List UInt8) (s : Rs) (others : List (List Int)) : Rs × List Int :=
 let e := s.many B 8
 let f := Rs.DC B e.2 e.1 []
 if f.1.k = 0 then
  (if 4294967295 < f.2.getLastD 0 then (f.1.fail 3 e.1.p, f.2) else if BW f.2 others = true then f else (f.1.fail 13 e.1.p, f.2))
 else (f.1, [])
def Rs.Du (B : List UInt8) : Nat → Rs → List (List Int) → Rs × List (List Int)
 | 0, s, out => (s, out)
 | n + 1, s, out => if (s.DX B out).1.k = 0 then Rs.Du B n (s.DX B out).1 (out ++ [(s.DX B out).2]) else ((s.DX B out).1, [])
def FX : Bk := ⟨0, 0, []⟩
def Rs.span (B : List UInt8) (s : Rs) (lo : Int) : Rs × Nat :=
 let s0 := if 4611686018427387904 < lo then s.fail 3 s.p else s
 let d := s0.num B
 (if 4611686018427387904 - min lo 4611686018427387904 ≤ (d.2 : Int) then d.1.fail 3 s.p else d.1, d.2)
def Rs.Bi (B : List UInt8) (s : Rs) (lo : Int) : Rs × Bk :=
 let d := s.span B lo
 let k := d.1.many B 8
 let u := Rs.Du B k.2 k.1 []
 if u.1.k = 0 then (u.1, ⟨lo, lo + d.2 + 1, u.2⟩) else (u.1, FX)
def Rs.Bt (B : List UInt8) : Nat → Rs → Int → List Bk → Rs × Int × List Bk
 | 0, s, lo, out => (s, lo, out)
 | n + 1, s, lo, out => if (s.Bi B lo).1.k = 0 then Rs.Bt B n (s.Bi B lo).1 (s.Bi B lo).2.hi (out ++ [(s.Bi B lo).2]) else ((s.Bi B lo).1, 0, [])
def CX : Ea := ⟨0, []⟩
def Rs.C3 (B : List UInt8) (s : Rs) : Rs × Ea :=
 let e := s.ep B
 let i := e.1.many B 64
 let u := Rs.Bt B i.2 i.1 0 []
 let v := if u.2.1 = 4611686018427387904 then u.1 else u.1.fail 3 u.1.p
 if v.k = 0 then (v, ⟨(e.2 : Int), u.2.2⟩) else (v, CX)
theorem NF (x : Int) (w : World) : Calls Tryz.prog 255 #[.int .u64 x] w fun r w' => r = .returned (.bool (tlR x)) ∧ w = w' := by
 go_enter Tryz.func255, Tryz.ntmps255
 go_wp2_with fail;go_ret;exact ⟨rfl, rfl⟩
theorem K8 (w : World) {g : Nat} {B : List UInt8} {a : Option Addr} {s : Rs} (h : AK w g B a s) (hB : B.length ≤ 1000000000) :
  Calls Tryz.prog 231 #[.pointer (some ⟨g, 0, none⟩), .func (Fn.func 255) #[] #[]] w fun r w' => r = .returned (.int .u64 ((s.tl B).2 : Int)) ∧ Av w g B a (s.tl B).1 w' := by
 have HAT := hid (BI w h)
 have HVR := hid (Cj w h zD)
 have hxb := Rs.Iw (B := B) (s := s)
 have HIN := hid (Cy.refl h)
 unfold Rs.tl;generalize s.num B = R at *
 obtain ⟨st1, x⟩ := R
 dsimp only at *;have HRT := hid (fun (W : World) => NF (x : Int) W)
 have HBAD := hid hxb
 clear h hxb;by_cases hk1 : st1.k = 0
 ·rw [Ak hk1]
  by_cases hr : tlR (x : Int) = true
  ·rw [Ak hr]
   rw [hr] at HRT
   have HK : Hid (decide (st1.k = 0) = true) := hid (Ac hk1)
   clear hk1 hr;go_enter Gv, Fq
   go_wp2_with fail;refine HAT.out.mono ?_
   rintro r w2 ⟨rfl, rfl⟩;go_wp2_with fail;refine HVR.out.mono ?_
   rintro r w3 ⟨rfl, hst3⟩;have HIN3 := hid (HIN.out.step hst3)
   clear hst3;go_wp2_with fail;refine (HRT.out w3).mono ?_
   rintro r w3' ⟨rfl, rfl⟩;go_wp2_with fail;refine ((by have := Ax w3 HIN3.out.rd; rw [HK.out] at this; exact this : Calls Tryz.prog 44 #[.pointer (some ⟨g, 0, none⟩)] w3 fun r w' => r = .returned (.bool true) ∧ Below w3.heap.size w3 w')).mono ?_
   rintro r w5 ⟨rfl, hb5⟩;have HE := hid (HIN3.out.to.then hb5)
   go_wp2;go_ret;exact ⟨rfl, HE.out⟩
  ·rw [An hr]
   rw [Bool.eq_false_iff.2 hr] at HRT
   have hfk : (st1.fail 3 s.p).k ≠ 0 := Rs.Be zD
   clear hk1 hr;go_enter Gv, Fq
   go_wp2_with fail;refine HAT.out.mono ?_
   rintro r w2 ⟨rfl, rfl⟩;go_wp2_with fail;refine HVR.out.mono ?_
   rintro r w3 ⟨rfl, hst3⟩;have HIN3 := hid (HIN.out.step hst3)
   clear hst3;go_wp2_with fail;refine (HRT.out w3).mono ?_
   rintro r w3' ⟨rfl, rfl⟩;go_wp2_with fail;refine (Bf w3 HIN3.out.rd 3 (s.p : Int) zD).mono ?_
   rintro r w4 ⟨rfl, hst4⟩;have HIN4 := hid (HIN3.out.step hst4)
   have hg := Ax w4 HIN4.out.rd
   rw [Ab hfk] at hg
   have HG := hid hg
   clear hst4 hg hfk;go_wp2_with fail;refine HG.out.mono ?_
   rintro r w5 ⟨rfl, hb5⟩;have HE := hid (HIN4.out.to.then hb5)
   go_wp2;go_ret;exact ⟨rfl, HE.out⟩
 ·rw [An hk1]
  have hx0 := HBAD.out hk1
  subst hx0;have hfk : st1.k ≠ 0 := hk1
  have hfid : st1.fail 3 s.p = st1 := Rs.Bw hk1
  rw [show tlR ((0 : Nat) : Int) = true from zP] at HRT
  clear hk1;go_enter Gv, Fq
  go_wp2_with fail;refine HAT.out.mono ?_
  rintro r w2 ⟨rfl, rfl⟩;go_wp2_with fail;refine HVR.out.mono ?_
  rintro r w3 ⟨rfl, hst3⟩;have HIN3 := hid (HIN.out.step hst3)
  clear hst3;go_wp2_with fail;refine (HRT.out w3).mono ?_
  rintro r w3' ⟨rfl, rfl⟩;go_wp2_with fail;refine ((by have := Ax w3 HIN3.out.rd; rw [Ab hfk] at this; exact this : Calls Tryz.prog 44 #[.pointer (some ⟨g, 0, none⟩)] w3 fun r w' => r = .returned (.bool false) ∧ Below w3.heap.size w3 w')).mono ?_
  rintro r w5 ⟨rfl, hb5⟩;have HE := hid (HIN3.out.to.then hb5)
  clear hfk hfid;go_wp2;go_ret;exact ⟨rfl, HE.out⟩
theorem KE (w : World) {g : Nat} {B : List UInt8} {a : Option Addr} {s : Rs} (h : AK w g B a s) (hB : B.length ≤ 1000000000) :
  Calls Tryz.prog 235 #[.pointer (some ⟨g, 0, none⟩)] w fun r w' => r = .returned (.int .u64 ((s.tl B).2 : Int)) ∧ Av w g B a (s.tl B).1 w' := by
 have HR := hid (K8 w h hB)
 generalize s.tl B = R at *
 clear h;go_enter Tryz.func235, Tryz.ntmps235
 go_wp2_with fail;refine HR.out.mono ?_
 rintro r w1 ⟨rfl, hst⟩;have HST := hid hst
 clear hst;go_wp2;go_ret;exact ⟨rfl, HST.out⟩
def EB : Option Int → List Int → List Int
 | _, [] => []
 | p, x :: l => (match p with | none => x | some q => x - q - 1) :: EB (some x) l
def JG (l : List Int) : List UInt8 := CJ (EB none l)
def Ec (l : List Int) : List UInt8 := AH l.length ++ JG l
def EY (l : List (List Int)) : List UInt8 := (l.map Ec).flatten
def Dm (s : Bk) : List UInt8 := AH (s.hi - s.lo - 1).toNat ++ AH s.sets.length ++ EY s.sets
def CO (l : List Bk) : List UInt8 := (l.map Dm).flatten
def D4 (p : Ea) : List UInt8 := AH p.epoch.toNat ++ AH p.stripes.length ++ CO p.stripes
def Ef (s : Hd) : List UInt8 := AH s.epoch.toNat ++ AH s.node.toNat ++ AH s.tail.toNat
def Bg (h : Bool) (b : List UInt8) : List UInt8 := if h then b else []
def F0 (m : Msg) : List UInt8 :=
 Bg (Ay m.kind 1) (AH m.pos.toNat) ++ Bg (Ay m.kind 2) (AH m.count.toNat) ++ Bg (Ay m.kind 4) [UInt8.ofNat m.state.toNat] ++
 Bg (Ay m.kind 8) (Ec m.streams) ++ Bg (Ay m.kind 16) (CR m.pos m.links) ++ Bg (Bj m.kind m.state) (Cu m.data) ++
 Bg (Ay m.kind 64) (Ef m.sea) ++ Bg (Ay m.kind 128) (D4 m.proj)
theorem GH : ∀ (p : Option Int) (l : List Int), (EB p l).length = l.length
 | _, [] => rfl
 | p, x :: l => by simp only [EB, A7, GH _ l]
theorem MP : ∀ (l : List Int) (p : Option Int) (k : Nat) (h : k < l.length), (EB p l)[k]'(by rw [GH]; exact h) = if hk : k = 0 then (match p with | none => l[k] | some q => l[k] - q - 1) else l[k] - l[k - 1] - 1
 | [], p, k, h => by simp at h
 | x :: l, p, 0, h => by cases p <;> simp [EB]
 | x :: l, p, k + 1, h => by
  have hk : k < l.length := by simp at h; omega
  have := MP l (some x) k hk
  rw [dif_neg zD]
  simp only [EB, AL, ET]
  rw [this]
  by_cases h0 : k = 0
  ·subst h0; simp
  ·rw [dif_neg h0]
   obtain ⟨j, rfl⟩ : ∃ j, k = j + 1 := ⟨k - 1, zD⟩
   simp
theorem Rv (l : List Int) : (JG l).length ≤ 10 * l.length := by
 have := G7 (EB none l)
 rw [GH] at this
 exact this
theorem MY (l : List Int) : (Ec l).length ≤ 10 + 10 * l.length := by
 unfold Ec;have := Rv l
 have := (A2 l.length).1
 rw [Am]; omega
theorem On (l : List (List Int)) (k : Nat) (h : k < l.length) : EY (l.take (k + 1)) = EY (l.take k) ++ Ec l[k] := by
 unfold EY;rw [A6 h, C7, DA]; simp only [List.map_cons, List.map_nil, IG, List.flatten_nil, List.append_nil]
theorem KZ (l : List Bk) (k : Nat) (h : k < l.length) : CO (l.take (k + 1)) = CO (l.take k) ++ Dm l[k] := by
 unfold CO;rw [A6 h, C7, DA]; simp only [List.map_cons, List.map_nil, IG, List.flatten_nil, List.append_nil]
theorem Hn {α : Type} (f : α → List UInt8) (l : List α) (k : Nat) : ((l.take k).map f).flatten.length ≤ (l.map f).flatten.length := by
 have : (l.map f).flatten = ((l.take k).map f).flatten ++ ((l.drop k).map f).flatten := by rw [← DA, ← C7, Fs]
 rw [this, Am]; omega
theorem LJ {α : Type} (f : α → List UInt8) (l : List α) (b : Nat) (h : ∀ x ∈ l, (f x).length ≤ b) : (l.map f).flatten.length ≤ b * l.length := by
 induction l with
 | nil => simp
 | cons x l ih =>
  have h1 := h x zO
  have h2 := ih fun y hy => h y (by simp [hy])
  simp only [List.map_cons, IG, Am, A7, Nat.mul_add, Eb]
  omega
theorem Kh (L : List (List Int)) : ∀ n i, Bd L n = true → i < n → E0 L i = true
 | 0, i, _, h => by omega
 | n + 1, i, h, hi => by
  simp only [Bd, As] at h
  by_cases hn : i = n
  ·rw [hn]; exact h.2
  ·exact Kh L n i h.1 zD
theorem FB {α : Type} (l : List α) (i : Nat) (d : α) (h : i < l.length) : l.getD i d = l[i] := by
 rw [List.getD_eq_getElem?_getD, AJ h]; rfl
theorem Ll {L : List (List Int)} (h : Bd L L.length = true) (i : Nat) (hi : i < L.length) : CH L[i] = true := by
 have := Kh L _ i h hi
 simp only [E0, As, FB L i [] hi] at this
 exact this.1
theorem Oj {s : Bk} (h : Bb s = true) : (Dm s).length ≤ 740 := by
 simp only [Bb, As, Aw] at h
 have h1 := (A2 (s.hi - s.lo - 1).toNat).1
 have h2 := (A2 s.sets.length).1
 have h3 := LJ Ec s.sets 90 fun x hx => by
  obtain ⟨i, hi, rfl⟩ := List.getElem_of_mem hx
  have := Ll h.2 i hi
  simp only [CH, As, Aw] at this
  have := MY s.sets[i]
  omega
 unfold Dm EY;simp only [Am]
 omega
theorem Jb : ∀ (l : List Bk) (p : Int), CY p l = true → ∀ s ∈ l, Bb s = true
 | [], p, _, s, hs => by simp at hs
 | x :: l, p, h, s, hs => by
  simp only [CY, As] at h
  rcases List.mem_cons.1 hs with rfl | hs
  ·exact h.2.1
  ·exact Jb l _ h.2.2 s hs
theorem Sc {p : Ea} (h : Cc p = true) : (D4 p).length ≤ 47380 := by
 simp only [Cc, As, Aw] at h
 have h1 := (A2 p.epoch.toNat).1
 have h2 := (A2 p.stripes.length).1
 have h3 := LJ Dm p.stripes 740 fun x hx => Oj (Jb _ _ h.2.2 x hx)
 unfold D4 CO;simp only [Am]
 omega
theorem RP (s : Hd) : (Ef s).length ≤ 30 := by
 have h1 := (A2 s.epoch.toNat).1
 have h2 := (A2 s.node.toNat).1
 have h3 := (A2 s.tail.toNat).1
 unfold Ef;simp only [Am]
 omega
theorem Eu (h : Bool) (b : List UInt8) (n : Nat) (hb : h = true → b.length ≤ n) : (Bg h b).length ≤ n := by
 cases h
 ·exact Aj _
 ·exact hb rfl
theorem Np (pos : Int) (l : List BB) (hR : Bl pos l = true) : (CR pos l).length ≤ 830 := by
 have h1 := Mv pos l hR
 simp only [Bl, As, Aw] at hR
 have h2 := (A2 l.length).1
 unfold CR;rw [Am]; omega
theorem Ds {h r z : Bool} (hw : AM h r z = true) (hh : h = true) : r = true := by subst hh; exact hw
structure Us (m : Msg) : Prop where
 kind : 1 ≤ m.kind ∧ m.kind ≤ 14
 pos : Ay m.kind 1 = true → poR m.pos = true
 count : Ay m.kind 2 = true → 1 ≤ m.count ∧ m.count ≤ 65536
 state : Ay m.kind 4 = true → 1 ≤ m.state ∧ m.state ≤ CK m.kind
 streams : Ay m.kind 8 = true → m.streams.length ≤ 16 ∧ A1 m.streams = true
 links : Ay m.kind 16 = true → Bl m.pos m.links = true
 seal_ : Ay m.kind 64 = true → Dv m.sea = true
 proj : Ay m.kind 128 = true → Cc m.proj = true
 data : m.data.length ≤ 1048576
theorem Gg {m : Msg} (h : En m = true) : Us m := by
 simp only [En, As, Aw] at h
 obtain ⟨h1, h2, h3, h4, h5, h6, h7, h8, h9⟩ := h
 refine ⟨h1, fun e => Ds h2 e, fun e => B6 (Ds h3 e), fun e => B6 (Ds h4 e), fun e => ?_, fun e => Ds h6 e, fun e => Ds h7 e, fun e => Ds h8 e, ?_⟩
 ·have := Ds h5 e
  simp only [As, Aw] at this
  exact this
 ·simp only [Cm, As, Aw] at h9
  omega
theorem Kt {m : Msg} (h : En m = true) : (F0 m).length ≤ 49000 + m.data.length := by
 have H := Gg h
 have h1 := Eu (Ay m.kind 1) (AH m.pos.toNat) 10 fun _ => (A2 _).1
 have h2 := Eu (Ay m.kind 2) (AH m.count.toNat) 10 fun _ => (A2 _).1
 have h3 := Eu (Ay m.kind 4) [UInt8.ofNat m.state.toNat] 1 fun _ => by simp
 have h4 := Eu (Ay m.kind 8) (Ec m.streams) 170 fun e => by have := MY m.streams; have := (H.streams e).1; omega
 have h5 := Eu (Ay m.kind 16) (CR m.pos m.links) 830 fun e => Np _ _ (H.links e)
 have h6 := Eu (Bj m.kind m.state) (Cu m.data) (11 + m.data.length) fun e => by have := KS m.data; have := (A2 m.data.length).1; omega
 have h7 := Eu (Ay m.kind 64) (Ef m.sea) 30 fun e => RP _
 have h8 := Eu (Ay m.kind 128) (D4 m.proj) 47380 fun e => Sc (H.proj e)
 unfold F0;simp only [Am]
 omega
end Go.Proofs.YtlbffbkbkajciaaGreat
