/- Mini: Needed by rpcTells_walk, part 2: texts put together by shake.py; no condition. -/
import Derived.Test.YtlbffbkbkajciaaGreatZR1
import Derived.Maps.OwnOps
import Derived.Maps.Views
import Derived.Sort.QuietThIn
import Derived.Sort.BigQuietIn
import Derived.Sort.QuietTacIn
import Derived.RangeFuncNested
import Derived.RangeFuncBound
import Derived.RangeFuncCalls
import Derived.RangeFuncLeaves
import Derived.Shelf.Abstract
import Derived.Shelf.RegionOpen
import Derived.OwnWalkIn
import Derived.TacticsInMore
import Derived.LoopNIn
import Derived.LoopIn
import Derived.Maps.OwnIn
import Derived.StillTailTactics
set_option linter.unusedVariables false
set_option linter.unusedSimpArgs false
set_option maxRecDepth 100000
set_option maxHeartbeats 6400000
namespace Go.Bs
theorem zCg{p:Prop}(h:p:=by rw [hkv.out, hk]):p:=h
theorem zB2{p:Prop}(h:p:=by rw [← HBD.out]; unfold Ns; rw [An h4, An h4]):p:=h
theorem zB1{p:Prop}(h:p:=by rw [← HBD.out]; unfold Ns; rw [Am h4, Am h4]):p:=h
theorem zBf{p:Prop}(h:p:=by rw [hsz]; omega):p:=h
theorem zBb{p:Prop}(h:p:=by rw [Am (by omega)]; rfl):p:=h
theorem zAr{p:Prop}(h:p:=by unfold reach; omega):p:=h
theorem zAc{p:Prop}(h:p:=by rw [HBL.out]; exact HZN.out.later HZ6.out):p:=h
theorem zAb{p:Prop}(h:p:=by rw [HBL.out]; exact HZO.out.later HZ6.out):p:=h
theorem Z9{p:Prop}(h:p:=by simp [Value.ownBlock]):p:=h
theorem ZV{p:Prop}(h:p:=by rw [An (by omega)]):p:=h
theorem ZT{p:Prop}(h:p:=by simp [World.setCell]):p:=h
theorem zW{p:Prop}(h:p:=by intro u hu; simp at hu; subst hu; rfl):p:=h
theorem zN{p:Prop}(h:p:=by dsimp only; omega):p:=h
theorem zM{p:Prop}(h:p:=by assumption):p:=h
theorem zF{p:Prop}(h:p:=by first | omega | (simp; done) | (simp; omega)):p:=h
theorem zD{p:Prop}(h:p:=by (repeat (first | assumption | exact Blk.newAt _ _ _ (by first | (simp; done) | (simp; omega)) | refine Blk.alloc ?_ _ | refine Blk.drew ?_ | refine Blk.drewN ?_ _ | refine Blk.far ?_ (by first | (simp; done) | (simp; omega)) _))):p:=h
theorem Al:type_of% @bodyPost_ret:=@bodyPost_ret
theorem Aw:type_of% @results_none:=@results_none
theorem Bj:type_of% @List.nil_append:=@List.nil_append
theorem Bu:type_of% @List.length_nil:=@List.length_nil
theorem Ci:type_of% @Prod.mk.injEq:=@Prod.mk.injEq
theorem Ds:type_of% @Nat.mod_eq_of_lt:=@Nat.mod_eq_of_lt
theorem D8:type_of% @congrArg:=@congrArg
theorem Et:type_of% @List.cons_append:=@List.cons_append
theorem JH:type_of% @Proofs.Tryz.underlying67:=@Proofs.Tryz.underlying67
theorem JK:type_of% @Nat.sub_self:=@Nat.sub_self
end Go.Bs
namespace Go.Proofs.YtlbffbkbkajciaaGreat
open Go.RowKit Go.Bs
def FQ (b : List UInt8) (p m f o : Nat) : Nat × Nat := if 4 ≤ m then (if firstM b p m f o = 0 then (0, 0) else (firstM b p m f o, m)) else (0, 0)
theorem Py (b : List UInt8) (p : Nat) : BV b p = FQ b p (FO b p (reach p)) (reach p) 1 := by
 unfold FQ;rcases EJ b p with h | ⟨o, m, h, h1, h2, h4, hm, hall, hlt⟩
 ·rw [h]
  by_cases h4 : 4 ≤ FO b p (reach p)
  ·have := h
   unfold BV at this;rw [Am h4] at this
   simp only [Ci] at this
   omega
  ·rw [An h4]
 ·have e : FO b p (reach p) = m := by
   have g1 := K8 b p (reach p) o h1 h2
   rcases Jr b p (reach p) with h | ⟨o', g1, g2, g3⟩
   ·omega
   ·have := hall o' g1 g2; omega
  have e2 : firstM b p m (reach p) 1 = o := Kg b p m _ 1 o h1 zC hm fun j j1 j2 => by have := hlt j j1 j2; omega
  rw [h, e, Am h4, e2, An zC]
theorem Rn {b : List UInt8} {p m f o : Nat} (h4 : 4 ≤ m) (ho : 1 ≤ o) (h : CH b p o = m) : FQ b p m (f + 1) o = (o, m) := by
 have e : firstM b p m (f + 1) o = o := by simp [firstM, h]
 unfold FQ;rw [Am h4, e, An zC]
theorem Nk {b : List UInt8} {p m f o : Nat} (h : ¬ (4 ≤ m ∧ CH b p o = m)) : FQ b p m (f + 1) o = FQ b p m f (o + 1) := by
 unfold FQ;by_cases h4 : 4 ≤ m
 ·have e : firstM b p m (f + 1) o = firstM b p m f (o + 1) := by
   simp only [firstM]
   rw [An (fun e => h ⟨h4, e⟩)]
  rw [e]
 ·rw [An h4, An h4]
theorem Ro (b : List UInt8) (p m o : Nat) : FQ b p m 0 o = (0, 0) := by
 unfold FQ;split <;> simp [firstM]
theorem OI (b : List UInt8) (p : Nat) (a : Option Addr) (n c : Nat) (w : World) (hl : Ah.r (· < w.heap.size) w [.slice a n c] b) (hlen : b.length ≤ 1048576) :
  Calls Tryz.prog 253 #[.slice a n c, .int .i64 p] w fun r w' => r = .returned (.tuple #[.int .i64 (BV b p).1, .int .i64 (BV b p).2]) ∧ Below w.heap.size w w' := by
 obtain ⟨rfl, hm, _, _⟩ := AS hl
 have HL := hid hl; clear hl
 have d0 : decide ((p : Int) < 0) = false := zO
 by_cases h1 : p < b.length
 ·have d1 : decide ((b.length : Int) ≤ (p : Int)) = false := by simp; omega
  have d1' : decide (b.length ≤ p) = false := zJ
  have hff := hid (Py b p)
  go_enter Tryz.func253, Tryz.ntmps253
  go_wp2_with fail;go_loopw [6, 7] (fun m i wr => ∃ k : Nat, k ≤ reach p ∧ i = .int .i64 (k + 1 : Nat) ∧ m = .int .i64 (FO b p k) ∧ Below w.heap.size w wr) (fun _ i _ => p + 1 - (intOf i).toNat)
  case atStart => exact ⟨0, Aj _, rfl, rfl, Below.refl _ _⟩
  case round =>
   obtain ⟨k, hk, rfl, rfl, hb⟩ := hrel
   have hrp : reach p ≤ p ∧ reach p ≤ 65536 := zAr
   by_cases hlt : k < reach p
   ·have d2 : decide (((k + 1 : Nat) : Int) ≤ (p : Int)) = true := by simp; omega
    have d3 : decide (((k + 1 : Nat) : Int) ≤ 65536) = true := zJ
    have d2' : decide ((k + 1 : Nat) ≤ p) = true := zJ
    have d2'' : decide ((k : Int) + 1 ≤ (p : Int)) = true := zJ
    have d3'' : decide ((k : Int) + 1 ≤ 65536) = true := zJ
    have hM := KD b (p : Int) ((k + 1 : Nat) : Int) zC zC a b.length c wr (lift HL.out hb) hlen zC zC
    rw [Int.toNat_natCast, Int.toNat_natCast] at hM
    have HM := hid hM; clear hM
    go_wp2_with fail;refine HM.out.mono ?_
    rintro r w2 ⟨rfl, hb2⟩;have e1 : max (FO b p k : Int) (CH b p (k + 1) : Int) = (FO b p (k + 1) : Nat) := by simp only [FO]; omega
    go_wp2;go_roundw
    case rel => exact ⟨k + 1, zC, zV, (by have : (if FO b p k < CH b p (k + 1) then (CH b p (k + 1) : Int) else (FO b p k : Int)) = ((FO b p (k + 1) : Nat) : Int) := (by simp only [FO]; split <;> omega); rw [this]), Af hb2 hb⟩
    case measure => simp [intOf]; omega
   ·obtain rfl : k = reach p := by omega
    have hbw := hb
    have hexit : (decide ((reach p : Int) + 1 ≤ (p : Int)) = false) ∨ (decide ((reach p : Int) + 1 ≤ (p : Int)) = true ∧ decide ((reach p : Int) + 1 ≤ 65536) = false) := by
     unfold reach;by_cases h6 : p ≤ 65536
     ·left; simp; omega
     ·right; constructor <;> simp <;> omega
    generalize hM : FO b p (reach p) = M at *
    generalize hR : reach p = R at *
    have HM := hid hM; have HR := hid hR; clear hM hR
    rcases hexit with d2 | ⟨d2, d3⟩
    all_goals
     go_wp2_with fail;go_loopw [4, 5, 8] (fun _ _ i wr => ∃ k : Nat, k ≤ R ∧ i = .int .i64 (k + 1 : Nat) ∧ Hid (BV b p = FQ b p M (R - k) (k + 1)) ∧ Below w.heap.size w wr) (fun _ _ i _ => p + 1 - (intOf i).toNat)
     case atStart => exact ⟨0, Aj _, rfl, hff, hbw⟩
     case round =>
      obtain ⟨j, hj, rfl, hf, hb⟩ := hrel
      clear hff hbw;by_cases hlt : j < R
      ·have d4 : decide ((j : Int) + 1 ≤ (p : Int)) = true := by simp; omega
       have d5 : decide ((j : Int) + 1 ≤ 65536) = true := zJ
       obtain ⟨f, hfe⟩ : ∃ f, R - j = f + 1 := ⟨R - j - 1, zC⟩
       by_cases h4 : 4 ≤ M
       ·have d6 : decide ((4 : Int) ≤ (M : Int)) = true := by simp; omega
        have hMc := KD b (p : Int) ((j + 1 : Nat) : Int) zC zC a b.length c wr (lift HL.out hb) hlen zC zC
        rw [Int.toNat_natCast, Int.toNat_natCast] at hMc
        by_cases he : CH b p (j + 1) = M
        ·have hend : Hid (BV b p = (j + 1, M)) := hid (by rw [hf.out, hfe, Rn h4 (by omega) he])
         rw [he] at hMc
         have HMc := hid hMc; clear hMc he hfe
         have e1 : ((M : Int) == (M : Int)) = true := zO
         go_wp2_with fail;refine HMc.out.mono ?_
         rintro r w2 ⟨rfl, hb2⟩;go_wp2;go_ret2
         exact ⟨by rw [hend.out]; rfl, Af hb2 hb⟩
        ·have hend : Hid (BV b p = FQ b p M (R - (j + 1)) (j + 1 + 1)) := hid (by rw [hf.out, hfe, Nk (fun e => he e.2), show R - (j + 1) = f by omega])
         generalize CH b p (j + 1) = m at *
         have HMc := hid hMc; clear hMc hfe
         have e1 : ((m : Int) == (M : Int)) = false := zJ
         have e2 : (m == M) = false := zJ
         clear he;have e3 : decide (m = M) = false := by simp; simpa using e2
         go_wp2_with fail;refine HMc.out.mono ?_
         rintro r w2 ⟨rfl, hb2⟩;go_wp2;go_roundw
         case rel => (repeat apply Exists.intro); refine ⟨?_, ?_⟩; rotate_left; rfl; exact ⟨j + 1, zC, zV, hend, Af hb2 hb⟩
         case measure => simp [intOf]; omega
       ·have d6 : decide ((4 : Int) ≤ (M : Int)) = false := by simp; omega
        have hend : Hid (BV b p = FQ b p M (R - (j + 1)) (j + 1 + 1)) := hid (by rw [hf.out, hfe, Nk (fun e => h4 e.1), show R - (j + 1) = f by omega])
        clear hfe;go_wp2;go_roundw
        case rel => exact ⟨j + 1, zC, zV, hend, hb⟩
        case measure => simp [intOf]; omega
      ·obtain rfl : j = R := by omega
       have hend : Hid (BV b p = (0, 0)) := hid (by rw [hf.out, JK, Ro])
       go_wp2;go_ret2
       exact ⟨by rw [hend.out]; rfl, hb⟩
 ·have d1 : decide ((b.length : Int) ≤ (p : Int)) = true := by simp; omega
  have d1' : decide (b.length ≤ p) = true := zJ
  have hff : Hid (BV b p = (0, 0)) := hid (Mg fun j _ _ => by have := Iy b p j; omega)
  go_enter Tryz.func253, Tryz.ntmps253
  go_wp2;go_ret2
  exact ⟨zH, zB⟩
theorem K0 (a b : Nat) (ha : a < 4294967296) (hb : b < 4294967296) : bits .or .u32 (a : Int) (b : Int) = ((a ||| b : Nat) : Int) := by
 have hx : a ||| b < 2 ^ 32 := Nat.or_lt_two_pow zC zC
 have h1 : (BitVec.ofInt 32 (a : Int)).toNat = a := by
  rw [BitVec.ofInt_natCast, BitVec.toNat_ofNat]; exact Ds zC
 have h2 : (BitVec.ofInt 32 (b : Int)).toNat = b := by
  rw [BitVec.ofInt_natCast, BitVec.toNat_ofNat]; exact Ds zC
 show IntKind.u32.wrap ((BitVec.ofInt 32 (a : Int) ||| BitVec.ofInt 32 (b : Int)).toNat : Int) = _
 rw [BitVec.toNat_or, h1, h2, IntKind.wrap_u32]
 omega
theorem Vy (a c k : Nat) (h : a < 2 ^ k) : a ||| (c * 2 ^ k) = a + c * 2 ^ k := by
 rw [Nat.or_comm, ← Nat.shiftLeft_eq, ← Nat.shiftLeft_add_eq_or_of_lt h, Nat.add_comm]
theorem NH (a c k m : Nat) (hm : 2 ^ k = m) (h : a < m) (hc : c * m < 4294967296) (ha : a < 4294967296) : bits .or .u32 (a : Int) ((c : Int) * (m : Int)) = (a : Int) + c * m := by
 have e : ((c : Int) * (m : Int)) = ((c * m : Nat) : Int) := zO
 rw [e, K0 a (c * m) ha hc, ← hm, Vy a c k (by rw [hm]; exact h)]
 simp
theorem T2 (x0 x1 x2 x3 : UInt8) : bits .or .u32 (bits .or .u32 (bits .or .u32 (bits .or .u32 0 ((x0.toNat : Int) % 4294967296)) ((x1.toNat : Int) % 4294967296 * 256 % 4294967296)) ((x2.toNat : Int) % 4294967296 * 65536 % 4294967296)) ((x3.toNat : Int) % 4294967296 * 16777216 % 4294967296) = ((x0.toNat + 256 * x1.toNat + 65536 * x2.toNat + 16777216 * x3.toNat : Nat) : Int) := by
 have h0 := x0.toNat_lt; have h1 := x1.toNat_lt; have h2 := x2.toNat_lt; have h3 := x3.toNat_lt
 have e0 : (x0.toNat : Int) % 4294967296 = ((x0.toNat : Nat) : Int) * ((1 : Nat) : Int) := zC
 have e1 : (x1.toNat : Int) % 4294967296 * 256 % 4294967296 = (x1.toNat : Int) * ((256 : Nat) : Int) := zC
 have e2 : (x2.toNat : Int) % 4294967296 * 65536 % 4294967296 = (x2.toNat : Int) * ((65536 : Nat) : Int) := zC
 have e3 : (x3.toNat : Int) % 4294967296 * 16777216 % 4294967296 = (x3.toNat : Int) * ((16777216 : Nat) : Int) := zC
 have ez : (0 : Int) = ((0 : Nat) : Int) := rfl
 rw [e0, e1, e2, e3, ez, NH 0 x0.toNat 0 1 zP zC zC zC]
 have f0 : ((0 : Nat) : Int) + (x0.toNat : Int) * ((1 : Nat) : Int) = ((x0.toNat : Nat) : Int) := zC
 rw [f0, NH x0.toNat x1.toNat 8 256 zP zC zC zC]
 have f1 : (x0.toNat : Int) + (x1.toNat : Int) * ((256 : Nat) : Int) = ((x0.toNat + 256 * x1.toNat : Nat) : Int) := zC
 rw [f1, NH (x0.toNat + 256 * x1.toNat) x2.toNat 16 65536 zP zC zC zC]
 have f2 : ((x0.toNat + 256 * x1.toNat : Nat) : Int) + (x2.toNat : Int) * ((65536 : Nat) : Int) = ((x0.toNat + 256 * x1.toNat + 65536 * x2.toNat : Nat) : Int) := zC
 rw [f2, NH (x0.toNat + 256 * x1.toNat + 65536 * x2.toNat) x3.toNat 24 16777216 zP zC zC zC]
 omega
def ID (b : List UInt8) (p : Nat) : Int × Bool := match Dt b p with | some k => (k, true) | none => (0, false)
theorem Gd {b : List UInt8} {p : Nat} (hp : p + 4 ≤ b.length) : Dt b p = some (b[p].toNat + 256 * b[p + 1].toNat + 65536 * b[p + 2].toNat + 16777216 * b[p + 3].toNat) := by
 unfold Dt;rw [AR (show p < b.length by omega), AR (show p + 1 < b.length by omega), AR (show p + 2 < b.length by omega), AR (show p + 3 < b.length by omega)]
theorem Kc {b : List UInt8} {p : Nat} (hp : b.length < p + 4) : Dt b p = none := by
 unfold Dt;rw [List.getElem?_eq_none (show b.length ≤ p + 3 by omega)]
 split <;> simp_all
theorem Q8 (b : List UInt8) (p : Nat) (a : Option Addr) (n c : Nat) (w : World) (hl : Ah.r (· < w.heap.size) w [.slice a n c] b) (hlen : b.length ≤ 1048576) (hp : p + 4 ≤ b.length) :
  Calls Tryz.prog 282 #[.slice a n c, .int .i64 p] w fun r w' => r = .returned (.tuple #[.int .u32 (ID b p).1, .bool (ID b p).2]) ∧ w = w' := by
 have hff : Hid (ID b p = (((b[p].toNat + 256 * b[p + 1].toNat + 65536 * b[p + 2].toNat + 16777216 * b[p + 3].toNat : Nat) : Int), true)) := hid (by unfold ID; rw [Gd hp])
 obtain ⟨rfl, hm, _, _⟩ := AS hl
 obtain ⟨g, o, hA, hg, c0⟩ := CO hl (i := p) zC
 obtain ⟨g1, o1, hA1, _, c1⟩ := CO hl (i := p + 1) zC
 obtain ⟨g2, o2, hA2, _, c2⟩ := CO hl (i := p + 2) zC
 obtain ⟨g3, o3, hA3, _, c3⟩ := CO hl (i := p + 3) zC
 subst hA;simp only [Bk, Dd, AO] at hA1 hA2 hA3
 obtain ⟨rfl, rfl⟩ := hA1
 obtain ⟨rfl, rfl⟩ := hA2
 obtain ⟨rfl, rfl⟩ := hA3
 have HL := hid hl; clear hl
 have d0 : decide ((p : Int) < 0) = false := zO
 have d1 : decide ((b.length : Int) - 4 < (p : Int)) = false := zJ
 generalize b[p] = x0 at *
 generalize b[p + 1] = x1 at *
 generalize b[p + 2] = x2 at *
 generalize b[p + 3] = x3 at *
 have i0 : (0 : Int) ≤ (p : Int) := zC
 have i1 : (p : Int) + 3 < (b.length : Int) := zC
 have i2 : (p : Int) + 2 < (b.length : Int) := zC
 have i3 : (p : Int) + 1 < (b.length : Int) := zC
 have i4 : (p : Int) < (b.length : Int) := zC
 go_enter Tryz.func282, Tryz.ntmps282
 go_wp2_with fail;refine wp_loop_rounds 5 ?_
 rw [rounds_succ]
 go_wp2_with fail;rw [rounds_succ]
 go_wp2_with fail;rw [rounds_succ]
 go_wp2_with fail;rw [rounds_succ]
 go_wp2_with fail;rw [rounds_succ]
 go_wp2_with fail;go_ret2
 exact ⟨by rw [hff.out, ← T2]; rfl, rfl⟩
theorem Q9 (b : List UInt8) (p : Nat) (a : Option Addr) (n c : Nat) (w : World) (hl : Ah.r (· < w.heap.size) w [.slice a n c] b) (hlen : b.length ≤ 1048576) (hp : b.length < p + 4) (hp2 : p ≤ 1048576) :
  Calls Tryz.prog 282 #[.slice a n c, .int .i64 p] w fun r w' => r = .returned (.tuple #[.int .u32 (ID b p).1, .bool (ID b p).2]) ∧ w = w' := by
 have hff : Hid (ID b p = (0, false)) := hid (by unfold ID; rw [Kc hp])
 obtain ⟨rfl, hm, _, _⟩ := AS hl
 clear hl;have d0 : decide ((p : Int) < 0) = false := zO
 have d1 : decide ((b.length : Int) - 4 < (p : Int)) = true := zJ
 go_enter Tryz.func282, Tryz.ntmps282
 go_wp2;go_ret2
 exact ⟨zH, rfl⟩
theorem Nf (b : List UInt8) (p : Nat) (a : Option Addr) (n c : Nat) (w : World) (hl : Ah.r (· < w.heap.size) w [.slice a n c] b) (hlen : b.length ≤ 1048576) (hp : p ≤ 1048576) :
  Calls Tryz.prog 282 #[.slice a n c, .int .i64 p] w fun r w' => r = .returned (.tuple #[.int .u32 (ID b p).1, .bool (ID b p).2]) ∧ w = w' := by
 by_cases h : p + 4 ≤ b.length
 ·exact Q8 b p a n c w hl hlen h
 ·exact Q9 b p a n c w hl hlen zC hp
end Go.Proofs.YtlbffbkbkajciaaGreat
namespace Go.Bs
open Go.RowKit
structure Tch (F : Nat → Prop) (w w' : World) : Prop where
 os : w'.os = w.os
 tape : w'.tape = w.tape
 output : w'.output = w.output
 size : w.heap.size ≤ w'.heap.size
 block : ∀ b, b < w.heap.size → ¬ F b → w'.heap[b]? = w.heap[b]?
section
variable {F G : Nat → Prop} {w w' w'' : World}
theorem Tch.refl (F : Nat → Prop) (w : World) : Tch F w w := ⟨rfl, rfl, rfl, Ak _, fun _ _ _ => rfl⟩
theorem Tch.trans (h : Tch F w w') (k : Tch G w' w'') (hG : ∀ b, b < w.heap.size → G b → F b) : Tch F w w'' :=
 ⟨k.os.trans h.os, k.tape.trans h.tape, k.output.trans h.output, A4 h.size k.size, fun b hb hF => (k.block b (Ai hb h.size) (fun hg => hF (hG b hb hg))).trans (h.block b hb hF)⟩
theorem Tch.mono (h : Tch F w w') (hF : ∀ b, b < w.heap.size → F b → G b) : Tch G w w' := ⟨h.os, h.tape, h.output, h.size, fun b hb hg => h.block b hb (fun hf => hg (hF b hb hf))⟩
theorem Tch.Ij {B : Nat} (h : Below B w w') : Tch (fun b => B ≤ b) w w' := ⟨h.os, h.tape, h.output, h.size, fun b hb hf => h.block b zC⟩
theorem Tch.Cl (h : Below w.heap.size w w') : Tch F w w' := ⟨h.os, h.tape, h.output, h.size, fun b hb _ => h.block b hb⟩
theorem Tch.TP {row : Option Nat} (h : w.grownBy w' row) : Tch (fun b => row = some b) w w' := ⟨h.os, h.tape, h.output, h.size, fun b hb hf => h.block b hb (fun e => hf e.symm)⟩
theorem Tch.alloc (h : Tch F w w') (o : Obj) : Tch F w (w'.alloc o) := h.trans (Tch.Cl (F := F) ((Below.refl _ _).alloc (Ak _) o)) fun _ _ h => h
theorem Tch.drew (h : Tch F w w') : Tch F w w'.drew := ⟨h.os, h.tape, h.output, h.size, h.block⟩
theorem Tch.drewN (h : Tch F w w') (n : Nat) : Tch F w (w'.drewN n) := ⟨h.os, h.tape, h.output, h.size, h.block⟩
theorem Tch.setCell (h : Tch F w w') {p : Addr} (hp : p.block < w.heap.size → F p.block) (u : Value) : Tch F w (w'.setCell p u) :=
 ⟨h.os, h.tape, h.output, by simpa [World.setCell] using h.size, fun b hb hf => (AM w' p u b (fun e => hf (e ▸ hp (e ▸ hb)))).trans (h.block b hb hf)⟩
theorem Tch.below {B : Nat} (h : Tch F w w') (hF : ∀ b, b < w.heap.size → F b → B ≤ b) : Below B w w' ∨ w.heap.size < B := by
 by_cases hB : B ≤ w.heap.size
 ·exact .inl ⟨h.os, h.tape, h.output, h.size, fun b hb => h.block b zC (fun hf => by have := hF b (by omega) hf; omega)⟩
 ·exact .inr zC
theorem Tch.Cj {B : Nat} (h : Tch F w w') (hB : B ≤ w.heap.size) (hF : ∀ b, b < w.heap.size → F b → B ≤ b) : Below B w w' := (h.below hF).resolve_right zC
theorem Tch.cell (h : Tch F w w') {p : Addr} (hb : p.block < w.heap.size) (hf : ¬ F p.block) : w'.cell? p = w.cell? p := Bz (h.block _ hb hf)
theorem Tch.frozen (h : Tch F w w') {p : Addr} (hb : p.block < w.heap.size) (hf : ¬ F p.block) : w'.frozen? p = w.frozen? p := Cy (h.block _ hb hf)
theorem Blk.tch {g : Nat} {t : TypeId} {cs : Array Value} (h : Blk w g t cs) (k : Tch F w w') (hf : ¬ F g) : Blk w' g t cs := (k.block g h.lt hf).trans h
theorem Bx {w : World} (W : World) (e : TypeId) (cs : List Value) (hB : w = W.alloc (.cells cs.toArray e)) {g : Nat} (hg : g = W.heap.size) {sz : Nat} (hs : cs.length = sz) : Src w (some ⟨g, 0, none⟩) 1 sz cs := by
 subst hB hg;refine ⟨zC, .inr ⟨_, 0, rfl, fun j u hu => ?_⟩⟩
 rw [A3, Blk.cell (Blk.new W e cs.toArray)]
 simpa using hu
end
end Go.Bs
namespace Go.Proofs.YtlbffbkbkajciaaGreat
open Go.RowKit Go.Bs Go.Maps
def Ih (b : List UInt8) (j : Nat) : Nat := match Dt b j with | some k => Eb b k j | none => 0
def IK (b : List UInt8) (n : Nat) : List Value := (List.range n).map fun j => .int .i64 (Ih b j : Int)
theorem Qk (b : List UInt8) (n : Nat) : IK b (n + 1) = IK b n ++ [.int .i64 (Ih b n : Int)] := by simp [IK, List.range_succ]
theorem NC (b : List UInt8) (n : Nat) : (IK b n).length = n := by simp [IK]
def GM (D : DataW Unit) (b : List UInt8) (n : Nat) : Prop := ∀ k : Nat, k < 4294967296 → D.atKey (.int .u32 (k : Int)) (.lit (.int .i64 0)) = .lit (.int .i64 (Eb b k n : Int))
theorem S7 {k : Nat} (h : k < 4294967296) : (Lit.int .u32 (k : Int)).wf = true := by
 simp [Lit.wf, IntKind.min, IntKind.max, IntKind.signed, IntKind.bits]; omega
theorem LR {b : List UInt8} {p k : Nat} (h : Dt b p = some k) : k < 4294967296 := by
 by_cases hp : p + 4 ≤ b.length
 ·rw [Gd hp] at h
  have h0 := b[p].toNat_lt; have h1 := b[p + 1].toNat_lt; have h2 := b[p + 2].toNat_lt; have h3 := b[p + 3].toNat_lt
  simp only [Bk] at h
  omega
 ·rw [Kc zC] at h; cases h
theorem GM.none {D : DataW Unit} {b : List UInt8} {n : Nat} (h : GM D b n) (hk : Dt b n = none) : GM D b (n + 1) := fun k hlt => by
 rw [h k hlt]
 simp only [Eb]
 rw [hk, An zO]
theorem GM.some {D : DataW Unit} {b : List UInt8} {n k : Nat} (h : GM D b n) (hD : IsMap D) (hk : Dt b n = some k) : GM (D.put (.int .u32 (k : Int)) (.lit (.int .i64 ((n : Int) + 1)))) b (n + 1) := fun k' hlt => by
 by_cases e : k' = k
 ·subst e
  rw [atKey_put_same hD (by trivial)]
  simp only [Eb]
  rw [Am hk]; simp
 ·rw [atKey_put_other zJ, h k' hlt]
  simp only [Eb]
  rw [An (by rw [hk]; simp; omega)]
structure Km (w : World) (g mb base : Nat) (b : List UInt8) (n : Nat) (ab : Option Addr) (cb : Nat) (ap : Option Addr) (cp : Nat) : Prop where
 blk : Blk w g 268 #[.slice ab b.length cb, .map (some mb), .slice ap n cp]
 bytes : Ah.r (fun q => q < w.heap.size ∧ q ≠ g ∧ q ≠ mb ∧ (Value.slice ap n cp).ownBlock ≠ some q) w [.slice ab b.length cb] b
 map : ∃ D : DataW Unit, w.ownsMap Tryz.prog 67 (plainElem Tryz.prog 3) mb n D ∧ GM D b n
 prev : w.ownsRow base 3 1 (.slice ap n cp) n (IK b n)
 ne1 : g ≠ mb
 ne2 : (Value.slice ap n cp).ownBlock ≠ some g
 ne3 : (Value.slice ap n cp).ownBlock ≠ some mb
 lo : base ≤ g
 le : n ≤ b.length
 len : b.length ≤ 1048576
theorem UY : (Tryz.prog.info? 3).map (fun i => (i.zero, i.size, i.bytes)) = some (some (.int .i64 0), 1, 8) := zG
theorem Rt (w : World) : (zeroValue 3).run Tryz.prog w = .ok (.int .i64 0) w := zG
theorem QB : Keyed Tryz.prog 67 := int_keyed JH
theorem KS (w : World) {g mb base : Nat} {b : List UInt8} {n : Nat} {ab : Option Addr} {cb : Nat} {ap : Option Addr} {cp : Nat} (h : Km w g mb base b n ab cb ap cp) :
  Calls Tryz.prog 279 #[.pointer (some ⟨g, 0, none⟩)] w fun r w' => r = .returned (.int .i64 n) ∧ w = w' := by
 have c2 : w.cell? ⟨g, 2, none⟩ = some (.slice ap n cp) := h.blk.cell 2
 clear h;go_enter Tryz.func279, Tryz.ntmps279
 go_wp2;go_ret;exact ⟨rfl, rfl⟩
def Gx (w : World) (g mb base : Nat) (b : List UInt8) (n n' : Nat) (ab : Option Addr) (cb : Nat) (ap : Option Addr) (cp : Nat) (w' : World) : Prop :=
 ∃ ap' cp', Km w' g mb base b n' ab cb ap' cp' ∧ Tch (fun q => q = g ∨ q = mb ∨ (Value.slice ap n cp).ownBlock = some q) w w' ∧ ((Value.slice ap' n' cp').ownBlock = (Value.slice ap n cp).ownBlock ∨ ∃ q, (Value.slice ap' n' cp').ownBlock = some q ∧ w.heap.size ≤ q)
def Vd (w : World) (g mb base : Nat) (b : List UInt8) (n : Nat) (ab : Option Addr) (cb : Nat) (ap : Option Addr) (cp : Nat) (r : Ending) (w' : World) : Prop := r = .returned (.bool true) ∧ Gx w g mb base b n (n + 1) ab cb ap cp w'
theorem Js {w w' : World} {K : TypeId} {R : Value → Option (DataW Unit × List MemPlace)} {m n : Nat} {D : DataW Unit} (h : w.ownsMap Tryz.prog K R m n D) (e : w'.heap[m]? = w.heap[m]?) : w'.ownsMap Tryz.prog K R m n D := by
 obtain ⟨es, clock, hb, F, hs, hD⟩ := h
 exact ⟨es, clock, e.trans hb, F, hs, hD⟩
theorem Gm {w w' : World} {base : Nat} {e : TypeId} {size : Nat} {v : Value} {n : Nat} {xs : List Value} (h : w.ownsRow base e size v n xs) (hv : ∀ g, v.ownBlock = some g → w'.heap[g]? = w.heap[g]?) : w'.ownsRow base e size v n xs := by
 refine ⟨h.1, ?_⟩
 rcases h.2 with h0 | ⟨g, cap, cur, h1, h2, h3, h4⟩
 ·exact .inl h0
 ·exact .inr ⟨g, cap, cur, h1, h2, by rw [hv g (by rw [h1]; rfl)]; exact h3, h4⟩
theorem RJ {w w0 w1 : World} {g mb base : Nat} {b : List UInt8} {n : Nat} {ab : Option Addr} {cb : Nat} {ap : Option Addr} {cp : Nat} {a' : Option Addr} {c' : Nat} {o : Obj} (h : Km w g mb base b n ab cb ap cp) (hn : n < b.length) (h0 : Tch (fun q => q = mb) w w0)
  (hmap : ∃ D : DataW Unit, w0.ownsMap Tryz.prog 67 (plainElem Tryz.prog 3) mb (n + 1) D ∧ GM D b (n + 1))
  (hown : w1.ownsRow base 3 1 (.slice a' (n + 1) c') (n + 1) (IK b n ++ [.int .i64 (Ih b n : Int)])) (hgrow : (w0.alloc o).grownBy w1 (Value.slice ap n cp).ownBlock)
  (hat : (Value.slice a' (n + 1) c').ownBlock = (Value.slice ap n cp).ownBlock ∨ (Value.slice a' (n + 1) c').ownBlock = some (w0.alloc o).heap.size) :
  Gx w g mb base b n (n + 1) ab cb ap cp (w1.setCell ⟨g, 2, none⟩ (.slice a' (n + 1) c')) := by
 have hg := h.blk.lt
 have hs0 := h0.size
 have hs1 : w0.heap.size + 1 ≤ w1.heap.size := by have := hgrow.size; simpa using this
 have hn2 : (Value.slice a' (n + 1) c').ownBlock ≠ some g := fun e => by
  rcases hat with h1 | h1
  ·rw [h1] at e; exact h.ne2 e
  ·rw [h1] at e; simp at e; omega
 have hmlt : mb < w0.heap.size := by obtain ⟨D, hD, _⟩ := hmap; exact hD.lt
 have keep : ∀ q, q < w0.heap.size → q ≠ g → (Value.slice ap n cp).ownBlock ≠ some q → (w1.setCell ⟨g, 2, none⟩ (.slice a' (n + 1) c')).heap[q]? = w0.heap[q]? := fun q hq h1 h2 =>
  (AM w1 _ _ q h1).trans ((hgrow.block q zJ (fun e => h2 e.symm)).trans (Br w0 _ q hq))
 have hsz : (w1.setCell ⟨g, 2, none⟩ (.slice a' (n + 1) c')).heap.size = w1.heap.size := ZT
 refine ⟨a', c', ⟨?_, ?_, ?_, ?_, h.ne1, hn2, fun e => ?_, h.lo, zC, h.len⟩, ?_, ?_⟩
 ·have B0 := h.blk.tch h0 h.ne1
  have B1 : Blk w1 g _ _ := (B0.alloc o).grown hgrow (fun e => h.ne2 e.symm)
  exact B1.set 2 _
 ·refine Ah.mono (Ah.keep h.bytes fun q hq => (keep q zC hq.2.1 hq.2.2.2).trans (h0.block q hq.1 hq.2.2.1)) fun q hq => ⟨zBf, hq.2.1, hq.2.2.1, fun e => ?_⟩
  rcases hat with h1 | h1
  ·rw [h1] at e; exact hq.2.2.2 e
  ·rw [h1] at e; simp at e; omega
 ·obtain ⟨D, hD, hL⟩ := hmap
  exact ⟨D, Js hD (keep mb hmlt (Ne.symm h.ne1) h.ne3), hL⟩
 ·rw [Qk]
  exact Gm hown fun q hq => AM w1 _ _ q (fun e => hn2 (by rw [hq, e]))
 ·rcases hat with h1 | h1
  ·rw [h1] at e; exact h.ne3 e
  ·rw [h1] at e; simp at e; omega
 ·exact ⟨hgrow.os.trans h0.os, hgrow.tape.trans h0.tape, hgrow.output.trans h0.output, zBf, fun q hq hf => (keep q zC (fun e => hf (.inl e)) (fun e => hf (.inr (.inr e)))).trans (h0.block q hq (fun e => hf (.inr (.inl e))))⟩
 ·rcases hat with h1 | h1
  ·exact .inl h1
  ·exact .inr ⟨_, h1, zJ⟩
theorem SM (w : World) {g mb base : Nat} {b : List UInt8} {n : Nat} {ab : Option Addr} {cb : Nat} {ap : Option Addr} {cp : Nat} (h : Km w g mb base b n ab cb ap cp) (hn : n < b.length) :
  Calls Tryz.prog 280 #[.pointer (some ⟨g, 0, none⟩)] w (Vd w g mb base b n ab cb ap cp) := by
 have hbk := h.blk
 have c0 : w.cell? ⟨g, 0, none⟩ = some (.slice ab b.length cb) := h.blk.cell 0
 have c1 : w.cell? ⟨g, 1, none⟩ = some (.map (some mb)) := h.blk.cell 1
 have c2 : w.cell? ⟨g, 2, none⟩ = some (.slice ap n cp) := h.blk.cell 2
 have f2 := h.blk.free 2
 have hg := h.blk.lt
 obtain ⟨D, hmap, hD⟩ := h.map
 have hprev := h.prev
 obtain ⟨ne1, ne2, ne3⟩ : g ≠ mb ∧ (Value.slice ap n cp).ownBlock ≠ some g ∧ (Value.slice ap n cp).ownBlock ≠ some mb := ⟨h.ne1, h.ne2, h.ne3⟩
 have hlen := h.len
 have hlo := h.lo
 have hA := KS w h
 have hK := Nf b n ab _ cb w (Ah.mono h.bytes fun q hq => hq.1) h.len zC
 obtain ⟨i0, hi, hz0, hz1, hz2⟩ := A8 UY
 have HH := hid h; have HM := hid hmap; have HD := hid hD; have HP := hid hprev; have HB := hid hbk
 have HA := hid hA; have HKE := hid hK
 clear h hmap hD hprev hA hK hbk;have hkv : Hid (ID b n = match Dt b n with | some k => ((k : Int), true) | none => (0, false)) := hid rfl
 have d1 : decide ((b.length : Int) ≤ (n : Int)) = false := zJ
 have d1' : decide (b.length ≤ n) = false := zJ
 cases hk : Dt b n with
 | none =>
  have hv : ID b n = (0, false) := zCg
  rw [hv] at HKE
  have hpn : Ih b n = 0 := by unfold Ih; rw [hk]
  have HK := hid hk; have HPN := hid hpn
  clear hk hv hkv hpn;go_enter Tryz.func280, Tryz.ntmps280
  go_wp2_with fail;refine HA.out.mono ?_
  rintro r w1 ⟨rfl, rfl⟩;go_wp2_with fail;refine HKE.out.mono ?_
  rintro r w1 ⟨rfl, rfl⟩;go_wp2_with (at_builtin; go_loud (refine Aq rfl _ _ _ rfl base 3 i0 (.int .i64 0) 1 8 Tryz.underlying266 hi hz0 hz1 hz2 rfl zP (.slice ap n cp) n _ rfl (HP.out.alloc _) (some ⟨w.heap.size, 0, none⟩) 1 1 [.int .i64 0] rfl (Bx w 3 _ rfl rfl rfl) zW zK zC zJ ?_; intro v' w1 hown1 hgrow1 hat1; obtain ⟨a', c', rfl⟩ := AA hown1; have G := fun q (hq : q < w.heap.size) (hne : (Value.slice ap n cp).ownBlock ≠ some q) => (hgrow1.block q zJ (fun e => hne e.symm)).trans (Br w _ q hq); have hB := HB.out.later (Below.refl _ _); have g2 := (Cy (a := ⟨g, 2, none⟩) (G g hg ne2)).trans f2; have e2 := (Bz (a := ⟨g, 2, none⟩) (G g hg ne2)).trans c2; have hz1 : g < w1.heap.size := Ai hg (A4 zO hgrow1.size); have HG := hid hgrow1; have HO := hid hown1; have HAT := hid hat1; have HGG := hid G; clear hgrow1 hown1 hat1 G hB))
  have hst := RJ HH.out hn (Tch.refl _ w) (by
   obtain ⟨D, h1, h2⟩ := HH.out.map
   exact ⟨D, h1.mono (Nat.le_succ n), h2.none HK.out⟩) (by rw [HPN.out]; exact HO.out) HG.out HAT.out
  have HST := hid hst; clear hst
  go_ret;exact ⟨rfl, HST.out⟩
 | some k =>
  have hv : ID b n = ((k : Int), true) := zCg
  rw [hv] at HKE
  have hpn : Ih b n = Eb b k n := by unfold Ih; rw [hk]
  have hklt := LR hk
  have HK := hid hk; have HPN := hid hpn
  have HW := hid (S7 hklt)
  clear hk hv hkv hpn hklt;go_enter Tryz.func280, Tryz.ntmps280
  go_wp2_with fail;refine HA.out.mono ?_
  rintro r w1 ⟨rfl, rfl⟩;go_wp2_with fail;refine HKE.out.mono ?_
  rintro r w1 ⟨rfl, rfl⟩;have HWF : Hid ((Lit.int .i64 ((n : Int) + 1)).wf = true) := hid (by simp [Lit.wf, IntKind.min, IntKind.max, IntKind.signed, IntKind.bits]; omega)
  go_wp2_with (first
   | (at_lookup; go_loud (refine wpList_lookup_own_int _ rfl _ _ 265 rfl 67 3 .i64 QB Tryz.underlying265 Tryz.underlying3 (Rt _) mb n D rfl HM.out _ _ rfl (keyOf_int_mk JH HW.out) ?_; intro c hat hwc; have hc : c = (Eb b k n : Int) := (by have := HD.out k (by have := HW.out; simp [Lit.wf, IntKind.max, IntKind.signed, IntKind.bits] at this; omega); rw [hat] at this; simpa using this); subst hc; clear hat hwc))
   | (at_mapUpdate; go_loud (refine wpList_mapUpdate_own _ rfl _ _ _ 265 rfl 67 3 QB Tryz.underlying265 _ mb n _ rfl HM.out (by unfold maxLen; omega) _ _ _ rfl rfl (keyOf_int_mk JH HW.out) _ [] (plainElem_int Tryz.underlying3 HWF.out) ?_; intro w2 hown2 hgrow2; have hnm : some g ≠ some mb := fun e => ne1 (BH e); have hg2 : g < w2.heap.size := Ai hg hgrow2.size; have c2b := (Bz (a := ⟨g, 2, none⟩) (hgrow2.block g hg hnm)).trans c2; have f2b := (Cy (a := ⟨g, 2, none⟩) (hgrow2.block g hg hnm)).trans f2; have HP2 := hid (Gm (w' := w2) HP.out fun q hq => hgrow2.block q (HP.out.lt q hq).2 (fun e => ne3 (hq.trans e))); have HG2 := hid hgrow2; have HM2 := hid hown2; clear hown2 hgrow2 hnm))
   | (at_builtin; go_loud (refine Aq rfl _ _ _ rfl base 3 i0 (.int .i64 0) 1 8 Tryz.underlying266 hi hz0 hz1 hz2 rfl zP (.slice ap n cp) n _ rfl (HP2.out.alloc _) (some ⟨w2.heap.size, 0, none⟩) 1 1 [.int .i64 (Eb b k n : Int)] rfl (Bx w2 3 _ rfl rfl rfl) zW zK zC zJ ?_; intro v' w1 hown1 hgrow1 hat1; obtain ⟨a', c', rfl⟩ := AA hown1; have G := fun q (hq : q < w2.heap.size) (hne : (Value.slice ap n cp).ownBlock ≠ some q) => (hgrow1.block q zJ (fun e => hne e.symm)).trans (Br w2 _ q hq); have g2 := (Cy (a := ⟨g, 2, none⟩) (G g hg2 ne2)).trans f2b; have e2 := (Bz (a := ⟨g, 2, none⟩) (G g hg2 ne2)).trans c2b; have hz1 : g < w1.heap.size := Ai hg2 (A4 zO hgrow1.size); have HG := hid hgrow1; have HO := hid hown1; have HAT := hid hat1; have HGG := hid G; clear hgrow1 hown1 hat1 G)))
  have hst := RJ HH.out hn ((Tch.TP HG2.out).mono fun q _ e => (BH e).symm) ⟨_, HM2.out, HD.out.some HM.out.isMap HK.out⟩ (by rw [HPN.out]; exact HO.out) HG.out HAT.out
  have HST := hid hst; clear hst
  go_ret;exact ⟨rfl, HST.out⟩
theorem Gx.trans {w w1 w2 : World} {g mb base : Nat} {b : List UInt8} {n m k : Nat} {ab : Option Addr} {cb : Nat} {ap a1 : Option Addr} {cp c1 : Nat} (h : Tch (fun q => q = g ∨ q = mb ∨ (Value.slice ap n cp).ownBlock = some q) w w1)
  (ho : (Value.slice a1 m c1).ownBlock = (Value.slice ap n cp).ownBlock ∨ ∃ q, (Value.slice a1 m c1).ownBlock = some q ∧ w.heap.size ≤ q) (k' : Gx w1 g mb base b m k ab cb a1 c1 w2) : Gx w g mb base b n k ab cb ap cp w2 := by
 obtain ⟨a2, c2, h1, h2, h3⟩ := k'
 refine ⟨a2, c2, h1, h.trans h2 fun q hq e => ?_, ?_⟩
 ·rcases e with e | e | e
  ·exact .inl e
  ·exact .inr (.inl e)
  ·rcases ho with ho | ⟨q', hq', hlt⟩
   ·exact .inr (.inr (ho ▸ e))
   ·rw [hq'] at e; have := BH e; omega
 ·rcases h3 with h3 | ⟨q', hq', hlt⟩
  ·rcases ho with ho | ⟨q', hq', hlt⟩
   ·exact .inl (h3.trans ho)
   ·exact .inr ⟨q', h3.trans hq', hlt⟩
  ·exact .inr ⟨q', hq', A4 h.size hlt⟩
theorem Gx.refl {w : World} {g mb base : Nat} {b : List UInt8} {n : Nat} {ab : Option Addr} {cb : Nat} {ap : Option Addr} {cp : Nat} (h : Km w g mb base b n ab cb ap cp) : Gx w g mb base b n n ab cb ap cp w := ⟨ap, cp, h, Tch.refl _ _, .inl rfl⟩
def S3 (w : World) (g mb base : Nat) (b : List UInt8) (n m : Nat) (ab : Option Addr) (cb : Nat) (ap : Option Addr) (cp : Nat) (r : Ending) (w' : World) : Prop := r = .returned (.int .i64 ((m : Int) - n)) ∧ Gx w g mb base b n m ab cb ap cp w'
theorem Pm (w : World) {g mb base : Nat} {b : List UInt8} {n : Nat} {ab : Option Addr} {cb : Nat} {ap : Option Addr} {cp : Nat} (h : Km w g mb base b n ab cb ap cp) (m : Nat) (hn : n ≤ m) (hm : m ≤ b.length) :
  Calls Tryz.prog 273 #[.pointer (some ⟨g, 0, none⟩), .int .i64 m] w (S3 w g mb base b n m ab cb ap cp) := by
 have hlen := h.len
 have HS := hid (Gx.refl h)
 clear h;go_enter Tryz.func273, Tryz.ntmps273
 go_wp2_with fail;go_loopw [5] (fun i wr => ∃ k : Nat, n + k ≤ m ∧ i = .int .i64 k ∧ Hid (Gx w g mb base b n (n + k) ab cb ap cp wr)) (fun i _ => m - (intOf i).toNat)
 case atStart => exact ⟨0, hn, rfl, HS⟩
 case round =>
  obtain ⟨k, hk, rfl, hst⟩ := hrel
  clear HS;obtain ⟨a1, c1, h1, h2, h3⟩ := hst.out
  have HA := hid (KS wr h1)
  have HT := hid h2; have HO := hid h3; have H1 := hid h1
  clear h1 h2 h3;by_cases hlt : n + k < m
  ·have hAdd := hid (SM wr H1.out zC)
   have d1 : decide (((n + k : Nat) : Int) < (m : Int)) = true := zJ
   have d2 : decide ((n : Int) + (k : Int) < (m : Int)) = true := zJ
   have d3 : decide (n + k < m) = true := zJ
   go_wp2_with fail;refine HA.out.mono ?_
   rintro r w1 ⟨rfl, rfl⟩;go_wp2_with fail;refine hAdd.out.mono ?_
   rintro r w1 ⟨rfl, hs1⟩;have HS1 := hid (Gx.trans HT.out HO.out hs1)
   clear hs1;go_wp2;go_roundw
   case rel => first | exact ⟨k + 1, zC, zV, HS1⟩ | ((repeat apply Exists.intro); refine ⟨?_, ?_⟩; rotate_left; rfl; exact ⟨k + 1, zC, zV, HS1⟩)
   case measure => simp [intOf]; omega
  ·obtain rfl : m = n + k := by omega
   have d1 : decide (((n + k : Nat) : Int) < ((n + k : Nat) : Int)) = false := zO
   have d2 : decide ((n : Int) + (k : Int) < (n : Int) + (k : Int)) = false := zO
   have hff : Hid (((n + k : Nat) : Int) - (n : Int) = (k : Int)) := hid zC
   go_wp2_with fail;refine HA.out.mono ?_
   rintro r w1 ⟨rfl, rfl⟩;go_wp2;go_ret;exact ⟨zH, hst.out⟩
end Go.Proofs.YtlbffbkbkajciaaGreat
namespace Go.Bs
open Go.RowKit
def FX (o : Oper) : Bool := match o.op with | .defer _ => false | _ => true
section
variable {F : Fence} {n : Nat} {P : Program} {ops : Array Oper} {md : Region.Mode} {C : World → Prop}
theorem NI {o : Oper} (h : FX o = true) : ∀ c, o.op ≠ .defer c := fun c e => by
 unfold FX at h;rw [e] at h
 cases h
theorem KW {o : Oper} {a : Act} {K : Act → Prop} {K' : Act → World → Prop} {Q' : Exit → Act → World → Prop} {w : World} (hd : FX o = true) (hw : C w) (h : ∀ a w', C w' → K a → K' a w')
  (ha : o.askedIn F P a C) (hh : o.quietIn F n P a C K) : o.wpIn F n P a w K' Q' := by
 obtain ⟨v, h1, h2⟩ := hh
 have h3 := h1 w hw
 unfold Oper.quietAtIn at h3;unfold Oper.wpIn;refine ⟨ha w hw, ?_⟩
 rw [Oper.semAt_eq _ _ _ (NI hd)]
 generalize (execOp a.eval o).run P w = r at *
 cases r with
 | ok x w' =>
  cases x <;> simp only [Oper.quietUponIn] at h3 <;> simp only [Oper.uponIn]
  case value u =>
   obtain ⟨e1, e2⟩ := h3
   rw [e1, e2]
   exact h _ _ hw h2
  case skip =>
   obtain ⟨e1, e2⟩ := h3
   rw [e1, ← e2]
   exact h _ _ hw h2
  case enter f args =>
   obtain ⟨e1, hd, hc⟩ := h3
   rw [e1]
   exact ⟨hd, hc.mono fun e w'' ⟨he, hw''⟩ => by subst he; exact h _ _ hw'' h2⟩
 | halt x w' => simp only [Oper.quietUponIn] at h3
theorem I8 {i : Nat} {a : Act} {K : Act → Prop} {K' : Act → World → Prop} {Q' : Exit → Act → World → Prop} {w : World} (hd : ops.all FX = true) (hC : C w) (h : ∀ a w', C w' → K a → K' a w')
  (hh : qOpIn F n P ops C i K a) : wpOpIn F n P ops Q' i K' a w := by
 unfold qOpIn at hh;unfold wpOpIn;split
 ·rename_i ho; simp only [ho] at hh; exact h _ _ hC hh
 ·rename_i o ho
  have hdo : FX o = true := by
   have := Array.all_eq_true'.1 hd o (Array.mem_of_getElem? ho)
   exact this
  simp only [ho] at hh
  obtain ⟨ha, hh⟩ := hh
  split
  ·rename_i hw; simp only [hw, JG] at hh; exact KW hdo hC h ha hh
  ·rename_i hw; simp only [hw] at hh; exact ⟨ha w hC, h _ _ hC hh⟩
theorem Ge {Q : Act → Prop} {Q' : Exit → Act → World → Prop} (hd : ops.all FX = true) (hQ : ∀ a w, C w → Q a → Q' .normal a w) : ∀ (fuel : Nat) (listed : Array Bool) (a : Act) (w : World), C w →
  wpAnyQIn F n P md ops C Q fuel listed a → wpAnyIn F n P md ops Q' fuel listed a w
 | 0, _, _, _, hw, h => ⟨h.1, hQ _ _ hw h.2⟩
 | fuel + 1, _, _, _, hw, h => ⟨fun h0 => hQ _ _ hw (h.1 h0), fun i hi => I8 hd hw (fun a' w' hw' => Ge hd hQ fuel _ a' w' hw') (h.2 i hi)⟩
theorem GC {id : Nat} {Q : Exit → Act → World → Prop} {a : Act} {w : World} {l : List Oper} (C : World → Prop) (hm : P.follows .mixedOrders = true) (hd : l.toArray.all FX = true) (hB : Region.lexB .any l.toArray = true) (hC : C w.drew)
  (h : wpQuietIn F n P l.toArray C (fun a' => ∀ w', C w' → Q .normal a' w') l a) : (Code.region id l.toArray true).wpIn F n P Q a w := by
 simp only [Region.lexB, Ao] at hB
 refine wpIn_region_any hm (Ge (Q := fun a' => ∀ w', C w' → Q .normal a' w') hd (fun _ w' hw' h => h w' hw') _ _ _ _ hC ?_)
 have := wpAnyQIn_lex (F := F) (n := n) (C := C) (md := .any) hB.1 l 0 (Array.replicate l.toArray.size false) a zO (by simpa using hB.2) h
 simpa using this
theorem Dh {id : Nat} {Q : Exit → Act → World → Prop} {a : Act} {w : World} {l : List Oper} (hm : P.follows .mixedOrders = true) (hd : l.toArray.all FX = true) (hB : Region.lexB .any l.toArray = true)
  (h : wpQuietIn F n P l.toArray (fun w' => ∃ s : A1 w, w' = s.at_) (fun a' => ∀ w', (∃ s : A1 w, w' = s.at_) → Q .normal a' w') l a) : (Code.region id l.toArray true).wpIn F n P Q a w :=
 GC _ hm hd hB ⟨⟨w.drew, (Below.refl _ _).drew⟩, rfl⟩ h
theorem IQ {id : Nat} {Q : Exit → Act → World → Prop} {a : Act} {w : World} {l : List Oper} (hm : P.follows .mixedOrders = true) (hd : l.toArray.all FX = true) (hB : Region.lexB .any l.toArray = true)
  (h : wpQuietIn F n P l.toArray (fun w' => ∃ n, w' = w.drewN n) (fun a' => ∀ w', (∃ n, w' = w.drewN n) → Q .normal a' w') l a) : (Code.region id l.toArray true).wpIn F n P Q a w :=
 GC _ hm hd hB ⟨1, rfl⟩ h
theorem S4 {p : Prop} (h : Fence.wide.depth.isSome = true) : p := by simp [Fence.wide] at h
theorem QG {n : Nat} {f : FuncId} {args : Array Value} {w : World} {s : A1 w} {v : Value} {l : Nat}
  (h : Calls P f args s.at_ fun e w' => e = .returned v ∧ Below s.at_.heap.size s.at_ w') : CallsIn (Fence.wide.inRound l) n P f args s.at_ fun e w'' => e = .returned v ∧ ∃ s' : A1 w, w'' = s'.at_ :=
 CallsIn.inRound l (callsIn_wide.2 (Be h))
theorem Fp {id : Nat} {Q : Exit → Act → World → Prop} {a : Act} {w : World} {l : List Oper} (n : Nat) (hm : P.follows .mixedOrders = true) (hB : Region.lexTailB .any l.toArray n = true)
  (h : wpStill P l.toArray w.drew (fun a' => wpList P l.toArray Q (l.drop n) a' w.drew) (l.take n) a) : (Code.region id l.toArray true).wp P Q a w := wp_region_still_tail n hm hB h
theorem IP {c : Code} {Q : Exit → Act → World → Prop} {a : Act} {w : World} (G : World → Prop) (hG : G w) (h : ∀ W, G W → c.wpIn F n P Q a W) : c.wpIn F n P Q a w := h w hG
theorem Fo {B : Nat} {G : Nat → Prop} {W W' : World} (h : Tch G W W') (hF : ∀ q, G q → q < B) : KeepsFrom B W W' :=
 ⟨h.size, fun k o hB hk _ => (h.block k (Array.getElem?_eq_some_iff.1 hk).1 (fun e => by have := hF k e; omega)).trans hk⟩
end
end Go.Bs
namespace Go.Proofs.YtlbffbkbkajciaaGreat
open Go.RowKit Go.Bs Go.Maps Go.Shelf
def Gk (b : List UInt8) (k m : Nat) : Nat → List (Fin m)
 | 0 => []
 | j + 1 => if h : j < m then (if Dt b j = some k then ⟨j, h⟩ :: Gk b k m j else Gk b k m j) else Gk b k m j
theorem MQ (b : List UInt8) (k m : Nat) : ∀ j, Eb b k j = 0 → Gk b k m j = []
 | 0, _ => rfl
 | j + 1, h => by
  simp only [Eb] at h
  split at h
  ·omega
  ·rename_i hk
   have ih := MQ b k m j h
   simp only [Gk]
   split
   ·first | exact ih | (rw [An hk]; exact ih)
   ·exact ih
theorem MP (b : List UInt8) (k m : Nat) : ∀ (j i : Nat) (hi : i < m), Eb b k j = i + 1 → Gk b k m j = ⟨i, hi⟩ :: Gk b k m i
 | 0, i, hi, h => by simp [Eb] at h
 | j + 1, i, hi, h => by
  simp only [Eb] at h
  split at h
  ·rename_i hk
   obtain rfl : j = i := zC
   simp only [Gk]
   rw [dif_pos hi, Am hk]
  ·rename_i hk
   have ih := MP b k m j i hi h
   simp only [Gk]
   split
   ·first | exact ih | (rw [An hk]; exact ih)
   ·exact ih
def GY (p : Nat) (q : Fin p) : Bool := decide (p - q.val ≤ 65536)
def placesOf (b : List UInt8) (p : Nat) : List (Fin p) := match Dt b p with | none => [] | some k => (Gk b k p p).takeWhile (GY p)
theorem QJ (b : List UInt8) (k j i : Nat) (h : Eb b k j = i + 1) : Dt b i = some k ∧ i < j := by
 have h1 := MV b k j zC
 have h2 := Jy b k j
 rw [h] at h1 h2
 exact ⟨zAe, zC⟩
theorem Ql {b : List UInt8} {k i : Nat} (h : Dt b i = some k) : Ih b i = Eb b k i := by unfold Ih; rw [h]
theorem Qp {w : World} {base : Nat} {e : TypeId} {v : Value} {n : Nat} {xs : List Value} (h : w.ownsRow base e 1 v n xs) {i : Nat} {u : Value} (hi : xs[i]? = some u) (hn : n = xs.length) : ∃ gp c, v = .slice (some ⟨gp, 0, none⟩) n c ∧ w.cell? ⟨gp, i, none⟩ = some u ∧ gp < w.heap.size := by
 have hlt := (List.getElem?_eq_some_iff.1 hi).1
 rcases h.2 with ⟨_, h0⟩ | ⟨g, cap, cur, h1, h2, h3, h4, h5, h6, h7⟩
 ·omega
 ·refine ⟨g, cap, h1, ?_, (Array.getElem?_eq_some_iff.1 h3).1⟩
  rw [Blk.cell h3 i]
  have e1 : cur[i]? = (cur.toList.take (n * 1))[i]? := by
   rw [CR, Am zC]; simp
  rw [e1, h7]; exact hi
theorem Ty {b : List UInt8} {n i : Nat} (h : i < n) : (IK b n)[i]? = some (.int .i64 (Ih b i : Int)) := by simp [IK, h]
def KpC (Q : Nat → Prop) (w w' : World) : Prop := ∀ q, Q q → w'.heap[q]? = w.heap[q]?
theorem KpC.trans {Q : Nat → Prop} {w w' w'' : World} (h : KpC Q w w') (k : KpC Q w' w'') : KpC Q w w'' := fun q hq => (k q hq).trans (h q hq)
theorem QW (w : World) (n : Nat) : w.grownBy (w.drewN n) none := ⟨rfl, rfl, rfl, Ak _, fun _ _ _ => rfl⟩
theorem NF (w : World) {g mb base : Nat} {b : List UInt8} {p : Nat} {ab : Option Addr} {cb : Nat} {ap : Option Addr} {cp : Nat} {bc ba n : Nat} (h : Km w g mb base b p ab cb ap cp) (hc : Blk w bc 256 #[.pointer (some ⟨g, 0, none⟩)]) (ha : Blk w ba 3 #[.int .i64 (p : Int)]) :
  SeqStopsK Fence.wide n Tryz.prog 281 #[.pointer (some ⟨bc, 0, none⟩), .pointer (some ⟨ba, 0, none⟩)] (fun x : Fin p => #[.int .i64 (x.val : Int)]) (KpC fun q => q = g ∨ q = mb ∨ (Value.slice ap p cp).ownBlock = some q ∨ q = bc ∨ q = ba)
   (fun xs => xs = placesOf b p) (fun pre => pre <+: placesOf b p) (placesOf b p).length w := by
 intro l J Jx W hW hJ hJx hY h0;have hlen := h.len
 have hle := h.le
 have hK0 : KpC (fun q => q = g ∨ q = mb ∨ (Value.slice ap p cp).ownBlock = some q ∨ q = bc ∨ q = ba) w W := fun q hq => by
  rcases hq with rfl | rfl | hq | rfl | rfl
  ·exact hW.block _ h.blk.lt
  ·obtain ⟨D, hD, _⟩ := h.map; exact hW.block _ hD.lt
  ·exact hW.block _ (h.prev.lt _ hq).2
  ·exact hW.block _ hc.lt
  ·exact hW.block _ ha.lt
 have hkey := fun (nq : Nat) => Nf b p ab b.length cb (W.drewN nq) (Ah.mono (Ah.keep h.bytes fun q hq => hW.block q hq.1) fun q hq => Ai hq.1 hW.size) hlen zC
 have hg0 := h.blk; have hmap := h.map; have hprev := h.prev
 have HG0 := hid hg0; have HMAP := hid hmap; have HPREV := hid hprev; have HC := hid hc; have HAA := hid ha
 have HY := hid hY; have HJ := hid hJ; have HJX := hid hJx
 have HWs := hid hW
 have HKEY := hid hkey
 clear h hg0 hmap hprev hc ha hY hJ hJx hW hkey;have c1 : W.cell? ⟨bc, 0, none⟩ = some (.pointer (some ⟨g, 0, none⟩)) := (Blk.later HC.out HWs.out).cell 0
 have c2 : W.cell? ⟨ba, 0, none⟩ = some (.int .i64 (p : Int)) := (Blk.later HAA.out HWs.out).cell 0
 have c3 : W.cell? ⟨g, 0, none⟩ = some (.slice ab b.length cb) := (Blk.later HG0.out HWs.out).cell 0
 have c4 : W.cell? ⟨g, 1, none⟩ = some (.map (some mb)) := (Blk.later HG0.out HWs.out).cell 1
 refine callsIn_of_wp Tryz.func281 rfl trivial ?_ rfl
 simp only [Tryz.ntmps281, List.size_toArray, AQ, Bu, Nat.reduceAdd, Nat.reduceSub, Array.replicate_succ, Array.replicate_zero, List.push_toArray, List.append_toArray, Bj, Et]
 have hfw : ∀ f, Fence.wide.fn f = True := fun _ => rfl
 gi_wp2
 refine IQ zG zG zG ?_
 repeat (gi_big_quiet_step ((refine ⟨S4, callsIn_wide.2 ((HKEY.out _).mono fun e w' ⟨he, hw⟩ => ⟨he, _, hw.symm⟩)⟩)))
 refine wpQuietIn_nil ?_
 intro _ hw';obtain ⟨nq, rfl⟩ := hw'
 have h1 : Hid (J [] (W.drewN nq)) := hid (HJ.out [] W _ none h0 (QW W nq) (fun r e => by cases e))
 have hkv : Hid (ID b p = match Dt b p with | some k => ((k : Int), true) | none => (0, false)) := hid rfl
 have hpo : Hid (placesOf b p = match Dt b p with | none => [] | some k => (Gk b k p p).takeWhile (GY p)) := hid rfl
 cases hk : Dt b p with
 | none =>
  have hv : ID b p = (0, false) := zCg
  have hp0 : Hid (placesOf b p = []) := hid (by rw [hpo.out, hk])
  rw [hv]
  clear hv hk hkv hpo;gi_wp2
  refine Al (Aw rfl _ _ _) rfl ?_
  exact ⟨⟨_, rfl⟩, .inl ⟨[], hp0.out.symm, h1.out⟩⟩
 | some k =>
  have hv : ID b p = ((k : Int), true) := zCg
  have hp0 : Hid (placesOf b p = (Gk b k p p).takeWhile (GY p)) := hid (by rw [hpo.out, hk])
  have hW := hid (S7 (LR hk))
  have hklt := hid (LR hk)
  rw [hv]
  clear hv hk hkv hpo;obtain ⟨D, hD, hL⟩ := HMAP.out
  have hD2 := hid (Js (w' := W.drewN nq) hD (HWs.out.block _ hD.lt))
  have HL := hid hL
  clear hD hL;gi_wp2_with (gi_at_lookup; go_loud (refine wpListIn_lookup_own_int _ rfl _ _ 265 rfl 67 3 .i64 QB Tryz.underlying265 Tryz.underlying3 (Rt _) mb p D rfl hD2.out _ _ rfl (keyOf_int_mk JH hW.out) ?_; intro c hat hwc; have hc : c = (Eb b k p : Int) := (by have := HL.out k hklt.out; rw [hat] at this; simpa using this); subst hc; clear hat hwc))
  gi_loopw [6] (fun kk wr => ∃ (pre : List (Fin p)) (j : Nat), j ≤ p ∧ kk = .int .i64 (Eb b k j : Int) ∧ Hid (placesOf b p = pre ++ (Gk b k p j).takeWhile (GY p)) ∧ Hid (J pre wr) ∧ Hid (KpC (fun q => q = g ∨ q = mb ∨ (Value.slice ap p cp).ownBlock = some q ∨ q = bc ∨ q = ba) w wr)) (fun kk _ => (intOf kk).toNat)
  case atStart => exact ⟨[], p, Ak _, rfl, hid (by rw [hp0.out]; rfl), h1, hid (KpC.trans hK0 fun q hq => rfl)⟩
  case round =>
   obtain ⟨pre, j, hj, rfl, hx, hJs, hKs⟩ := hrel
   have hle2 := Jy b k j
   cases hlj : Eb b k j with
   | zero =>
    have hend : Hid (placesOf b p = pre) := hid (by rw [hx.out, MQ b k p j hlj]; simp)
    clear hlj;gi_wp2
    go_end0
    exact ⟨⟨_, rfl⟩, .inl ⟨pre, hend.out.symm, hJs.out⟩⟩
   | succ i =>
    obtain ⟨hki, hij⟩ := QJ b k j i hlj
    have hip : i < p := zC
    have hstep : (Gk b k p j).takeWhile (GY p) = if GY p ⟨i, hip⟩ then ⟨i, hip⟩ :: (Gk b k p i).takeWhile (GY p) else [] := by
     rw [MP b k p j i hip hlj, List.takeWhile_cons]
    have hpn := Ql hki
    have HS := hid hstep; have HPN := hid hpn
    clear hlj hki hstep hpn;have B1 := (hKs.out bc (.inr (.inr (.inr (.inl rfl))))).trans HC.out
    have B2 := (hKs.out ba (.inr (.inr (.inr (.inr rfl))))).trans HAA.out
    have r1 : wr.cell? ⟨bc, 0, none⟩ = some (.pointer (some ⟨g, 0, none⟩)) := Blk.cell B1 0
    have r2 : wr.cell? ⟨ba, 0, none⟩ = some (.int .i64 (p : Int)) := Blk.cell B2 0
    clear B1 B2;have t0 : (0 : Int) < ((i + 1 : Nat) : Int) := zC
    by_cases hnr : p - i ≤ 65536
    ·have hn2 : GY p ⟨i, hip⟩ = true := by simp [GY, hnr]
     have hx2 : Hid (placesOf b p = pre ++ ⟨i, hip⟩ :: (Gk b k p i).takeWhile (GY p)) := hid (by rw [hx.out, HS.out, hn2, Am rfl])
     obtain ⟨fn, tmps, assign, body, hy, hR⟩ := HY.out pre ⟨i, hip⟩ wr hJs.out (by rw [hx2.out]; simp)
     have d1 : decide ((65536 : Int) < (p : Int) - (i : Int)) = false := zJ
     have d2 : decide ((i : Int) < (p : Int)) = true := zJ
     have d2' : decide (i < p) = true := zJ
     dsimp only at hy;have HR := hid hR; clear hR hn2
     gi_wp2
     refine ⟨S4, ?_⟩
     refine HR.out.mono ?_
     rintro e W3 (⟨rfl, hJ3, hk3⟩ | ⟨rfl, hJx3⟩)
     ·have hK3 := KpC.trans hKs.out hk3
      have HJ3 := hid hJ3; have HK3 := hid hK3
      clear hJ3 hk3 hK3;have B1 := (HK3.out bc (.inr (.inr (.inr (.inl rfl))))).trans HC.out
      have B3 := (HK3.out g (.inl rfl)).trans HG0.out
      obtain ⟨gp, cp2, hvp, hcp, hgp⟩ := Qp HPREV.out (Ty (b := b) hip) (NC b p).symm
      simp only [Value.slice.injEq, true_and] at hvp
      obtain ⟨rfl, rfl⟩ := hvp
      have q1 : W3.cell? ⟨bc, 0, none⟩ = some (.pointer (some ⟨g, 0, none⟩)) := Blk.cell B1 0
      have q3 : W3.cell? ⟨g, 2, none⟩ = some (.slice (some ⟨gp, 0, none⟩) p cp) := Blk.cell B3 2
      have q4 : W3.cell? ⟨gp, i, none⟩ = some (.int .i64 (Ih b i : Int)) := (Bz (a := ⟨gp, i, none⟩) (HK3.out gp (.inr (.inr (.inl rfl))))).trans hcp
      rw [HPN.out] at q4
      have i1 : (i : Int) < (p : Int) := zC
      have i2 : (0 : Int) ≤ (i : Int) := zC
      clear hcp B1 B3;gi_wp2
      go_roundw
      case rel => exact ⟨pre ++ [⟨i, hip⟩], i, zC, rfl, hid (by rw [hx2.out]; simp), HJ3, HK3⟩
      case measure =>
       have := Jy b k i
       simp [intOf]; omega
     ·have HJX3 := hid hJx3; clear hJx3
      gi_wp2
      refine Al (Aw rfl _ _ _) rfl ?_
      exact ⟨⟨_, rfl⟩, .inr ⟨pre ++ [⟨i, hip⟩], ⟨(Gk b k p i).takeWhile (GY p), by rw [hx2.out]; simp⟩, HJX3.out⟩⟩
    ·have hn2 : GY p ⟨i, hip⟩ = false := by simp [GY]; omega
     have hend : Hid (placesOf b p = pre) := hid (by rw [hx.out, HS.out, hn2]; simp)
     have d1 : decide ((65536 : Int) < (p : Int) - (i : Int)) = true := zJ
     clear hn2;gi_wp2
     refine Al (Aw rfl _ _ _) rfl ?_
     exact ⟨⟨_, rfl⟩, .inl ⟨pre, hend.out.symm, hJs.out⟩⟩
open Go.RowKit Go.Bs
def Jf (b : List UInt8) (p : Nat) (s : Nat × Nat) (q : Fin p) : Nat × Nat := if s.2 < CH b p (p - q.val) then (p - q.val, CH b p (p - q.val)) else s
def EK (b : List UInt8) (p : Nat) (l : List (Fin p)) : Nat × Nat := l.foldl (Jf b p) (0, 0)
theorem Rm (b : List UInt8) (p : Nat) (l : List (Fin p)) (q : Fin p) : EK b p (l ++ [q]) = Jf b p (EK b p l) q := by simp [EK]
def Ns (s : Nat × Nat) : Nat × Nat := (if s.2 < 4 then 0 else s.1, if s.2 < 4 then 0 else s.2)
theorem Jj (b : List UInt8) (k m : Nat) : ∀ j, j ≤ m → ∀ q : Fin m, q ∈ Gk b k m j ↔ q.val < j ∧ Dt b q.val = some k
 | 0, _, q => by simp [Gk]
 | j + 1, hj, q => by
  have ih := Jj b k m j zC q
  simp only [Gk]
  rw [dif_pos zC]
  by_cases hk : Dt b j = some k
  ·rw [Am hk, List.mem_cons, ih]
   constructor
   ·rintro (rfl | ⟨h1, h2⟩)
    ·exact ⟨zO, hk⟩
    ·exact ⟨zC, h2⟩
   ·rintro ⟨h1, h2⟩
    by_cases e : q.val = j
    ·exact .inl (Fin.ext e)
    ·exact .inr ⟨zC, h2⟩
  ·rw [An hk, ih]
   constructor
   ·rintro ⟨h1, h2⟩; exact ⟨zC, h2⟩
   ·rintro ⟨h1, h2⟩
    refine ⟨?_, h2⟩
    by_cases e : q.val = j
    ·rw [e] at h2; exact absurd h2 hk
    ·omega
theorem JV (b : List UInt8) (k m : Nat) : ∀ j, j ≤ m → (Gk b k m j).Pairwise (fun x y => y.val < x.val)
 | 0, _ => by simp [Gk]
 | j + 1, hj => by
  have ih := JV b k m j zC
  simp only [Gk]
  rw [dif_pos zC]
  split
  ·refine List.pairwise_cons.2 ⟨fun q hq => ?_, ih⟩
   exact ((Jj b k m j zC q).1 hq).1
  ·exact ih
theorem Na {p : Nat} : ∀ {l : List (Fin p)}, l.Pairwise (fun x y => y.val < x.val) → ∀ q, q ∈ l → GY p q = true → q ∈ l.takeWhile (GY p)
 | [], _, q, h, _ => by cases h
 | x :: l, hd, q, h, hn => by
  obtain ⟨h1, h2⟩ := List.pairwise_cons.1 hd
  have hx : GY p x = true := by
   rcases List.mem_cons.1 h with rfl | h
   ·exact hn
   ·have := h1 q h
    simp only [GY, Ar] at hn ⊢
    omega
  rw [List.takeWhile_cons, Am hx]
  rcases List.mem_cons.1 h with rfl | h
  ·exact List.mem_cons_self ..
  ·exact List.mem_cons_of_mem _ (Na h2 q h hn)
theorem H9 {α : Type} {f : α → Bool} : ∀ {l : List α} {q : α}, q ∈ l.takeWhile f → f q = true
 | [], q, h => by simp at h
 | x :: l, q, h => by
  rw [List.takeWhile_cons] at h
  split at h
  ·rename_i hx
   rcases List.mem_cons.1 h with e | h
   ·rw [e]; exact hx
   ·exact H9 h
  ·cases h
theorem IL (b : List UInt8) (p : Nat) : (placesOf b p).Pairwise (fun x y => y.val < x.val) := by
 unfold placesOf;split
 ·exact List.Pairwise.nil
 ·exact (JV b _ p p (Ak _)).sublist (List.takeWhile_sublist _)
theorem FV {b : List UInt8} {p : Nat} (q : Fin p) : q ∈ placesOf b p ↔ (∃ k, Dt b p = some k ∧ Dt b q.val = some k) ∧ p - q.val ≤ 65536 := by
 unfold placesOf;cases hk : Dt b p with
 | none => simp
 | some k =>
  simp only [Bk, exists_eq_left']
  constructor
  ·intro h
   have h1 := (Jj b k p p (Ak _) q).1 ((List.takeWhile_sublist _).subset h)
   have h2 : GY p q = true := H9 h
   exact ⟨h1.2, by simpa [GY] using h2⟩
  ·rintro ⟨h1, h2⟩
   exact Na (JV b k p p (Ak _)) q ((Jj b k p p (Ak _) q).2 ⟨q.isLt, h1⟩) (by simp [GY, h2])
theorem Im {b : List UInt8} {p k : Nat} {q : Fin p} (h1 : Dt b p = some k) (h2 : Dt b q.val = some k) : 4 ≤ CH b p (p - q.val) := by
 have hq := q.isLt
 have hp : p + 4 ≤ b.length := by
  rcases Bd b.length (p + 4) with h | h
  ·rw [Kc h] at h1; cases h1
  ·exact h
 rw [Gd hp] at h1
 rw [Gd (show q.val + 4 ≤ b.length by omega)] at h2
 simp only [Bk] at h1 h2
 have a0 := b[p].toNat_lt; have a1 := b[p + 1].toNat_lt; have a2 := b[p + 2].toNat_lt; have a3 := b[p + 3].toNat_lt
 have c0 := b[q.val].toNat_lt; have c1 := b[q.val + 1].toNat_lt; have c2 := b[q.val + 2].toNat_lt; have c3 := b[q.val + 3].toNat_lt
 have e0 : b[p] = b[q.val] := UInt8.toNat_inj.1 zC
 have e1 : b[p + 1] = b[q.val + 1] := UInt8.toNat_inj.1 zC
 have e2 : b[p + 2] = b[q.val + 2] := UInt8.toNat_inj.1 zC
 have e3 : b[p + 3] = b[q.val + 3] := UInt8.toNat_inj.1 zC
 refine US zC zC zC fun j hj => ⟨zC, ?_⟩
 rw [show p + j - (p - q.val) = q.val + j by omega]
 rw [AR (show p + j < b.length by omega), AR (show q.val + j < b.length by omega)]
 have hj4 : j = 0 ∨ j = 1 ∨ j = 2 ∨ j = 3 := zC
 rcases hj4 with rfl | rfl | rfl | rfl
 ·exact D8 some e0
 ·exact D8 some e1
 ·exact D8 some e2
 ·exact D8 some e3
theorem O3 {b : List UInt8} {p o : Nat} (h : 4 ≤ CH b p o) : ∃ k, Dt b p = some k ∧ Dt b (p - o) = some k := by
 obtain ⟨h1, h2, h3, _⟩ := J9 (show 3 < CH b p o by omega)
 have hs := fun j (hj : j < 4) => (J9 (show j < CH b p o by omega)).2.2.2
 have e : ∀ j, j < 4 → b[p + j]? = b[p - o + j]? := fun j hj => by
  have := hs j hj
  rwa [show p + j - o = p - o + j by omega] at this
 refine ⟨_, Gd zC, ?_⟩
 have := Gd (b := b) (p := p) zC
 rw [← this]
 unfold Dt;have g0 := e 0 zC
 simp only [BE] at g0
 rw [g0, e 1 zC, e 2 zC, e 3 zC]
structure Found (b : List UInt8) (p : Nat) (pre : List (Fin p)) (s : Nat × Nat) : Prop where
 all : ∀ q ∈ pre, CH b p (p - q.val) ≤ s.2
 is : pre = [] ∧ s = (0, 0) ∨ ∃ q0 ∈ pre, s.1 = p - q0.val ∧ s.2 = CH b p (p - q0.val) ∧ ∀ q ∈ pre, q0.val < q.val → CH b p (p - q.val) < s.2
theorem MY {b : List UInt8} {p : Nat} : ∀ (r pre : List (Fin p)) (s : Nat × Nat), (pre ++ r).Pairwise (fun x y => y.val < x.val) → (∀ q ∈ pre ++ r, 4 ≤ CH b p (p - q.val)) → Found b p pre s → Found b p (pre ++ r) (r.foldl (Jf b p) s)
 | [], pre, s, _, _, h => by simpa using h
 | q :: r, pre, s, hd, hm, h => by
  have e : pre ++ q :: r = (pre ++ [q]) ++ r := zO
  rw [e] at hd hm ⊢
  rw [List.foldl_cons]
  refine MY r (pre ++ [q]) _ hd hm ?_
  have hlt : ∀ x ∈ pre, q.val < x.val := fun x hx => by
   have := (List.pairwise_append.1 hd).1
   exact (List.pairwise_append.1 this).2.2 x hx q zO
  have h4 := hm q zO
  unfold Jf;by_cases hs : s.2 < CH b p (p - q.val)
  ·rw [Am hs]
   refine ⟨fun x hx => ?_, .inr ⟨q, zO, rfl, rfl, fun x hx hlt' => ?_⟩⟩
   ·rcases List.mem_append.1 hx with hx | hx
    ·have := h.all x hx
     show _ ≤ CH b p (p - q.val)
     omega
    ·simp at hx; subst hx; exact Ak _
   ·rcases List.mem_append.1 hx with hx | hx
    ·have := h.all x hx
     show _ < CH b p (p - q.val)
     omega
    ·simp at hx; subst hx; omega
  ·rw [An hs]
   rcases h.is with ⟨rfl, rfl⟩ | ⟨q0, hq0, h1, h2, h3⟩
   ·simp only at hs; omega
   ·refine ⟨fun x hx => ?_, .inr ⟨q0, by simp [hq0], h1, h2, fun x hx hlt' => ?_⟩⟩
    ·rcases List.mem_append.1 hx with hx | hx
     ·exact h.all x hx
     ·simp at hx; subst hx; omega
    ·rcases List.mem_append.1 hx with hx | hx
     ·exact h3 x hx hlt'
     ·simp at hx; subst hx; have := hlt q0 hq0; omega
theorem MX {b : List UInt8} {p : Nat} {pre : List (Fin p)} (h : pre <+: placesOf b p) : Found b p pre (EK b p pre) := by
 have := MY (b := b) pre [] (0, 0) (by
  simp only [Bj]
  exact (IL b p).sublist h.sublist) (fun q hq => by
   simp only [Bj] at hq
   obtain ⟨⟨k, h1, h2⟩, _⟩ := (FV q).1 (h.subset hq)
   exact Im h1 h2) ⟨fun q hq => (by cases hq), .inl ⟨rfl, rfl⟩⟩
 simpa [EK] using this
theorem few {b : List UInt8} {p j : Nat} (h1 : 1 ≤ j) (h2 : j ≤ reach p) (h : ∀ q : Fin p, q ∈ placesOf b p → q.val ≠ p - j) : CH b p j < 4 := by
 rcases Bd (CH b p j) 4 with h' | h'
 ·exact h'
 ·exfalso
  unfold reach at h2;obtain ⟨k, g1, g2⟩ := O3 h'
  exact h ⟨p - j, zC⟩ ((FV _).2 ⟨⟨k, g1, g2⟩, zCf⟩) rfl
theorem SY (b : List UInt8) (p : Nat) : Ns (EK b p (placesOf b p)) = BV b p := by
 have hf := MX (List.prefix_refl (placesOf b p))
 rcases hf.is with ⟨h1, h2⟩ | ⟨q0, hq0, h1, h2, h3⟩
 ·have hn : BV b p = (0, 0) := Mg fun j j1 j2 => few j1 j2 fun q hq => (by rw [h1] at hq; cases hq)
  rw [hn, h2]; rfl
 ·obtain ⟨⟨k, g1, g2⟩, g3⟩ := (FV q0).1 hq0
  have h4 := Im g1 g2
  have hq := q0.isLt
  have : BV b p = (p - q0.val, CH b p (p - q0.val)) := by
   refine Mh zC zAr h4 rfl (fun j j1 j2 => ?_) (fun j j1 j2 => ?_)
   ·by_cases hx : ∃ q : Fin p, q ∈ placesOf b p ∧ q.val = p - j
    ·obtain ⟨q, hq1, hq2⟩ := hx
     have := hf.all q hq1
     rw [h2, hq2, show p - (p - j) = j by unfold reach at j2; omega] at this
     exact this
    ·have := few (b := b) j1 j2 fun q hq1 hq2 => hx ⟨q, hq1, hq2⟩
     omega
   ·by_cases hx : ∃ q : Fin p, q ∈ placesOf b p ∧ q.val = p - j
    ·obtain ⟨q, hq1, hq2⟩ := hx
     have := h3 q hq1 zC
     rw [h2, hq2, show p - (p - j) = j by omega] at this
     exact this
    ·have := few (b := b) j1 zAr fun q hq1 hq2 => hx ⟨q, hq1, hq2⟩
     omega
  rw [this]
  unfold Ns;rw [h2, h1, An zC, An zC]
theorem SX {b : List UInt8} {p : Nat} {pre : List (Fin p)} (h : pre <+: placesOf b p) (hp : p < b.length) (he : p + (EK b p pre).2 = b.length) : Ns (EK b p pre) = BV b p := by
 have hf := MX h
 rcases hf.is with ⟨h1, h2⟩ | ⟨q0, hq0, h1, h2, h3⟩
 ·rw [h2] at he; simp only at he; omega
 ·obtain ⟨⟨k, g1, g2⟩, g3⟩ := (FV q0).1 (h.subset hq0)
  have h4 := Im g1 g2
  have hq := q0.isLt
  have : BV b p = (p - q0.val, CH b p (p - q0.val)) := by
   refine Mh zC zAr h4 rfl (fun j j1 j2 => ?_) (fun j j1 j2 => ?_)
   ·have := Iy b p j
    rw [← h2]; omega
   ·by_cases hx : ∃ q : Fin p, q ∈ placesOf b p ∧ q.val = p - j
    ·obtain ⟨q, hq1, hq2⟩ := hx
     have hin : q ∈ pre := by
      obtain ⟨r, hr⟩ := h
      rw [← hr] at hq1
      rcases List.mem_append.1 hq1 with h' | h'
      ·exact h'
      ·have hd := IL b p
       rw [← hr] at hd
       have := (List.pairwise_append.1 hd).2.2 q0 hq0 q h'
       omega
     have := h3 q hin zC
     rw [h2, hq2, show p - (p - j) = j by omega] at this
     exact this
    ·have := few (b := b) j1 zAr fun q hq1 hq2 => hx ⟨q, hq1, hq2⟩
     omega
  rw [this]
  unfold Ns;rw [h2, h1, An zC, An zC]
theorem Is (b : List UInt8) (p : Nat) (pre : List (Fin p)) : (EK b p pre).1 ≤ p ∧ (EK b p pre).2 ≤ b.length - p := by
 unfold EK;have : ∀ (l : List (Fin p)) (s : Nat × Nat), s.1 ≤ p ∧ s.2 ≤ b.length - p → (l.foldl (Jf b p) s).1 ≤ p ∧ (l.foldl (Jf b p) s).2 ≤ b.length - p := by
  intro l;induction l with
  | nil => intro s h; exact h
  | cons q l ih =>
   intro s h;rw [List.foldl_cons]
   refine ih _ ?_
   unfold Jf;split
   ·exact ⟨zCf, Iy b p _⟩
   ·exact h
 exact this pre (0, 0) ⟨Aj _, Aj _⟩
attribute [local go_sem] Oper.semAt_some
structure It (w : World) (gs g mb base lo hi : Nat) (b : List UInt8) (n : Nat) (sa : Option Addr) (sc : Nat) (ab : Option Addr) (cb : Nat) (ap : Option Addr) (cp : Nat) : Prop where
 blk : ∃ t : Int, Blk w gs 259 #[.slice sa b.length sc, .pointer (some ⟨g, 0, none⟩), .int .i64 t]
 bytes : Ah.r (fun q => (lo ≤ q ∧ q < hi) ∧ q ≠ gs ∧ q ≠ g ∧ q ≠ mb ∧ (Value.slice ap n cp).ownBlock ≠ some q) w [.slice sa b.length sc] b
 ch : Km w g mb base b n ab cb ap cp
 bytes2 : Ah.r (fun q => (lo ≤ q ∧ q < hi) ∧ q ≠ gs ∧ q ≠ g ∧ q ≠ mb ∧ (Value.slice ap n cp).ownBlock ≠ some q) w [.slice ab b.length cb] b
 ne1 : gs ≠ g
 ne2 : gs ≠ mb
 ne3 : (Value.slice ap n cp).ownBlock ≠ some gs
 top : hi ≤ w.heap.size
def N5 (w : World) (gs g mb base lo hi : Nat) (b : List UInt8) (n n' : Nat) (sa : Option Addr) (sc : Nat) (ab : Option Addr) (cb : Nat) (ap : Option Addr) (cp : Nat) (w' : World) : Prop :=
 ∃ ap' cp', It w' gs g mb base lo hi b n' sa sc ab cb ap' cp' ∧ Tch (fun q => q = gs ∨ q = g ∨ q = mb ∨ (Value.slice ap n cp).ownBlock = some q) w w' ∧ ((Value.slice ap' n' cp').ownBlock = (Value.slice ap n cp).ownBlock ∨ ∃ q, (Value.slice ap' n' cp').ownBlock = some q ∧ w.heap.size ≤ q)
def Uv (w : World) (gs g mb base lo hi : Nat) (b : List UInt8) (n p : Nat) (sa : Option Addr) (sc : Nat) (ab : Option Addr) (cb : Nat) (ap : Option Addr) (cp : Nat) (r : Ending) (w' : World) : Prop :=
 r = .returned (.tuple #[.int .i64 ((BV b p).1 : Int), .int .i64 ((BV b p).2 : Int)]) ∧ N5 w gs g mb base lo hi b n p sa sc ab cb ap cp w'
theorem Km.later {w w' : World} {g mb base : Nat} {b : List UInt8} {n : Nat} {ab : Option Addr} {cb : Nat} {ap : Option Addr} {cp : Nat} (h : Km w g mb base b n ab cb ap cp) (hb : Below w.heap.size w w') : Km w' g mb base b n ab cb ap cp := by
 have hs := hb.size
 obtain ⟨D, hD, hL⟩ := h.map
 exact ⟨h.blk.later hb, Ah.mono (Ah.keep h.bytes fun q hq => hb.block q hq.1) fun q hq => ⟨zC, hq.2⟩, ⟨D, Js hD (hb.block _ hD.lt), hL⟩, Gm h.prev fun q hq => hb.block q (h.prev.lt q hq).2, h.ne1, h.ne2, h.ne3, h.lo, h.le, h.len⟩
theorem It.later {w w' : World} {gs g mb base lo hi : Nat} {b : List UInt8} {n : Nat} {sa : Option Addr} {sc : Nat} {ab : Option Addr} {cb : Nat} {ap : Option Addr} {cp : Nat} (h : It w gs g mb base lo hi b n sa sc ab cb ap cp) (hb : Below w.heap.size w w') : It w' gs g mb base lo hi b n sa sc ab cb ap cp := by
 have hs := hb.size
 obtain ⟨t, ht⟩ := h.blk
 exact ⟨⟨t, ht.later hb⟩, Ah.keep h.bytes fun q hq => hb.block q (Ai hq.1.2 h.top), h.ch.later hb, Ah.keep h.bytes2 fun q hq => hb.block q (Ai hq.1.2 h.top), h.ne1, h.ne2, h.ne3, A4 h.top hs⟩
theorem VT {w W0 w1 : World} {gs g mb base lo hi : Nat} {b : List UInt8} {n p : Nat} {sa : Option Addr} {sc : Nat} {ab : Option Addr} {cb : Nat} {ap : Option Addr} {cp : Nat} {a1 : Option Addr} {c1 : Nat} (h : It w gs g mb base lo hi b n sa sc ab cb ap cp) (hb : Below w.heap.size w W0)
  (h1 : Km w1 g mb base b p ab cb a1 c1) (h2 : Tch (fun q => q = g ∨ q = mb ∨ (Value.slice ap n cp).ownBlock = some q) W0 w1) (h3 : (Value.slice a1 p c1).ownBlock = (Value.slice ap n cp).ownBlock ∨ ∃ q, (Value.slice a1 p c1).ownBlock = some q ∧ W0.heap.size ≤ q) :
  It w1 gs g mb base lo hi b p sa sc ab cb a1 c1 ∧ Tch (fun q => q = gs ∨ q = g ∨ q = mb ∨ (Value.slice ap n cp).ownBlock = some q) w w1 ∧ ((Value.slice a1 p c1).ownBlock = (Value.slice ap n cp).ownBlock ∨ ∃ q, (Value.slice a1 p c1).ownBlock = some q ∧ w.heap.size ≤ q) := by
 have hs := hb.size
 have hs2 := h2.size
 obtain ⟨t, ht⟩ := h.blk
 have hn : ∀ q, q < w.heap.size → (Value.slice ap n cp).ownBlock ≠ some q → (Value.slice a1 p c1).ownBlock ≠ some q := fun q hq hne e => by
  rcases h3 with h3 | ⟨q', hq', hlt⟩
  ·rw [h3] at e; exact hne e
  ·rw [hq'] at e; have := BH e; omega
 have keep : ∀ q, q < w.heap.size → q ≠ g → q ≠ mb → (Value.slice ap n cp).ownBlock ≠ some q → w1.heap[q]? = w.heap[q]? := fun q hq k1 k2 k3 =>
  (h2.block q zC (fun e => by rcases e with e | e | e <;> contradiction)).trans (hb.block q hq)
 refine ⟨⟨⟨t, (keep gs ht.lt h.ne1 h.ne2 h.ne3).trans ht⟩, ?_, h1, ?_, h.ne1, h.ne2, hn gs ht.lt h.ne3, by have := h.top; omega⟩, ⟨h2.os.trans hb.os, h2.tape.trans hb.tape, h2.output.trans hb.output, zC, fun q hq hf => keep q hq (fun e => hf (.inr (.inl e))) (fun e => hf (.inr (.inr (.inl e)))) (fun e => hf (.inr (.inr (.inr e))))⟩, ?_⟩
 ·exact Ah.mono (Ah.keep h.bytes fun q hq => keep q (Ai hq.1.2 h.top) hq.2.2.1 hq.2.2.2.1 hq.2.2.2.2) fun q hq => ⟨hq.1, hq.2.1, hq.2.2.1, hq.2.2.2.1, hn q (Ai hq.1.2 h.top) hq.2.2.2.2⟩
 ·exact Ah.mono (Ah.keep h.bytes2 fun q hq => keep q (Ai hq.1.2 h.top) hq.2.2.1 hq.2.2.2.1 hq.2.2.2.2) fun q hq => ⟨hq.1, hq.2.1, hq.2.2.1, hq.2.2.2.1, hn q (Ai hq.1.2 h.top) hq.2.2.2.2⟩
 ·rcases h3 with h3 | ⟨q', hq', hlt⟩
  ·exact .inl h3
  ·exact .inr ⟨q', hq', zC⟩
theorem It.tch {F : Nat → Prop} {w w' : World} {gs g mb base lo hi : Nat} {b : List UInt8} {n : Nat} {sa : Option Addr} {sc : Nat} {ab : Option Addr} {cb : Nat} {ap : Option Addr} {cp : Nat} (h : It w gs g mb base lo hi b n sa sc ab cb ap cp) (hT : Tch F w w') (h1 : ¬ F g) (h2 : ¬ F mb) (h3 : ∀ q, (Value.slice ap n cp).ownBlock = some q → ¬ F q) (h4 : ∀ q, lo ≤ q → q < hi → q ≠ gs → ¬ F q)
  (hb : ∃ t : Int, Blk w' gs 259 #[.slice sa b.length sc, .pointer (some ⟨g, 0, none⟩), .int .i64 t]) : It w' gs g mb base lo hi b n sa sc ab cb ap cp := by
 have hs := hT.size
 have ht := h.top
 obtain ⟨D, hD, hL⟩ := h.ch.map
 exact ⟨hb, Ah.keep h.bytes fun q hq => hT.block q zC (h4 q hq.1.1 hq.1.2 hq.2.1), ⟨h.ch.blk.tch hT h1, Ah.mono (Ah.keep h.bytes2 fun q hq => hT.block q zC (h4 q hq.1.1 hq.1.2 hq.2.1)) fun q hq => ⟨zC, hq.2.2⟩, ⟨D, Js hD (hT.block _ hD.lt h2), hL⟩,
  Gm h.ch.prev fun q hq => hT.block q (h.ch.prev.lt q hq).2 (h3 q hq), h.ch.ne1, h.ch.ne2, h.ch.ne3, h.ch.lo, h.ch.le, h.ch.len⟩, Ah.keep h.bytes2 fun q hq => hT.block q zC (h4 q hq.1.1 hq.1.2 hq.2.1), h.ne1, h.ne2, h.ne3, zC⟩
theorem It.S8 {w w' : World} {gs g mb base lo hi : Nat} {b : List UInt8} {n : Nat} {sa : Option Addr} {sc : Nat} {ab : Option Addr} {cb : Nat} {ap : Option Addr} {cp : Nat} (h : It w gs g mb base lo hi b n sa sc ab cb ap cp) (hT : Tch (fun q => q = gs) w w')
  (hb : ∃ t : Int, Blk w' gs 259 #[.slice sa b.length sc, .pointer (some ⟨g, 0, none⟩), .int .i64 t]) : It w' gs g mb base lo hi b n sa sc ab cb ap cp :=
 h.tch hT (Ne.symm h.ne1) (Ne.symm h.ne2) (fun q hq e => h.ne3 (e ▸ hq)) (fun q _ _ h e => h e) hb
theorem NV (w : World) (g p : Nat) : Calls Tryz.prog 274 #[.pointer (some ⟨g, 0, none⟩), .int .i64 (p : Int)] w fun r w' =>
  r = .returned (.func (.func 281) #[] #[.pointer (some ⟨w.heap.size, 0, none⟩), .pointer (some ⟨w.heap.size + 1, 0, none⟩)]) ∧ w' = (w.alloc (.cells #[.pointer (some ⟨g, 0, none⟩)] 256)).alloc (.cells #[.int .i64 (p : Int)] 3) := by
 go_enter Tryz.func274, Tryz.ntmps274
 go_wp2;go_ret;exact ⟨rfl, rfl⟩
theorem Sb (w : World) {gs g mb base lo hi : Nat} {b : List UInt8} {n p : Nat} {sa : Option Addr} {sc : Nat} {ab : Option Addr} {cb : Nat} {ap : Option Addr} {cp : Nat} (h : It w gs g mb base lo hi b n sa sc ab cb ap cp) (hn : n ≤ p) (hp : p < b.length) :
  Calls Tryz.prog 266 #[.pointer (some ⟨gs, 0, none⟩), .int .i64 (p : Int)] w (Uv w gs g mb base lo hi b n p sa sc ab cb ap cp) := by
 obtain ⟨t0, hblk⟩ := h.blk
 have hlen := h.ch.len
 have hgs := hblk.lt
 have c0 : w.cell? ⟨gs, 0, none⟩ = some (.slice sa b.length sc) := hblk.cell 0
 have c1 : w.cell? ⟨gs, 1, none⟩ = some (.pointer (some ⟨g, 0, none⟩)) := hblk.cell 1
 have e1 : min (p : Int) (b.length : Int) = (p : Int) := zC
 have hpl : (p : Int) < (b.length : Int) := zC
 have hfw : ∀ f, Fence.wide.fn f = True := fun _ => rfl
 have H := hid h; have HB := hid hblk
 clear h hblk;refine (callsIn_wide (n := 5)).1 ?_
 refine callsIn_of_wp_marks Tryz.func266 rfl trivial ?_ rfl
 simp only [Tryz.ntmps266, List.size_toArray, AQ, Bu, Nat.reduceAdd, Nat.reduceSub, Array.replicate_succ, Array.replicate_zero, List.push_toArray, List.append_toArray, Bj, Et]
 have hmx : Tryz.prog.follows .mixedOrders = true := zG
 refine wpIn_wide.2 ?_
 go_wp2;refine Fp 11 zG zG ?_
 simp only [List.take_succ_cons, List.take_zero, List.drop_succ_cons, List.drop_zero]
 repeat still_step
 refine wpStill_nil ?_
 go_wp2_with fail;refine (Pm _ (H.out.ch.later zB) p hn zC).mono ?_
 rintro r w1 ⟨rfl, a1, c1', hch, htch, hown⟩;obtain ⟨hsk, htw, howw⟩ := VT H.out zB hch htch hown
 have z1 : w.heap.size + 1 < w1.heap.size := by have := htch.size; simp at this; omega
 have P0 : Blk w1 w.heap.size 249 #[.pointer (some ⟨gs, 0, none⟩)] := Blk.tch zD htch (fun e => by
  have h1 := H.out.ch.blk.lt
  obtain ⟨D, hD, _⟩ := H.out.ch.map
  have h2 := hD.lt
  rcases e with e | e | e
  ·omega
  ·omega
  ·have := (H.out.ch.prev.lt _ e).2; omega)
 have P1 : Blk w1 (w.heap.size + 1) 3 #[.int .i64 (p : Int)] := Blk.tch zD htch (fun e => by
  have h1 := H.out.ch.blk.lt
  obtain ⟨D, hD, _⟩ := H.out.ch.map
  have h2 := hD.lt
  rcases e with e | e | e
  ·omega
  ·omega
  ·have := (H.out.ch.prev.lt _ e).2; omega)
 have HSK := hid hsk; have HTW := hid htw; have HOW := hid howw; have HP0 := hid P0; have HP1 := hid P1
 clear hsk htw howw P0 P1 hch htch hown c0 c1;go_wp2_with fail;refine GQ (fun W => Below w1.heap.size w1 W ∧ W.heap.size = w1.heap.size + 2 ∧ Blk W w1.heap.size 3 #[.int .i64 0] ∧ Blk W (w1.heap.size + 1) 3 #[.int .i64 0]) ⟨zB, zO, zD, zD⟩ ?_
 intro W ⟨hbW, hzW, Q0, Q1⟩;have HZW := hid hzW; clear hzW
 have HSW := hid (HSK.out.later hbW)
 have HPW0 := hid (HP0.out.later hbW)
 have HPW1 := hid (HP1.out.later hbW)
 obtain ⟨t1, hb1⟩ := HSW.out.blk
 have c1 : W.cell? ⟨gs, 1, none⟩ = some (.pointer (some ⟨g, 0, none⟩)) := hb1.cell 1
 have c2 : W.cell? ⟨w.heap.size, 0, none⟩ = some (.pointer (some ⟨gs, 0, none⟩)) := HPW0.out.cell 0
 have c3 : W.cell? ⟨w.heap.size + 1, 0, none⟩ = some (.int .i64 (p : Int)) := HPW1.out.cell 0
 have HQ0 := hid Q0; have HQ1 := hid Q1
 clear hb1 Q0 Q1;refine Fp 5 zG zG ?_
 simp only [List.take_succ_cons, List.take_zero, List.drop_succ_cons, List.drop_zero]
 repeat still_step
 refine wpStill_nil ?_
 go_wp2_with fail;refine (NV _ g p).mono ?_
 rintro r w5 ⟨rfl, hw5⟩;have hb5 : Below W.heap.size W w5 := by rw [hw5]; (repeat (first | exact Below.refl _ _ | assumption | (refine AF ?_ _) | (refine Below.setCell ?_ zF _) | (refine Below.drew ?_) | (refine below_drewN ?_ _) | (refine Af zM ?_)))
 have BC : Blk w5 W.heap.size 256 #[.pointer (some ⟨g, 0, none⟩)] := by rw [hw5]; exact Blk.alloc (Blk.newAt _ _ _ zO) _
 have BA : Blk w5 (W.heap.size + 1) 3 #[.int .i64 (p : Int)] := by rw [hw5]; exact Blk.newAt _ _ _ zO
 have hz5 : w5.heap.size = W.heap.size + 2 := by rw [hw5]; simp
 have HS5 := hid (HSW.out.later hb5)
 have HB5 := hid hb5; have HBC := hid BC; have HBA := hid BA
 clear hw5 hb5 BC BA;go_wp2_with fail;have hgs1 := HSK.out.blk.choose_spec.lt
 have hg1 := HSK.out.ch.blk.lt
 have htop := HSK.out.top
 have hm1 : mb < w1.heap.size := by obtain ⟨D, hD, _⟩ := HSK.out.ch.map; exact hD.lt
 have hz5' : w5.heap.size = w1.heap.size + 4 := by have := HZW.out; omega
 have HZ5 := hid hz5'; clear hz5 hz5'
 have hlt5 : w1.heap.size + 1 < w5.heap.size := by have := HZ5.out; omega
 have BO : Blk w5 w1.heap.size 3 #[.int .i64 0] := HQ0.out.later HB5.out
 have BN : Blk w5 (w1.heap.size + 1) 3 #[.int .i64 0] := HQ1.out.later HB5.out
 have P0 : Blk w5 w.heap.size 249 #[.pointer (some ⟨gs, 0, none⟩)] := HPW0.out.later HB5.out
 have P1 : Blk w5 (w.heap.size + 1) 3 #[.int .i64 (p : Int)] := HPW1.out.later HB5.out
 have hby := Ah.keep HSK.out.bytes (w' := w5) fun q hq => (HB5.out.block q (by have := HZW.out; have := HSK.out.top; omega)).trans (hbW.block q (Ai hq.1.2 HSK.out.top))
 have HBY := hid hby; have HBO := hid BO; have HBN := hid BN; have HPP0 := hid P0; have HPP1 := hid P1
 clear BO BN P0 P1 hby c1 c2 c3;have hgsz : gs < w.heap.size := hgs
 refine (wpIn_wide (n := 5)).1 ?_
 refine wpIn_rangeFunc_ownG rfl zP (gf := 281) (lb := #[.pointer (some ⟨W.heap.size, 0, none⟩), .pointer (some ⟨W.heap.size + 1, 0, none⟩)]) rfl trivial (enters_of Tryz.func281 zG rfl)
  (NF w5 HS5.out.ch HBC.out HBA.out) (fun h k => h.trans k) ?hKb (Below.refl _ _) (fun _ => rfl)
  (fun pre V => (∃ t : Int, Blk V gs 259 #[.slice sa b.length sc, .pointer (some ⟨g, 0, none⟩), .int .i64 t]) ∧ Blk V w1.heap.size 3 #[.int .i64 ((EK b p pre).1 : Int)] ∧ Blk V (w1.heap.size + 1) 3 #[.int .i64 ((EK b p pre).2 : Int)] ∧ Tch (fun q => q = gs ∨ q = w1.heap.size ∨ q = w1.heap.size + 1) w5 V)
  (fun c pre V => c = .exit 0 ∧ p + (EK b p pre).2 = b.length ∧ (∃ t : Int, Blk V gs 259 #[.slice sa b.length sc, .pointer (some ⟨g, 0, none⟩), .int .i64 t]) ∧ Blk V w1.heap.size 3 #[.int .i64 ((EK b p pre).1 : Int)] ∧ Blk V (w1.heap.size + 1) 3 #[.int .i64 ((EK b p pre).2 : Int)] ∧ Tch (fun q => q = gs ∨ q = w1.heap.size ∨ q = w1.heap.size + 1) w5 V)
  ?hI ?hIx ?h0
  (fun x => { tmps := #[.pointer (some ⟨gs, 0, none⟩), .int .i64 (p : Int), .pointer (some ⟨w.heap.size, 0, none⟩), .pointer (some ⟨w.heap.size + 1, 0, none⟩), .int .i64 0, .int .i64 0, .pointer (some ⟨w1.heap.size, 0, none⟩), .pointer (some ⟨w1.heap.size + 1, 0, none⟩), .int .i64 (x.val : Int), undef,
   .pointer (some ⟨gs, 0, none⟩), .bool false, .pointer (some ⟨gs, 0, none⟩), .pointer (some ⟨gs, 0, none⟩), .pointer (some ⟨gs, 1, none⟩), .pointer (some ⟨g, 0, none⟩), .int .i64 (p : Int), .pointer (some ⟨gs, 0, none⟩), .pointer (some ⟨gs, 0, none⟩), .pointer (some ⟨gs, 0, none⟩), .slice sa b.length sc, .int .i64 (b.length : Int), .int .i64 (p : Int), .int .i64 ((p : Int) - (n : Int)),
   .pointer (some ⟨gs, 0, none⟩), .pointer (some ⟨gs, 0, none⟩), .pointer (some ⟨gs, 1, none⟩), .pointer (some ⟨g, 0, none⟩), .int .i64 (p : Int), .func (.func 281) #[] #[.pointer (some ⟨W.heap.size, 0, none⟩), .pointer (some ⟨W.heap.size + 1, 0, none⟩)], .int .i64 (x.val : Int),
   undef, undef, undef, undef, undef, undef, undef, undef, undef, undef, undef, undef, undef, undef, undef, undef, undef, undef, undef, undef, undef, undef, undef, undef, undef, undef, undef, undef, undef, undef, undef, undef, undef, undef, undef, undef, undef], defers := [] }) ?assign ?body ?done ?stop
 case hKb =>
  intro V l o o' hl ho _ _ q hq;refine World.putObj_heap_other ?_
  have := HZ5.out
  have hz := HZW.out
  have hs := HB5.out.size
  rcases hq with e | e | e | e | e
  ·omega
  ·omega
  ·have := (HSK.out.ch.prev.lt _ e).2; omega
  ·omega
  ·omega
 case hI =>
  rintro pre X Y row ⟨⟨t, h1⟩, h2, h3, h4⟩ hg' hr;have hne : ∀ q, q < w5.heap.size → Y.heap[q]? = X.heap[q]? := fun q hq => hg'.block q (Ai hq h4.size) (fun e => by have := (hr q e.symm).1; omega)
  exact ⟨⟨t, (hne gs zC).trans h1⟩, (hne _ zC).trans h2, (hne _ hlt5).trans h3, ⟨hg'.os.trans h4.os, hg'.tape.trans h4.tape, hg'.output.trans h4.output, A4 h4.size hg'.size, fun q hq hf => (hne q hq).trans (h4.block q hq hf)⟩⟩
 case hIx =>
  rintro c pre X Y row ⟨hc, hl, ⟨t, h1⟩, h2, h3, h4⟩ hg' hr;have hne : ∀ q, q < w5.heap.size → Y.heap[q]? = X.heap[q]? := fun q hq => hg'.block q (Ai hq h4.size) (fun e => by have := (hr q e.symm).1; omega)
  exact ⟨hc, hl, ⟨t, (hne gs zC).trans h1⟩, (hne _ zC).trans h2, (hne _ hlt5).trans h3, ⟨hg'.os.trans h4.os, hg'.tape.trans h4.tape, hg'.output.trans h4.output, A4 h4.size hg'.size, fun q hq hf => (hne q hq).trans (h4.block q hq hf)⟩⟩
 case h0 => exact ⟨HS5.out.blk, HBO.out, HBN.out, Tch.refl _ _⟩
 case assign =>
  intro l x V K hK;gi_wp2
  exact hK
 case body =>
  rintro l pre x V ⟨⟨t, hbg⟩, hbo, hbn, htc⟩ hN;have hxp := x.isLt
  have nF : ∀ q, q < w5.heap.size → q ≠ gs → q ≠ w1.heap.size → q ≠ w1.heap.size + 1 → ¬ (q = gs ∨ q = w1.heap.size ∨ q = w1.heap.size + 1) := fun q _ h1 h2 h3 e => by rcases e with e | e | e <;> contradiction
  have V0 : Blk V w.heap.size 249 #[.pointer (some ⟨gs, 0, none⟩)] := HPP0.out.tch htc (nF _ zC zC zC zC)
  have V1 : Blk V (w.heap.size + 1) 3 #[.int .i64 (p : Int)] := HPP1.out.tch htc (nF _ zC zC zC zC)
  have k0 : V.cell? ⟨w.heap.size, 0, none⟩ = some (.pointer (some ⟨gs, 0, none⟩)) := V0.cell 0
  have k2 : V.cell? ⟨gs, 2, none⟩ = some (.int .i64 t) := hbg.cell 2
  have k3 := hbg.free 2
  have HBG := hid hbg; have HBO2 := hid hbo; have HBN2 := hid hbn; have HTC := hid htc; have HV0 := hid V0; have HV1 := hid V1
  clear hbg hbo hbn htc V0 V1;have hV5 : w5.heap.size ≤ V.heap.size := HTC.out.size
  gi_wp2
  refine IP (fun U => Tch (fun q => q = gs) V U ∧ ∃ t' : Int, Blk U gs 259 #[.slice sa b.length sc, .pointer (some ⟨g, 0, none⟩), .int .i64 t']) ⟨Tch.setCell (F := fun q => q = gs) (Tch.refl _ _) (fun _ => rfl) _, _, HBG.out.set 2 _⟩ ?_
  intro U ⟨hU, t', hUg⟩;have U0 := HV0.out.tch hU zC
  have U1 := HV1.out.tch hU zC
  have UO := HBO2.out.tch hU zC
  have UN := HBN2.out.tch hU zC
  have HM := hid (fun s : A1 U => PS b (p : Int) ((p : Int) - (x.val : Int)) zC zC sa b.length sc s.at_ (Ah.mono (Ah.keep HBY.out fun q hq => (s.below.block q (by have := hU.size; omega)).trans ((hU.block q zC hq.2.1).trans (HTC.out.block q zC (nF q zC hq.2.1 zC zC)))) fun q hq => by have := hU.size; have := s.below.size; omega) hlen zC zC)
  have et : ((p : Int) - (x.val : Int)).toNat = p - x.val := zC
  rw [Int.toNat_natCast, et] at HM
  have i1 : (0 : Int) ≤ (p : Int) - (x.val : Int) := zC
  have C0 := fun s : A1 U => s.cell (show U.cell? ⟨w.heap.size, 0, none⟩ = some (.pointer (some ⟨gs, 0, none⟩)) from U0.cell 0)
  have C1 := fun s : A1 U => s.cell (show U.cell? ⟨w.heap.size + 1, 0, none⟩ = some (.int .i64 (p : Int)) from U1.cell 0)
  have C2 := fun s : A1 U => s.cell (show U.cell? ⟨gs, 0, none⟩ = some (.slice sa b.length sc) from hUg.cell 0)
  have hsn := Rm b p pre x
  have hsnb := Is b p (pre ++ [x])
  have hml := Iy b p (p - x.val)
  generalize hbl : EK b p (pre ++ [x]) = s2 at *
  generalize hbl0 : EK b p pre = s1 at *
  generalize hmm : CH b p (p - x.val) = m at *
  have HSN := hid hsn; have HBL := hid hbl; have HBL0 := hid hbl0; have HMM := hid hmm
  have HUt := hid hU; have HUG := hid hUg; have HUO := hid UO; have HUN := hid UN; have HU0 := hid U0; have HU1 := hid U1
  clear hsn hbl hbl0 hmm et hU hUg UO UN U0 U1;have hfr : ∀ f, (Fence.wide.inRound l).fn f = True := fun _ => rfl
  clear k0 k2 k3;refine Dh zG zG zG ?_
  repeat (gi_big_quiet_step (((exact QG (HM.out _)))))
  refine wpQuietIn_nil ?_
  rintro Y ⟨⟨Y', hY⟩, rfl⟩;have Y0 := HU0.out.later hY
  have Y1 := HU1.out.later hY
  have YO := HUO.out.later hY
  have YN := HUN.out.later hY
  have YG := HUG.out.later hY
  have y1 : Y.cell? ⟨w.heap.size + 1, 0, none⟩ = some (.int .i64 (p : Int)) := Y1.cell 0
  have yo : Y.cell? ⟨w1.heap.size, 0, none⟩ = some (.int .i64 (s1.1 : Int)) := YO.cell 0
  have yn : Y.cell? ⟨w1.heap.size + 1, 0, none⟩ = some (.int .i64 (s1.2 : Int)) := YN.cell 0
  have fo := YO.free 0
  have fn := YN.free 0
  have HY0 := hid Y0; have HY1 := hid Y1; have HYO := hid YO; have HYN := hid YN; have HYG := hid YG
  have HYb := hid hY
  clear Y0 Y1 YO YN YG hY C0 C1 C2;have hzz : w1.heap.size ≠ gs := zC
  have hzz2 : w1.heap.size + 1 ≠ gs := zC
  by_cases hgt : s1.2 < m
  ·have b0 : decide ((s1.2 : Int) < (m : Int)) = true := by simp; omega
   have b0' : decide (s1.2 < m) = true := zJ
   have hs2 : s2 = (p - x.val, m) := by
    rw [HSN.out]; unfold Jf; rw [HMM.out, Am hgt]
   have v1 : Hid ((s2.1 : Int) = (p : Int) - (x.val : Int)) := hid (by rw [hs2]; simp only; omega)
   have v2 : Hid ((s2.2 : Int) = (m : Int)) := hid (by rw [hs2])
   have HS2 := hid hs2; clear hs2 hgt
   gi_wp2
   refine IP (fun Z => Tch (fun q => q = gs ∨ q = w1.heap.size ∨ q = w1.heap.size + 1) V Z ∧ Blk Z gs 259 #[.slice sa b.length sc, .pointer (some ⟨g, 0, none⟩), .int .i64 t'] ∧ Blk Z w1.heap.size 3 #[.int .i64 (s2.1 : Int)] ∧ Blk Z (w1.heap.size + 1) 3 #[.int .i64 (s2.2 : Int)] ∧ Blk Z w.heap.size 249 #[.pointer (some ⟨gs, 0, none⟩)] ∧ Blk Z (w.heap.size + 1) 3 #[.int .i64 (p : Int)])
    ⟨(((HUt.out.mono (G := (fun q => q = gs ∨ q = w1.heap.size ∨ q = w1.heap.size + 1)) (fun q _ e => .inl e)).trans (Tch.Cl (F := (fun q => q = gs ∨ q = w1.heap.size ∨ q = w1.heap.size + 1)) HYb.out) fun _ _ h => h).setCell (fun _ => .inr (.inl rfl)) _).setCell (fun _ => .inr (.inr rfl)) _, (HYG.out.far zN _).far zN _, by rw [v1.out]; exact (HYO.out.set 0 _).far (by simp) _, by rw [v2.out]; exact (HYN.out.far (by simp) _).set 0 _, (HY0.out.far zN _).far zN _, (HY1.out.far zN _).far zN _⟩ ?_
   intro Z ⟨zt, zg, zo, zn, z0, z1⟩;have D0 := fun s : A1 Z => s.cell (show Z.cell? ⟨w.heap.size, 0, none⟩ = some (.pointer (some ⟨gs, 0, none⟩)) from z0.cell 0)
   have D1 := fun s : A1 Z => s.cell (show Z.cell? ⟨w.heap.size + 1, 0, none⟩ = some (.int .i64 (p : Int)) from z1.cell 0)
   have D2 := fun s : A1 Z => s.cell (show Z.cell? ⟨gs, 0, none⟩ = some (.slice sa b.length sc) from zg.cell 0)
   have D3 := fun s : A1 Z => s.cell (show Z.cell? ⟨w1.heap.size + 1, 0, none⟩ = some (.int .i64 (s2.2 : Int)) from zn.cell 0)
   have HZT := hid zt; have HZG := hid zg; have HZO := hid zo; have HZN := hid zn
   clear zt zg zo zn z0 z1;have i5 : (p : Int) + (s2.2 : Int) ≤ 2097152 := zC
   by_cases heq : p + s2.2 = b.length
   ·have b1 : ((p : Int) + (s2.2 : Int) == (b.length : Int)) = true := by simp; omega
    have HEQ := hid heq; clear heq
    refine Dh zG zG zG ?_
    repeat (gi_big_quiet_step (fail))
    refine wpQuietIn_nil ?_
    rintro W6 ⟨⟨Z6, hZ6⟩, rfl⟩;have ht6 := HZT.out.trans (Tch.Cl (F := fun q => q = gs ∨ q = w1.heap.size ∨ q = w1.heap.size + 1) hZ6) fun _ _ h => h
    have HT6 := hid ht6; clear ht6
    have HZ6 := hid hZ6; clear hZ6
    clear D0 D1 D2 D3;gi_wp2
    exact ⟨Fo HT6.out fun q hq => by rcases hq with e | e | e <;> omega, rfl, by rw [HBL.out]; exact HEQ.out, ⟨t', HZG.out.later HZ6.out⟩, zAb, zAc, HTC.out.trans HT6.out fun _ _ h => h⟩
   ·have b1 : ((p : Int) + (s2.2 : Int) == (b.length : Int)) = false := by simp; omega
    clear heq;refine Dh zG zG zG ?_
    repeat (gi_big_quiet_step (fail))
    refine wpQuietIn_nil ?_
    rintro W6 ⟨⟨Z6, hZ6⟩, rfl⟩;have ht6 := HZT.out.trans (Tch.Cl (F := fun q => q = gs ∨ q = w1.heap.size ∨ q = w1.heap.size + 1) hZ6) fun _ _ h => h
    have HT6 := hid ht6; clear ht6
    have HZ6 := hid hZ6; clear hZ6
    clear D0 D1 D2 D3;gi_wp2
    refine ⟨Fo HT6.out fun q hq => by rcases hq with e | e | e <;> omega, ?_, ⟨t', HZG.out.later HZ6.out⟩, zAb, zAc, HTC.out.trans HT6.out fun _ _ h => h⟩
    intro q hq;have hg5 := HS5.out.ch
    have n1 := HSK.out.ne1
    have n2 := HSK.out.ne2
    have hzw := HZW.out
    have hz5 := HZ5.out
    rcases hq with e | e | e | e | e
    ·exact HT6.out.block q zC (nF q zC zC zC zC)
    ·exact HT6.out.block q zC (nF q zC zC zC zC)
    ·have h6 := (HSK.out.ch.prev.lt _ e).2
     exact HT6.out.block q zC (nF q zC (fun e' => HSK.out.ne3 (e' ▸ e)) zC zC)
    ·exact HT6.out.block q zC (nF q zC zC zC zC)
    ·exact HT6.out.block q zC (nF q zC zC zC zC)
  ·have b0 : decide ((s1.2 : Int) < (m : Int)) = false := by simp; omega
   have b0' : decide (s1.2 < m) = false := zJ
   have hs2 : s2 = s1 := by
    rw [HSN.out]; unfold Jf; rw [HMM.out, An hgt]
   have HS2 := hid hs2; clear hs2 hgt
   gi_wp2
   refine IP (fun Z => Tch (fun q => q = gs ∨ q = w1.heap.size ∨ q = w1.heap.size + 1) V Z ∧ Blk Z gs 259 #[.slice sa b.length sc, .pointer (some ⟨g, 0, none⟩), .int .i64 t'] ∧ Blk Z w1.heap.size 3 #[.int .i64 (s2.1 : Int)] ∧ Blk Z (w1.heap.size + 1) 3 #[.int .i64 (s2.2 : Int)] ∧ Blk Z w.heap.size 249 #[.pointer (some ⟨gs, 0, none⟩)] ∧ Blk Z (w.heap.size + 1) 3 #[.int .i64 (p : Int)])
    ⟨((HUt.out.mono (G := (fun q => q = gs ∨ q = w1.heap.size ∨ q = w1.heap.size + 1)) (fun q _ e => .inl e)).trans (Tch.Cl (F := (fun q => q = gs ∨ q = w1.heap.size ∨ q = w1.heap.size + 1)) HYb.out) fun _ _ h => h), HYG.out, by rw [HS2.out]; exact HYO.out, by rw [HS2.out]; exact HYN.out, HY0.out, HY1.out⟩ ?_
   intro Z ⟨zt, zg, zo, zn, z0, z1⟩;have D0 := fun s : A1 Z => s.cell (show Z.cell? ⟨w.heap.size, 0, none⟩ = some (.pointer (some ⟨gs, 0, none⟩)) from z0.cell 0)
   have D1 := fun s : A1 Z => s.cell (show Z.cell? ⟨w.heap.size + 1, 0, none⟩ = some (.int .i64 (p : Int)) from z1.cell 0)
   have D2 := fun s : A1 Z => s.cell (show Z.cell? ⟨gs, 0, none⟩ = some (.slice sa b.length sc) from zg.cell 0)
   have D3 := fun s : A1 Z => s.cell (show Z.cell? ⟨w1.heap.size + 1, 0, none⟩ = some (.int .i64 (s2.2 : Int)) from zn.cell 0)
   have HZT := hid zt; have HZG := hid zg; have HZO := hid zo; have HZN := hid zn
   clear zt zg zo zn z0 z1;have i5 : (p : Int) + (s2.2 : Int) ≤ 2097152 := zC
   by_cases heq : p + s2.2 = b.length
   ·have b1 : ((p : Int) + (s2.2 : Int) == (b.length : Int)) = true := by simp; omega
    have HEQ := hid heq; clear heq
    refine Dh zG zG zG ?_
    repeat (gi_big_quiet_step (fail))
    refine wpQuietIn_nil ?_
    rintro W6 ⟨⟨Z6, hZ6⟩, rfl⟩;have ht6 := HZT.out.trans (Tch.Cl (F := fun q => q = gs ∨ q = w1.heap.size ∨ q = w1.heap.size + 1) hZ6) fun _ _ h => h
    have HT6 := hid ht6; clear ht6
    have HZ6 := hid hZ6; clear hZ6
    clear D0 D1 D2 D3;gi_wp2
    exact ⟨Fo HT6.out fun q hq => by rcases hq with e | e | e <;> omega, rfl, by rw [HBL.out]; exact HEQ.out, ⟨t', HZG.out.later HZ6.out⟩, zAb, zAc, HTC.out.trans HT6.out fun _ _ h => h⟩
   ·have b1 : ((p : Int) + (s2.2 : Int) == (b.length : Int)) = false := by simp; omega
    clear heq;refine Dh zG zG zG ?_
    repeat (gi_big_quiet_step (fail))
    refine wpQuietIn_nil ?_
    rintro W6 ⟨⟨Z6, hZ6⟩, rfl⟩;have ht6 := HZT.out.trans (Tch.Cl (F := fun q => q = gs ∨ q = w1.heap.size ∨ q = w1.heap.size + 1) hZ6) fun _ _ h => h
    have HT6 := hid ht6; clear ht6
    have HZ6 := hid hZ6; clear hZ6
    clear D0 D1 D2 D3;gi_wp2
    refine ⟨Fo HT6.out fun q hq => by rcases hq with e | e | e <;> omega, ?_, ⟨t', HZG.out.later HZ6.out⟩, zAb, zAc, HTC.out.trans HT6.out fun _ _ h => h⟩
    intro q hq;have hg5 := HS5.out.ch
    have n1 := HSK.out.ne1
    have n2 := HSK.out.ne2
    have hzw := HZW.out
    have hz5 := HZ5.out
    rcases hq with e | e | e | e | e
    ·exact HT6.out.block q zC (nF q zC zC zC zC)
    ·exact HT6.out.block q zC (nF q zC zC zC zC)
    ·have h6 := (HSK.out.ch.prev.lt _ e).2
     exact HT6.out.block q zC (nF q zC (fun e' => HSK.out.ne3 (e' ▸ e)) zC zC)
    ·exact HT6.out.block q zC (nF q zC zC zC zC)
    ·exact HT6.out.block q zC (nF q zC zC zC zC)
 case done =>
  rintro D ys V hD hys ⟨hg', h2, h3, h4⟩ hK;subst hys;have hbd := SY b p
  have hbb := Is b p (placesOf b p)
  generalize hs1 : EK b p (placesOf b p) = s1 at *
  have k1 : V.cell? ⟨w1.heap.size, 0, none⟩ = some (.int .i64 (s1.1 : Int)) := h2.cell 0
  have k2 : V.cell? ⟨w1.heap.size + 1, 0, none⟩ = some (.int .i64 (s1.2 : Int)) := h3.cell 0
  have HBD := hid hbd; have HG' := hid hg'; have HT4 := hid h4; have HKK := hid hK
  clear hbd hs1 hg' h2 h3 h4 hK;go_wp2_with fail;refine (Ly _ _ _).mono ?_
  rintro r w9 ⟨rfl, rfl⟩;have hif : ∃ v1 v2 : Nat, BV b p = (v1, v2) ∧ (if (s1.2 : Int) < 4 then (0 : Int) else (s1.1 : Int)) = (v1 : Int) ∧ (if (s1.2 : Int) < 4 then (0 : Int) else (s1.2 : Int)) = (v2 : Int) := by
   by_cases h4 : s1.2 < 4
   ·exact ⟨0, 0, zB1, zBb, zBb⟩
   ·exact ⟨s1.1, s1.2, zB2, ZV, ZV⟩
  obtain ⟨v1, v2, hv, hv1, hv2⟩ := hif
  rw [hv1, hv2]
  have HV := hid hv; clear hv hv1 hv2
  go_wp2;refine ⟨zO, .inl ⟨_, _, rfl, run_takeDeferred HKK.out, ?_⟩⟩
  have hTf : Tch (fun q => q = gs) w1 (V.putObj D (.deferred none)) := by
   have hg8 := grownBy_putObj' V D (.deferred none)
   have e5 := HB5.out
   have ez := HZW.out
   have ez5 := HZ5.out
   have hsz4 := HT4.out.size
   refine ⟨hg8.os.trans (HT4.out.os.trans (e5.os.trans hbW.os)), hg8.tape.trans (HT4.out.tape.trans (e5.tape.trans hbW.tape)), hg8.output.trans (HT4.out.output.trans (e5.output.trans hbW.output)), by have := hg8.size; omega, fun q hq hne => ?_⟩
   exact (hg8.block q zC (fun e => by have := BH e; omega)).trans ((HT4.out.block q zC (fun e => by rcases e with e | e | e <;> omega)).trans ((e5.block q zC).trans (hbW.block q hq)))
  have hsf : It (V.putObj D (.deferred none)) gs g mb base lo hi b p sa sc ab cb a1 c1' := HSK.out.S8 hTf (by
   obtain ⟨t, ht⟩ := HG'.out
   exact ⟨t, (World.putObj_heap_other (by have := HZ5.out; omega)).trans ht⟩)
  have hstep : N5 w gs g mb base lo hi b n p sa sc ab cb ap cp (V.putObj D (.deferred none)) := ⟨a1, c1', hsf, HTW.out.trans hTf (fun q _ e => .inl e), HOW.out⟩
  have HST := hid hstep; clear hstep hsf hTf
  refine ⟨.tuple #[.int .i64 ((BV b p).1 : Int), .int .i64 ((BV b p).2 : Int)], ?_, rfl, HST.out⟩
  rw [HV.out]
  simp [results, Tryz.f266, go_sem]
 case stop =>
  rintro D c pre V hD hpre ⟨hc, hl, hg', h2, h3, h4⟩ hK;subst hc;have hbd := SX hpre hp hl
  have hbb := Is b p pre
  generalize hs1 : EK b p pre = s1 at *
  have k1 : V.cell? ⟨w1.heap.size, 0, none⟩ = some (.int .i64 (s1.1 : Int)) := h2.cell 0
  have k2 : V.cell? ⟨w1.heap.size + 1, 0, none⟩ = some (.int .i64 (s1.2 : Int)) := h3.cell 0
  have HBD := hid hbd; have HG' := hid hg'; have HT4 := hid h4; have HKK := hid hK
  clear hbd hs1 hg' h2 h3 h4 hK hl;refine wpIn_wide.2 ?_
  go_wp2_with fail;refine (Ly _ _ _).mono ?_
  rintro r w9 ⟨rfl, rfl⟩;have hif : ∃ v1 v2 : Nat, BV b p = (v1, v2) ∧ (if (s1.2 : Int) < 4 then (0 : Int) else (s1.1 : Int)) = (v1 : Int) ∧ (if (s1.2 : Int) < 4 then (0 : Int) else (s1.2 : Int)) = (v2 : Int) := by
   by_cases h4 : s1.2 < 4
   ·exact ⟨0, 0, zB1, zBb, zBb⟩
   ·exact ⟨s1.1, s1.2, zB2, ZV, ZV⟩
  obtain ⟨v1, v2, hv, hv1, hv2⟩ := hif
  rw [hv1, hv2]
  have HV := hid hv; clear hv hv1 hv2
  go_wp2;refine ⟨zO, .inl ⟨_, _, rfl, run_takeDeferred HKK.out, ?_⟩⟩
  have hTf : Tch (fun q => q = gs) w1 (V.putObj D (.deferred none)) := by
   have hg8 := grownBy_putObj' V D (.deferred none)
   have e5 := HB5.out
   have ez := HZW.out
   have ez5 := HZ5.out
   have hsz4 := HT4.out.size
   refine ⟨hg8.os.trans (HT4.out.os.trans (e5.os.trans hbW.os)), hg8.tape.trans (HT4.out.tape.trans (e5.tape.trans hbW.tape)), hg8.output.trans (HT4.out.output.trans (e5.output.trans hbW.output)), by have := hg8.size; omega, fun q hq hne => ?_⟩
   exact (hg8.block q zC (fun e => by have := BH e; omega)).trans ((HT4.out.block q zC (fun e => by rcases e with e | e | e <;> omega)).trans ((e5.block q zC).trans (hbW.block q hq)))
  have hsf : It (V.putObj D (.deferred none)) gs g mb base lo hi b p sa sc ab cb a1 c1' := HSK.out.S8 hTf (by
   obtain ⟨t, ht⟩ := HG'.out
   exact ⟨t, (World.putObj_heap_other (by have := HZ5.out; omega)).trans ht⟩)
  have hstep : N5 w gs g mb base lo hi b n p sa sc ab cb ap cp (V.putObj D (.deferred none)) := ⟨a1, c1', hsf, HTW.out.trans hTf (fun q _ e => .inl e), HOW.out⟩
  have HST := hid hstep; clear hstep hsf hTf
  refine ⟨.tuple #[.int .i64 ((BV b p).1 : Int), .int .i64 ((BV b p).2 : Int)], ?_, rfl, HST.out⟩
  rw [HV.out]
  simp [results, Tryz.f266, go_sem]
open Go.RowKit Go.Bs Go.Maps
def Vm (w : World) (b : List UInt8) (r : Ending) (w' : World) : Prop := ∃ g mb ab cb, r = .returned (.pointer (some ⟨g, 0, none⟩)) ∧ Km w' g mb w.heap.size b 0 ab cb none 0 ∧ Below w.heap.size w w' ∧ w.heap.size ≤ g ∧ w.heap.size ≤ mb ∧ Ah.r (fun q => w.heap.size ≤ q ∧ q < w'.heap.size ∧ q ≠ g ∧ q ≠ mb) w' [.slice ab b.length cb] b
theorem SL (w : World) (b : List UInt8) (a : Option Addr) (n c : Nat) (hl : Ah.r (· < w.heap.size) w [.slice a n c] b) (hlen : b.length ≤ 1048576) :
  Calls Tryz.prog 272 #[.slice a n c] w (Vm w b) := by
 obtain ⟨rfl, hm, _, _⟩ := AS hl
 obtain ⟨i0, hi, hz0, hz1, hz2⟩ := A8 Dz
 have HS := hid (fun (W : World) (hW : Below w.heap.size w W) => A5 (lift hl hW))
 have HONE := hid (AI b)
 clear hl;have hmm := @run_makeMap Tryz.prog
 go_enter Tryz.func272, Tryz.ntmps272
 go_wp2_with (at_builtin; go_loud (refine Aq rfl _ _ _ rfl w.heap.size 5 i0 (.int .u8 0) 1 1 As hi hz0 hz1 hz2 rfl zP _ 0 [] rfl (EI _ (Ak _) rfl) a b.length c (byteCells b) rfl (HS.out _ zB) HONE.out zK zC zO ?_; intro v' w1 hown1 hgrow1 hat1; rw [A3, Bj] at hown1; obtain ⟨a', c', rfl⟩ := AA hown1; have hz1' : w.heap.size + 1 ≤ w1.heap.size := (by have := hgrow1.size; simpa using this); have HG := hid hgrow1; have HO := hid hown1; have HAT := hid hat1; clear hgrow1 hown1 hat1))
 have hA := B9 rfl HO.out
 have hfin : Vm w b (.returned (.pointer (some ⟨w1.heap.size + 1, 0, none⟩))) ((w1.alloc (.map #[] 0)).alloc (.cells #[.slice a' b.length c', .map (some w1.heap.size), .slice none 0 0] 268)) := by
  have hsz : ((w1.alloc (.map #[] 0)).alloc (.cells #[.slice a' b.length c', .map (some w1.heap.size), .slice none 0 0] 268)).heap.size = w1.heap.size + 2 := zO
  have keep : ∀ q, q < w1.heap.size → ((w1.alloc (.map #[] 0)).alloc (.cells #[.slice a' b.length c', .map (some w1.heap.size), .slice none 0 0] 268)).heap[q]? = w1.heap[q]? := fun q hq => (Br _ _ q zJ).trans (Br _ _ q hq)
  refine ⟨w1.heap.size + 1, w1.heap.size, a', c', rfl, ⟨Blk.newAt _ _ _ zO, ?_, ⟨.map [], (World.ownsMap_made w1 _ _ _).alloc _, fun k _ => rfl⟩, ⟨by simp [IK], .inl ⟨rfl, rfl⟩⟩, zC, Z9, Z9, zC, Aj _, hlen⟩, ?_, zC, zC, ?_⟩
  ·exact Ah.mono (Ah.keep hA fun q hq => keep q hq.2) fun q hq => ⟨zBf, zC, zC, Z9⟩
  ·have hb1 : Below w.heap.size w w1 := Below.grown zB HG.out zO (fun g e => by
    have e' : some w.heap.size = some g := e
    injection e' with e'
    omega)
   (repeat (first | exact Below.refl _ _ | assumption | (refine AF ?_ _) | (refine Below.setCell ?_ zF _) | (refine Below.drew ?_) | (refine below_drewN ?_ _) | (refine Af zM ?_)))
  ·exact Ah.mono (Ah.keep hA fun q hq => keep q hq.2) fun q hq => ⟨hq.1, zBf, zC, zC⟩
 have HF := hid hfin; clear hfin hA
 go_ret;exact HF.out
def Vk (w : World) (b : List UInt8) (r : Ending) (w' : World) : Prop := ∃ gs g mb base sa sc ab cb, r = .returned (.pointer (some ⟨gs, 0, none⟩)) ∧ It w' gs g mb base w.heap.size w'.heap.size b 0 sa sc ab cb none 0 ∧ Below w.heap.size w w' ∧ w.heap.size ≤ gs ∧ w.heap.size ≤ g ∧ w.heap.size ≤ mb ∧ w.heap.size ≤ base
theorem Tl (w : World) (b : List UInt8) (a : Option Addr) (n c : Nat) (hl : Ah.r (· < w.heap.size) w [.slice a n c] b) (hlen : b.length ≤ 1048576) :
  Calls Tryz.prog 265 #[.slice a n c] w (Vk w b) := by
 obtain ⟨rfl, hm, _, _⟩ := AS hl
 obtain ⟨i0, hi, hz0, hz1, hz2⟩ := A8 Dz
 have HS := hid (fun (W : World) (hW : Below w.heap.size w W) => A5 (lift hl hW))
 have HONE := hid (AI b)
 have HL := hid hl
 clear hl;go_enter Tryz.func265, Tryz.ntmps265
 go_wp2_with (at_builtin; go_loud (refine Aq rfl _ _ _ rfl w.heap.size 5 i0 (.int .u8 0) 1 1 As hi hz0 hz1 hz2 rfl zP _ 0 [] rfl (EI _ (Ak _) rfl) a b.length c (byteCells b) rfl (HS.out _ zB) HONE.out zK zC zO ?_; intro v' w1 hown1 hgrow1 hat1; rw [A3, Bj] at hown1; obtain ⟨a', c', rfl⟩ := AA hown1; have hz1' : w.heap.size + 1 ≤ w1.heap.size := (by have := hgrow1.size; simpa using this); have HG := hid hgrow1; have HO := hid hown1; have HAT := hid hat1; clear hgrow1 hown1 hat1))
 have hb1 : Below w.heap.size w w1 := Below.grown zB HG.out zO (fun g e => by
  have e' : some w.heap.size = some g := e
  injection e' with e'
  omega)
 refine (SL w1 b _ _ _ (lift HL.out hb1) hlen).mono ?_
 rintro r w2 ⟨g, mb, ab, cb, rfl, hch, hb2, hg, hmb, hbb⟩;have hA := B9 rfl HO.out
 have hs2 := hb2.size
 have hgl := hch.blk.lt
 have hml : mb < w2.heap.size := by obtain ⟨D, hD, _⟩ := hch.map; exact hD.lt
 have hsz : (w2.alloc (.cells #[.slice a' b.length c', .pointer (some ⟨g, 0, none⟩), .int .i64 0] 259)).heap.size = w2.heap.size + 1 := zO
 have keep : ∀ q, q < w2.heap.size → (w2.alloc (.cells #[.slice a' b.length c', .pointer (some ⟨g, 0, none⟩), .int .i64 0] 259)).heap[q]? = w2.heap[q]? := fun q hq => Br _ _ q hq
 have hfin : Vk w b (.returned (.pointer (some ⟨w2.heap.size, 0, none⟩))) (w2.alloc (.cells #[.slice a' b.length c', .pointer (some ⟨g, 0, none⟩), .int .i64 0] 259)) := by
  refine ⟨w2.heap.size, g, mb, w1.heap.size, a', c', ab, cb, rfl, ⟨⟨0, Blk.newAt _ _ _ zO⟩, ?_, hch.later zB, ?_, zC, zC, Z9, Ak _⟩, ?_, zC, zC, zC, zC⟩
  ·exact Ah.mono (Ah.keep hA fun q hq => (keep q zC).trans (hb2.block q hq.2)) fun q hq => ⟨⟨zC, zBf⟩, zC, zC, zC, Z9⟩
  ·exact Ah.mono (Ah.keep hbb fun q hq => keep q hq.2.1) fun q hq => ⟨⟨zC, zBf⟩, zC, hq.2.2.1, hq.2.2.2, Z9⟩
  ·exact (hb1.trans (hb2.mono zC)).alloc zC _
 have HF := hid hfin; clear hfin hA hch hbb
 go_wp2;go_ret;exact HF.out
end Go.Proofs.YtlbffbkbkajciaaGreat
