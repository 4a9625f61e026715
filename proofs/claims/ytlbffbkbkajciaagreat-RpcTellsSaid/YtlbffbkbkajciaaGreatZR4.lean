/- Mini: Needed by rpcTells_walk, part 4: texts put together by shake.py; no condition. -/
import Derived.Test.YtlbffbkbkajciaaGreatZR2
import Derived.Test.YtlbffbkbkajciaaGreatZR3
import Derived.BigRegion
import Derived.Test.YtlbffbkbkajciaaGreatRows
import Derived.Laws.IdiomStrings
import Derived.Laws.BytesArg
import Derived.Test.YtlbffbkbkajciaaGreatZR1
import Derived.Lib.SlBytesConst
set_option linter.unusedVariables false
set_option linter.unusedSimpArgs false
set_option maxRecDepth 100000
set_option maxHeartbeats 6400000
namespace Go.Bs
theorem zCa{p:Prop}(h:p:=by simp [results, Tryz.results238, go_sem, y0, y1, l1]):p:=h
theorem zBr{p:Prop}(h:p:=by have := hb1.size; simpa using this):p:=h
theorem zBh{p:Prop}(h:p:=by rw [← D6 (by omega)]; omega):p:=h
theorem zAu{p:Prop}(h:p:=by rw [Ag]; have := hfit'.out; omega):p:=h
theorem zAt{p:Prop}(h:p:=by rw [Ag]; have := hlen'.out; omega):p:=h
theorem zAi{p:Prop}(h:p:=by have h := Ea (o := 0) (s := 1) (o' := 1) rfl r0 (SA (s := 1) hl2 r1); rw [List.drop_zero] at h; exact h):p:=h
theorem zAh{p:Prop}(h:p:=by rw [hf.out]; rfl):p:=h
theorem Z8{p:Prop}(h:p:=by have := (hav _ e).1; omega):p:=h
theorem ZE{p:Prop}(h:p:=by rw [← FK]; simp only [EY, Ao, Ar]; omega):p:=h
theorem zZ{p:Prop}(h:p:=by rw [hfin.out]; rfl):p:=h
theorem zY{p:Prop}(h:p:=by have := hq.1; omega):p:=h
theorem zL{p:Prop}(h:p:=by with_reducible assumption):p:=h
theorem zA{p:Prop}(h:p:=by (repeat (first | with_reducible exact Below.refl _ _ | with_reducible assumption | (with_reducible refine AF ?_ _) | (with_reducible refine Below.setCell ?_ (by first | omega | (simp; done) | (simp; omega)) _) | (with_reducible refine Below.drew ?_) | (with_reducible refine below_drewN ?_ _) | (refine Af (by with_reducible assumption) ?_)))):p:=h
theorem Av:type_of% @List.append_assoc:=@List.append_assoc
theorem AU:type_of% @List.take_succ_eq_append_getElem:=@List.take_succ_eq_append_getElem
theorem Df:type_of% @Bool.or_eq_true:=@Bool.or_eq_true
theorem D9:type_of% @World.alloc_heap_new:=@World.alloc_heap_new
theorem Es:type_of% @List.take_length:=@List.take_length
theorem E0:type_of% @Proofs.Tryz.ntmps277:=@Proofs.Tryz.ntmps277
theorem FK:type_of% @Bool.not_eq_true:=@Bool.not_eq_true
theorem F8:type_of% @Proofs.Tryz.func277:=@Proofs.Tryz.func277
theorem G5:type_of% @List.getD_eq_getElem?_getD:=@List.getD_eq_getElem?_getD
end Go.Bs
namespace Go.Proofs.YtlbffbkbkajciaaGreat
open Go.RowKit Go.Bs Go.Maps
def FR (off : Nat) : Nat → List UInt8 → List UInt8
 | 0, out => out
 | n + 1, out => FR off n (out ++ [out.getD (out.length - off) 0])
theorem I7 (off : Nat) : ∀ (n : Nat) (out : List UInt8), (FR off n out).length = out.length + n
 | 0, out => rfl
 | n + 1, out => by simp only [FR, I7 off n]; simp; omega
def CJ (B : List UInt8) (bound : Int) (s : Rs) (out : List UInt8) : Rs × List UInt8 :=
 if bound - out.length < (s.head B).2.2 then ((s.head B).1.fail 11 s.p, out)
 else if (s.head B).2.1 = false then (((s.head B).1.take B ((s.head B).2.2 : Int)).1, out ++ ((s.head B).1.take B ((s.head B).2.2 : Int)).2)
 else
  if out.length < ((s.head B).1.offset B).2 then (((s.head B).1.offset B).1.fail 10 (s.head B).1.p, out)
  else if ((s.head B).1.offset B).1.k = 0 then (((s.head B).1.offset B).1, FR ((s.head B).1.offset B).2 (s.head B).2.2 out) else (((s.head B).1.offset B).1, out)
def exF (B : List UInt8) (bound : Int) : Nat → Rs → List UInt8 → Rs × List UInt8
 | 0, s, out => (s, out)
 | f + 1, s, out => if s.p < B.length ∧ s.k = 0 then exF B bound f (CJ B bound s out).1 (CJ B bound s out).2 else (s, out)
def exB (B : List UInt8) (bound : Int) : List UInt8 × Int × Int :=
 if (exF B bound B.length ⟨0, 0, 0⟩ []).1.k = 0 then ((exF B bound B.length ⟨0, 0, 0⟩ []).2, 0, 0) else ([], (exF B bound B.length ⟨0, 0, 0⟩ []).1.k, (exF B bound B.length ⟨0, 0, 0⟩ []).1.f)
theorem Rs.CU {s : Rs} {c at_ : Int} (hc : c ≠ 0) : (s.fail c at_).k ≠ 0 := by
 unfold Rs.fail; split
 ·exact hc
 ·assumption
theorem Rs.NP {s : Rs} {c at_ : Int} : (s.fail c at_).p = s.p := by unfold Rs.fail; split <;> rfl
theorem Rs.Il {B : List UInt8} {s : Rs} (h : (s.num B).1.k = 0) : s.p < (s.num B).1.p ∧ s.k = 0 := by
 unfold Rs.num at *;split
 ·rename_i h0
  rw [Am h0] at h
  have := (GR (B.drop s.p) 0 0).2.2.2.2 (by dsimp only at h; omega)
  dsimp only; omega
 ·rename_i h0; rw [An h0] at h; exact absurd h h0
theorem Rs.Kd {B : List UInt8} {s : Rs} (h : (s.head B).1.k = 0) : s.p < (s.head B).1.p ∧ s.k = 0 ∧ (s.num B).1.k = 0 ∧ 1 ≤ (s.head B).2.2 ∧ (s.head B).2.2 ≤ 1048576 := by
 unfold Rs.head at *;by_cases h0 : (s.num B).1.k = 0
 ·have hm := Rs.Il h0
  rw [Am h0] at h ⊢
  by_cases h1 : (s.num B).2 % 2 = 1
  ·rw [Am h1] at h ⊢
   by_cases h2 : 1048572 < (s.num B).2 / 2
   ·rw [Am h2] at h; exact absurd h (Rs.CU zC)
   ·rw [An h2]; exact ⟨hm.1, hm.2, h0, zN, zN⟩
  ·rw [An h1] at h ⊢
   by_cases h2 : 1048575 < (s.num B).2 / 2
   ·rw [Am h2] at h; exact absurd h (Rs.CU zC)
   ·rw [An h2]; exact ⟨hm.1, hm.2, h0, zN, zN⟩
 ·rw [An h0] at h; exact absurd h h0
theorem Rs.T7 {B : List UInt8} {s : Rs} (h : (s.head B).1.k ≠ 0) : (s.head B).2.1 = false ∧ (s.head B).2.2 = 0 := by
 unfold Rs.head at *;by_cases h0 : (s.num B).1.k = 0
 ·rw [Am h0] at h ⊢
  by_cases h1 : (s.num B).2 % 2 = 1
  ·rw [Am h1] at h ⊢
   by_cases h2 : 1048572 < (s.num B).2 / 2
   ·rw [Am h2]; exact ⟨rfl, rfl⟩
   ·rw [An h2] at h; exact absurd h0 h
  ·rw [An h1] at h ⊢
   by_cases h2 : 1048575 < (s.num B).2 / 2
   ·rw [Am h2]; exact ⟨rfl, rfl⟩
   ·rw [An h2] at h; exact absurd h0 h
 ·rw [An h0]; exact ⟨rfl, rfl⟩
theorem Rs.JS {B : List UInt8} {s : Rs} {n : Int} (h : (s.take B n).1.k = 0) : s.p ≤ (s.take B n).1.p ∧ s.k = 0 ∧ (s.take B n).2.length = n.toNat := by
 unfold Rs.take at *;cases hk : (s.skip B.length n).1
 ·exact absurd h (Rs.Lt hk).1
 ·have := Rs.GU hk
  rw [this.2.2.2]
  refine ⟨zN, this.1, ?_⟩
  simp; omega
theorem Rs.Lm {B : List UInt8} {s : Rs} {n : Int} (h : (s.take B n).1.k ≠ 0) : (s.take B n).2 = [] := by
 unfold Rs.take at *;cases hk : (s.skip B.length n).1
 ·simp
 ·have := Rs.GU hk
  rw [this.2.2.2] at h; exact absurd rfl h
theorem Rs.KK {B : List UInt8} {s : Rs} (h : (s.offset B).1.k = 0) : s.p < (s.offset B).1.p ∧ s.k = 0 ∧ (s.num B).1.k = 0 ∧ (s.offset B).2 = (s.num B).2 + 1 ∧ (s.num B).2 < 65536 := by
 unfold Rs.offset at *;dsimp only at *;by_cases h1 : 65536 ≤ (s.num B).2
 ·rw [Am h1] at h; exact absurd h (Rs.CU zC)
 ·rw [An h1] at h ⊢
  have := Rs.Il h
  exact ⟨this.1, this.2, h, by rw [Am h], zC⟩
theorem Rs.D5 {B : List UInt8} {s : Rs} (h : s.k ≠ 0) : s.num B = (s, 0) := by unfold Rs.num; rw [An h]
theorem Rs.Kv {L : Nat} {s : Rs} {n : Int} (h : s.k ≠ 0) : s.skip L n = (false, s) := by unfold Rs.skip; rw [An h]
theorem Rs.Ch {s : Rs} {c a : Int} (h : s.k ≠ 0) : s.fail c a = s := by unfold Rs.fail; rw [An h]
theorem Kh {B : List UInt8} {bound : Int} {s : Rs} {out : List UInt8} (h : s.ok B.length) : (CJ B bound s out).1.ok B.length := by
 unfold CJ;split
 ·exact Rs.FZ (Rs.Hi h) zC
 ·split
  ·exact Rs.Nt (Rs.Hi h) _
  ·split
   ·exact Rs.FZ (Rs.JZ (Rs.Hi h)) zC
   ·split
    ·exact Rs.JZ (Rs.Hi h)
    ·exact Rs.JZ (Rs.Hi h)
theorem GK {B : List UInt8} {bound : Int} {s : Rs} {out : List UInt8} (h : (CJ B bound s out).1.k = 0) : s.p < (CJ B bound s out).1.p ∧ ((CJ B bound s out).2.length : Int) ≤ bound := by
 unfold CJ at *;by_cases h1 : bound - out.length < (s.head B).2.2
 ·rw [Am h1] at h; exact absurd h (Rs.CU zC)
 ·rw [An h1] at h ⊢
  by_cases h2 : (s.head B).2.1 = false
  ·rw [Am h2] at h ⊢
   have ht := Rs.JS h
   have hh := Rs.Kd ht.2.1
   refine ⟨zN, ?_⟩
   simp only [Ag, ht.2.2]
   omega
  ·rw [An h2] at h ⊢
   by_cases h3 : out.length < ((s.head B).1.offset B).2
   ·rw [Am h3] at h; exact absurd h (Rs.CU zC)
   ·rw [An h3] at h ⊢
    by_cases h4 : ((s.head B).1.offset B).1.k = 0
    ·rw [Am h4]
     have ho := Rs.KK h4
     have hh := Rs.Kd ho.2.1
     refine ⟨zN, ?_⟩
     simp only [I7]; omega
    ·rw [An h4] at h; exact absurd h h4
theorem QT {B : List UInt8} {bound : Int} {s : Rs} {out : List UInt8} (h : (CJ B bound s out).1.k ≠ 0) : (CJ B bound s out).2 = out := by
 unfold CJ at *;split
 ·rfl
 ·rename_i h1
  rw [An h1] at h
  split
  ·rename_i h2
   rw [Am h2] at h
   rw [Rs.Lm h]; simp
  ·rename_i h2
   rw [An h2] at h
   split
   ·rfl
   ·rename_i h3
    rw [An h3] at h
    split
    ·rename_i h4
     rw [Am h4] at h; exact absurd h4 h
    ·rfl
theorem Ub {B : List UInt8} {bound : Int} : ∀ (f : Nat) (s : Rs) (out : List UInt8), s.ok B.length → B.length ≤ s.p + f → s.p < B.length → s.k = 0 → exF B bound f s out = exF B bound (f - 1) (CJ B bound s out).1 (CJ B bound s out).2
 | 0, s, out, _, h1, h2, _ => by omega
 | f + 1, s, out, _, _, h2, h3 => by simp only [exF]; rw [Am ⟨h2, h3⟩]; rfl
theorem Gt {B : List UInt8} {bound : Int} : ∀ (f : Nat) (s : Rs) (out : List UInt8), ¬ (s.p < B.length ∧ s.k = 0) → exF B bound f s out = (s, out)
 | 0, s, out, _ => rfl
 | f + 1, s, out, h => by simp only [exF]; rw [An h]
theorem RH {B : List UInt8} {bound : Int} : ∀ (f g : Nat) (s : Rs) (out : List UInt8), s.ok B.length → B.length ≤ s.p + f → B.length ≤ s.p + g → exF B bound f s out = exF B bound g s out
 | 0, g, s, out, h, h1, h2 => by rw [Gt g s out (by have := h.le; omega)]; rfl
 | f + 1, 0, s, out, h, h1, h2 => by rw [Gt (f + 1) s out (by have := h.le; omega)]; rfl
 | f + 1, g + 1, s, out, h, h1, h2 => by
  simp only [exF]
  by_cases hc : s.p < B.length ∧ s.k = 0
  ·rw [Am hc, Am hc]
   by_cases hk : (CJ B bound s out).1.k = 0
   ·have := (GK hk).1
    exact RH f g _ _ (Kh h) zC zC
   ·rw [Gt f _ _ (fun e => hk e.2), Gt g _ _ (fun e => hk e.2)]
  ·rw [An hc, An hc]
def exR (B : List UInt8) (bound : Int) (s : Rs) (out : List UInt8) : Rs × List UInt8 := exF B bound (B.length - s.p) s out
theorem QU {B : List UInt8} {bound : Int} {s : Rs} {out : List UInt8} (h : s.ok B.length) (h1 : s.p < B.length) (h2 : s.k = 0) : exR B bound s out = exR B bound (CJ B bound s out).1 (CJ B bound s out).2 := by
 unfold exR;rw [Ub _ s out h zC h1 h2]
 by_cases hk : (CJ B bound s out).1.k = 0
 ·have := (GK hk).1
  exact RH _ _ _ _ (Kh h) zC zC
 ·rw [Gt _ _ _ (fun e => hk e.2), Gt _ _ _ (fun e => hk e.2)]
theorem JC {B : List UInt8} {bound : Int} {s : Rs} {out : List UInt8} (h : ¬ (s.p < B.length ∧ s.k = 0)) : exR B bound s out = (s, out) := Gt _ _ _ h
theorem Ud (B : List UInt8) (bound : Int) : exB B bound = if (exR B bound ⟨0, 0, 0⟩ []).1.k = 0 then ((exR B bound ⟨0, 0, 0⟩ []).2, 0, 0) else ([], (exR B bound ⟨0, 0, 0⟩ []).1.k, (exR B bound ⟨0, 0, 0⟩ []).1.f) := rfl
theorem Ma (x : UInt8) : ∀ u ∈ [Value.int .u8 (x.toNat : Int)], u.oneCell' = true := by
 intro u hu; simp at hu; subst hu; rfl
theorem Dq (l : List UInt8) (x : UInt8) : byteCells l ++ [Value.int .u8 (x.toNat : Int)] = byteCells (l ++ [x]) := zAp
theorem NS (w : World) {base : Nat} {a : Option Addr} {c : Nat} (out : List UInt8) (hown : w.ownsRow base 5 1 (.slice a out.length c) out.length (byteCells out)) (hbase : base ≤ w.heap.size) (off n : Nat) (h1 : 1 ≤ off) (h2 : off ≤ out.length) (hn : out.length + n ≤ 1000000000000) :
  Calls Tryz.prog 260 #[.slice a out.length c, .int .i64 (off : Int), .int .i64 (n : Int)] w fun r w' => ∃ a' c', r = .returned (.slice a' (out.length + n) c') ∧ w'.ownsRow base 5 1 (.slice a' (out.length + n) c') (out.length + n) (byteCells (FR off n out)) ∧ Below base w w' := by
 obtain ⟨i0, hi, hz0, hz1, hz2⟩ := A8 Dz
 have HO := hid hown
 clear hown;go_enter Tryz.func260, Tryz.ntmps260
 go_wp2_with fail;go_loopw [0, 8] (fun o i wr => ∃ (k : Nat) (J : List UInt8) (aJ : Option Addr) (cJ : Nat), k ≤ n ∧ i = .int .i64 k ∧ o = .slice aJ J.length cJ ∧ wr.ownsRow base 5 1 (.slice aJ J.length cJ) J.length (byteCells J) ∧ Hid (FR off n out = FR off (n - k) J) ∧ Hid (J.length = out.length + k) ∧ Below base w wr ∧ base ≤ wr.heap.size) (fun _ i _ => n - (intOf i).toNat)
 case atStart => exact ⟨0, out, a, c, Aj _, rfl, rfl, HO.out, hid rfl, hid rfl, Below.refl _ _, hbase⟩
 case round =>
  obtain ⟨k, J, aJ, cJ, hk, rfl, rfl, ho, hJ, hln, hb, hbs⟩ := hrel
  have HJO := hid ho
  rcases Bd k n with hlt | hge
  ·have d1 : decide ((k : Int) < (n : Int)) = true := Ae zC
   have d1' : decide (k < n) = true := Ae hlt
   have hml : off ≤ J.length := by have := hln.out; omega
   have hJm : J.length + 1 ≤ 1000000000000 := by have := hln.out; omega
   have hst : Hid (FR off (n - k) J = FR off (n - (k + 1)) (J ++ [J.getD (J.length - off) 0])) := hid (by rw [show n - k = (n - (k + 1)) + 1 by omega]; rfl)
   have hgd : J.getD (J.length - off) 0 = J[J.length - off]'zC := by rw [G5, AR zC]; rfl
   rw [hgd] at hst
   obtain ⟨gb, ob, hA, hgb, hc⟩ := CO (BJ rfl ho) (i := J.length - off) zC
   subst hA;obtain ⟨m, hm⟩ : ∃ m, m = J.length - off := ⟨_, rfl⟩
   have e1 : (J.length : Int) - (off : Int) = (m : Int) := zC
   generalize J[J.length - off]'zC = x at *
   rw [← hm] at hc
   have i1 : (m : Int) < (J.length : Int) := zC
   have i2 : (0 : Int) ≤ (m : Int) := zC
   clear ho hgd hm;go_wp2_with (at_builtin; go_loud (refine Aq rfl _ _ _ rfl base 5 i0 (.int .u8 0) 1 1 As hi hz0 hz1 hz2 rfl zP (.slice (some ⟨gb, ob, none⟩) J.length cJ) J.length (byteCells J) rfl (AD HJO.out zB) (some ⟨wr.heap.size, 0, none⟩) 1 1 [.int .u8 (x.toNat : Int)] rfl (Bx wr 5 _ rfl rfl rfl) (Ma x) zK zC zJ ?_; intro v' w3 hown3 hgrow3 hat3; obtain ⟨a3, c3, rfl⟩ := AA hown3; have HO3 := hid hown3; have HG3 := hid hgrow3; clear hown3 hgrow3 hat3))
   have ho3 := HO3.out
   rw [Dq, show J.length + 1 = (J ++ [x]).length by simp] at ho3
   have hb3 : Below base wr w3 := (Below.grown (Below.refl _ _) HG3.out zJ (fun g e => (HJO.out.lt g e).1)) |> (fun h => (AF (Below.refl _ _) _ |>.mono hbs).trans h)
   have HO4 := hid ho3
   have hs3 := hb3.size
   clear ho3 hc;go_roundw
   case rel => exact ⟨k + 1, J ++ [x], a3, c3, zC, zV, zO, HO4.out, hid (hJ.out.trans hst.out), hid (by simp; have := hln.out; omega), hb.trans hb3, zC⟩
   case measure => simp [intOf]; omega
  ·obtain rfl : k = n := by omega
   have d1 : decide ((k : Int) < (k : Int)) = false := Ad zC
   have hfin : Hid (FR off k out = J) := hid (by rw [hJ.out, JK]; rfl)
   clear ho;go_wp2;go_ret;have hl : J.length = out.length + k := hln.out
   rw [hfin.out, ← hl]
   exact ⟨_, _, rfl, HJO.out, hb⟩
theorem Mb (l l' : List UInt8) : byteCells l ++ byteCells l' = byteCells (l ++ l') := zAp
structure K1 (w W : World) (B : List UInt8) (a : Option Addr) (s : Rs) (out : List UInt8) (aO : Option Addr) (cO : Nat) : Prop where
 rd : AZ W (w.heap.size + 1) B a s
 dat : Ah.r (· < w.heap.size) W [.slice a B.length B.length] B
 fl : Blk W w.heap.size 58 #[.int .i64 0, .int .i64 0]
 own : W.ownsRow (w.heap.size + 2) 5 1 (.slice aO out.length cO) out.length (byteCells out)
 be : Below w.heap.size w W
 sz : w.heap.size + 2 ≤ W.heap.size
section
variable {w W W' : World} {B : List UInt8} {a : Option Addr} {s s' : Rs} {out out' : List UInt8} {aO aO' : Option Addr} {cO cO' : Nat}
theorem K1.later (h : K1 w W B a s out aO cO) (hb : Below W.heap.size W W') : K1 w W' B a s out aO cO :=
 ⟨h.rd.later hb, Ah.keep h.dat fun q hq => hb.block q (by have := h.sz; omega), h.fl.later hb, AD h.own hb, Af hb h.be, A4 h.sz hb.size⟩
theorem UG {base : Nat} {e : TypeId} {size : Nat} {v : Value} {n : Nat} {xs : List Value} {g : Nat} (h : W.ownsRow base e size v n xs) (hg : g < base) (hb : Tch (· = g) W W') : W'.ownsRow base e size v n xs := by
 refine ⟨h.1, ?_⟩
 rcases h.2 with h0 | ⟨g', cap, cur, h1, h2, h3, h4⟩
 ·exact .inl h0
 ·exact .inr ⟨g', cap, cur, h1, h2, (hb.block _ (Blk.lt h3) zC).trans h3, h4⟩
theorem K1.step (h : K1 w W B a s out aO cO) (k : AE W (w.heap.size + 1) B a s' W') : K1 w W' B a s' out aO cO :=
 ⟨k.1, Ah.keep h.dat fun q hq => k.2.block q (by have := h.sz; omega) zC, h.fl.tch k.2 zC, UG h.own zC k.2, h.be.trans (k.below h.be.size zC), A4 h.sz k.size⟩
theorem K1.row (h : K1 w W B a s out aO cO) (hb : Below (w.heap.size + 2) W W') (ho : W'.ownsRow (w.heap.size + 2) 5 1 (.slice aO' out'.length cO') out'.length (byteCells out')) : K1 w W' B a s out' aO' cO' := by
 have hd := Ah.keep h.dat (w' := W') fun q hq => hb.block q zC
 exact ⟨⟨h.rd.blk.below hb zC, Ah.mono hd fun q hq => ⟨by have := h.sz; have := hb.size; omega, zC⟩, h.rd.ok⟩, hd, h.fl.below hb zC, ho, h.be.trans (hb.mono zC), A4 h.sz hb.size⟩
end
def Pn (W : World) (g i : Nat) : Int := intOf ((W.cell? ⟨g, i, none⟩).getD undef)
theorem AZ.cells {w : World} {g : Nat} {B : List UInt8} {a : Option Addr} {s : Rs} (h : AZ w g B a s) : Pn w g 1 = s.p ∧ Pn w g 2 = s.k := by
 have c1 := h.blk.cell 1
 have c2 := h.blk.cell 2
 simp at c1 c2
 unfold Pn;rw [c1, c2]
 exact ⟨rfl, rfl⟩
def Ua (L g : Nat) (W : World) : Nat := if Pn W g 2 = 0 then L + 1 - (Pn W g 1).toNat else 0
theorem RG {w : World} {g : Nat} {B : List UInt8} {a : Option Addr} {s : Rs} (h : AZ w g B a s) : Ua B.length g w = if s.k = 0 then B.length + 1 - s.p else 0 := by
 unfold Ua;rw [h.cells.1, h.cells.2]
 simp
theorem La {w w' : World} {g : Nat} {B : List UInt8} {a : Option Addr} {s s' : Rs} (h : AZ w g B a s) (h' : AZ w' g B a s') (hk : s.k = 0) (hp : s.p < B.length) (hs : s'.k = 0 → s.p < s'.p) : Ua B.length g w' < Ua B.length g w := by
 rw [RG h, RG h', Am hk]
 split
 ·have := hs zM; omega
 ·omega
def QV (bound : Int) (out : List UInt8) : Prop := out = [] ∨ (out.length : Int) ≤ bound
theorem Pa {bound : Int} {out : List UInt8} (h : QV bound out) (hb : -9223372036854775808 ≤ bound ∧ bound ≤ 1048576) : out.length ≤ 1048576 ∧ -9223372036854775808 ≤ bound - (out.length : Int) := by
 rcases h with rfl | h
 ·simp; omega
 ·omega
theorem M7 {B : List UInt8} {bound : Int} {s : Rs} {out : List UInt8} (h : QV bound out) : QV bound (CJ B bound s out).2 := by
 by_cases hk : (CJ B bound s out).1.k = 0
 ·exact .inr (GK hk).2
 ·rw [QT hk]; exact h
set_option maxHeartbeats 12800000 in
theorem NQ (w : World) (B : List UInt8) (a : Option Addr) (n c : Nat) (hl : Ah.r (· < w.heap.size) w [.slice a n c] B) (hB : B.length ≤ 1000000000) (bound : Int) (hbd : -9223372036854775808 ≤ bound ∧ bound ≤ 1048576) :
  Calls Tryz.prog 238 #[.slice a n c, .int .i64 bound] w fun r w' => ∃ v, r = .returned (.tuple #[v, .agg #[.int .i64 (exB B bound).2.1, .int .i64 (exB B bound).2.2]]) ∧ Ah.r (fun q => w.heap.size ≤ q ∧ q < w'.heap.size) w' [v] (exB B bound).1 ∧ Below w.heap.size w w' := by
 obtain ⟨rfl, hm, hcc, hcm⟩ := AS hl
 obtain ⟨i0, hi, hz0, hz1, hz2⟩ := A8 Dz
 have hcap : Ah.r (· < w.heap.size) w [.slice a B.length B.length] B := by
  obtain ⟨a', c', e, h1, h2, h3⟩ := hl
  simp at e
  obtain ⟨rfl, rfl⟩ := e
  exact Bh rfl (Ak _) zBw h3
 have HL := hid hl
 have HCAP := hid hcap
 clear hl hcap;go_enter Tryz.func238, Tryz.ntmps238
 go_wp2;refine Nn 1 0 zC
  (fun a' W => ∃ (s : Rs) (out : List UInt8) (aO : Option Addr) (cO : Nat) (rest : Hid (exR B bound s out = exR B bound ⟨0, 0, 0⟩ [])) (u2 u3 u8 u9 u10 u11 u12 u13 u14 u15 u16 u17 u18 u19 u20 u21 u22 u23 u24 u25 u26 u27 u28 u29 u30 u31 u32 u33 u34 u35 u36 u37 u38 u39 u40 u41 u42 u43 u44 u45 u46 u47 u48 u49 u50 u51 u52 u53 u54 u55 u56 u57 u58 u59 u60 u61 u62 u63 u64 u65 u66 u67 u68 u69 u70 : Value), K1 w W B a s out aO cO ∧ QV bound out ∧ a' = { tmps := #[.slice a B.length c, .int .i64 bound, u2, u3, .slice none 0 0, .pointer (some ⟨w.heap.size, 0, none⟩), .pointer (some ⟨w.heap.size + 1, 0, none⟩), .slice aO out.length cO, u8, u9, u10, u11, u12, u13, u14, u15, u16, u17, u18, u19, u20, u21, u22, u23, u24, u25, u26, u27, u28, u29, u30, u31, u32, u33, u34, u35, u36, u37, u38, u39, u40, u41, u42, u43, u44, u45, u46, u47, u48, u49, u50, u51, u52, u53, u54, u55, u56, u57, u58, u59, u60, u61, u62, u63, u64, u65, u66, u67, u68, u69, u70], defers := [] })
  (fun a' W => ∃ (s : Rs) (out : List UInt8) (aO : Option Addr) (cO : Nat) (rest : Hid (exR B bound ⟨0, 0, 0⟩ [] = (s, out))) (u2 u3 u8 u9 u10 u11 u12 u13 u14 u15 u16 u17 u18 u19 u20 u21 u22 u23 u24 u25 u26 u27 u28 u29 u30 u31 u32 u33 u34 u35 u36 u37 u38 u39 u40 u41 u42 u43 u44 u45 u46 u47 u48 u49 u50 u51 u52 u53 u54 u55 u56 u57 u58 u59 u60 u61 u62 u63 u64 u65 u66 u67 u68 u69 u70 : Value), K1 w W B a s out aO cO ∧ QV bound out ∧ a' = { tmps := #[.slice a B.length c, .int .i64 bound, u2, u3, .slice none 0 0, .pointer (some ⟨w.heap.size, 0, none⟩), .pointer (some ⟨w.heap.size + 1, 0, none⟩), .slice aO out.length cO, u8, u9, u10, u11, u12, u13, u14, u15, u16, u17, u18, u19, u20, u21, u22, u23, u24, u25, u26, u27, u28, u29, u30, u31, u32, u33, u34, u35, u36, u37, u38, u39, u40, u41, u42, u43, u44, u45, u46, u47, u48, u49, u50, u51, u52, u53, u54, u55, u56, u57, u58, u59, u60, u61, u62, u63, u64, u65, u66, u67, u68, u69, u70], defers := [] })
  (fun _ W => Ua B.length (w.heap.size + 1) W) rfl rfl ?_ ?_ ?_
 ·rintro a' W ⟨s, out, aO, cO, hex, u2, u3, u8, u9, u10, u11, u12, u13, u14, u15, u16, u17, u18, u19, u20, u21, u22, u23, u24, u25, u26, u27, u28, u29, u30, u31, u32, u33, u34, u35, u36, u37, u38, u39, u40, u41, u42, u43, u44, u45, u46, u47, u48, u49, u50, u51, u52, u53, u54, u55, u56, u57, u58, u59, u60, u61, u62, u63, u64, u65, u66, u67, u68, u69, u70, hI, hin, rfl⟩
  have hlen := Pa hin hbd
  have hok := hI.rd.ok
  have hpl := hok.le
  have HI := hid hI
  have HIN := hid hin
  have HLF := hid (K6 W hI.rd)
  have hsz := hI.sz
  clear hI hin;by_cases hp : s.p < B.length
  ·have e0 : (((B.length : Int) - (s.p : Int)) == 0) = false := by rw [beq_eq_false_iff_ne]; omega
   by_cases hk : s.k = 0
   ·have hgo := QU (bound := bound) (out := out) hok hp hk
    rw [hex.out] at hgo
    have hmore := GK (B := B) (bound := bound) (s := s) (out := out)
    have hin2 := hid (M7 (B := B) (s := s) HIN.out)
    have hst2 : CJ B bound s out = CJ B bound s out := rfl
    conv at hst2 => rhs; unfold CJ
    generalize CJ B bound s out = ES at *
    have hhead := hid (fun (W : World) (h : AZ W (w.heap.size + 1) B a s) => PM W h zC)
    have hhok := Rs.Hi (B := B) hok
    have hhle : (s.head B).2.2 ≤ 1048576 := by
     by_cases h0 : (s.head B).1.k = 0
     ·exact (Rs.Kd h0).2.2.2.2
     ·rw [(Rs.T7 h0).2]; omega
    have hh1 : (s.head B).2.1 = true → 1 ≤ ((s.head B).1.offset B).2 ∨ ((s.head B).1.offset B).1.k ≠ 0 := fun _ => by
     by_cases h0 : ((s.head B).1.offset B).1.k = 0
     ·left; rw [(Rs.KK h0).2.2.2.1]; omega
     ·right; exact h0
    have htake := hid (fun (W : World) (h : AZ W (w.heap.size + 1) B a (s.head B).1) => K5 W h ((s.head B).2.2 : Int) zC zC)
    have htl : ((s.head B).1.take B ((s.head B).2.2 : Int)).2.length ≤ 1048576 := by
     by_cases h0 : ((s.head B).1.take B ((s.head B).2.2 : Int)).1.k = 0
     ·rw [(Rs.JS h0).2.2]; omega
     ·rw [Rs.Lm h0]; simp
    have hoff := hid (fun (W : World) (h : AZ W (w.heap.size + 1) B a (s.head B).1) => Np W h zC)
    have hatp := hid (fun (W : World) (h : AZ W (w.heap.size + 1) B a (s.head B).1) => Cc W h)
    have hfail := hid (fun (W : World) (h : AZ W (w.heap.size + 1) B a (s.head B).1) => BB W h 11 s.p zC)
    have hfail2 := hid (fun (W : World) (h : AZ W (w.heap.size + 1) B a ((s.head B).1.offset B).1) => BB W h 10 (s.head B).1.p zC)
    have hfk := (Rs.CU (s := (s.head B).1) (c := 11) (at_ := (s.p : Int)) zC)
    have hfk2 := (Rs.CU (s := ((s.head B).1.offset B).1) (c := 10) (at_ := ((s.head B).1.p : Int)) zC)
    generalize (s.head B).1.fail 11 s.p = F1 at *
    generalize ((s.head B).1.offset B).1.fail 10 (s.head B).1.p = F2 at *
    generalize (s.head B).1.take B ((s.head B).2.2 : Int) = TK at *
    generalize (s.head B).1.offset B = OF at *
    generalize s.head B = H at *
    obtain ⟨s1, ic, m⟩ := H
    obtain ⟨s2, D⟩ := TK
    obtain ⟨s3, of⟩ := OF
    dsimp only at *;have HK := hid hk
    have hG := AH
    have dk : decide (s.k = 0) = true := Ae hk
    have HGO := hid hgo
    have HMORE := hid hmore
    have hpx := hp
    have HST2 := hid hst2
    clear hk hgo hmore hst2 hG hok;by_cases hb1 : bound - (out.length : Int) < (m : Int)
    ·have d1 : decide (bound - (out.length : Int) < (m : Int)) = true := Ae hb1
     have hes := HST2.out
     rw [Am hb1] at hes
     subst hes;have HGO2 := hid (HGO.out.trans (JC (fun e => hfk e.2)))
     clear hb1 HST2;go_wp2_with fail;refine HLF.out.mono ?_
     rintro r w1 ⟨rfl, hb1⟩;have hG := AH w1 (HI.out.rd.later hb1)
     rw [dk] at hG
     have HG := hid hG
     clear hG dk;go_wp2_with fail;refine HG.out.mono ?_
     rintro r w2 ⟨rfl, hb2⟩;have HI2 := hid (HI.out.later (Af hb2 hb1))
     have HAT := hid (Cc w2 HI2.out.rd)
     go_wp2_with fail;refine HAT.out.mono ?_
     rintro r w2' ⟨rfl, rfl⟩;have HHD := hid (hhead.out w2 HI2.out.rd)
     go_wp2_with fail;refine HHD.out.mono ?_
     rintro r w3 ⟨rfl, hst3⟩;have HI3 := hid (HI2.out.step hst3)
     clear hst3;have HFL := hid (hfail.out w3 HI3.out.rd)
     go_wp2_with fail;refine HFL.out.mono ?_
     rintro r w4 ⟨rfl, hst4⟩;have HI4 := hid (HI3.out.step hst4)
     clear hst4;go_wp2;go_step3
     exact .inr ⟨rfl, F1, out, aO, cO, HGO2, _, _, _, _, _, _, _, _, _, _, _, _, _, _, _, _, _, _, _, _, _, _, _, _, _, _, _, _, _, _, _, _, _, _, _, _, _, _, _, _, _, _, _, _, _, _, _, _, _, _, _, _, _, _, _, _, _, _, _, _, _, _, _, _, _, HI4.out, HIN.out, rfl⟩
    ·have d1 : decide (bound - (out.length : Int) < (m : Int)) = false := Ad hb1
     have hes := HST2.out
     rw [An hb1] at hes
     clear HST2;cases ic
     ·simp only [JG] at hes
      subst hes;clear hb1;go_wp2_with fail;refine HLF.out.mono ?_
      rintro r w1 ⟨rfl, hb1⟩;have hG := AH w1 (HI.out.rd.later hb1)
      rw [dk] at hG
      have HG := hid hG
      clear hG dk;go_wp2_with fail;refine HG.out.mono ?_
      rintro r w2 ⟨rfl, hb2⟩;have HI2 := hid (HI.out.later (Af hb2 hb1))
      have HAT := hid (Cc w2 HI2.out.rd)
      go_wp2_with fail;refine HAT.out.mono ?_
      rintro r w2' ⟨rfl, rfl⟩;have HHD := hid (hhead.out w2 HI2.out.rd)
      go_wp2_with fail;refine HHD.out.mono ?_
      rintro r w3 ⟨rfl, hst3⟩;have HI3 := hid (HI2.out.step hst3)
      clear hst3;have HTK := hid (htake.out w3 HI3.out.rd)
      go_wp2_with fail;refine HTK.out.mono ?_
      rintro r w4 ⟨v, rfl, hr, hst4⟩;obtain ⟨aD, cD, hv, hr2, _⟩ := AN hr
      simp only [Au, AO] at hv
      subst hv;have HI4 := hid (HI3.out.step hst4)
      have HS4 := hid (A5 hr2)
      have HONE := hid (AI D)
      have hsz4 := HI4.out.sz
      clear hst4 hr hr2;go_wp2_with (at_builtin; go_loud (refine Aq rfl _ _ _ rfl (w.heap.size + 2) 5 i0 (.int .u8 0) 1 1 As hi hz0 hz1 hz2 rfl zP (.slice aO out.length cO) out.length (byteCells out) rfl HI4.out.own aD D.length cD (byteCells D) rfl HS4.out HONE.out zK zC zC ?_; intro v' w5 hown5 hgrow5 hat5; obtain ⟨a5, c5, rfl⟩ := AA hown5; have HO5 := hid hown5; have HG5 := hid hgrow5; clear hown5 hgrow5 hat5))
      have ho := HO5.out
      rw [Mb, show out.length + D.length = (out ++ D).length by simp] at ho
      have hb5 : Below (w.heap.size + 2) w4 w5 := Below.grown (Below.refl _ _) HG5.out zC (fun g e => (HI4.out.own.lt g e).1)
      have HI5 := hid (HI4.out.row hb5 ho)
      clear ho hb5;rw [show out.length + D.length = (out ++ D).length by simp]
      go_step3
      exact .inl ⟨rfl, ⟨s2, out ++ D, a5, c5, hid HGO.out.symm, _, _, _, _, _, _, _, _, _, _, _, _, _, _, _, _, _, _, _, _, _, _, _, _, _, _, _, _, _, _, _, _, _, _, _, _, _, _, _, _, _, _, _, _, _, _, _, _, _, _, _, _, _, _, _, _, _, _, _, _, _, _, _, _, _, HI5.out, hin2.out, rfl⟩, La HI.out.rd HI5.out.rd HK.out hpx (fun h => (HMORE.out h).1)⟩
     ·simp only [Bool.true_eq_false, if_false] at hes
      by_cases h3 : out.length < of
      ·have d3 : decide ((out.length : Int) < (of : Int)) = true := Ae zC
       have d3' : decide (out.length < of) = true := Ae h3
       rw [Am h3] at hes
       subst hes;clear hb1;go_wp2_with fail;refine HLF.out.mono ?_
       rintro r w1 ⟨rfl, hb1⟩;have hG := AH w1 (HI.out.rd.later hb1)
       rw [dk] at hG
       have HG := hid hG
       clear hG dk;go_wp2_with fail;refine HG.out.mono ?_
       rintro r w2 ⟨rfl, hb2⟩;have HI2 := hid (HI.out.later (Af hb2 hb1))
       have HAT := hid (Cc w2 HI2.out.rd)
       go_wp2_with fail;refine HAT.out.mono ?_
       rintro r w2' ⟨rfl, rfl⟩;have HHD := hid (hhead.out w2 HI2.out.rd)
       go_wp2_with fail;refine HHD.out.mono ?_
       rintro r w3 ⟨rfl, hst3⟩;have HI3 := hid (HI2.out.step hst3)
       clear hst3;have HATP := hid (hatp.out w3 HI3.out.rd)
       go_wp2_with fail;refine HATP.out.mono ?_
       rintro r w3' ⟨rfl, rfl⟩;have HOF := hid (hoff.out w3 HI3.out.rd)
       go_wp2_with fail;refine HOF.out.mono ?_
       rintro r w4 ⟨rfl, hst4⟩;have HI4 := hid (HI3.out.step hst4)
       clear hst4;have HFL := hid (hfail2.out w4 HI4.out.rd)
       go_wp2_with fail;refine HFL.out.mono ?_
       rintro r w5 ⟨rfl, hst5⟩;have HI5 := hid (HI4.out.step hst5)
       have hG5 := AH w5 HI5.out.rd
       rw [Ad hfk2] at hG5
       have HG5 := hid hG5
       clear hst5 hG5;go_wp2_with fail;refine HG5.out.mono ?_
       rintro r w6 ⟨rfl, hb6⟩;have HI6 := hid (HI5.out.later hb6)
       go_wp2;go_step3
       exact .inl ⟨rfl, ⟨F2, out, aO, cO, hid HGO.out.symm, _, _, _, _, _, _, _, _, _, _, _, _, _, _, _, _, _, _, _, _, _, _, _, _, _, _, _, _, _, _, _, _, _, _, _, _, _, _, _, _, _, _, _, _, _, _, _, _, _, _, _, _, _, _, _, _, _, _, _, _, _, _, _, _, _, HI6.out, HIN.out, rfl⟩, La HI.out.rd HI6.out.rd HK.out hpx (fun h => absurd h hfk2)⟩
      ·have d3 : decide ((out.length : Int) < (of : Int)) = false := Ad zC
       have d3' : decide (out.length < of) = false := Ad h3
       rw [An h3] at hes
       by_cases h4 : s3.k = 0
       ·have d4 : decide (s3.k = 0) = true := Ae h4
        rw [Am h4] at hes
        have hof1 : 1 ≤ of := by exact (hh1 rfl).elim id (absurd h4)
        subst hes;go_wp2_with fail;refine HLF.out.mono ?_
        rintro r w1 ⟨rfl, hb1⟩;have hG := AH w1 (HI.out.rd.later hb1)
        rw [dk] at hG
        have HG := hid hG
        clear hG dk;go_wp2_with fail;refine HG.out.mono ?_
        rintro r w2 ⟨rfl, hb2⟩;have HI2 := hid (HI.out.later (Af hb2 hb1))
        have HAT := hid (Cc w2 HI2.out.rd)
        go_wp2_with fail;refine HAT.out.mono ?_
        rintro r w2' ⟨rfl, rfl⟩;have HHD := hid (hhead.out w2 HI2.out.rd)
        go_wp2_with fail;refine HHD.out.mono ?_
        rintro r w3 ⟨rfl, hst3⟩;have HI3 := hid (HI2.out.step hst3)
        clear hst3;have HATP := hid (hatp.out w3 HI3.out.rd)
        go_wp2_with fail;refine HATP.out.mono ?_
        rintro r w3' ⟨rfl, rfl⟩;have HOF := hid (hoff.out w3 HI3.out.rd)
        go_wp2_with fail;refine HOF.out.mono ?_
        rintro r w4 ⟨rfl, hst4⟩;have HI4 := hid (HI3.out.step hst4)
        clear hst4;have hG5 := AH w4 HI4.out.rd
        rw [d4] at hG5
        have HG5 := hid hG5
        clear hG5 d4;go_wp2_with fail;refine HG5.out.mono ?_
        rintro r w6 ⟨rfl, hb6⟩;have HI6 := hid (HI4.out.later hb6)
        have HAG := hid (NS w6 out HI6.out.own HI6.out.sz of m hof1 zC zC)
        have HAL := hid (I7 of m out)
        have HIN2 := hid hin2.out
        clear hb1;go_wp2_with fail;refine HAG.out.mono ?_
        rintro r w7 ⟨a7, c7, rfl, hown7, hb7⟩;rw [← HAL.out] at hown7
        have HI7 := hid (HI6.out.row hb7 hown7)
        clear hown7;go_wp2;rw [← HAL.out]
        go_step3
        exact .inl ⟨rfl, ⟨s3, _, a7, c7, hid HGO.out.symm, _, _, _, _, _, _, _, _, _, _, _, _, _, _, _, _, _, _, _, _, _, _, _, _, _, _, _, _, _, _, _, _, _, _, _, _, _, _, _, _, _, _, _, _, _, _, _, _, _, _, _, _, _, _, _, _, _, _, _, _, _, _, _, _, _, HI7.out, HIN2.out, rfl⟩, La HI.out.rd HI7.out.rd HK.out hpx (fun h => (HMORE.out h).1)⟩
       ·have d4 : decide (s3.k = 0) = false := Ad h4
        rw [An h4] at hes
        subst hes;clear hb1;go_wp2_with fail;refine HLF.out.mono ?_
        rintro r w1 ⟨rfl, hb1⟩;have hG := AH w1 (HI.out.rd.later hb1)
        rw [dk] at hG
        have HG := hid hG
        clear hG dk;go_wp2_with fail;refine HG.out.mono ?_
        rintro r w2 ⟨rfl, hb2⟩;have HI2 := hid (HI.out.later (Af hb2 hb1))
        have HAT := hid (Cc w2 HI2.out.rd)
        go_wp2_with fail;refine HAT.out.mono ?_
        rintro r w2' ⟨rfl, rfl⟩;have HHD := hid (hhead.out w2 HI2.out.rd)
        go_wp2_with fail;refine HHD.out.mono ?_
        rintro r w3 ⟨rfl, hst3⟩;have HI3 := hid (HI2.out.step hst3)
        clear hst3;have HATP := hid (hatp.out w3 HI3.out.rd)
        go_wp2_with fail;refine HATP.out.mono ?_
        rintro r w3' ⟨rfl, rfl⟩;have HOF := hid (hoff.out w3 HI3.out.rd)
        go_wp2_with fail;refine HOF.out.mono ?_
        rintro r w4 ⟨rfl, hst4⟩;have HI4 := hid (HI3.out.step hst4)
        clear hst4;have hG5 := AH w4 HI4.out.rd
        rw [d4] at hG5
        have HG5 := hid hG5
        clear hG5 d4;go_wp2_with fail;refine HG5.out.mono ?_
        rintro r w6 ⟨rfl, hb6⟩;have HI6 := hid (HI4.out.later hb6)
        go_wp2;go_step3
        exact .inl ⟨rfl, ⟨s3, out, aO, cO, hid HGO.out.symm, _, _, _, _, _, _, _, _, _, _, _, _, _, _, _, _, _, _, _, _, _, _, _, _, _, _, _, _, _, _, _, _, _, _, _, _, _, _, _, _, _, _, _, _, _, _, _, _, _, _, _, _, _, _, _, _, _, _, _, _, _, _, _, _, _, HI6.out, HIN.out, rfl⟩, La HI.out.rd HI6.out.rd HK.out hpx (fun h => absurd h h4)⟩
   ·have dk : decide (s.k = 0) = false := Ad hk
    have hst := JC (bound := bound) (out := out) (fun e => hk e.2 : ¬ (s.p < B.length ∧ s.k = 0))
    have HEX := hid (hex.out.symm.trans hst)
    clear hk hst hex;go_wp2_with fail;refine HLF.out.mono ?_
    rintro r w1 ⟨rfl, hb1⟩;have hG := AH w1 (HI.out.rd.later hb1)
    rw [dk] at hG
    have HG := hid hG
    clear hG dk;go_wp2_with fail;refine HG.out.mono ?_
    rintro r w2 ⟨rfl, hb2⟩;have HI2 := hid (HI.out.later (Af hb2 hb1))
    go_wp2;go_step3
    exact .inr ⟨rfl, s, out, aO, cO, HEX, _, _, _, _, _, _, _, _, _, _, _, _, _, _, _, _, _, _, _, _, _, _, _, _, _, _, _, _, _, _, _, _, _, _, _, _, _, _, _, _, _, _, _, _, _, _, _, _, _, _, _, _, _, _, _, _, _, _, _, _, _, _, _, _, _, HI2.out, HIN.out, rfl⟩
  ·have e0 : (((B.length : Int) - (s.p : Int)) == 0) = true := by rw [beq_iff_eq]; omega
   have hst := JC (bound := bound) (out := out) (fun e => hp e.1 : ¬ (s.p < B.length ∧ s.k = 0))
   have HEX := hid (hex.out.symm.trans hst)
   clear hst hex;go_wp2_with fail;refine HLF.out.mono ?_
   rintro r w1 ⟨rfl, hb1⟩;have HI2 := hid (HI.out.later hb1)
   go_wp2;go_step3
   exact .inr ⟨rfl, s, out, aO, cO, HEX, _, _, _, _, _, _, _, _, _, _, _, _, _, _, _, _, _, _, _, _, _, _, _, _, _, _, _, _, _, _, _, _, _, _, _, _, _, _, _, _, _, _, _, _, _, _, _, _, _, _, _, _, _, _, _, _, _, _, _, _, _, _, _, _, _, HI2.out, HIN.out, rfl⟩
 ·rintro a' W ⟨s, out, aO, cO, hex, u2, u3, u8, u9, u10, u11, u12, u13, u14, u15, u16, u17, u18, u19, u20, u21, u22, u23, u24, u25, u26, u27, u28, u29, u30, u31, u32, u33, u34, u35, u36, u37, u38, u39, u40, u41, u42, u43, u44, u45, u46, u47, u48, u49, u50, u51, u52, u53, u54, u55, u56, u57, u58, u59, u60, u61, u62, u63, u64, u65, u66, u67, u68, u69, u70, hI, hin, rfl⟩
  have HI := hid hI
  have HFA := hid (Ig W hI.rd)
  have hsz := hI.sz
  have hle := Pa hin hbd
  have hex2 := Ud B bound
  rw [hex.out] at hex2
  dsimp only at hex2;clear hin hI hex;by_cases hk : s.k = 0
  ·rw [Am hk] at hex2
   have HX := hid hex2
   have dk : decide (s.k = 0) = true := Ae hk
   have HK := hid hk
   clear hk hex2;go_wp2_with fail;refine HFA.out.mono ?_
   rintro r w1 ⟨rfl, hb1⟩;have hG := C7 (w1.alloc (.cells #[.int .i64 s.k, .int .i64 s.f] 58)) s.k s.f
   rw [dk] at hG
   have HG := hid hG
   clear hG dk;go_wp2_with fail;refine HG.out.mono ?_
   rintro r w2 ⟨rfl, hb2⟩;have hb12 : Below W.heap.size W w2 := Af hb2 (AF hb1 _)
   have HI2 := hid (HI.out.later hb12)
   have hfl := HI2.out.fl
   obtain ⟨y0, y1, g0, g1, l1⟩ := Cn hfl
   have hV := B9 rfl HI2.out.own
   have HV := hid hV
   clear hfl hV;go_wp2;simp only [MT]
   refine Al (v := .tuple #[.slice aO out.length cO, .agg #[.int .i64 0, .int .i64 0]]) zCa rfl ⟨_, by rw [HX.out], ?_, ?_⟩
   ·rw [HX.out]
    refine Ah.mono (Ah.keep HV.out fun q hq => ?_) fun q hq => ⟨zC, by simp [World.setCell]; exact hq.2⟩
    repeat (rw [AM _ _ _ _ zN])
   ·have hbe := HI2.out.be
    (repeat (first | with_reducible exact Below.refl _ _ | with_reducible assumption | (with_reducible refine AF ?_ _) | (with_reducible refine Below.setCell ?_ zF _) | (with_reducible refine Below.drew ?_) | (with_reducible refine below_drewN ?_ _) | (refine Af zL ?_)))
  ·rw [An hk] at hex2
   have HX := hid hex2
   have dk : decide (s.k = 0) = false := Ad hk
   have HK := hid hk
   clear hk hex2;go_wp2_with fail;refine HFA.out.mono ?_
   rintro r w1 ⟨rfl, hb1⟩;have hG := C7 (w1.alloc (.cells #[.int .i64 s.k, .int .i64 s.f] 58)) s.k s.f
   rw [dk] at hG
   have HG := hid hG
   clear hG dk;go_wp2_with fail;refine HG.out.mono ?_
   rintro r w2 ⟨rfl, hb2⟩;have hb12 : Below W.heap.size W w2 := Af hb2 (AF hb1 _)
   have HI2 := hid (HI.out.later hb12)
   have hfl := HI2.out.fl
   obtain ⟨y0, y1, g0, g1, l1⟩ := Cn hfl
   obtain ⟨z0, z1, e0, e1, l2⟩ := Cn (Blk.later (Blk.newAt _ _ _ rfl) hb2)
   have hbe := HI2.out.be
   clear hfl;go_wp2_with fail;go_region
   all_goals
    go_wp2;simp only [MT]
    refine Al (v := .tuple #[.slice none 0 0, .agg #[.int .i64 s.k, .int .i64 s.f]]) zCa rfl ⟨_, by rw [HX.out], by rw [HX.out]; exact Co rfl rfl (by omega), ?_⟩
    (repeat (first | with_reducible exact Below.refl _ _ | with_reducible assumption | (with_reducible refine AF ?_ _) | (with_reducible refine Below.setCell ?_ zF _) | (with_reducible refine Below.drew ?_) | (with_reducible refine below_drewN ?_ _) | (refine Af zL ?_)))
 ·intro K hK
  have HN := hid (Qg (w.alloc (.cells #[.int .i64 0, .int .i64 0] 58)) B a _ c (lift HL.out zA))
  go_wp2_with fail;refine HN.out.mono ?_
  rintro r w1 ⟨rfl, hrd, hb⟩;have hI : K1 w w1 B a ⟨0, 0, 0⟩ [] none 0 := ⟨by simpa using hrd, Ah.keep HCAP.out fun q hq => (hb.block q zJ).trans (Br _ _ q hq), Blk.later zD hb, ⟨rfl, .inl ⟨rfl, rfl⟩⟩, zA, by have := hrd.blk.lt; simp at this; omega⟩
  have HI := hid hI
  clear hI hrd hb;go_wp2;go_step3
  rename_i hkk
  exact hkk _ _ (hK _ _ ⟨⟨0, 0, 0⟩, [], none, 0, hid rfl, _, _, _, _, _, _, _, _, _, _, _, _, _, _, _, _, _, _, _, _, _, _, _, _, _, _, _, _, _, _, _, _, _, _, _, _, _, _, _, _, _, _, _, _, _, _, _, _, _, _, _, _, _, _, _, _, _, _, _, _, _, _, _, _, _, HI.out, .inl rfl, rfl⟩)
open Go.RowKit Go.Bs
theorem IN : Tryz.prog.cellsOf 22 = 1 := zG
theorem Vb : Tryz.prog.cellsOf 25 = 1 := zG
theorem Ui : Tryz.prog.cellsOf 23 = 1 := zG
theorem Va : Tryz.prog.cellsOf 24 = 1 := zG
theorem Ik : EW Tryz.prog 22 (GA .u64) := JY Tryz.underlying22
theorem UK : EW Tryz.prog 25 Ah := FD (sz := 1) As zG zP (Qr Tryz.underlying5)
theorem Qs : EW Tryz.prog 23 AY := FD (sz := 1) CK zG zP Ik
theorem Ez {H : Type} {enc : TypeId × Value → H} {P : Program} {w : World} {cs : List Value} {n : Nat} {fs : Array Field} (h : ∀ (i : Nat) (f : Field), fs[i]? = some f → ∃ y, DataW.trod enc P w 0 (fun _ => true) true n f.type ((cs.drop f.offset).take (P.cellsOf f.type)) = some y)
  {α : Type} {A : Rp α} {t : TypeId} (hA : EW P t A) (i : Nat) (f : Field) (o : Nat) (hf : fs[i]? = some f) (ht : f.type = t) (ho : f.offset = o) (hs : P.cellsOf t = 1) : ∃ x, A.r (· < w.heap.size) w ((cs.drop o).take 1) x := by
 obtain ⟨y, hy⟩ := h i f hf
 rw [ht, ho, hs] at hy
 exact hA enc w n _ _ hy
theorem VD : EW Tryz.prog 151 KI := fun enc w fuel cs x h => by
 obtain ⟨hl, n, hf⟩ := Fs Tryz.underlying151 h
 have hl2 : cs.length = 2 := hl.trans zG
 obtain ⟨x0, r0⟩ := Ez hf Ik 0 _ 0 rfl rfl rfl IN
 obtain ⟨x1, r1⟩ := Ez hf Qs 1 _ 1 rfl rfl rfl Ui
 exact ⟨⟨x0, x1⟩, zAi⟩
theorem UJ : EW Tryz.prog 24 BU := FD (sz := 2) Tryz.underlying24 zG zP VD
structure Hr (w wr : World) (N0 N1 gs g mb base : Nat) (b : List UInt8) (sa : Option Addr) (sc : Nat) (ab : Option Addr) (cb : Nat) (a : Option Addr) (c : Nat) (p i nn : Nat) (av : Option Addr) (cv : Nat) (ap : Option Addr) (cp : Nat) (L : List Tok) (cells : List (List Value)) : Prop where
 pb : p ≤ b.length
 ip : i ≤ p
 np : nn ≤ p
 bb : Blk wr w.heap.size 25 #[.slice a b.length c]
 bo : Blk wr (w.heap.size + 1) 214 #[.slice av L.length cv]
 bf : Blk wr (w.heap.size + 2) 3 #[.int .i64 (i : Int)]
 own : Bn (fun q => N1 ≤ q ∧ q < wr.heap.size ∧ (Value.slice ap nn cp).ownBlock ≠ some q) GW N1 225 3 wr (.slice av L.length cv) L cells
 sk : It wr gs g mb base N0 N1 b nn sa sc ab cb ap cp
 apart : ∀ q, (Value.slice av L.length cv).ownBlock = some q → (Value.slice ap nn cp).ownBlock ≠ some q
 len : L.length ≤ p
 toks : L ++ IF b p i = DV b
 below : Below w.heap.size w wr
 n0 : N0 = w.heap.size + 3
 n1 : N0 ≤ gs ∧ gs < N1 ∧ N0 ≤ g ∧ g < N1 ∧ N0 ≤ mb ∧ mb < N1 ∧ N0 ≤ base
theorem Hr.top {w wr : World} {N0 N1 gs g mb base : Nat} {b : List UInt8} {sa : Option Addr} {sc : Nat} {ab : Option Addr} {cb : Nat} {a : Option Addr} {c : Nat} {p i nn : Nat} {av : Option Addr} {cv : Nat} {ap : Option Addr} {cp : Nat} {L : List Tok} {cells : List (List Value)}
  (h : Hr w wr N0 N1 gs g mb base b sa sc ab cb a c p i nn av cv ap cp L cells) : N1 ≤ wr.heap.size := h.sk.top
theorem Hr.We {w wr w1 : World} {N0 N1 gs g mb base : Nat} {b : List UInt8} {sa : Option Addr} {sc : Nat} {ab : Option Addr} {cb : Nat} {a : Option Addr} {c : Nat} {p i nn m : Nat} {av : Option Addr} {cv : Nat} {ap : Option Addr} {cp : Nat} {L : List Tok} {cells : List (List Value)}
  (h : Hr w wr N0 N1 gs g mb base b sa sc ab cb a c p i nn av cv ap cp L cells) (hs : N5 wr gs g mb base N0 N1 b nn m sa sc ab cb ap cp w1) (hm : m ≤ p) :
  ∃ ap' cp', Hr w w1 N0 N1 gs g mb base b sa sc ab cb a c p i m av cv ap' cp' L cells := by
 obtain ⟨ap', cp', h1, h2, h3⟩ := hs
 have htop := h.top
 have hn0 := h.n0
 obtain ⟨k1, k2, k3, k4, k5, k6, k7⟩ := h.n1
 have hsz := h2.size
 have hapb : ∀ q, (Value.slice ap nn cp).ownBlock = some q → N0 ≤ q ∧ q < wr.heap.size := fun q hq => by
  have := h.sk.ch.prev.lt q hq
  exact ⟨zC, this.2⟩
 have hlow : ∀ q, q < N0 → ¬ (q = gs ∨ q = g ∨ q = mb ∨ (Value.slice ap nn cp).ownBlock = some q) := fun q hq e => by
  rcases e with e | e | e | e
  ·omega
  ·omega
  ·omega
  ·have := (hapb q e).1; omega
 have hav := fun q (hq : (Value.slice av L.length cv).ownBlock = some q) => h.own.1.lt q hq
 have hnew : ∀ q, q < wr.heap.size → (Value.slice ap nn cp).ownBlock ≠ some q → (Value.slice ap' m cp').ownBlock ≠ some q := fun q hq hne e => by
  rcases h3 with h3 | ⟨q', hq', hlt⟩
  ·rw [h3] at e; exact hne e
  ·rw [hq'] at e; have := BH e; omega
 refine ⟨ap', cp', ⟨h.pb, h.ip, hm, h.bb.tch h2 (hlow _ zC), h.bo.tch h2 (hlow _ zC), h.bf.tch h2 (hlow _ zC), ?_, h1, fun q hq => hnew q (hav q hq).2 (h.apart q hq), h.len, h.toks, h.below.trans (h2.Cj zC fun q hq e => ?_), h.n0, h.n1⟩⟩
 ·refine (h.own.keep (w' := w1) (fun q hq => h2.block q hq.2.1 (fun e => ?_)) (fun q hq => h2.block q (hav q hq).2 (fun e => ?_))).mono fun q hq => ⟨hq.1, zC, hnew q hq.2.1 hq.2.2⟩
  ·rcases e with e | e | e | e
   ·omega
   ·omega
   ·omega
   ·exact hq.2.2 e
  ·have := (hav q hq).1
   rcases e with e | e | e | e
   ·omega
   ·omega
   ·omega
   ·exact h.apart q hq e
 ·by_cases hq0 : q < N0
  ·exact absurd e (hlow q hq0)
  ·omega
theorem Hr.out {w wr w1 : World} {N0 N1 gs g mb base : Nat} {b : List UInt8} {sa : Option Addr} {sc : Nat} {ab : Option Addr} {cb : Nat} {a : Option Addr} {c : Nat} {p i nn : Nat} {av : Option Addr} {cv : Nat} {ap : Option Addr} {cp : Nat} {L : List Tok} {cells : List (List Value)}
  (h : Hr w wr N0 N1 gs g mb base b sa sc ab cb a c p i nn av cv ap cp L cells) {p' i' : Nat} {av' : Option Addr} {cv' : Nat} {L' : List Tok} {cells' : List (List Value)} (hp : p' ≤ b.length) (hi : i' ≤ p') (hn : nn ≤ p')
  (hf : Blk w1 (w.heap.size + 2) 3 #[.int .i64 (i' : Int)]) (ho : Blk w1 (w.heap.size + 1) 214 #[.slice av' L'.length cv'])
  (hown : Bn (fun q => (N1 ≤ q ∧ q < wr.heap.size ∧ (Value.slice ap nn cp).ownBlock ≠ some q) ∨ (wr.heap.size ≤ q ∧ q < w1.heap.size)) GW N1 225 3 w1 (.slice av' L'.length cv') L' cells')
  (ht : Tch (fun q => q = w.heap.size + 1 ∨ q = w.heap.size + 2 ∨ (Value.slice av L.length cv).ownBlock = some q) wr w1) (hat : (Value.slice av' L'.length cv').ownBlock = (Value.slice av L.length cv).ownBlock ∨ ∃ q, (Value.slice av' L'.length cv').ownBlock = some q ∧ wr.heap.size ≤ q)
  (hlen : L'.length ≤ p') (htok : L' ++ IF b p' i' = DV b) : Hr w w1 N0 N1 gs g mb base b sa sc ab cb a c p' i' nn av' cv' ap cp L' cells' := by
 have htop := h.top
 have hn0 := h.n0
 obtain ⟨k1, k2, k3, k4, k5, k6, k7⟩ := h.n1
 have hsz := ht.size
 have hapb : ∀ q, (Value.slice ap nn cp).ownBlock = some q → N0 ≤ q ∧ q < wr.heap.size := fun q hq => by
  have := h.sk.ch.prev.lt q hq
  exact ⟨zC, this.2⟩
 have hav := fun q (hq : (Value.slice av L.length cv).ownBlock = some q) => h.own.1.lt q hq
 have hmid : ∀ q, N0 ≤ q → q < N1 → ¬ (q = w.heap.size + 1 ∨ q = w.heap.size + 2 ∨ (Value.slice av L.length cv).ownBlock = some q) := fun q h1 h2 e => by
  rcases e with e | e | e
  ·omega
  ·omega
  ·have := (hav q e).1; omega
 obtain ⟨t, hgs⟩ := h.sk.blk
 refine ⟨hp, hi, hn, h.bb.tch ht (fun e => ?_), ho, hf, hown.mono fun q hq => ?_, h.sk.tch ht (hmid g k3 k4) (hmid mb k5 k6) (fun q hq e => ?_) (fun q h1 h2 _ => hmid q h1 h2) ⟨t, hgs.tch ht (hmid gs k1 k2)⟩, fun q hq e => ?_, hlen, htok, h.below.trans (ht.Cj h.below.size fun q hq e => ?_), h.n0, h.n1⟩
 ·rcases e with e | e | e
  ·omega
  ·omega
  ·have := (hav _ e).1; omega
 ·rcases hq with hq | hq
  ·exact ⟨hq.1, zC, hq.2.2⟩
  ·exact ⟨zC, hq.2, fun e => by have := (hapb q e).2; omega⟩
 ·rcases e with e | e | e
  ·have := (hapb q hq).1; omega
  ·have := (hapb q hq).1; omega
  ·exact h.apart q e hq
 ·rcases hat with hat | ⟨q', hq', hlt⟩
  ·rw [hat] at hq; exact h.apart q hq e
  ·rw [hq'] at hq; have := BH hq; have := (hapb q e).2; omega
 ·rcases e with e | e | e
  ·omega
  ·omega
  ·have := (hav q e).1; omega
def RO (w : World) (L : List Tok) (r : Ending) (w' : World) : Prop := ∃ v, r = .returned (.tuple #[v, .int .i64 0]) ∧ KH.r (fun q => w.heap.size ≤ q ∧ q < w'.heap.size) w' [v] L ∧ Below w.heap.size w w'
theorem ND (w : World) (b : List UInt8) (a : Option Addr) (n c : Nat) (hl : Ah.r (· < w.heap.size) w [.slice a n c] b) (hlen : b.length ≤ 1048576) :
  Calls Tryz.prog 247 #[.slice a n c] w (RO w (DV b)) := by
 obtain ⟨rfl, hm, _, _⟩ := AS hl
 obtain ⟨j0, hj0, hy0, hy1, hy2⟩ := A8 NN
 have HL := hid hl; clear hl
 have d1 : decide ((1048576 : Int) < (b.length : Int)) = false := zJ
 go_enter Tryz.func247, Tryz.ntmps247
 go_wp2_with fail;refine (Tl _ b _ _ _ (lift HL.out zB) hlen).mono ?_
 rintro r w1 ⟨gs, g, mb, base, sa, sc, ab, cb, rfl, hsk, hb1, q1, q2, q3, q4⟩;have hz1 : w.heap.size + 3 ≤ w1.heap.size := zBr
 simp only [World.size_alloc] at q1 q2 q3 q4
 have hmlt : mb < w1.heap.size := by obtain ⟨D, hD, _⟩ := hsk.ch.map; exact hD.lt
 have hat0 : Hr w w1 (w.heap.size + 3) w1.heap.size gs g mb base b sa sc ab cb a c 0 0 0 none 0 none 0 [] [] := by
  refine ⟨Aj _, Ak _, Ak _, Blk.later zD hb1, Blk.later zD hb1, Blk.later zD hb1, Bn.nil, ?_, fun q hq => by simp [Value.ownBlock] at hq, Aj _, ?_, zB, rfl, ⟨zC, hsk.blk.choose_spec.lt, zC, hsk.ch.blk.lt, zC, hmlt, zC⟩⟩
  ·simpa using hsk
  ·rfl
 have H0 := hid hat0
 clear hat0 hsk q1 q2 q3 q4 hmlt;generalize hN1 : w1.heap.size = N1 at *
 have HN1 := hid hN1; clear hN1
 go_wp2_with fail;go_loopw [8] (fun i wr => ∃ (p i0 nn : Nat) (av : Option Addr) (cv : Nat) (ap : Option Addr) (cp : Nat) (L : List Tok) (cells : List (List Value)), i = .int .i64 p ∧ Hid (Hr w wr (w.heap.size + 3) N1 gs g mb base b sa sc ab cb a c p i0 nn av cv ap cp L cells)) (fun i _ => b.length - (intOf i).toNat)
 case atStart => exact ⟨0, 0, 0, none, 0, none, 0, [], [], rfl, H0⟩
 case round =>
  obtain ⟨p, i, nn, av, cv, ap, cp, L, cells, rfl, hT⟩ := hrel
  clear H0;have hpb := hT.out.pb
  have hip := hT.out.ip
  have cb0 : wr.cell? ⟨w.heap.size, 0, none⟩ = some (.slice a b.length c) := hT.out.bb.cell 0
  by_cases hlt : p < b.length
  ·have hB := hid (Sb wr hT.out.sk hT.out.np hlt)
   have hbr := Hn b p
   have htn := hid (fun h => PJ (b := b) (p := p) (i := i) hlt h)
   have hts := hid (fun h => PI (b := b) (p := p) (i := i) hlt h)
   have hfc := hid (EJ b p)
   have dlt : decide ((p : Int) < (b.length : Int)) = true := zJ
   generalize hbb : BV b p = bb at *
   obtain ⟨o, m⟩ := bb
   have HBB := hid hbb; clear hbb
   simp only at hbr
   go_wp2_with fail;refine hB.out.mono ?_
   rintro r w2 ⟨hr, hst⟩;rw [HBB.out] at hr
   subst hr;obtain ⟨ap2, cp2, hT2⟩ := hT.out.We hst (Ak _)
   have HT2 := hid hT2; clear hst hT2
   by_cases hm0 : m = 0
   ·have e1 : ((m : Int) == 0) = true := by simp; omega
    have HT3 := hid (show Hr w w2 (w.heap.size + 3) N1 gs g mb base b sa sc ab cb a c (p + 1) i p av cv ap2 cp2 L cells from { HT2.out with pb := zC, ip := zC, np := zC, len := by have := HT2.out.len; omega, toks := by rw [← htn.out hm0]; exact HT2.out.toks })
    clear hm0;go_wp2_with fail;go_roundw
    case rel => exact ⟨p + 1, i, p, av, cv, ap2, cp2, L, cells, zV, HT3⟩
    case measure => simp [intOf]; omega
   ·have e1 : ((m : Int) == 0) = false := by simp; omega
    have hm4 : 4 ≤ m ∧ o ≤ p := by
     rcases hfc.out with h | ⟨o', m', h, h1, h2, h3, _⟩
     ·simp only [Ci] at h; omega
     ·simp only [Ci] at h
      unfold reach at h2;omega
    have htop := HT2.out.top
    have hn0 := HT2.out.n1
    have hav := fun q (hq : (Value.slice av L.length cv).ownBlock = some q) => HT2.out.own.1.lt q hq
    have hRun := MO w2 (to := p) HT2.out.bf HT2.out.bo HT2.out.bb (Ah.mono (Ah.keep HL.out fun q hq => HT2.out.below.block q hq) fun q hq => Ai hq HT2.out.below.size) HT2.out.own (fun q hq => hq.2.1) (fun hq => zY) (fun e => Z8) ⟨zC, zC, fun e => Z8, fun e => Z8⟩ zC hlen (by have := HT2.out.len; omega) htop
    have HRun := hid hRun; clear hRun
    have HM0 := hid hm0; clear hm0
    go_wp2_with fail;refine HRun.out.mono ?_
    rintro r w3 ⟨rfl, av3, cv3, cells3, hbo3, hown3, ht3, hat3⟩;have hLL : (L ++ Ei b i p).length ≤ p + 1 := by
     have h1 := HT2.out.len
     unfold Ei;split <;> simp <;> omega
    have HHBO := hid hbo3
    have o1 : w3.cell? ⟨w.heap.size + 1, 0, none⟩ = some (.slice av3 (L ++ Ei b i p).length cv3) := hbo3.cell 0
    have o2 := hbo3.free 0
    have l1 := hbo3.lt
    have HB3 := hid (HT2.out.bf.tch ht3 (fun e => by
     rcases e with e | e
     ·omega
     ·have := (hav _ e).1; omega))
    have l2 := HB3.out.lt
    have hz3 : N1 ≤ w3.heap.size := A4 htop ht3.size
    have hav3 := fun q (hq : (Value.slice av3 (L ++ Ei b i p).length cv3).ownBlock = some q) => hown3.1.lt q hq
    generalize hL3 : L ++ Ei b i p = L3 at *
    have HL3 := hid hL3; have HO3 := hid hown3; have HT3 := hid ht3; have HAT3 := hid hat3; have HAV3 := hid hav3; have HAV := hid hav
    clear hL3 hown3 ht3 hat3 hbo3 hav3 hav;have f3 := HB3.out.free 0
    go_wp2_with (at_builtin; go_loud (refine Aq rfl _ _ _ rfl N1 225 j0 (.agg #[.slice none 0 0, .int .i64 0, .int .i64 0]) 3 40 Tryz.underlying214 hj0 hy0 hy1 hy2 rfl zP (.slice av3 L3.length cv3) L3.length cells3.flatten rfl (AD HO3.out.1 zB) (some ⟨w3.heap.size, 0, none⟩) 1 1 [.slice none 0 0, .int .i64 (o : Int), .int .i64 (m : Int)] rfl (Bx w3 225 _ rfl rfl rfl) (by intro u hu; simp at hu; rcases hu with rfl | rfl | rfl <;> rfl) zK zC zJ ?_; intro v8 w8 hown8 hgrow8 hat8; obtain ⟨a8, c8, rfl⟩ := AA hown8; have G := fun b' (hb : b' < w3.heap.size) (hne : (Value.slice av3 L3.length cv3).ownBlock ≠ some b') => (hgrow8.block b' zJ (fun e => hne e.symm)).trans (Br w3 _ b' hb); have n1 : (Value.slice av3 L3.length cv3).ownBlock ≠ some (w.heap.size + 1) := fun e => by { have := (HAV3.out _ e).1; omega }; have n2 : (Value.slice av3 L3.length cv3).ownBlock ≠ some (w.heap.size + 2) := fun e => by { have := (HAV3.out _ e).1; omega }; have m1 := (Bz (a := ⟨w.heap.size + 1, 0, none⟩) (G _ l1 n1)).trans o1; have m2 := (Cy (a := ⟨w.heap.size + 1, 0, none⟩) (G _ l1 n1)).trans o2; have m3 : w.heap.size + 1 < w8.heap.size := Ai l1 (A4 zO hgrow8.size); have m4 := (Cy (a := ⟨w.heap.size + 2, 0, none⟩) (G _ l2 n2)).trans f3; have m6 := (Bz (a := ⟨w.heap.size + 2, 0, none⟩) (G _ l2 n2)).trans (HB3.out.cell 0); have m5 : w.heap.size + 2 < w8.heap.size := Ai l2 (A4 zO hgrow8.size); have HG8 := hid hgrow8; have HO8 := hid hown8; have HA8 := hid hat8; have HGG := hid G; clear hgrow8 hown8 hat8 G))
    have hOF := (HO3.out.keep (w' := w3.alloc (.cells #[.slice none 0 0, .int .i64 (o : Int), .int .i64 (m : Int)] 225)) (fun q hq => Br w3 _ q (by
     have hs3 := HT3.out.size
     rcases hq with h | h
     ·omega
     ·omega)) (fun q hq => Br w3 _ q (HAV3.out q hq).2))
    have hx : GW.r (fun q => ((N1 ≤ q ∧ q < w2.heap.size ∧ (Value.slice ap2 p cp2).ownBlock ≠ some q) ∨ (w2.heap.size ≤ q ∧ q < w3.heap.size)) ∧ (Value.slice av3 L3.length cv3).ownBlock ≠ some q) (w3.alloc (.cells #[.slice none 0 0, .int .i64 (o : Int), .int .i64 (m : Int)] 225)) [.slice none 0 0, .int .i64 (o : Int), .int .i64 (m : Int)] ⟨[], o, m⟩ :=
     Nq (x := ⟨[], o, m⟩) (Bh rfl (Ak _) (Aj _) (.inl rfl)) zJ zJ
    have OPU := Bn.push hOF (fun q hq => by
     have hs3 := HT3.out.size
     rcases hq with h | h
     ·simp; omega
     ·simp; omega) rfl hx HO8.out HG8.out HA8.out
    have hs8 := HG8.out.size
    simp only [World.size_alloc] at hs8
    have hs3 := HT3.out.size
    have hnew8 : ∀ q, q < N1 → (Value.slice a8 (L3.length + 1) c8).ownBlock ≠ some q := fun q hq e => by
     have := (HO8.out.lt q e).1; omega
    have hll : (L3 ++ [(⟨[], o, m⟩ : Tok)]).length = L3.length + 1 := zO
    have hsz : ((w8.setCell ⟨w.heap.size + 1, 0, none⟩ (.slice a8 (L3.length + 1) c8)).setCell ⟨w.heap.size + 2, 0, none⟩ (.int .i64 ((p : Int) + (m : Int)))).heap.size = w8.heap.size := ZT
    have keep9 : ∀ q, q ≠ w.heap.size + 1 → q ≠ w.heap.size + 2 → ((w8.setCell ⟨w.heap.size + 1, 0, none⟩ (.slice a8 (L3.length + 1) c8)).setCell ⟨w.heap.size + 2, 0, none⟩ (.int .i64 ((p : Int) + (m : Int)))).heap[q]? = w8.heap[q]? := fun q k1 k2 => (AM _ _ _ _ k2).trans (AM _ _ _ _ k1)
    have OP9 := (OPU.keep (w' := (w8.setCell ⟨w.heap.size + 1, 0, none⟩ (.slice a8 (L3.length + 1) c8)).setCell ⟨w.heap.size + 2, 0, none⟩ (.int .i64 ((p : Int) + (m : Int)))) (fun q hq => keep9 q (by rcases hq with h | h <;> omega) (by rcases hq with h | h <;> omega)) (fun q hq => keep9 q (fun e => hnew8 q zC hq) (fun e => hnew8 q zC hq))).mono (F' := fun q => (N1 ≤ q ∧ q < w2.heap.size ∧ (Value.slice ap2 p cp2).ownBlock ≠ some q) ∨ (w2.heap.size ≤ q ∧ q < ((w8.setCell ⟨w.heap.size + 1, 0, none⟩ (.slice a8 (L3.length + 1) c8)).setCell ⟨w.heap.size + 2, 0, none⟩ (.int .i64 ((p : Int) + (m : Int)))).heap.size)) (fun q hq => by
     rw [hsz]
     rcases hq with h | h
     ·exact .inl h
     ·exact .inr ⟨h.1, zC⟩)
    have hbo8 : Blk w8 (w.heap.size + 1) 214 #[.slice av3 L3.length cv3] := (HGG.out _ l1 n1).trans HHBO.out
    have hbf8 : Blk w8 (w.heap.size + 2) 3 #[.int .i64 (i : Int)] := (HGG.out _ l2 n2).trans HB3.out
    have hfin : Hr w ((w8.setCell ⟨w.heap.size + 1, 0, none⟩ (.slice a8 (L3.length + 1) c8)).setCell ⟨w.heap.size + 2, 0, none⟩ (.int .i64 ((p : Int) + (m : Int)))) (w.heap.size + 3) N1 gs g mb base b sa sc ab cb a c (p + m) (p + m) p a8 c8 ap2 cp2 (L3 ++ [⟨[], o, m⟩]) (cells3 ++ [[.slice none 0 0, .int .i64 (o : Int), .int .i64 (m : Int)]]) := by
     refine HT2.out.out zC (Ak _) zC ?_ ?_ (by rw [hll]; exact OP9) ?_ ?_ (by rw [hll]; omega) ?_
     ·exact (hbf8.far zN _).set 0 _
     ·rw [hll]; exact (hbo8.set 0 _).far zN _
     ·refine Tch.setCell (Tch.setCell ⟨HG8.out.os.trans HT3.out.os, HG8.out.tape.trans HT3.out.tape, HG8.out.output.trans HT3.out.output, zC, fun q hq hf => ?_⟩ (fun _ => .inl rfl) _) (fun _ => .inr (.inl rfl)) _
      have h3 : (Value.slice av3 L3.length cv3).ownBlock ≠ some q := fun e => by
       rcases HAT3.out with h | ⟨q', hq', hlt'⟩
       ·rw [h] at e; exact hf (.inr (.inr e))
       ·rw [hq'] at e; have := BH e; omega
      exact (HGG.out q zC h3).trans (HT3.out.block q hq (fun e => by
       rcases e with e | e
       ·exact hf (.inl e)
       ·exact hf (.inr (.inr e))))
     ·rw [hll]
      rcases HA8.out with h | h
      ·rcases HAT3.out with h' | ⟨q', hq', hlt'⟩
       ·exact .inl (h.trans h')
       ·exact .inr ⟨q', h.trans hq', hlt'⟩
      ·exact .inr ⟨_, h, zJ⟩
     ·have e1 := hts.out HM0.out
      have e2 := HT2.out.toks
      rw [e1] at e2
      rw [← e2, ← HL3.out]
      simp
    have HF := hid hfin
    clear hfin OP9 OPU hx hOF keep9 hsz hbo8 hbf8 hnew8 hll;go_roundw
    case rel => exact ⟨p + m, p + m, p, a8, c8, ap2, cp2, _, _, zV, HF⟩
    case measure => simp [intOf]; omega
  ·have hpe : p = b.length := by omega
   subst hpe;have htop := hT.out.top
   have hn0 := hT.out.n1
   have hav := fun q (hq : (Value.slice av L.length cv).ownBlock = some q) => hT.out.own.1.lt q hq
   have hRun := MO wr (to := b.length) hT.out.bf hT.out.bo hT.out.bb (Ah.mono (Ah.keep HL.out fun q hq => hT.out.below.block q hq) fun q hq => Ai hq hT.out.below.size) hT.out.own (fun q hq => hq.2.1) (fun hq => zY) (fun e => Z8) ⟨zC, zC, fun e => Z8, fun e => Z8⟩ (Ak _) hlen (by have := hT.out.len; omega) htop
   have htk := hT.out.toks
   rw [RY (Ak _)] at htk
   rw [htk] at hRun
   have HRun := hid hRun; clear hRun htk
   have dlt : decide ((b.length : Int) < (b.length : Int)) = false := zO
   go_wp2_with fail;refine HRun.out.mono ?_
   rintro r w3 ⟨rfl, av3, cv3, cells3, hbo3, hown3, ht3, hat3⟩;have o1 : w3.cell? ⟨w.heap.size + 1, 0, none⟩ = some (.slice av3 (DV b).length cv3) := hbo3.cell 0
   have hbel : Below w.heap.size w w3 := hT.out.below.trans (ht3.Cj hT.out.below.size fun q hq e => by
    rcases e with e | e
    ·omega
    ·have := (hav _ e).1; omega)
   have hsl := hown3.slice
   have hlt3 := hown3.1.lt
   have hs3 := ht3.size
   have hpost : RO w (DV b) (.returned (.tuple #[.slice av3 (DV b).length cv3, .int .i64 0])) w3 := ⟨_, rfl, (rSl 3 GW).mono hsl fun q hq => by
    rcases hq with (h | h) | h
    ·exact ⟨zC, zC⟩
    ·exact ⟨zC, h.2⟩
    ·have := hlt3 q h; exact ⟨zC, this.2⟩, hbel⟩
   have HP := hid hpost
   clear hpost hsl hlt3 hbel hown3 ht3 hat3 hbo3;go_wp2;go_ret2
   exact HP.out
end Go.Proofs.YtlbffbkbkajciaaGreat
namespace Go.Bs
open Go.RowKit
end Go.Bs
namespace Go.Proofs.YtlbffbkbkajciaaGreat
open Go.RowKit Go.Bs Go.Maps
theorem RZ {S : Nat → Prop} {w : World} {cs : List Value} {x : Tok} (h : GW.r S w cs x) : ∃ a c, cs = [.slice a x.lit.length c, .int .i64 x.off, .int .i64 x.len] ∧ (-9223372036854775808 ≤ x.off ∧ x.off ≤ 9223372036854775807) ∧ (-9223372036854775808 ≤ x.len ∧ x.len ≤ 9223372036854775807) ∧ Ah.r S w [.slice a x.lit.length c] x.lit := by
 obtain ⟨c1, c2, rfl, h1, c3, c4, rfl, ⟨rfl, h2⟩, rfl, h3⟩ := h
 obtain ⟨a, c, rfl, h4, _⟩ := AN h1
 exact ⟨a, c, rfl, bounds_i64 h2, bounds_i64 h3, h4⟩
theorem Nr {S : Nat → Prop} {w : World} {xs : List Tok} {a : Option Addr} {n c : Nat} (h : KH.r S w [.slice a n c] xs) {i : Nat} (hi : i < xs.length) : ∃ b off, a = some ⟨b, off, none⟩ ∧ S b ∧ ∃ a' c', w.cell? ⟨b, off + i * 3, none⟩ = some (.slice a' xs[i].lit.length c') ∧ w.cell? ⟨b, off + i * 3 + 1, none⟩ = some (.int .i64 xs[i].off) ∧ w.cell? ⟨b, off + i * 3 + 2, none⟩ = some (.int .i64 xs[i].len) ∧
  (-9223372036854775808 ≤ xs[i].off ∧ xs[i].off ≤ 9223372036854775807) ∧ (-9223372036854775808 ≤ xs[i].len ∧ xs[i].len ≤ 9223372036854775807) ∧ Ah.r S w [.slice a' xs[i].lit.length c'] xs[i].lit := by
 obtain ⟨b, off, e, hS, cs, _, hc, hA⟩ := Ls h hi
 obtain ⟨a', c', rfl, h1, h2, h3⟩ := RZ hA
 exact ⟨b, off, e, hS, a', c', hc 0 _ rfl, hc 1 _ rfl, hc 2 _ rfl, h1, h2, h3⟩
def EY (t : Tok) : Bool := decide (t.off = 0) && (decide (t.len = 0) && (decide (1 ≤ t.lit.length) && decide (t.lit.length ≤ 1048576)))
def GL (t : Tok) : Bool := decide (t.lit.length = 0) && (decide (1 ≤ t.off) && (decide (t.off ≤ 65536) && (decide (4 ≤ t.len) && decide (t.len ≤ 1048576))))
theorem ML (x : Tok) (a : Option Addr) (c : Nat) (w : World) (hl : x.lit.length ≤ 9223372036854775807) (h1 : -9223372036854775808 ≤ x.off ∧ x.off ≤ 9223372036854775807) (h2 : -9223372036854775808 ≤ x.len ∧ x.len ≤ 9223372036854775807) :
  Calls Tryz.prog 252 #[.agg #[.slice a x.lit.length c, .int .i64 x.off, .int .i64 x.len]] w fun r w' => r = .returned (.bool (EY x)) ∧ Below w.heap.size w w' := by
 obtain ⟨D, o, m⟩ := x
 dsimp only at *;by_cases h0 : o = 0
 ·skip
  have d0 : (o == 0) = true := beq_iff_eq.2 zC
  by_cases h1 : m = 0
  ·skip
   have d1 : (m == 0) = true := beq_iff_eq.2 zC
   by_cases h2 : 1 ≤ D.length
   ·skip
    have d2 : decide (1 ≤ (D.length : Int)) = true := Ae zC
    have d2' : decide (1 ≤ D.length) = true := Ae zC
    by_cases h3 : D.length ≤ 1048576
    ·skip
     have d3 : decide ((D.length : Int) ≤ 1048576) = true := Ae zC
     have d3' : decide (D.length ≤ 1048576) = true := Ae zC
     have hff : Hid (EY ⟨D, o, m⟩ = true) := hid (by simp only [EY, Ao, Ar]; omega)
     clear h1;go_enter Tryz.func252, Tryz.ntmps252
     go_wp2;go_ret;exact ⟨zH, zB⟩
    ·skip
     have d3 : decide ((D.length : Int) ≤ 1048576) = false := Ad zC
     have d3' : decide (D.length ≤ 1048576) = false := Ad zC
     have hff : Hid (EY ⟨D, o, m⟩ = false) := hid ZE
     clear h1;go_enter Tryz.func252, Tryz.ntmps252
     go_wp2;go_ret;exact ⟨zH, zB⟩
   ·skip
    have d2 : decide (1 ≤ (D.length : Int)) = false := Ad zC
    have d2' : decide (1 ≤ D.length) = false := Ad zC
    have hff : Hid (EY ⟨D, o, m⟩ = false) := hid ZE
    clear h1;go_enter Tryz.func252, Tryz.ntmps252
    go_wp2;go_ret;exact ⟨zH, zB⟩
  ·skip
   have d1 : (m == 0) = false := beq_eq_false_iff_ne.2 zC
   have hff : Hid (EY ⟨D, o, m⟩ = false) := hid ZE
   clear h1;go_enter Tryz.func252, Tryz.ntmps252
   go_wp2;go_ret;exact ⟨zH, zB⟩
 ·skip
  have d0 : (o == 0) = false := beq_eq_false_iff_ne.2 zC
  have hff : Hid (EY ⟨D, o, m⟩ = false) := hid ZE
  clear h1;go_enter Tryz.func252, Tryz.ntmps252
  go_wp2;go_ret;exact ⟨zH, zB⟩
inductive Good (b : List UInt8) : Bool → Nat → List Tok → Prop where
 | nil {f : Bool} : Good b f b.length []
 | copy {f : Bool} {p o m : Nat} {rest : List Tok} : p < b.length → BV b p = (o, m) → m ≠ 0 → Good b false (p + m) rest → Good b f p (⟨[], (o : Int), (m : Int)⟩ :: rest)
 | run {p q : Nat} {rest : List Tok} : p < q → q ≤ b.length → (∀ r, p ≤ r → r < q → (BV b r).2 = 0) → Good b true q rest → Good b false p (⟨(b.drop p).take (q - p), 0, 0⟩ :: rest)
theorem LX {b : List UInt8} {i p : Nat} {rest : List Tok} (hip : i ≤ p) (hp : p ≤ b.length) (h : ∀ r, i ≤ r → r < p → (BV b r).2 = 0) (hg : ∀ f, Good b f p rest) : Good b false i (Ei b i p ++ rest) := by
 unfold Ei;by_cases hlt : i < p
 ·rw [Am hlt]
  exact .run hlt hp h (hg true)
 ·obtain rfl : i = p := by omega
  rw [An hlt]
  exact hg false
theorem Ke (b : List UInt8) : ∀ (f p i : Nat), b.length ≤ p + f → i ≤ p → p ≤ b.length → (∀ r, i ≤ r → r < p → (BV b r).2 = 0) → Good b false i (Eu b f p i)
 | 0, p, i, h1, h2, h3, h4 => by
  obtain rfl : p = b.length := zC
  have := LX (rest := []) h2 h3 h4 fun f => .nil
  simpa [Eu] using this
 | f + 1, p, i, h1, h2, h3, h4 => by
  simp only [Eu]
  by_cases hp : p < b.length
  ·rw [Am hp]
   by_cases hm : (BV b p).2 = 0
   ·rw [Am hm]
    refine Ke b f (p + 1) i zC zC zC fun r hr1 hr2 => ?_
    by_cases hrp : r = p
    ·rw [hrp]; exact hm
    ·exact h4 r hr1 zC
   ·rw [An hm]
    have hroom := (Hn b p).1
    refine LX h2 h3 h4 fun g => .copy hp rfl hm ?_
    exact Ke b f _ _ zC (Ak _) zC fun r h1 h2 => by omega
  ·rw [An hp]
   obtain rfl : p = b.length := zC
   have := LX (rest := []) h2 h3 h4 fun f => .nil
   simpa using this
theorem LW (b : List UInt8) : Good b false 0 (DV b) := Ke b b.length 0 0 zC (Ak _) (Aj _) fun r h1 h2 => by omega
theorem Sx {w : World} {g : Nat} {t : TypeId} {fr : Nat × Nat} {l : List UInt8} {cs : Array Value} (hcs : cs = (byteCells l).toArray) (hl : l.length ≤ 1000000) (hb : w.heap[g]? = some (.cells cs t fr)) : Ah.r (· < w.heap.size) w [.slice (some ⟨g, 0, none⟩) l.length l.length] l := by
 subst hcs;refine Bh (xs := l) rfl (Ak _) zBw (.inr ⟨g, 0, rfl, (Array.getElem?_eq_some_iff.1 hb).1, fun i x hi => ⟨[.int .u8 (x.toNat : Int)], rfl, fun j v hj => ?_, rfl⟩⟩)
 have hj0 : j = 0 := by
  rcases j with _ | j
  ·rfl
  ·simp at hj
 subst hj0;simp at hj
 subst hj;rw [A3, DA, BE]
 simp [World.cell?, hb, byteCells, hi]
theorem Jb (b : List UInt8) : ∀ (f p i : Nat), (Eu b f p i).length ≤ 2 * f + 1
 | 0, p, i => by
  simp only [Eu, Ei]
  split <;> simp
 | f + 1, p, i => by
  simp only [Eu]
  split
  ·split
   ·have := Jb b f (p + 1) i; omega
   ·have := Jb b f (p + (BV b p).2) (p + (BV b p).2)
    simp only [Ag, AQ, Ei]
    split <;> simp <;> omega
  ·simp only [Ei]
   split <;> simp
end Go.Proofs.YtlbffbkbkajciaaGreat
namespace Go.Bs
def Fb : Nat → Nat → List UInt8
 | 0, x => [UInt8.ofNat x]
 | f + 1, x => if x < 128 then [UInt8.ofNat x] else UInt8.ofNat (128 + x % 128) :: Fb f (x / 128)
def Ay (x : Nat) : List UInt8 := Fb 9 x
theorem JP : ∀ (f g x : Nat), x < 128 ^ (f + 1) → f ≤ g → Fb f x = Fb g x
 | 0, 0, _, _, _ => rfl
 | 0, g + 1, x, h, _ => by
  have : x < 128 := ZS
  simp [Fb, this]
 | f + 1, 0, _, _, h => by omega
 | f + 1, g + 1, x, h, hg => by
  simp only [Fb]
  split
  ·rfl
  ·rw [JP f g (x / 128) (by rw [CL] at h; omega) zC]
theorem Fc {x : Nat} (h : x < 128) : Ay x = [UInt8.ofNat x] := by simp [Ay, Fb, h]
theorem Iu {x : Nat} (h : ¬ x < 128) (hx : x < 2 ^ 64) : Ay x = UInt8.ofNat (128 + x % 128) :: Ay (x / 128) := by
 have e : Fb 8 (x / 128) = Fb 9 (x / 128) := JP 8 9 _ zC zC
 unfold Ay;rw [← e]
 simp [Fb, h]
theorem AX (x : Nat) : (Ay x).length ≤ 10 ∧ 1 ≤ (Ay x).length := by
 have : ∀ f x, (Fb f x).length ≤ f + 1 ∧ 1 ≤ (Fb f x).length := by
  intro f;induction f with
  | zero => intro x; simp [Fb]
  | succ f ih => intro x; simp only [Fb]; split <;> simp; exact (ih _).1
 exact this 9 x
end Go.Bs
namespace Go.Proofs.YtlbffbkbkajciaaGreat
open Go.RowKit Go.Bs Go.Maps
theorem Kp (x : Nat) (hx : x < 18446744073709551616) (w : World) :
  Calls Tryz.prog 249 #[.int .u64 x] w fun r w' => r = .returned (.int .i64 (Ay x).length) ∧ Below w.heap.size w w' := by
 go_enter Tryz.func249, Tryz.ntmps249
 go_wp2_with fail;go_loopw [0, 3] (fun y n wr => ∃ v k : Nat, y = .int .u64 v ∧ n = .int .i64 k ∧ v < 18446744073709551616 ∧ k ≤ 10 ∧ 1 ≤ k ∧ Hid ((Ay x).length + 1 = k + (Ay v).length) ∧ Below w.heap.size w wr) (fun y _ _ => (intOf y).toNat)
 case atStart => exact ⟨x, 1, rfl, rfl, hx, zC, zC, hid zC, Below.refl _ _⟩
 case round =>
  obtain ⟨v, k, rfl, rfl, hv, hk, hk1, hs, hb⟩ := hrel
  by_cases h : v < 128
  ·have d1 : decide ((128 : Int) ≤ (v : Int)) = false := by simp; omega
   have hf : Hid ((Ay x).length = k) := hid (by have := hs.out; rw [Fc h] at this; simpa using this)
   go_wp2;go_ret;exact ⟨zAh, hb⟩
  ·have d1 : decide ((128 : Int) ≤ (v : Int)) = true := by simp; omega
   have hn : Hid ((Ay x).length + 1 = k + 1 + (Ay (v / 128)).length) := hid (by have := hs.out; rw [Iu h (by omega)] at this; simp at this; omega)
   have hk10 : k + 1 ≤ 10 := by have := hn.out; have := AX x; have := AX (v / 128); omega
   go_wp2_with fail;go_outline
   go_roundw
   case rel => exact ⟨v / 128, k + 1, zV, zV, zC, zC, zC, hn, hb⟩
   case measure => simp [intOf]; omega
end Go.Proofs.YtlbffbkbkajciaaGreat
namespace Go.Bs
open Go.RowKit
theorem FC {w : World} {base g : Nat} {e : TypeId} {v : Value} (hb : base ≤ g) (h : w.heap[g]? = some (.cells #[v] e (0, 0))) : w.ownsRow base e 1 (.slice (some ⟨g, 0, none⟩) 1 1) 1 [v] :=
 ⟨rfl, .inr ⟨g, 1, #[v], rfl, hb, h, Ak _, zP, rfl, rfl⟩⟩
theorem Dq (J : List UInt8) (b : UInt8) : byteCells J ++ [.int .u8 (b.toNat : Int)] = byteCells (J ++ [b]) := zAp
theorem D6 {x : Nat} (h : x < 256) : (x : Int) = ((UInt8.ofNat x).toNat : Int) := by
 simp; omega
theorem VW : ∀ n : Nat, n < 256 → bits .or .u8 (n : Int) 128 = 128 + (n : Int) % 128 := zE
theorem Vz (v : Nat) : bits .or .u8 ((v : Int) % 256) 128 = ((UInt8.ofNat (128 + v % 128)).toNat : Int) := by
 have h := VW (v % 256) zC
 rw [show (((v % 256 : Nat)) : Int) = (v : Int) % 256 by omega] at h
 rw [h, ← D6 zC]
 omega
end Go.Bs
namespace Go.Proofs.YtlbffbkbkajciaaGreat
open Go.RowKit Go.Bs Go.Maps
theorem No (x : Nat) (hx : x < 18446744073709551616) (w : World) :
  Calls Tryz.prog 147 #[.int .u64 x] w fun r w' => ∃ v, r = .returned v ∧ Ah.r (fun b => w.heap.size ≤ b ∧ b < w'.heap.size) w' [v] (Ay x) ∧ Below w.heap.size w w' := by
 obtain ⟨i0, hi, hz0, hz1, hz2⟩ := A8 Dz
 go_enter Tryz.func147, Tryz.ntmps147
 go_wp2_with fail;go_loopw [0, 3] (fun y o wr => ∃ (v : Nat) (J : List UInt8), y = .int .u64 v ∧ v < 18446744073709551616 ∧ wr.ownsRow w.heap.size 5 1 o J.length (byteCells J) ∧ Hid (Ay x = J ++ Ay v) ∧ Below w.heap.size w wr) (fun y _ _ => (intOf y).toNat)
 case atStart => exact ⟨x, [], rfl, hx, ⟨rfl, .inl ⟨rfl, rfl⟩⟩, hid rfl, Below.refl _ _⟩
 case round =>
  obtain ⟨v, J, rfl, hv, hown, hs, hb⟩ := hrel
  have hbs := hb.size
  have hJ : J.length ≤ 10 := by have h1 := AX x; rw [hs.out] at h1; simp at h1; omega
  obtain ⟨aJ, cJ, rfl⟩ := AA hown
  have HO := hid hown
  clear hown;by_cases h : v < 128
  ·have d1 : decide ((128 : Int) ≤ (v : Int)) = false := by simp; omega
   have hfin : Hid (Ay x = J ++ [UInt8.ofNat v]) := hid (by rw [hs.out, Fc h])
   have hby : Hid ((v : Int) = ((UInt8.ofNat v).toNat : Int)) := hid (D6 zC)
   go_wp2_with (at_builtin; go_loud (refine Aq rfl _ _ _ rfl w.heap.size 5 i0 (.int .u8 0) 1 1 As hi hz0 hz1 hz2 rfl zP (.slice aJ J.length cJ) J.length (byteCells J) rfl (AD HO.out zB) (some ⟨wr.heap.size, 0, none⟩) 1 1 [.int .u8 (v : Int)] rfl (Bx wr 5 _ rfl rfl rfl) zW zK zC zJ ?_; intro v' w1 hown1 hgrow1 hat1; have HG := hid hgrow1; have HO1 := hid hown1; clear hgrow1 hown1 hat1))
   have ho := HO1.out
   rw [hby.out, Dq, ← hfin.out] at ho
   have hlen : J.length + 1 = (Ay x).length := by rw [hfin.out]; simp
   have hV := B9 hlen ho
   have hB : Below w.heap.size w w1 := Below.grown zB HG.out zJ (fun g e => (HO.out.lt g e).1)
   have HV := hid hV
   clear ho hlen hV;go_wp2;go_ret;exact ⟨_, rfl, HV.out, hB⟩
  ·have d1 : decide ((128 : Int) ≤ (v : Int)) = true := by simp; omega
   have hfin : Hid (Ay x = (J ++ [UInt8.ofNat (128 + v % 128)]) ++ Ay (v / 128)) := hid (by rw [hs.out, Iu h (by omega)]; simp)
   have hor := Vz v
   generalize UInt8.ofNat (128 + v % 128) = bb at *
   go_wp2_with (at_builtin; go_loud (refine Aq rfl _ _ _ rfl w.heap.size 5 i0 (.int .u8 0) 1 1 As hi hz0 hz1 hz2 rfl zP (.slice aJ J.length cJ) J.length (byteCells J) rfl (AD HO.out zB) (some ⟨wr.heap.size, 0, none⟩) 1 1 [.int .u8 (bb.toNat : Int)] rfl (Bx wr 5 _ rfl rfl rfl) zW zK zC zJ ?_; intro v' w1 hown1 hgrow1 hat1; have HG := hid hgrow1; have HO1 := hid hown1; clear hgrow1 hown1 hat1))
   have ho := HO1.out
   rw [Dq] at ho
   have hB : Below w.heap.size w w1 := Below.grown zB HG.out zJ (fun g e => (HO.out.lt g e).1)
   have HO2 := hid ho
   clear ho HO1;go_wp2_with fail;go_roundw
   case rel => exact ⟨v / 128, J ++ [bb], zV, zC, (by rw [Ag]; exact HO2.out), hfin, hB⟩
   case measure => simp [intOf]; omega
theorem Ie (x : Nat) : ∀ (hx : x < 18446744073709551616) (w : World),
  Calls Tryz.prog 104 #[.int .u64 x] w fun r w' => ∃ v, r = .returned v ∧ Ah.r (fun b => w.heap.size ≤ b ∧ b < w'.heap.size) w' [v] (Ay x) ∧ Below w.heap.size w w' := by
 induction x using Nat.strongRecOn with
 | ind x ih =>
 intro hx w;obtain ⟨i0, hi, hz0, hz1, hz2⟩ := A8 Dz
 by_cases h : x < 128
 ·have d1 : decide ((x : Int) < 128) = true := by simp; omega
  have hfin : Hid (Ay x = [UInt8.ofNat x]) := hid (Fc h)
  have hby : Hid ((x : Int) = ((UInt8.ofNat x).toNat : Int)) := hid (D6 zC)
  have HIH := hid ih; clear ih
  go_enter Tryz.func104, Tryz.ntmps104
  go_wp2_with fail;have e0 : [Value.int .u8 (x : Int)] = byteCells (Ay x) := by rw [hfin.out, hby.out]; rfl
  have ho : (w.alloc (.cells #[.int .u8 (x : Int)] 5)).ownsRow w.heap.size 5 1 (.slice (some ⟨w.heap.size, 0, none⟩) 1 1) 1 (byteCells (Ay x)) := e0 ▸ FC (w := w.alloc (.cells #[.int .u8 (x : Int)] 5)) (base := w.heap.size) (e := 5) (Ak _) (D9 w _)
  have hV := B9 (l := Ay x) (n := 1) zZ ho
  have HV := hid hV
  clear ho e0 hV;go_ret;exact ⟨_, rfl, HV.out, zB⟩
 ·have d1 : decide ((x : Int) < 128) = false := by simp; omega
  have HIH := hid (fun (W : World) => ih (x / 128) zC zC W)
  clear ih;rw [show ((x / 128 : Nat) : Int) = (x : Int) / 128 by omega] at HIH
  have hfin : Hid (Ay x = [UInt8.ofNat (128 + x % 128)] ++ Ay (x / 128)) := hid (by rw [Iu h (by omega)]; rfl)
  have hby : Hid (128 + (x : Int) % 128 = ((UInt8.ofNat (128 + x % 128)).toNat : Int)) := hid zBh
  have hlb := AX (x / 128)
  go_enter Tryz.func104, Tryz.ntmps104
  go_wp2_with fail;refine (HIH.out _).mono ?_
  rintro r w1 ⟨v1, rfl, hr1, hb1⟩;have ho := FC (w := w.alloc (.cells #[.int .u8 (128 + (x : Int) % 128)] 5)) (base := w.heap.size) (e := 5) (Ak _) (D9 w _)
  have ho1 := AD ho hb1
  obtain ⟨a1, c1, hv1, hr2, _⟩ := AN hr1
  simp only [Au, AO] at hv1
  subst hv1;have hr3 := A5 (Ah.mono hr2 (S' := (· < w1.heap.size)) fun b hb => hb.2)
  have HS := hid hr3; have HO := hid ho1; have HONE := hid (AI (Ay (x / 128)))
  have hz1w : w.heap.size + 1 ≤ w1.heap.size := zBr
  have hbw1 : Below w.heap.size w w1 := zB
  clear hr1 hr2 hr3 ho ho1;go_wp2_with (at_builtin; go_loud (refine Aq rfl _ _ _ rfl w.heap.size 5 i0 (.int .u8 0) 1 1 As hi hz0 hz1 hz2 rfl zP (.slice (some ⟨w.heap.size, 0, none⟩) 1 1) 1 _ rfl HO.out a1 (Ay (x / 128)).length c1 (byteCells (Ay (x / 128))) rfl HS.out HONE.out zK zC zC ?_; intro v' w2 hown2 hgrow2 hat2; have HG := hid hgrow2; have HO2 := hid hown2; clear hgrow2 hown2 hat2))
  have ho := HO2.out
  rw [hby.out, show [Value.int .u8 ((UInt8.ofNat (128 + x % 128)).toNat : Int)] = byteCells [UInt8.ofNat (128 + x % 128)] from rfl, byteCells, byteCells, ← CS, ← hfin.out] at ho
  have hV := B9 (by rw [hfin.out]; simp; omega) ho
  have hB : Below w.heap.size w w2 := Below.grown hbw1 HG.out zC (fun g e => (HO.out.lt g e).1)
  have HV := hid hV
  clear ho hV;go_ret;exact ⟨_, rfl, HV.out, hB⟩
structure BR (w : World) (g base most : Nat) (J : List UInt8) (a : Option Addr) (c : Nat) : Prop where
 blk : Blk w g 87 #[.int .i64 most, .slice a J.length c, .int .i64 0]
 own : w.ownsRow base 5 1 (.slice a J.length c) J.length (byteCells J)
 ne : (Value.slice a J.length c).ownBlock ≠ some g
 lo : base ≤ g
 le : J.length ≤ most
 most : most ≤ 4611686018427387904
 len : J.length ≤ 100000000000000
def Dr (g : Nat) (a : Option Addr) (q : Nat) : Prop := q = g ∨ ∃ p, a = some p ∧ p.block = q
theorem JX {a : Option Addr} {n c : Nat} : (Value.slice a n c).ownBlock = a.map Addr.block := by cases a <;> rfl
def At (w : World) (g base most : Nat) (J' : List UInt8) (a : Option Addr) (w' : World) : Prop :=
 ∃ a' c', BR w' g base most J' a' c' ∧ Tch (Dr g a) w w' ∧ (a'.map Addr.block = a.map Addr.block ∨ ∃ q, a'.map Addr.block = some q ∧ w.heap.size ≤ q)
theorem At.refl {w : World} {g base most : Nat} {J : List UInt8} {a : Option Addr} {c : Nat} (h : BR w g base most J a c) : At w g base most J a w := ⟨a, c, h, Tch.refl _ _, .inl rfl⟩
theorem FW {g : Nat} {a : Option Addr} {q : Nat} : Dr g a q ↔ q = g ∨ a.map Addr.block = some q := by unfold Dr; simp
theorem At.trans {w w1 w2 : World} {g base most : Nat} {J J' : List UInt8} {a a1 : Option Addr} (h1 : Tch (Dr g a) w w1) (h2 : a1.map Addr.block = a.map Addr.block ∨ ∃ q, a1.map Addr.block = some q ∧ w.heap.size ≤ q) (k : At w1 g base most J' a1 w2) : At w g base most J' a w2 := by
 obtain ⟨a2, c2, k1, k2, k3⟩ := k
 have hs := h1.size
 refine ⟨a2, c2, k1, h1.trans k2 fun q hq e => ?_, ?_⟩
 ·rw [FW] at e ⊢
  rcases e with e | e
  ·exact .inl e
  ·rcases h2 with h2 | ⟨q', h2, h3⟩
   ·exact .inr (h2 ▸ e)
   ·rw [h2] at e; simp at e; omega
 ·rcases k3 with k3 | ⟨q, k3, k4⟩
  ·rcases h2 with h2 | ⟨q', h2, h3⟩
   ·exact .inl (k3.trans h2)
   ·exact .inr ⟨q', k3.trans h2, h3⟩
  ·exact .inr ⟨q, k3, zC⟩
theorem At.later {w w1 w2 : World} {g base most : Nat} {J' : List UInt8} {a : Option Addr} (h : Below w.heap.size w w1) (k : At w1 g base most J' a w2) : At w g base most J' a w2 := At.trans (J := J') (Tch.Cl h) (.inl rfl) k
theorem BR.later {w w1 : World} {g base most : Nat} {J : List UInt8} {a : Option Addr} {c : Nat} (h : BR w g base most J a c) (hb : Below w.heap.size w w1) : BR w1 g base most J a c :=
 ⟨h.blk.later hb, AD h.own hb, h.ne, h.lo, h.le, h.most, h.len⟩
theorem BR.new (w : World) (most : Nat) (hm : most ≤ 4611686018427387904) : BR (w.alloc (.cells #[.int .i64 most, .slice none 0 0, .int .i64 0] 87)) w.heap.size w.heap.size most [] none 0 :=
 ⟨Blk.new w _ _, ⟨rfl, .inl ⟨rfl, rfl⟩⟩, Z9, Ak _, Aj _, hm, Aj _⟩
theorem Jl (w : World) {g base most : Nat} {J : List UInt8} {a : Option Addr} {c : Nat} (h : BR w g base most J a c) :
  Calls Tryz.prog 79 #[.pointer (some ⟨g, 0, none⟩)] w fun r w' => r = .returned (.int .i64 0) ∧ w = w' := by
 have c2 : w.cell? ⟨g, 2, none⟩ = some (.int .i64 0) := h.blk.cell 2
 clear h;go_enter Tryz.func79, Tryz.ntmps79
 go_wp2;go_ret;exact ⟨rfl, rfl⟩
theorem TA (w : World) {g base most : Nat} {J : List UInt8} {a : Option Addr} {c : Nat} (h : BR w g base most J a c) :
  Calls Tryz.prog 148 #[.pointer (some ⟨g, 0, none⟩)] w fun r w' => r = .returned (.int .i64 ((most : Int) - J.length)) ∧ Below w.heap.size w w' := by
 have C0 := fun s : A1 w => s.cell (h.blk.cell 0)
 have C1 := fun s : A1 w => s.cell (h.blk.cell 1)
 simp at C0 C1
 have hle := h.le; have hmo := h.most
 clear h;go_enter Tryz.func148, Tryz.ntmps148
 go_wp2_with fail;refine Ax zG zG ?_
 repeat (go_big_quiet_step (fail))
 refine AL ?_
 rintro W5 ⟨⟨W5', hb5⟩, rfl⟩;go_wp2;go_ret;exact ⟨zAz, hb5⟩
theorem Jk (w : World) (most : Nat) (hm : most ≤ 4611686018427387904) :
  Calls Tryz.prog 15 #[.int .i64 most] w fun r w' => r = .returned (.pointer (some ⟨w.heap.size, 0, none⟩)) ∧ BR w' w.heap.size w.heap.size most [] none 0 ∧ Below w.heap.size w w' := by
 have hN := hid (BR.new w most hm)
 have d1 : max (most : Int) 0 = most := zC
 have d2 : (if (most : Int) < 0 then (0 : Int) else most) = most := ZV
 go_enter Tryz.func15, Tryz.ntmps15
 go_wp2;go_ret;exact ⟨rfl, hN.out, zB⟩
theorem TC {w1 w2 : World} {g base most : Nat} {J D : List UInt8} {a : Option Addr} {c : Nat} {a' : Option Addr} {c' : Nat} (h : BR w1 g base most J a c) (hfit : J.length + D.length ≤ most) (hlen : J.length + D.length ≤ 100000000000000)
  (hown : w2.ownsRow base 5 1 (.slice a' (J.length + D.length) c') (J.length + D.length) (byteCells J ++ byteCells D)) (hgrow : w1.grownBy w2 (Value.slice a J.length c).ownBlock)
  (hat : (Value.slice a' (J.length + D.length) c').ownBlock = (Value.slice a J.length c).ownBlock ∨ (Value.slice a' (J.length + D.length) c').ownBlock = some w1.heap.size) :
  At w1 g base most (J ++ D) a (w2.setCell ⟨g, 1, none⟩ (.slice a' (J.length + D.length) c')) := by
 have hg := h.blk.lt
 have hs := hgrow.size
 have hn2 : (Value.slice a' (J.length + D.length) c').ownBlock ≠ some g := fun e => by
  rcases hat with h1 | h1
  ·rw [h1] at e; exact h.ne e
  ·rw [h1] at e; simp at e; omega
 have hsz : (w2.setCell ⟨g, 1, none⟩ (.slice a' (J.length + D.length) c')).heap.size = w2.heap.size := ZT
 have hll : (J ++ D).length = J.length + D.length := Ag
 have hbb : byteCells (J ++ D) = byteCells J ++ byteCells D := zAp
 refine ⟨a', c', ⟨?_, ?_, ?_, h.lo, zC, h.most, zC⟩, ?_, ?_⟩
 ·rw [hll]
  exact (h.blk.grown hgrow (fun e => h.ne e.symm)).set 1 _
 ·rw [hll, hbb]
  exact Gm hown fun q hq => AM w2 _ _ q (fun e => hn2 (by rw [hq, e]))
 ·rw [hll]; exact hn2
 ·refine ⟨hgrow.os, hgrow.tape, hgrow.output, by rw [hsz]; exact hs, fun q hq hf => ?_⟩
  rw [FW] at hf
  exact (AM w2 _ _ q (fun e => hf (.inl e))).trans (hgrow.block q hq (fun e => hf (.inr (by rw [JX] at e; exact e.symm))))
 ·rw [JX, JX] at hat
  rcases hat with h1 | h1
  ·exact .inl h1
  ·exact .inr ⟨_, h1, Ak _⟩
theorem Fl (w : World) {g base most : Nat} {J : List UInt8} {a : Option Addr} {c : Nat} (h : BR w g base most J a c) (D : List UInt8) (ad : Option Addr) (nd cd : Nat) (hD : Ah.r (· < w.heap.size) w [.slice ad nd cd] D) (hfit : J.length + D.length ≤ most) (hlen : J.length + D.length ≤ 100000000000000) :
  Calls Tryz.prog 68 #[.pointer (some ⟨g, 0, none⟩), .slice ad nd cd] w fun r w' => r = .returned (.tuple #[]) ∧ At w g base most (J ++ D) a w' := by
 obtain ⟨rfl, hm, _, _⟩ := AS hD
 obtain ⟨i0, hi, hz0, hz1, hz2⟩ := A8 Dz
 have HC := hid (Jl w h)
 have HR := hid (TA w h)
 have HP := hid h
 have HD := hid hD
 have HONE := hid (AI D)
 have hmo := h.most
 have d1 : decide ((most : Int) - (J.length : Int) < (D.length : Int)) = false := zJ
 clear h hD;go_enter Tryz.func68, Tryz.ntmps68
 go_wp2_with fail;refine HC.out.mono ?_
 rintro r w0 ⟨rfl, rfl⟩;go_wp2_with fail;refine HR.out.mono ?_
 rintro r w1 ⟨rfl, hb1⟩;have hP1 := HP.out.later hb1
 have c1 : w1.cell? ⟨g, 1, none⟩ = some (.slice a J.length c) := hP1.blk.cell 1
 have hg1 := hP1.blk.lt
 have f1 := hP1.blk.free 1
 have hne := hP1.ne
 have hlo := hP1.lo
 have HP1 := hid hP1
 have HS := hid (A5 (lift HD.out hb1))
 clear hP1;go_wp2_with (at_builtin; go_loud (refine Aq rfl _ _ _ rfl base 5 i0 (.int .u8 0) 1 1 As hi hz0 hz1 hz2 rfl zP (.slice a J.length c) J.length (byteCells J) rfl HP1.out.own ad D.length cd (byteCells D) rfl HS.out HONE.out zK zC zC ?_; intro v' w2 hown2 hgrow2 hat2; obtain ⟨a', c', rfl⟩ := AA hown2; have f2 := (Cy (a := ⟨g, 1, none⟩) (hgrow2.block g hg1 (fun e => hne e.symm))).trans f1; have e2 := (Bz (a := ⟨g, 1, none⟩) (hgrow2.block g hg1 (fun e => hne e.symm))).trans c1; have hz2' : g < w2.heap.size := Ai hg1 hgrow2.size; have HG := hid hgrow2; have HO := hid hown2; have HAT := hid hat2; clear hgrow2 hown2 hat2))
 have hst := At.later hb1 (TC HP1.out hfit hlen HO.out HG.out HAT.out)
 have HST := hid hst
 clear hst;go_wp2;go_end0
 exact ⟨rfl, HST.out⟩
theorem Iw (w : World) {g base most : Nat} {J : List UInt8} {a : Option Addr} {c : Nat} (h : BR w g base most J a c) :
  Calls Tryz.prog 17 #[.pointer (some ⟨g, 0, none⟩)] w fun r w' => ∃ v, r = .returned (.tuple #[v, .int .i64 0]) ∧ Ah.r (fun q => w.heap.size ≤ q ∧ q < w'.heap.size) w' [v] J ∧ Below w.heap.size w w' := by
 obtain ⟨i0, hi, hz0, hz1, hz2⟩ := A8 Dz
 have HC := hid (Jl w h)
 have hB := B9 rfl h.own
 obtain ⟨_, hm, _, _⟩ := AS hB
 have HD := hid (Ah.mono hB (S' := (· < w.heap.size)) fun q hq => hq.2)
 have HONE := hid (AI J)
 have c1 : w.cell? ⟨g, 1, none⟩ = some (.slice a J.length c) := h.blk.cell 1
 have hg1 := h.blk.lt
 have hle := h.le; have hmo := h.most; have hle14 := h.len
 clear h hB;go_enter Tryz.func17, Tryz.ntmps17
 go_wp2_with fail;refine HC.out.mono ?_
 rintro r w0 ⟨rfl, rfl⟩;go_wp2_with (at_builtin; go_loud (refine Aq rfl _ _ _ rfl w.heap.size 5 i0 (.int .u8 0) 1 1 As hi hz0 hz1 hz2 rfl zP _ 0 [] rfl (EI _ (Ak _) rfl) a J.length c (byteCells J) rfl (A5 (lift HD.out zB)) HONE.out zK zC zO ?_; intro v' w1 hown1 hgrow1 hat1; rw [A3, Bj] at hown1; obtain ⟨a', c', rfl⟩ := AA hown1; have HG := hid hgrow1; have HO := hid hown1; clear hgrow1 hown1 hat1))
 have hA := B9 rfl HO.out
 have hb1 : Below w.heap.size w w1 := Below.grown zB HG.out zO (fun g e => by
  have e' : some w.heap.size = some g := e
  injection e' with e'
  omega)
 have HA := hid hA
 clear hA;go_ret2
 exact ⟨_, rfl, HA.out, hb1⟩
def Cs (t : Tok) : Bool := EY t || GL t
theorem Ks (x : Tok) (a : Option Addr) (c : Nat) (w : World) (hl : x.lit.length ≤ 9223372036854775807) (h1 : -9223372036854775808 ≤ x.off ∧ x.off ≤ 9223372036854775807) (h2 : -9223372036854775808 ≤ x.len ∧ x.len ≤ 9223372036854775807) :
  Calls Tryz.prog 277 #[.agg #[.slice a x.lit.length c, .int .i64 x.off, .int .i64 x.len]] w fun r w' => r = .returned (.bool (Cs x)) ∧ Below w.heap.size w w' := by
 obtain ⟨D, o, m⟩ := x
 dsimp only at *;by_cases k0 : o = 0
 ·skip
  have k0_0 : (o == 0) = true := beq_iff_eq.2 zC
  by_cases k1 : m = 0
  ·skip
   have k1_0 : (m == 0) = true := beq_iff_eq.2 zC
   by_cases k2 : 1 ≤ D.length
   ·skip
    have k2_0 : decide ((1 : Int) ≤ (D.length : Int)) = true := Ae zC
    have k2_1 : decide (1 ≤ D.length) = true := Ae zC
    by_cases k3 : D.length ≤ 1048576
    ·skip
     have k3_0 : decide ((D.length : Int) ≤ 1048576) = true := Ae zC
     have k3_1 : decide (D.length ≤ 1048576) = true := Ae zC
     have hff : Hid (Cs ⟨D, o, m⟩ = true) := hid (by simp only [Cs, EY, GL, Df, Ao, Ar]; first | omega | (simp; omega))
     clear hl h1 h2;go_enter F8, E0
     go_wp2;go_ret;exact ⟨zH, zB⟩
    ·skip
     have k3_0 : decide ((D.length : Int) ≤ 1048576) = false := Ad zC
     have k3_1 : decide (D.length ≤ 1048576) = false := Ad zC
     have hff : Hid (Cs ⟨D, o, m⟩ = false) := hid (by rw [← FK]; simp only [Cs, EY, GL, Df, Ao, Ar]; first | omega | (simp; omega))
     clear hl h1 h2;go_enter F8, E0
     go_wp2;go_ret;exact ⟨zH, zB⟩
   ·skip
    have k2_0 : decide ((1 : Int) ≤ (D.length : Int)) = false := Ad zC
    have k2_1 : decide (1 ≤ D.length) = false := Ad zC
    have hff : Hid (Cs ⟨D, o, m⟩ = false) := hid (by rw [← FK]; simp only [Cs, EY, GL, Df, Ao, Ar]; first | omega | (simp; omega))
    clear hl h1 h2;go_enter F8, E0
    go_wp2;go_ret;exact ⟨zH, zB⟩
  ·skip
   have k1_0 : (m == 0) = false := beq_eq_false_iff_ne.2 zC
   have hff : Hid (Cs ⟨D, o, m⟩ = false) := hid (by rw [← FK]; simp only [Cs, EY, GL, Df, Ao, Ar]; first | omega | (simp; omega))
   clear hl h1 h2;go_enter F8, E0
   go_wp2;go_ret;exact ⟨zH, zB⟩
 ·skip
  have k0_0 : (o == 0) = false := beq_eq_false_iff_ne.2 zC
  by_cases k4 : 0 < D.length
  ·skip
   have k4_0 : decide ((0 : Int) < (D.length : Int)) = true := Ae zC
   have k4_1 : decide (0 < D.length) = true := Ae zC
   have hff : Hid (Cs ⟨D, o, m⟩ = false) := hid (by rw [← FK]; simp only [Cs, EY, GL, Df, Ao, Ar]; first | omega | (simp; omega))
   clear hl h1 h2;go_enter F8, E0
   go_wp2;go_ret;exact ⟨zH, zB⟩
  ·skip
   obtain rfl : D = [] := AT zC
   simp only [Bu] at *
   by_cases k5 : o < 0
   ·skip
    have k5_0 : decide (o < 0) = true := Ae zC
    have hff : Hid (Cs ⟨[], o, m⟩ = false) := hid (by rw [← FK]; simp only [Cs, EY, GL, Df, Ao, Ar, Bu]; first | omega | (simp; omega))
    clear hl h1 h2;go_enter F8, E0
    go_wp2;go_ret;exact ⟨zH, zB⟩
   ·skip
    have k5_0 : decide (o < 0) = false := Ad zC
    by_cases k6 : 65536 < o
    ·skip
     have k6_0 : decide ((65536 : Int) < o) = true := Ae zC
     have hff : Hid (Cs ⟨[], o, m⟩ = false) := hid (by rw [← FK]; simp only [Cs, EY, GL, Df, Ao, Ar, Bu]; first | omega | (simp; omega))
     clear hl h1 h2;go_enter F8, E0
     go_wp2;go_ret;exact ⟨zH, zB⟩
    ·skip
     have k6_0 : decide ((65536 : Int) < o) = false := Ad zC
     by_cases k7 : 4 ≤ m
     ·skip
      have k7_0 : decide ((4 : Int) ≤ m) = true := Ae zC
      by_cases k8 : m ≤ 1048576
      ·skip
       have k8_0 : decide (m ≤ 1048576) = true := Ae zC
       have hff : Hid (Cs ⟨[], o, m⟩ = true) := hid (by simp only [Cs, EY, GL, Df, Ao, Ar, Bu]; first | omega | (simp; omega))
       clear hl h1 h2;go_enter F8, E0
       go_wp2;go_ret;exact ⟨zH, zB⟩
      ·skip
       have k8_0 : decide (m ≤ 1048576) = false := Ad zC
       have hff : Hid (Cs ⟨[], o, m⟩ = false) := hid (by rw [← FK]; simp only [Cs, EY, GL, Df, Ao, Ar, Bu]; first | omega | (simp; omega))
       clear hl h1 h2;go_enter F8, E0
       go_wp2;go_ret;exact ⟨zH, zB⟩
     ·skip
      have k7_0 : decide ((4 : Int) ≤ m) = false := Ad zC
      have hff : Hid (Cs ⟨[], o, m⟩ = false) := hid (by rw [← FK]; simp only [Cs, EY, GL, Df, Ao, Ar, Bu]; first | omega | (simp; omega))
      clear hl h1 h2;go_enter F8, E0
      go_wp2;go_ret;exact ⟨zH, zB⟩
theorem B6 (w : World) {g base most : Nat} {J : List UInt8} {a : Option Addr} {c : Nat} (h : BR w g base most J a c) (x : Nat) (hx : x < 18446744073709551616) (hfit : J.length + (Ay x).length ≤ most) (hlen : J.length + (Ay x).length ≤ 100000000000000) :
  Calls Tryz.prog 66 #[.pointer (some ⟨g, 0, none⟩), .int .u64 x] w fun r w' => r = .returned (.tuple #[]) ∧ At w g base most (J ++ Ay x) a w' := by
 have HV := hid (No x hx w)
 have HP := hid h
 clear h;go_enter Tryz.func66, Tryz.ntmps66
 go_wp2_with fail;refine HV.out.mono ?_
 rintro r w1 ⟨v, rfl, hr, hb1⟩;obtain ⟨a1, c1, hv, hr2, _⟩ := AN hr
 simp only [Au, AO] at hv
 subst hv;have HQ := hid (Fl w1 (HP.out.later hb1) (Ay x) a1 _ c1 (Ah.mono hr2 fun q hq => hq.2) hfit hlen)
 clear hr hr2;go_wp2_with fail;refine HQ.out.mono ?_
 rintro r w2 ⟨rfl, hst⟩;have HST := hid (At.later hb1 hst)
 clear hst;go_wp2;first | go_end0 | refine Al (Aw rfl _ _ _) rfl ?_
 exact ⟨rfl, HST.out⟩
def IT (t : Tok) : List UInt8 := if EY t then Ay (2 * t.lit.length - 2) ++ t.lit else Ay (2 * t.len.toNat - 7) ++ Ay (t.off.toNat - 1)
theorem Ll (D : List UInt8) (h1 : 1 ≤ D.length) (h2 : D.length ≤ 1048576) : IT ⟨D, 0, 0⟩ = Ay (2 * D.length - 2) ++ D := by
 unfold IT;rw [Am]
 simp [EY]; omega
theorem JR (o m : Nat) (h1 : 1 ≤ o) : IT ⟨[], (o : Int), (m : Int)⟩ = Ay (2 * m - 7) ++ Ay (o - 1) := by
 unfold IT;rw [An]
 ·simp
 ·simp [EY]
theorem BR.Eo {w : World} {g base most : Nat} {J : List UInt8} {a : Option Addr} {c : Nat} (h : BR w g base most J a c) {q : Nat} (hq : Dr g a q) : base ≤ q ∧ q < w.heap.size := by
 rcases hq with rfl | ⟨p, hp, rfl⟩
 ·exact ⟨h.lo, h.blk.lt⟩
 ·subst hp
  exact h.own.lt _ rfl
theorem Ml (w : World) {g base most : Nat} {J : List UInt8} {a : Option Addr} {c : Nat} (h : BR w g base most J a c) (D : List UInt8) (h1 : 1 ≤ D.length) (h2 : D.length ≤ 1048576) (ad : Option Addr) (cd : Nat)
  (hD : Ah.r (fun q => q < w.heap.size ∧ ¬ Dr g a q) w [.slice ad D.length cd] D) (hfit : J.length + (IT ⟨D, 0, 0⟩).length ≤ most) (hlen : J.length + (IT ⟨D, 0, 0⟩).length ≤ 100000000000000) :
  Calls Tryz.prog 268 #[.pointer (some ⟨g, 0, none⟩), .agg #[.slice ad D.length cd, .int .i64 0, .int .i64 0]] w fun r w' => r = .returned (.tuple #[]) ∧ At w g base most (J ++ IT ⟨D, 0, 0⟩) a w' := by
 have HR := hid (fun (W : World) => Ks ⟨D, 0, 0⟩ ad cd W zN ⟨zO, zO⟩ ⟨zO, zO⟩)
 have hr : Cs ⟨D, 0, 0⟩ = true := by simp [Cs, EY]; omega
 rw [hr] at HR
 have hT := Ll D h1 h2
 rw [hT] at hfit hlen ⊢
 rw [Ag] at hfit hlen
 have HV := hid (fun (W : World) (hW : Below w.heap.size w W) => B6 W (h.later hW) (2 * D.length - 2) zC zC zC)
 have hno := fun q (hq : Dr g a q) => (h.Eo hq).2
 have HNO := hid hno
 have HD := hid hD
 have hfit' := hid hfit; have hlen' := hid hlen
 have e0 : (((2 * D.length - 2 : Nat)) : Int) = ((D.length : Int) - 1) * 2 := zC
 rw [e0] at HV
 clear hr hT h hD hno hfit hlen;go_enter Tryz.func268, Tryz.ntmps268
 go_wp2_with fail;refine (HR.out _).mono ?_
 rintro r w1 ⟨rfl, hb1⟩;have B1 : Blk w1 w.heap.size 225 #[.slice ad D.length cd, .int .i64 0, .int .i64 0] := (Blk.new w _ _).later hb1
 have x0 : w1.cell? ⟨w.heap.size, 0, none⟩ = some (.slice ad D.length cd) := B1.cell 0
 have x1 : w1.cell? ⟨w.heap.size, 1, none⟩ = some (.int .i64 0) := B1.cell 1
 have hbw1 : Below w.heap.size w w1 := zB
 go_wp2_with fail;refine (HV.out _ hbw1).mono ?_
 rintro r w2 ⟨rfl, a2, c2, hp2, ht2, ha2⟩;have B2 := B1.tch ht2 (fun hf => by have := HNO.out _ hf; omega)
 have y0 : w2.cell? ⟨w.heap.size, 0, none⟩ = some (.slice ad D.length cd) := B2.cell 0
 have hs1 := hbw1.size
 have hD2 : Ah.r (· < w2.heap.size) w2 [.slice ad D.length cd] D := Ah.mono (Ah.keep HD.out fun q hq => (ht2.block q zC hq.2).trans (hbw1.block q hq.1)) fun q hq => Ai hq.1 (by have := ht2.size; omega)
 have HQ := hid (Fl w2 hp2 D ad _ cd hD2 zAu zAt)
 clear x0 x1 hD2;go_wp2_with fail;refine HQ.out.mono ?_
 rintro r w3 ⟨rfl, hst⟩;have hst2 := At.later hbw1 (At.trans (J := J) ht2 ha2 hst)
 rw [Av] at hst2
 have HST := hid hst2
 clear hst hst2;go_wp2;first | go_end0 | refine Al (Aw rfl _ _ _) rfl ?_
 exact ⟨rfl, HST.out⟩
theorem Lk (w : World) {g base most : Nat} {J : List UInt8} {a : Option Addr} {c : Nat} (h : BR w g base most J a c) (o m : Nat) (h1 : 1 ≤ o) (h2 : o ≤ 65536) (h3 : 4 ≤ m) (h4 : m ≤ 1048576) (ad : Option Addr) (cd : Nat)
  (hfit : J.length + (IT ⟨[], (o : Int), (m : Int)⟩).length ≤ most) (hlen : J.length + (IT ⟨[], (o : Int), (m : Int)⟩).length ≤ 100000000000000) :
  Calls Tryz.prog 268 #[.pointer (some ⟨g, 0, none⟩), .agg #[.slice ad 0 cd, .int .i64 o, .int .i64 m]] w fun r w' => r = .returned (.tuple #[]) ∧ At w g base most (J ++ IT ⟨[], (o : Int), (m : Int)⟩) a w' := by
 have HR := hid (fun (W : World) => Ks ⟨[], (o : Int), (m : Int)⟩ ad cd W zO zN zN)
 have hr : Cs ⟨[], (o : Int), (m : Int)⟩ = true := by simp [Cs, GL]; omega
 rw [hr] at HR
 have hT := JR o m h1
 rw [hT] at hfit hlen ⊢
 rw [Ag] at hfit hlen
 have HV := hid (fun (W : World) (hW : Below w.heap.size w W) => B6 W (h.later hW) (2 * m - 7) zC zC zC)
 have hno := fun q (hq : Dr g a q) => (h.Eo hq).2
 have HNO := hid hno
 have hfit' := hid hfit; have hlen' := hid hlen
 have e0 : (((2 * m - 7 : Nat)) : Int) = ((m : Int) - 4) * 2 + 1 := zC
 rw [e0] at HV
 have d1 : ((o : Int) == 0) = false := zJ
 have d2 : (o == 0) = false := zJ
 simp only [Bu] at HR
 clear hr hT h hno hfit hlen;go_enter Tryz.func268, Tryz.ntmps268
 go_wp2_with fail;refine (HR.out _).mono ?_
 rintro r w1 ⟨rfl, hb1⟩;have B1 : Blk w1 w.heap.size 225 #[.slice ad 0 cd, .int .i64 o, .int .i64 m] := (Blk.new w _ _).later hb1
 have x1 : w1.cell? ⟨w.heap.size, 1, none⟩ = some (.int .i64 o) := B1.cell 1
 have x2 : w1.cell? ⟨w.heap.size, 2, none⟩ = some (.int .i64 m) := B1.cell 2
 have hbw1 : Below w.heap.size w w1 := zB
 go_wp2_with fail;refine (HV.out _ hbw1).mono ?_
 rintro r w2 ⟨rfl, a2, c2, hp2, ht2, ha2⟩;have B2 := B1.tch ht2 (fun hf => by have := HNO.out _ hf; omega)
 have y1 : w2.cell? ⟨w.heap.size, 1, none⟩ = some (.int .i64 o) := B2.cell 1
 have HQ := hid (B6 w2 hp2 (o - 1) zC zAu zAt)
 rw [show ((o - 1 : Nat) : Int) = (o : Int) - 1 by omega] at HQ
 clear x1 x2;go_wp2_with fail;refine HQ.out.mono ?_
 rintro r w3 ⟨rfl, hst⟩;have hst2 := At.later hbw1 (At.trans (J := J) ht2 ha2 hst)
 rw [Av] at hst2
 have HST := hid hst2
 clear hst hst2;go_wp2;first | go_end0 | refine Al (Aw rfl _ _ _) rfl ?_
 exact ⟨rfl, HST.out⟩
def Fw (xs : List Tok) : Nat := (xs.map fun t => t.lit.length + 20).sum
def BX (xs : List Tok) : List UInt8 := (xs.map IT).flatten
theorem LC (xs : List Tok) (k : Nat) (h : k < xs.length) : Fw (xs.take (k + 1)) = Fw (xs.take k) + (xs[k].lit.length + 20) := by
 unfold Fw;rw [AU h, CS, List.sum_append]; simp
theorem Jc (xs : List Tok) (k : Nat) (h : k < xs.length) : BX (xs.take (k + 1)) = BX (xs.take k) ++ IT xs[k] := by
 unfold BX;rw [AU h, CS, Dy]; simp
theorem Jh (xs : List Tok) (hL : ∀ t ∈ xs, t.lit.length ≤ 1048576) (k : Nat) (hk : k ≤ xs.length) : Fw (xs.take k) ≤ k * 1048596 := by
 induction k with
 | zero => simp [Fw]
 | succ k ih =>
  rw [LC xs k zC]
  have := ih zC
  have := hL _ (Bl (show k < xs.length by omega))
  omega
theorem PY (xs : List Tok) (k : Nat) : Fw (xs.take k) ≤ Fw xs := by
 have : Fw xs = Fw (xs.take k) + Fw (xs.drop k) := by
  unfold Fw;conv => lhs; rw [← EC k xs]
  rw [CS, List.sum_append]
 omega
theorem S9 (t : Tok) : (IT t).length ≤ t.lit.length + 20 := by
 unfold IT;split
 ·rw [Ag]; have := AX (2 * t.lit.length - 2); omega
 ·rw [Ag]; have := AX (2 * t.len.toNat - 7); have := AX (t.off.toNat - 1); omega
theorem H6 (xs : List Tok) : (BX xs).length ≤ Fw xs := by
 unfold BX Fw;induction xs with
 | nil => simp
 | cons t xs ih => simp only [D7, Dx, Ag, List.sum_cons]; have := S9 t; omega
theorem RV : (Ay 18446744073709551615).length = 10 := zE
theorem Fx {t : Tok} (h : Cs t = true) : (∃ D, t = ⟨D, 0, 0⟩ ∧ 1 ≤ D.length ∧ D.length ≤ 1048576) ∨ ∃ o m : Nat, t = ⟨[], (o : Int), (m : Int)⟩ ∧ 1 ≤ o ∧ o ≤ 65536 ∧ 4 ≤ m ∧ m ≤ 1048576 := by
 obtain ⟨D, o, m⟩ := t
 simp only [Cs, EY, GL, Df, Ao, Ar] at h
 rcases h with ⟨rfl, rfl, h1, h2⟩ | ⟨h0, h1, h2, h3, h4⟩
 ·exact .inl ⟨D, rfl, h1, h2⟩
 ·refine .inr ⟨o.toNat, m.toNat, ?_, zC, zC, zC, zC⟩
  rw [AT h0, Int.toNat_of_nonneg zC, Int.toNat_of_nonneg zC]
theorem PK (xs : List Tok) (a : Option Addr) (n c : Nat) (w : World) (hl : KH.r (· < w.heap.size) w [.slice a n c] xs) (hx : xs.length ≤ 10000000) (hL : ∀ t ∈ xs, t.lit.length ≤ 1048576) :
  Calls Tryz.prog 267 #[.slice a n c] w fun r w' => r = .returned (.int .i64 (Fw xs)) ∧ Below w.heap.size w w' := by
 obtain ⟨rfl, hm, _, _⟩ := AS hl
 have HL := hid hl; clear hl
 go_enter Tryz.func267, Tryz.ntmps267
 go_wp2_with fail;go_loopw [3, 8] (fun s i wr => ∃ k : Nat, k ≤ xs.length ∧ i = .int .i64 k ∧ (∃ t : Nat, s = .int .i64 t ∧ Hid (t = Fw (xs.take k))) ∧ Below w.heap.size w wr) (fun _ i _ => xs.length - (intOf i).toNat)
 case atStart => exact ⟨0, Aj _, rfl, ⟨0, rfl, hid (by simp [Fw])⟩, Below.refl _ _⟩
 case round =>
  obtain ⟨k, hk, rfl, ⟨t, rfl, ht⟩, hb⟩ := hrel
  rcases Bd k xs.length with hlt | hge
  ·obtain ⟨b, o, hA, hbb, a2, c2, x0, x1, x2, _, _, _⟩ := Nr HL.out hlt
   subst hA;have X0 := (hb.cell (p := ⟨b, o + k * 3, none⟩) hbb).trans x0
   have X1 := (hb.cell (p := ⟨b, o + k * 3 + 1, none⟩) hbb).trans x1
   have X2 := (hb.cell (p := ⟨b, o + k * 3 + 2, none⟩) hbb).trans x2
   have hn := hid (LC xs k hlt)
   have hle := Jh xs hL k zC
   have hD := hL _ (Bl hlt)
   rw [← ht.out] at hle
   clear x0 x1 x2;generalize xs[k] = y at *
   obtain ⟨D, yo, ym⟩ := y
   dsimp only at *;have hbs := hb.size
   have i1 : (k : Int) < (xs.length : Int) := zC
   go_wp2_with fail;refine GQ (fun W => Below wr.heap.size wr W ∧ wr.heap.size < W.heap.size ∧ W.cell? ⟨wr.heap.size, 0, none⟩ = some (.slice a2 D.length c2)) ⟨zB, zO, by go_simp⟩ ?_
   intro W ⟨hbW, hzW, u0⟩;have U0 := fun s : A1 W => s.cell u0
   have HS := hid (fun s : A1 W => Kp 18446744073709551615 zC s.at_)
   rw [RV] at HS
   have hbw := Af hbW hb
   clear X0 X1 X2 u0;refine Ax zG zG ?_
   repeat (go_big_quiet_step (((go_at_call 249; exact Be (HS.out _)))))
   refine AL ?_
   rintro W5 ⟨⟨W5', hb5⟩, rfl⟩;go_wp2;go_roundw
   case rel => exact ⟨k + 1, zC, zV, ⟨t + (D.length + 20), zV, hid (by rw [hn.out, ht.out])⟩, Af hb5 hbw⟩
   case measure => simp [intOf]; omega
  ·obtain rfl : k = xs.length := by omega
   rw [Es] at ht
   go_wp2;go_ret;exact ⟨by rw [← ht.out]; rfl, hb⟩
end Go.Proofs.YtlbffbkbkajciaaGreat
