/- Mini: Needed by rpcTells_walk, part 7: texts put together by shake.py; no condition. -/
import Derived.Test.YtlbffbkbkajciaaGreatZR4
import Derived.Test.YtlbffbkbkajciaaGreatZR6
import Derived.Test.YtlbffbkbkajciaaGreatZR3
import Derived.Laws.Bits64
import Derived.Deep.AppendLies
import Derived.Deep.RegionLaw
import Derived.Test.YtlbffbkbkajciaaGreatZR2
import Derived.Test.YtlbffbkbkajciaaGreatZR5
import Derived.Test.YtlbffbkbkajciaaGreatZR1
import Derived.Deep.Cut
import Derived.Deep.CutRange
set_option linter.unusedVariables false
set_option linter.unusedSimpArgs false
set_option maxRecDepth 100000
set_option maxHeartbeats 6400000
namespace Go.Bs
theorem zCb{p:Prop}(h:p:=by simp [results, Tryz.results213, go_sem, y0, y1, l1]):p:=h
theorem zA8{p:Prop}(h:p:=by have := HV.out; omega):p:=h
theorem Gz:type_of% @Proofs.Tryz.ntmps231:=@Proofs.Tryz.ntmps231
theorem Ho:type_of% @Proofs.Tryz.func231:=@Proofs.Tryz.func231
end Go.Bs
namespace Go.Proofs.YtlbffbkbkajciaaGreat
open Go.RowKit Go.Bs Go.Maps
theorem Mz (rest : List UInt8) : ∀ (f i x y : Nat), f + i = 9 → (0 < i → 0 < x) → x * 128 ^ i < 18446744073709551616 → DY i y (Fb f x ++ rest) = (y + x * 128 ^ i, i + (Fb f x).length, 0)
 | 0, i, x, y, h, hp, hx => by
  obtain rfl : i = 9 := zC
  have hx2 : x < 2 := zC
  have ht : (UInt8.ofNat x).toNat = x := zJ
  have := hp zC
  simp only [Fb, Et, Bj, AQ, Bu]
  unfold DY;rw [ht, An zC, An zC, Am zC]
 | f + 1, i, x, y, h, hp, hx => by
  simp only [Fb]
  by_cases h128 : x < 128
  ·rw [Am h128]
   have ht : (UInt8.ofNat x).toNat = x := zJ
   simp only [Et, Bj, AQ, Bu]
   unfold DY;rw [ht, An zC, An zC, Am zC]
  ·rw [An h128]
   have ht : (UInt8.ofNat (128 + x % 128)).toNat = 128 + x % 128 := zJ
   simp only [Et, AQ]
   unfold DY;rw [ht, An zC, An zC, An zC]
   have hdm : x = 128 * (x / 128) + x % 128 := (Nat.div_add_mod x 128).symm
   have he : x / 128 * 128 ^ (i + 1) + x % 128 * 128 ^ i = x * 128 ^ i := by
    rw [CL]
    generalize 128 ^ i = k
    conv => rhs; rw [hdm]
    rw [Nat.add_mul, De k 128, ← Nat.mul_assoc, De 128]
   rw [Mz rest f (i + 1) (x / 128) _ zC (fun _ => zC) zC]
   refine Prod.ext ?_ (Prod.ext ?_ rfl)
   ·dsimp only
    rw [show (128 + x % 128) % 128 = x % 128 by omega]
    omega
   ·dsimp only; omega
theorem RT (x : Nat) (rest : List UInt8) (hx : x < 18446744073709551616) : DY 0 0 (Ay x ++ rest) = (x, (Ay x).length, 0) := by
 have := Mz rest 9 0 x 0 rfl (fun h => zC) (by simpa using hx)
 unfold Ay;rw [this]; simp
theorem Rs.Dm {B rest : List UInt8} {p x : Nat} (hx : x < 18446744073709551616) (h : B.drop p = Ay x ++ rest) : (⟨p, 0, 0⟩ : Rs).num B = (⟨p + (Ay x).length, 0, 0⟩, x) := by
 unfold Rs.num;rw [Am rfl]
 dsimp only;rw [h, RT x rest hx]
 rfl
theorem Bi {B D rest : List UInt8} {p : Nat} (h : B.drop p = D ++ rest) : B.drop (p + D.length) = rest := by
 rw [← List.drop_drop, h]; simp
theorem Bf {B D rest : List UInt8} {p : Nat} (h : B.drop p = D ++ rest) (hp : p ≤ B.length) : p + D.length + rest.length = B.length := by
 have := D8 List.length h
 simp at this
 omega
theorem Rs.H7 {B D rest : List UInt8} {p : Nat} (h : B.drop p = D ++ rest) (hp : p ≤ B.length) : (⟨p, 0, 0⟩ : Rs).take B (D.length : Int) = (⟨p + D.length, 0, 0⟩, D) := by
 have hr := Bf h hp
 unfold Rs.take Rs.skip;rw [Am rfl, An zC, An zN]
 simp [h]
theorem Rs.JD {B rest : List UInt8} {p : Nat} {x : UInt8} (h : B.drop p = x :: rest) (hp : p ≤ B.length) : (⟨p, 0, 0⟩ : Rs).byte B = (⟨p + 1, 0, 0⟩, x) := by
 have hr := Bf (D := [x]) h hp
 simp at hr
 have hx : B.getD p 0 = x := by
  have : (B.drop p)[0]? = some x := by rw [h]; rfl
  simp at this
  simp [List.getD, this]
 unfold Rs.byte Rs.skip;rw [Am rfl, An zC, An zN]
 dsimp only;rw [Am rfl, hx]
 rfl
theorem Rs.FY {B rest : List UInt8} {p x : Nat} {m : Int} (hx : x < 18446744073709551616) (h : B.drop p = Ay x ++ rest) (hm : (x : Int) ≤ m) : (⟨p, 0, 0⟩ : Rs).int B m = (⟨p + (Ay x).length, 0, 0⟩, x) := by
 unfold Rs.int Rs.most;rw [Am zC, Rs.Dm hx h, An zN]
theorem Rs.Mf {B D rest : List UInt8} {p : Nat} {m : Int} (hx : D.length < 18446744073709551616) (h : B.drop p = Cg D ++ rest) (hp : p ≤ B.length) (hm : (D.length : Int) ≤ m) : (⟨p, 0, 0⟩ : Rs).Er B m = (⟨p + (Cg D).length, 0, 0⟩, D) := by
 unfold Cg at h;rw [Av] at h
 have h2 := Bi h
 have hr := Bf h hp
 unfold Rs.Er;rw [Rs.FY hx h hm]
 dsimp only;rw [Rs.H7 h2 zC]
 simp [Cg, Bw]
theorem KV {b : List UInt8} {o : Nat} : ∀ (m p : Nat), p + m ≤ b.length → 1 ≤ o → o ≤ p → (∀ k, k < m → b[p + k]? = b[p + k - o]?) → FR o m (b.take p) = b.take (p + m)
 | 0, p, _, _, _, _ => rfl
 | m + 1, p, h, h1, h2, hs => by
  have h0 := hs 0 zC
  have hb : b[p]? = some b[p] := zO
  simp only [BE] at h0
  have e : b.take p ++ [(b.take p).getD ((b.take p).length - o) 0] = b.take (p + 1) := by
   rw [K2, Nat.min_eq_left zC]
   have : (b.take p).getD (p - o) 0 = b[p] := by
    have : (b.take p)[p - o]? = some b[p] := by rw [List.getElem?_take_of_lt zC, ← h0, hb]
    simp [List.getD, this]
   rw [this]
   rw [List.take_add_one, hb]; rfl
  simp only [FR]
  rw [e, KV m (p + 1) zC h1 zC (fun k hk => by
   have := hs (k + 1) zC
   rw [show p + 1 + k = p + (k + 1) by omega]
   exact this)]
  rw [show p + 1 + m = p + (m + 1) by omega]
theorem T9 {b B : List UInt8} {bound : Int} (hb : b.length ≤ 1048576) (hbd : (b.length : Int) ≤ bound) {f : Bool} {p : Nat} {ts : List Tok} (hg : Good b f p ts) : p ≤ b.length → ∀ q, q ≤ B.length → B.drop q = BX ts → exR B bound ⟨q, 0, 0⟩ (b.take p) = (⟨B.length, 0, 0⟩, b) := by
 induction hg with
 | nil =>
  intro _ q hq h;have : B.length ≤ q := by simpa [BX] using h
  obtain rfl : q = B.length := zC
  rw [JC zO]
  simp
 | @copy f p o m rest hp hbe hm hg ih =>
  intro _ q hq h;rcases EJ b p with h0 | ⟨o', m', he, h1, h2, h4, hml, _, _⟩
  ·rw [hbe] at h0; simp at h0; omega
  ·rw [hbe] at he
   simp only [Ci] at he
   obtain ⟨rfl, rfl⟩ := he
   have hmb := Iy b p o
   have hre : reach p ≤ p ∧ reach p ≤ 65536 := zAr
   have ht : BX (⟨[], (o : Int), (m : Int)⟩ :: rest) = Ay (2 * m - 7) ++ (Ay (o - 1) ++ BX rest) := by
    simp only [BX, D7, Dx]
    rw [JR o m h1, Av]
   rw [ht] at h
   have hd1 := Bi h
   have hr1 := Bf h hq
   have hd2 := Bi hd1
   have hr2 := Bf hd1 zC
   have hl1 := (AX (2 * m - 7)).2
   have hN := Rs.Dm zC h
   have hN2 := Rs.Dm (p := q + (Ay (2 * m - 7)).length) zC hd1
   have hH : (⟨q, 0, 0⟩ : Rs).head B = (⟨q + (Ay (2 * m - 7)).length, 0, 0⟩, true, m) := by
    unfold Rs.head;rw [hN]
    dsimp only;rw [Am rfl, Am zC, An zC, show (2 * m - 7) / 2 + 4 = m by omega]
   have hO : (⟨q + (Ay (2 * m - 7)).length, 0, 0⟩ : Rs).offset B = (⟨q + (Ay (2 * m - 7)).length + (Ay (o - 1)).length, 0, 0⟩, o) := by
    unfold Rs.offset;rw [hN2]
    dsimp only;rw [An zC, Am rfl, show o - 1 + 1 = o by omega]
   have hlen : (b.take p).length = p := zJ
   have hS : CJ B bound ⟨q, 0, 0⟩ (b.take p) = (⟨q + (Ay (2 * m - 7)).length + (Ay (o - 1)).length, 0, 0⟩, b.take (p + m)) := by
    unfold CJ;rw [hH]
    dsimp only;rw [hlen, An zC, An zO, hO]
    dsimp only;rw [An zC, Am rfl, KV m p zC h1 zC (fun k hk => (J9 zC).2.2.2)]
   rw [QU ⟨hq, fun _ => rfl⟩ zN rfl, hS]
   exact ih zC _ zC hd2
 | @run p q' rest hlt hle hno hg ih =>
  intro _ q hq h;have hD : ((b.drop p).take (q' - p)).length = q' - p := zJ
  generalize hDe : (b.drop p).take (q' - p) = D at *
  have ht : BX (⟨D, 0, 0⟩ :: rest) = Ay (2 * D.length - 2) ++ (D ++ BX rest) := by
   simp only [BX, D7, Dx]
   rw [Ll D zC zC, Av]
  rw [ht] at h
  have hd1 := Bi h
  have hr1 := Bf h hq
  have hd2 := Bi hd1
  have hr2 := Bf hd1 zC
  have hl1 := (AX (2 * D.length - 2)).2
  have hN := Rs.Dm zC h
  have hH : (⟨q, 0, 0⟩ : Rs).head B = (⟨q + (Ay (2 * D.length - 2)).length, 0, 0⟩, false, D.length) := by
   unfold Rs.head;rw [hN]
   dsimp only;rw [Am rfl, An zC, An zC, show (2 * D.length - 2) / 2 + 1 = D.length by omega]
  have hlen : (b.take p).length = p := zJ
  have hS : CJ B bound ⟨q, 0, 0⟩ (b.take p) = (⟨q + (Ay (2 * D.length - 2)).length + D.length, 0, 0⟩, b.take q') := by
   unfold CJ;rw [hH]
   dsimp only;rw [hlen, An zC, Am rfl, Rs.H7 hd1 zC]
   rw [← hDe]
   refine Prod.ext rfl ?_
   dsimp only;have : b.take q' = b.take p ++ (b.drop p).take (q' - p) := by
    rw [← EC p (b.take q'), List.take_take, Nat.min_eq_left zC, List.drop_take]
   exact this.symm
  rw [QU ⟨hq, fun _ => rfl⟩ zN rfl, hS]
  exact ih zC _ zC hd2
theorem SG {b : List UInt8} {bound : Int} (hb : b.length ≤ 1048576) (hbd : (b.length : Int) ≤ bound) : exB (CZ b) bound = (b, 0, 0) := by
 have := T9 (B := CZ b) hb hbd (LW b) zC 0 zC rfl
 rw [Ud]
 simp only [List.take_zero] at this
 rw [this, Am rfl]
theorem Rs.OU {B D rest : List UInt8} {p : Nat} {most : Int} (h : B.drop p = Bp D ++ rest) (hp : p ≤ B.length) (hD : D.length ≤ 1048576) (hm : (D.length : Int) ≤ most) :
  (⟨p, 0, 0⟩ : Rs).loose B most = (⟨p + (Bp D).length, 0, 0⟩, D, true) := by
 have htk : (B.drop p).take (Bp D).length = Bp D := by rw [h]; simp
 have h' := h
 unfold Bp at h;rw [Av] at h
 have hd1 := Bi h
 have hr1 := Bf h hp
 have hI := Rs.FY (m := min most 1048576) zC h zC
 unfold Rs.loose;rw [hI]
 dsimp only;cases hpk : FA D
 ·rw [hpk] at hd1
  rw [An zO] at hd1
  have hd2 := Bi (D := [0]) hd1
  have hr2 := Bf (D := [0]) hd1 zC
  simp only [AQ, Bu, A3] at hd2 hr2
  rw [Rs.JD hd1 zC]
  dsimp only;rw [Am rfl, Am zT, Rs.H7 hd2 zC]
  dsimp only;rw [Am rfl]
  have hl : (Bp D).length = (Ay D.length).length + (1 + D.length) := by simp [Bp, hpk]; omega
  rw [show p + (Ay D.length).length + 1 + D.length = p + (Bp D).length by omega, show p + (Bp D).length - p = (Bp D).length by omega, htk]
  simp
 ·have hpl : (Cg (CZ D)).length < D.length := A9 hpk
  have hpl2 := Em (CZ D)
  rw [hpk] at hd1
  rw [Am rfl] at hd1
  have hd2 := Bi (D := [1]) hd1
  have hr2 := Bf (D := [1]) hd1 zC
  simp only [AQ, Bu, A3] at hd2 hr2
  rw [Rs.JD hd1 zC]
  dsimp only;rw [Am rfl, An zP, Am zT]
  have hB := Rs.Mf (m := 1048576) zC hd2 zC zC
  have hU : (⟨p + (Ay D.length).length + 1, 0, 0⟩ : Rs).unp B D.length = (⟨p + (Ay D.length).length + 1 + (Cg (CZ D)).length, 0, 0⟩, D) := by
   unfold Rs.unp;rw [hB]
   dsimp only;rw [SG hD (Int.le_refl _)]
   dsimp only;rw [Am rfl, Am rfl, An zC]
  rw [hU]
  dsimp only;rw [Am rfl]
  have hl : (Bp D).length = (Ay D.length).length + (1 + (Cg (CZ D)).length) := by simp [Bp, hpk]; omega
  rw [show p + (Ay D.length).length + 1 + (Cg (CZ D)).length = p + (Bp D).length by omega, show p + (Bp D).length - p = (Bp D).length by omega, htk]
  simp
def Rs.E6 (B : List UInt8) : Nat → Rs → Int → List Int → Rs × List Int
 | 0, s, _, out => (s, out)
 | n + 1, s, below, out =>
  if (s.num B).1.k = 0 then
   (if below ≤ ((s.num B).2 : Int) then ((s.num B).1.fail 13 s.p, []) else Rs.E6 B n (s.num B).1 (below - (s.num B).2 - 1) (out ++ [below - (s.num B).2 - 1]))
  else ((s.num B).1, [])
def Rs.delta (B : List UInt8) (s : Rs) (below : Int) (most : Int) : Rs × List Int := Rs.E6 B (s.int B most).2 (s.int B most).1 below []
def Rs.stream (B : List UInt8) (s : Rs) (prev : Option Int) : Rs × Int :=
 match prev with
 | none => ((s.num B).1, ((s.num B).2 : Int))
 | some q => (if 18446744073709551615 - q ≤ ((s.num B).2 : Int) then (s.num B).1.fail 13 s.p else (s.num B).1, ((s.num B).2 : Int) + q + 1)
def Rs.FP (B : List UInt8) (pos : Int) : Nat → Rs → Option Int → List BM → Rs × List BM
 | 0, s, _, out => (s, out)
 | n + 1, s, prev, out =>
  if ((s.stream B prev).1.delta B pos 4).1.k = 0 then Rs.FP B pos n ((s.stream B prev).1.delta B pos 4).1 (some (s.stream B prev).2) (out ++ [⟨(s.stream B prev).2, ((s.stream B prev).1.delta B pos 4).2⟩])
  else (((s.stream B prev).1.delta B pos 4).1, [])
def Rs.links (B : List UInt8) (s : Rs) (pos : Int) : Rs × List BM := Rs.FP B pos (s.int B 16).2 (s.int B 16).1 none []
def Rs.ep (B : List UInt8) (s : Rs) : Rs × Nat := if (s.num B).1.k = 0 then (if epR ((s.num B).2 : Int) = true then s.num B else ((s.num B).1.fail 3 s.p, 0)) else ((s.num B).1, 0)
def Rs.po (B : List UInt8) (s : Rs) : Rs × Nat := if (s.num B).1.k = 0 then (if poR ((s.num B).2 : Int) = true then s.num B else ((s.num B).1.fail 3 s.p, 0)) else ((s.num B).1, 0)
def FJ (B : List UInt8) (s : Rs) : Rs × List UInt8 × Bool := ((Rs.strict (s.loose B 1048576)).1, (Rs.strict (s.loose B 1048576)).2, true)
def SW (B : List UInt8) (s : Rs) : Rs × List UInt8 × Bool := s.loose B 1048576
theorem Rs.M6 {B rest : List UInt8} : ∀ (l : List Int) (below : Int) (p : Nat) (out : List Int), BW below l = true → (∀ x ∈ l, 0 ≤ x) → below ≤ 18446744073709551615 → B.drop p = Cu (BG below l) ++ rest → p ≤ B.length →
  Rs.E6 B l.length ⟨p, 0, 0⟩ below out = (⟨p + (Cu (BG below l)).length, 0, 0⟩, out ++ l)
 | [], below, p, out, _, _, _, _, _ => by simp [Rs.E6, BG, Cu]
 | x :: l, below, p, out, hf, hx, hb, h, hp => by
  simp only [BW, Ao, Ar] at hf
  have h0 := hx x zO
  simp only [BG] at h ⊢
  rw [Eh, Av] at h
  have hn : (below - x - 1).toNat < 18446744073709551616 := zC
  have hN := Rs.Dm hn h
  have hd := Bi h
  have hr := Bf h hp
  simp only [AQ, Rs.E6]
  rw [hN]
  dsimp only;rw [Am rfl, toNat_cast zC, An zC, show below - (below - x - 1) - 1 = x by omega, Rs.M6 l x _ _ hf.2 (fun y hy => hx y (by simp [hy])) zC hd zC, Eh, Ag]
  simp [Bw]
theorem Rs.Kj {B rest : List UInt8} {l : List Int} {pos : Int} {p : Nat} {most : Int} (hf : BW pos l = true) (hx : ∀ x ∈ l, 0 ≤ x) (hb : pos ≤ 18446744073709551615) (h : B.drop p = C4 pos l ++ rest) (hp : p ≤ B.length) (hm : (l.length : Int) ≤ most) (hl : l.length < 18446744073709551616) :
  (⟨p, 0, 0⟩ : Rs).delta B pos most = (⟨p + (C4 pos l).length, 0, 0⟩, l) := by
 unfold C4 at h ⊢;rw [Av] at h
 have hd := Bi h
 have hr := Bf h hp
 unfold Rs.delta;rw [Rs.FY hl h hm]
 dsimp only;rw [Rs.M6 l pos _ _ hf hx hb hd zC]
 simp [Bw]
theorem Rs.LP {B rest : List UInt8} {pos : Int} (hpos : pos ≤ 18446744073709551615) : ∀ (l : List BM) (prev : Option Int) (p : Nat) (out : List BM), (∀ x ∈ l, C3 pos x = true ∧ (0 ≤ x.stream ∧ x.stream ≤ 18446744073709551615) ∧ ∀ y ∈ x.backs, 0 ≤ y) → (∀ q, prev = some q → 0 ≤ q ∧ Ba (q :: l.map BM.stream) = true) → Ba (l.map BM.stream) = true → B.drop p = Hu pos prev l ++ rest → p ≤ B.length →
  Rs.FP B pos l.length ⟨p, 0, 0⟩ prev out = (⟨p + (Hu pos prev l).length, 0, 0⟩, out ++ l)
 | [], prev, p, out, _, _, _, _, _ => by simp [Rs.FP, Hu]
 | x :: l, prev, p, out, hx, hq, hri, h, hp => by
  obtain ⟨hr1, hs, hbk⟩ := hx x zO
  simp only [C3, Ao, Ar] at hr1
  have hnext : ∀ q, some x.stream = some q → 0 ≤ q ∧ Ba (q :: l.map BM.stream) = true := fun q e => by
   simp only [Bk] at e
   subst e;exact ⟨hs.1, hri⟩
  have hri2 : Ba (l.map BM.stream) = true := by
   simp only [D7] at hri
   cases hl : l.map BM.stream with
   | nil => rfl
   | cons y r => rw [hl] at hri; simp only [Ba, Ao] at hri; exact hri.2
  have key : ∃ y : Int, 0 ≤ y ∧ y ≤ 18446744073709551615 ∧ Hu pos prev (x :: l) = Ay y.toNat ++ (C4 pos x.backs ++ Hu pos (some x.stream) l) ∧ (B.drop p = Ay y.toNat ++ ((C4 pos x.backs ++ Hu pos (some x.stream) l) ++ rest) → (⟨p, 0, 0⟩ : Rs).stream B prev = (⟨p + (Ay y.toNat).length, 0, 0⟩, x.stream)) := by
   cases prev with
   | none =>
    refine ⟨x.stream, hs.1, hs.2, by simp [Hu], fun h => ?_⟩
    unfold Rs.stream;dsimp only;rw [Rs.Dm zC h]
    dsimp only;rw [toNat_cast hs.1]
   | some q =>
    obtain ⟨h0, hq1⟩ := hq q rfl
    simp only [D7, Ba, Ao, Ar] at hq1
    refine ⟨x.stream - q - 1, zC, zC, by simp [Hu], fun h => ?_⟩
    unfold Rs.stream;dsimp only;rw [Rs.Dm zC h]
    dsimp only;rw [toNat_cast zC, An zC]
    refine Prod.ext rfl ?_
    dsimp only;omega
  obtain ⟨y, hy0, hy1, he, hst⟩ := key
  rw [he] at h ⊢
  rw [Av] at h
  have hS := hst h
  have hd := Bi h
  have hr := Bf h hp
  rw [Av] at hd
  have hD := Rs.Kj (most := 4) hr1.2 hbk hpos hd zC zC zC
  have hd2 := Bi hd
  have hr2 := Bf hd zC
  simp only [AQ, Rs.FP]
  rw [hS]
  dsimp only;rw [hD]
  dsimp only;rw [Am rfl, Rs.LP hpos l (some x.stream) _ _ (fun z hz => hx z (by simp [hz])) hnext hri2 hd2 zC]
  simp [Bw]
theorem Rs.Sy {B rest : List UInt8} {pos : Int} {l : List BM} {p : Nat} (hpos : pos ≤ 18446744073709551615) (hR : BK pos l = true) (hx : ∀ x ∈ l, (0 ≤ x.stream ∧ x.stream ≤ 18446744073709551615) ∧ ∀ y ∈ x.backs, 0 ≤ y) (h : B.drop p = Cx pos l ++ rest) (hp : p ≤ B.length) :
  (⟨p, 0, 0⟩ : Rs).links B pos = (⟨p + (Cx pos l).length, 0, 0⟩, l) := by
 simp only [BK, Ao, Ar, List.all_eq_true] at hR
 unfold Cx at h ⊢;rw [Av] at h
 have hd := Bi h
 have hr := Bf h hp
 unfold Rs.links;rw [Rs.FY zC h zC]
 dsimp only;rw [Rs.LP hpos l none _ _ (fun x h => ⟨hR.2.2 x h, hx x h⟩) (fun q e => by cases e) hR.2.1 hd zC]
 simp [Bw]
theorem IY {c : UInt8} {n : Nat} (h : n = c.toNat) : UInt8.ofNat n = c := by
 subst h;exact UInt8.ofNat_toNat
theorem Lh : ∀ (l : List UInt8) (i x v u : Nat), i ≤ 9 → DY i x l = (v, u, 0) → ∃ y, v = x + y * 128 ^ i ∧ (0 < i → 0 < y) ∧ l.take (u - i) = Fb (9 - i) y ∧ i < u ∧ u - i ≤ l.length
 | [], i, x, v, u, _, h => by simp [DY] at h
 | c :: l, i, x, v, u, hi, h => by
  have hc := c.toNat_lt
  unfold DY at h;by_cases h1 : i = 9 ∧ 1 < c.toNat
  ·rw [Am h1] at h; simp at h
  ·rw [An h1] at h
   by_cases h2 : 0 < i ∧ c.toNat = 0
   ·rw [Am h2] at h; simp at h
   ·rw [An h2] at h
    by_cases h3 : c.toNat < 128
    ·rw [Am h3] at h
     simp only [Ci, AO] at h
     obtain ⟨rfl, rfl⟩ := h
     refine ⟨c.toNat, rfl, fun h => zC, ?_, zC, by rw [AQ]; omega⟩
     rw [show i + 1 - i = 1 by omega, List.take_succ_cons, List.take_zero]
     obtain ⟨f, hf⟩ : ∃ f, f = 9 - i := ⟨_, rfl⟩
     rw [← hf]
     cases f with
     | zero => simp only [Fb]; rw [IY rfl]
     | succ f => simp only [Fb]; rw [Am h3, IY rfl]
    ·rw [An h3] at h
     have hi9 : i < 9 := by
      rcases Bd i 9 with h | h
      ·exact h
      ·exact absurd ⟨zC, zC⟩ h1
     obtain ⟨y, hv, hy, ht, hu, hlu⟩ := Lh l (i + 1) _ v u zC h
     have hy0 := hy zC
     refine ⟨c.toNat % 128 + 128 * y, ?_, fun _ => zC, ?_, zC, by rw [AQ]; omega⟩
     ·rw [hv, CL, Nat.add_mul]
      generalize 128 ^ i = k
      rw [De k 128, ← Nat.mul_assoc y 128 k, De y 128]
      omega
     ·rw [show u - i = (u - (i + 1)) + 1 by omega, List.take_succ_cons, ht, show 9 - i = (9 - (i + 1)) + 1 by omega]
      simp only [Fb]
      rw [An zC, IY (c := c) zC, show (c.toNat % 128 + 128 * y) / 128 = y by omega]
theorem Rs.MS {B : List UInt8} {s : Rs} (hs : s.ok B.length) (h : (s.num B).1.k = 0) : B.drop s.p = Ay (s.num B).2 ++ B.drop (s.num B).1.p ∧ (s.num B).1.f = 0 := by
 have hm := Rs.Il h
 have hle := hs.le
 unfold Rs.num at *;rw [Am hm.2] at *
 dsimp only at h ⊢;obtain ⟨y, hv, _, ht, hu, hlu⟩ := Lh (B.drop s.p) 0 0 _ _ zC (show DY 0 0 (B.drop s.p) = ((DY 0 0 (B.drop s.p)).1, (DY 0 0 (B.drop s.p)).2.1, 0) from by rw [← h])
 simp only [Nat.pow_zero, DA, A3, Nat.sub_zero] at hv ht
 refine ⟨?_, by rw [Am h]⟩
 have : Ay (DY 0 0 (B.drop s.p)).1 = (B.drop s.p).take (DY 0 0 (B.drop s.p)).2.1 := by rw [ht, hv]; rfl
 rw [this, ← List.drop_drop, EC]
theorem Rs.SB {B : List UInt8} {s : Rs} {m : Int} (hs : s.ok B.length) (h : (s.int B m).1.k = 0) : B.drop s.p = Ay (s.int B m).2 ++ B.drop (s.int B m).1.p ∧ ((s.int B m).2 : Int) ≤ m ∧ s.k = 0 := by
 unfold Rs.int Rs.most at *;by_cases h0 : 0 ≤ m
 ·rw [Am h0] at h ⊢
  by_cases h1 : m.toNat < (s.num B).2
  ·rw [Am h1] at h; exact absurd h (Rs.CU zC)
  ·rw [An h1] at h ⊢
   exact ⟨(Rs.MS hs h).1, zC, (Rs.Il h).2⟩
 ·rw [An h0] at h; exact absurd h (Rs.CU zC)
theorem Rs.R6 {B : List UInt8} {s : Rs} {prev : Option Int} (h : s.ok B.length) : (s.stream B prev).1.ok B.length := by
 unfold Rs.stream;cases prev with
 | none => exact Rs.EP h
 | some q =>
  dsimp only;split
  ·exact Rs.FZ (Rs.EP h) zC
  ·exact Rs.EP h
theorem Rs.KQ {B : List UInt8} : ∀ (n : Nat) (s : Rs) (below : Int) (out : List Int), s.ok B.length → below ≤ 18446744073709551615 → (Rs.E6 B n s below out).1.k = 0 →
  ∃ l : List Int, (Rs.E6 B n s below out).2 = out ++ l ∧ l.length = n ∧ BW below l = true ∧ (∀ x ∈ l, 0 ≤ x) ∧ B.drop s.p = Cu (BG below l) ++ B.drop (Rs.E6 B n s below out).1.p ∧ s.k = 0
 | 0, s, below, out, hs, _, h => ⟨[], by simp [Rs.E6], rfl, rfl, zO, by simp [Rs.E6, BG, Cu], h⟩
 | n + 1, s, below, out, hs, hb, h => by
  simp only [Rs.E6] at h ⊢
  by_cases h1 : (s.num B).1.k = 0
  ·rw [Am h1] at h ⊢
   by_cases h2 : below ≤ ((s.num B).2 : Int)
   ·rw [Am h2] at h; exact absurd h (Rs.CU zC)
   ·rw [An h2] at h ⊢
    obtain ⟨l, e1, e2, e3, e4, e5, _⟩ := Rs.KQ n _ _ _ (Rs.EP hs) zC h
    have hc := (Rs.MS hs h1).1
    refine ⟨(below - (s.num B).2 - 1) :: l, ?_, by simp [e2], ?_, ?_, ?_, (Rs.Il h1).2⟩
    ·rw [e1]; simp
    ·simp only [BW]; rw [e3, Bool.and_true]; exact Ae zC
    ·intro x hx
     rcases List.mem_cons.1 hx with rfl | hx
     ·omega
     ·exact e4 x hx
    ·simp only [BG]
     rw [Eh, Av, ← e5, show (below - (below - ((s.num B).2 : Int) - 1) - 1).toNat = (s.num B).2 by omega]
     exact hc
  ·rw [An h1] at h; exact absurd h h1
theorem Rs.Pe {B : List UInt8} {s : Rs} {below most : Int} (hs : s.ok B.length) (hb : below ≤ 18446744073709551615) (h : (s.delta B below most).1.k = 0) :
  BW below (s.delta B below most).2 = true ∧ ((s.delta B below most).2.length : Int) ≤ most ∧ (∀ x ∈ (s.delta B below most).2, 0 ≤ x) ∧ B.drop s.p = C4 below (s.delta B below most).2 ++ B.drop (s.delta B below most).1.p ∧ s.k = 0 := by
 unfold Rs.delta at *;obtain ⟨l, e1, e2, e3, e4, e5, e6⟩ := Rs.KQ _ _ _ _ (Rs.NM hs) hb h
 have hi := Rs.SB hs e6
 rw [Bj] at e1
 rw [e1]
 refine ⟨e3, by rw [e2]; exact hi.2.1, e4, ?_, hi.2.2⟩
 unfold C4;rw [Av, ← e5, e2]
 exact hi.1
structure Dc (w W : World) (g : Nat) (B : List UInt8) (a : Option Addr) (s : Rs) : Prop where
 rd : AZ W g B a s
 dat : Ah.r (fun q => q < w.heap.size ∧ q ≠ g) W [.slice a B.length B.length] B
 tch : Tch (· = g) w W
 lt : g < w.heap.size
section
variable {w W W' : World} {g : Nat} {B : List UInt8} {a : Option Addr} {s s' : Rs}
theorem Dc.refl (h : AZ w g B a s) : Dc w w g B a s := ⟨h, h.dat, Tch.refl _ _, h.blk.lt⟩
theorem Dc.step (h : Dc w W g B a s) (k : AE W g B a s' W') : Dc w W' g B a s' :=
 ⟨k.1, Ah.keep h.dat fun q hq => k.2.block q (Ai hq.1 h.tch.size) hq.2, h.tch.trans k.2 fun _ _ h => h, h.lt⟩
theorem Dc.row (h : Dc w W g B a s) (hb : Below w.heap.size W W') : Dc w W' g B a s := by
 have hd := Ah.keep h.dat (w' := W') fun q hq => hb.block q hq.1
 have hs := h.tch.size
 have hs2 := hb.size
 exact ⟨⟨h.rd.blk.below hb h.lt, Ah.mono hd fun q hq => ⟨zC, hq.2⟩, h.rd.ok⟩, hd, h.tch.trans (Tch.Ij hb) (fun b hb hle => zC), h.lt⟩
theorem Dc.to (h : Dc w W g B a s) : AE w g B a s W := ⟨h.rd, h.tch⟩
theorem FB {base : Nat} {e : TypeId} {size : Nat} {v : Value} {n : Nat} {xs : List Value} (h : W.ownsRow base e size v n xs) (hg : g < base) (hb : Tch (· = g) W W') : W'.ownsRow base e size v n xs := by
 refine ⟨h.1, ?_⟩
 rcases h.2 with h0 | ⟨g', cap, cur, h1, h2, h3, h4⟩
 ·exact .inl h0
 ·exact .inr ⟨g', cap, cur, h1, h2, (hb.block _ (Blk.lt h3) zC).trans h3, h4⟩
end
theorem I4 (w : World) {g : Nat} {B : List UInt8} {a : Option Addr} {s : Rs} (h : AZ w g B a s) (hB : B.length ≤ 1000000000) (below : Int) (hbl : 0 ≤ below ∧ below ≤ 18446744073709551615) (most : Int) (hmo : 0 ≤ most ∧ most ≤ 1000) :
  Calls Tryz.prog 234 #[.pointer (some ⟨g, 0, none⟩), .int .u64 below, .int .i64 most] w fun r w' => ∃ v, r = .returned v ∧ AY.r (fun q => w.heap.size ≤ q ∧ q < w'.heap.size) w' [v] (s.delta B below most).2 ∧ AE w g B a (s.delta B below most).1 w' := by
 obtain ⟨i0, hi, hz0, hz1, hz2⟩ := A8 LV
 have HI := hid (Ef w h zC most zC)
 have hNm := Rs.GP (B := B) (s := s) (m := most)
 have hlt := h.blk.lt
 have HIN := hid (Dc.refl h)
 unfold Rs.delta;generalize s.int B most = I at *
 obtain ⟨s1, N⟩ := I
 dsimp only at *;have hN : N ≤ 1000 := zC
 clear h;go_enter Tryz.func234, Tryz.ntmps234
 go_wp2_with fail;refine HI.out.mono ?_
 rintro r w1 ⟨rfl, hst⟩;have HIN1 := hid (HIN.out.step hst)
 clear hst;go_wp2_with fail;go_loopw [1, 7, 13] (fun b v i wr => ∃ (k : Nat) (bel : Int) (J : List Int) (st : Rs), k ≤ N ∧ i = .int .i64 k ∧ b = .int .u64 bel ∧ 0 ≤ bel ∧ bel ≤ 18446744073709551615 ∧ Hid (J.length = k) ∧ wr.ownsRow w.heap.size 22 1 v J.length (BF J) ∧ Hid (∀ x ∈ J, 0 ≤ x ∧ x ≤ 18446744073709551615) ∧ Hid (Dc w wr g B a st) ∧ Hid (Rs.E6 B N s1 below [] = Rs.E6 B (N - k) st bel J)) (fun _ _ i _ => N - (intOf i).toNat)
 case atStart => exact ⟨0, below, [], s1, Aj _, rfl, rfl, hbl.1, hbl.2, hid rfl, ⟨rfl, .inl ⟨rfl, rfl⟩⟩, hid zO, HIN1, hid rfl⟩
 case round =>
  obtain ⟨k, bel, J, st, hk, rfl, rfl, hb0, hb1, hJl, hown, hJb, hin, hsp⟩ := hrel
  obtain ⟨av, cv, rfl⟩ := AA hown
  have hJ9 : J.length ≤ 1000 := by have := hJl.out; omega
  rcases Bd k N with hlt2 | hge
  ·have HAT := hid (Cc wr hin.out.rd)
   have HVR := hid (CM wr hin.out.rd zC)
   have hx := Rs.DJ (B := B) (s := st)
   have hxb := Rs.Jm (B := B) (s := st)
   have hstep : Rs.E6 B (N - k) st bel J = (if (st.num B).1.k = 0 then (if bel ≤ ((st.num B).2 : Int) then ((st.num B).1.fail 13 st.p, []) else Rs.E6 B (N - (k + 1)) (st.num B).1 (bel - (st.num B).2 - 1) (J ++ [bel - (st.num B).2 - 1])) else ((st.num B).1, [])) := by
    rw [show N - k = (N - (k + 1)) + 1 by omega]; rfl
   have HO := hid hown
   have i1 : (k : Int) < (N : Int) := zC
   have d1 : decide ((k : Int) < (N : Int)) = true := Ae i1
   have d1' : decide (k < N) = true := Ae hlt2
   generalize st.num B = R at *
   obtain ⟨st1, x⟩ := R
   dsimp only at *;have HBAD := hid hxb
   clear hown hxb;by_cases hk1 : st1.k = 0
   ·rw [Am hk1] at hstep
    by_cases hbx : bel ≤ (x : Int)
    ·rw [Am hbx] at hstep
     have d2 : decide (bel ≤ (x : Int)) = true := Ae hbx
     have hfk : (st1.fail 13 st.p).k ≠ 0 := Rs.CU zC
     have HSP := hid (hsp.out.trans hstep)
     clear hstep hsp hk1;go_wp2_with fail;refine HAT.out.mono ?_
     rintro r w2 ⟨rfl, rfl⟩;go_wp2_with fail;refine HVR.out.mono ?_
     rintro r w3 ⟨rfl, hst3⟩;have HIN3 := hid (hin.out.step hst3)
     clear hst3;go_wp2_with fail;refine (BB w3 HIN3.out.rd 13 (st.p : Int) zC).mono ?_
     rintro r w4 ⟨rfl, hst4⟩;have HIN4 := hid (HIN3.out.step hst4)
     have hg := AH w4 HIN4.out.rd
     rw [Ad hfk] at hg
     have HG := hid hg
     clear hst4 hg hfk;go_wp2_with fail;refine HG.out.mono ?_
     rintro r w5 ⟨rfl, hb5⟩;have HE := hid (HIN4.out.to.then hb5)
     go_wp2;go_ret;rw [HSP.out]
     exact ⟨_, rfl, Bh (xs := []) rfl (Ak _) (Aj _) (.inl rfl), HE.out⟩
    ·rw [An hbx] at hstep
     have d2 : decide (bel ≤ (x : Int)) = false := Ad hbx
     have HSP := hid (hsp.out.trans hstep)
     have w1' : 0 ≤ bel - ((x : Int) + 1) := zC
     have w2' : (x : Int) + 1 ≤ 18446744073709551615 := zC
     have hk1' : decide (st1.k = 0) = true := Ae hk1
     clear hstep hsp hk1;go_wp2_with fail;refine HAT.out.mono ?_
     rintro r w2 ⟨rfl, rfl⟩;go_wp2_with fail;refine HVR.out.mono ?_
     rintro r w3 ⟨rfl, hst3⟩;have HIN3 := hid (hin.out.step hst3)
     have HO3 := hid (FB HO.out hlt hst3.2)
     have hg := AH w3 HIN3.out.rd
     rw [hk1'] at hg
     have HG := hid hg
     clear hst3 hg hk1';go_wp2_with fail;refine HG.out.mono ?_
     rintro r w4 ⟨rfl, hb4⟩;have HIN4 := hid (HIN3.out.step (AE.later HIN3.out.rd hb4))
     have HO4 := hid (AD HO3.out hb4)
     have hsz4 := HIN4.out.tch.size
     clear hb4;go_wp2_with (at_builtin; go_loud (refine Aq rfl _ _ _ rfl w.heap.size 22 i0 (.int .u64 0) 1 8 CK hi hz0 hz1 hz2 rfl zP (.slice av J.length cv) J.length _ rfl (AD HO4.out zA) (some ⟨w4.heap.size, 0, none⟩) 1 1 [.int .u64 (bel - ((x : Int) + 1))] rfl (Bx _ 22 _ rfl zO rfl) ZG zK zC zJ ?_; intro v' w5 hown5 hgrow5 hat5; obtain ⟨a5, c5, rfl⟩ := AA hown5; have HO5 := hid hown5; have hb5 : Below w.heap.size w4 w5 := (Below.grown ((by (repeat (first | with_reducible exact Below.refl _ _ | with_reducible assumption | (with_reducible refine AF ?_ _) | (with_reducible refine Below.setCell ?_ zF _) | (with_reducible refine Below.drew ?_) | (with_reducible refine below_drewN ?_ _) | (refine Af zL ?_))) : Below w4.heap.size w4 _).mono hsz4) hgrow5 zJ (fun g e => (HO4.out.lt g e).1)); clear hown5 hgrow5 hat5))
     have HIN5 := hid (HIN4.out.row hb5)
     have ho5 : w5.ownsRow w.heap.size 22 1 (.slice a5 (J.length + 1) c5) (J ++ [bel - ((x : Int) + 1)]).length (BF (J ++ [bel - ((x : Int) + 1)])) := by
      have e : BF (J ++ [bel - ((x : Int) + 1)]) = BF J ++ [.int .u64 (bel - ((x : Int) + 1))] := by simp [BF]
      rw [e, Ag]
      exact HO5.out
     have HO6 := hid ho5
     have HB6 : Hid (∀ y ∈ J ++ [bel - ((x : Int) + 1)], 0 ≤ y ∧ y ≤ 18446744073709551615) := hid (fun y hy => by
      rw [Ed, Dg] at hy
      rcases hy with hy | rfl
      ·exact hJb.out y hy
      ·omega)
     have HSP6 : Hid (Rs.E6 B N s1 below [] = Rs.E6 B (N - (k + 1)) st1 (bel - ((x : Int) + 1)) (J ++ [bel - ((x : Int) + 1)])) := hid (by rw [HSP.out, show bel - (x : Int) - 1 = bel - ((x : Int) + 1) by omega])
     clear ho5;go_roundw
     case rel => exact ⟨k + 1, bel - ((x : Int) + 1), J ++ [bel - ((x : Int) + 1)], st1, zC, zV, rfl, zC, zC, hid (by simp; exact hJl.out), HO6.out, HB6, HIN5, HSP6⟩
     case measure => simp [intOf]; omega
   ·rw [An hk1] at hstep
    have HSP := hid (hsp.out.trans hstep)
    have hx0 := HBAD.out hk1
    subst hx0;have hk1' : decide (st1.k = 0) = false := Ad hk1
    have hfid : st1.fail 13 st.p = st1 := Rs.Ch hk1
    clear hstep hsp hk1;by_cases hbx : bel ≤ 0
    ·have d2 : decide (bel ≤ ((0 : Nat) : Int)) = true := Ae zC
     have d2' : decide (bel ≤ 0) = true := Ae hbx
     go_wp2_with fail;refine HAT.out.mono ?_
     rintro r w2 ⟨rfl, rfl⟩;go_wp2_with fail;refine HVR.out.mono ?_
     rintro r w3 ⟨rfl, hst3⟩;have HIN3 := hid (hin.out.step hst3)
     clear hst3;go_wp2_with fail;refine (BB w3 HIN3.out.rd 13 (st.p : Int) zC).mono ?_
     rintro r w4 ⟨rfl, hst4⟩;rw [hfid] at hst4
     have HIN4 := hid (HIN3.out.step hst4)
     have hg := AH w4 HIN4.out.rd
     rw [hk1'] at hg
     have HG := hid hg
     clear hst4 hg hk1' hfid;go_wp2_with fail;refine HG.out.mono ?_
     rintro r w5 ⟨rfl, hb5⟩;have HE := hid (HIN4.out.to.then hb5)
     go_wp2;go_ret;rw [HSP.out]
     exact ⟨_, rfl, Bh (xs := []) rfl (Ak _) (Aj _) (.inl rfl), HE.out⟩
    ·have d2 : decide (bel ≤ ((0 : Nat) : Int)) = false := Ad zC
     have d2' : decide (bel ≤ 0) = false := Ad hbx
     go_wp2_with fail;refine HAT.out.mono ?_
     rintro r w2 ⟨rfl, rfl⟩;go_wp2_with fail;refine HVR.out.mono ?_
     rintro r w3 ⟨rfl, hst3⟩;have HIN3 := hid (hin.out.step hst3)
     have hg := AH w3 HIN3.out.rd
     rw [hk1'] at hg
     have HG := hid hg
     clear hst3 hg hk1' hfid;go_wp2_with fail;refine HG.out.mono ?_
     rintro r w5 ⟨rfl, hb5⟩;have HE := hid (HIN3.out.to.then hb5)
     go_wp2;go_ret;rw [HSP.out]
     exact ⟨_, rfl, Bh (xs := []) rfl (Ak _) (Aj _) (.inl rfl), HE.out⟩
  ·obtain rfl : k = N := by omega
   have d1 : decide ((k : Int) < (k : Int)) = false := Ad zC
   have HSP : Hid (Rs.E6 B k s1 below [] = (st, J)) := hid (by rw [hsp.out, JK]; rfl)
   have HV := hid (EE hJb.out rfl hown)
   have HE := hid hin.out.to
   clear hown hsp;go_wp2;go_ret;rw [HSP.out]
   exact ⟨_, rfl, HV.out, HE.out⟩
theorem Mw (w : World) {g : Nat} {B : List UInt8} {a : Option Addr} {s : Rs} (h : AZ w g B a s) (hB : B.length ≤ 1000000000) :
  Calls Tryz.prog 231 #[.pointer (some ⟨g, 0, none⟩), .func (Fn.func 113) #[] #[]] w fun r w' => r = .returned (.int .u64 ((s.ep B).2 : Int)) ∧ AE w g B a (s.ep B).1 w' := by
 have HAT := hid (Cc w h)
 have HVR := hid (CM w h zC)
 have hxb := Rs.Jm (B := B) (s := s)
 have HIN := hid (Dc.refl h)
 unfold Rs.ep;generalize s.num B = R at *
 obtain ⟨st1, x⟩ := R
 dsimp only at *;have HRT := hid (fun (W : World) => FH (x : Int) W)
 have HBAD := hid hxb
 clear h hxb;by_cases hk1 : st1.k = 0
 ·rw [Am hk1]
  by_cases hr : epR (x : Int) = true
  ·rw [Am hr]
   rw [hr] at HRT
   have HK : Hid (decide (st1.k = 0) = true) := hid (Ae hk1)
   clear hk1 hr;go_enter Ho, Gz
   go_wp2_with fail;refine HAT.out.mono ?_
   rintro r w2 ⟨rfl, rfl⟩;go_wp2_with fail;refine HVR.out.mono ?_
   rintro r w3 ⟨rfl, hst3⟩;have HIN3 := hid (HIN.out.step hst3)
   clear hst3;go_wp2_with fail;refine (HRT.out w3).mono ?_
   rintro r w3' ⟨rfl, rfl⟩;go_wp2_with fail;refine ((by have := AH w3 HIN3.out.rd; rw [HK.out] at this; exact this : Calls Tryz.prog 44 #[.pointer (some ⟨g, 0, none⟩)] w3 fun r w' => r = .returned (.bool true) ∧ Below w3.heap.size w3 w')).mono ?_
   rintro r w5 ⟨rfl, hb5⟩;have HE := hid (HIN3.out.to.then hb5)
   go_wp2;go_ret;exact ⟨rfl, HE.out⟩
  ·rw [An hr]
   rw [Bool.eq_false_iff.2 hr] at HRT
   have hfk : (st1.fail 3 s.p).k ≠ 0 := Rs.CU zC
   clear hk1 hr;go_enter Ho, Gz
   go_wp2_with fail;refine HAT.out.mono ?_
   rintro r w2 ⟨rfl, rfl⟩;go_wp2_with fail;refine HVR.out.mono ?_
   rintro r w3 ⟨rfl, hst3⟩;have HIN3 := hid (HIN.out.step hst3)
   clear hst3;go_wp2_with fail;refine (HRT.out w3).mono ?_
   rintro r w3' ⟨rfl, rfl⟩;go_wp2_with fail;refine (BB w3 HIN3.out.rd 3 (s.p : Int) zC).mono ?_
   rintro r w4 ⟨rfl, hst4⟩;have HIN4 := hid (HIN3.out.step hst4)
   have hg := AH w4 HIN4.out.rd
   rw [Ad hfk] at hg
   have HG := hid hg
   clear hst4 hg hfk;go_wp2_with fail;refine HG.out.mono ?_
   rintro r w5 ⟨rfl, hb5⟩;have HE := hid (HIN4.out.to.then hb5)
   go_wp2;go_ret;exact ⟨rfl, HE.out⟩
 ·rw [An hk1]
  have hx0 := HBAD.out hk1
  subst hx0;have hfk : st1.k ≠ 0 := hk1
  have hfid : st1.fail 3 s.p = st1 := Rs.Ch hk1
  rw [show epR ((0 : Nat) : Int) = false from zP] at HRT
  clear hk1;go_enter Ho, Gz
  go_wp2_with fail;refine HAT.out.mono ?_
  rintro r w2 ⟨rfl, rfl⟩;go_wp2_with fail;refine HVR.out.mono ?_
  rintro r w3 ⟨rfl, hst3⟩;have HIN3 := hid (HIN.out.step hst3)
  clear hst3;go_wp2_with fail;refine (HRT.out w3).mono ?_
  rintro r w3' ⟨rfl, rfl⟩;go_wp2_with fail;refine (BB w3 HIN3.out.rd 3 (s.p : Int) zC).mono ?_
  rintro r w4 ⟨rfl, hst4⟩;rw [hfid] at hst4
  clear hfid;have HIN4 := hid (HIN3.out.step hst4)
  have hg := AH w4 HIN4.out.rd
  rw [Ad hfk] at hg
  have HG := hid hg
  clear hst4 hg hfk;go_wp2_with fail;refine HG.out.mono ?_
  rintro r w5 ⟨rfl, hb5⟩;have HE := hid (HIN4.out.to.then hb5)
  go_wp2;go_ret;exact ⟨rfl, HE.out⟩
theorem I3 (w : World) {g : Nat} {B : List UInt8} {a : Option Addr} {s : Rs} (h : AZ w g B a s) (hB : B.length ≤ 1000000000) :
  Calls Tryz.prog 209 #[.pointer (some ⟨g, 0, none⟩)] w fun r w' => r = .returned (.int .u64 ((s.ep B).2 : Int)) ∧ AE w g B a (s.ep B).1 w' := by
 have HR := hid (Mw w h hB)
 generalize s.ep B = R at *
 clear h;go_enter Tryz.func209, Tryz.ntmps209
 go_wp2_with fail;refine HR.out.mono ?_
 rintro r w1 ⟨rfl, hst⟩;have HST := hid hst
 clear hst;go_wp2;go_ret;exact ⟨rfl, HST.out⟩
theorem Mv (w : World) {g : Nat} {B : List UInt8} {a : Option Addr} {s : Rs} (h : AZ w g B a s) (hB : B.length ≤ 1000000000) :
  Calls Tryz.prog 231 #[.pointer (some ⟨g, 0, none⟩), .func (Fn.func 82) #[] #[]] w fun r w' => r = .returned (.int .u64 ((s.po B).2 : Int)) ∧ AE w g B a (s.po B).1 w' := by
 have HAT := hid (Cc w h)
 have HVR := hid (CM w h zC)
 have hxb := Rs.Jm (B := B) (s := s)
 have HIN := hid (Dc.refl h)
 unfold Rs.po;generalize s.num B = R at *
 obtain ⟨st1, x⟩ := R
 dsimp only at *;have HRT := hid (fun (W : World) => Ki (x : Int) W)
 have HBAD := hid hxb
 clear h hxb;by_cases hk1 : st1.k = 0
 ·rw [Am hk1]
  by_cases hr : poR (x : Int) = true
  ·rw [Am hr]
   rw [hr] at HRT
   have HK : Hid (decide (st1.k = 0) = true) := hid (Ae hk1)
   clear hk1 hr;go_enter Ho, Gz
   go_wp2_with fail;refine HAT.out.mono ?_
   rintro r w2 ⟨rfl, rfl⟩;go_wp2_with fail;refine HVR.out.mono ?_
   rintro r w3 ⟨rfl, hst3⟩;have HIN3 := hid (HIN.out.step hst3)
   clear hst3;go_wp2_with fail;refine (HRT.out w3).mono ?_
   rintro r w3' ⟨rfl, rfl⟩;go_wp2_with fail;refine ((by have := AH w3 HIN3.out.rd; rw [HK.out] at this; exact this : Calls Tryz.prog 44 #[.pointer (some ⟨g, 0, none⟩)] w3 fun r w' => r = .returned (.bool true) ∧ Below w3.heap.size w3 w')).mono ?_
   rintro r w5 ⟨rfl, hb5⟩;have HE := hid (HIN3.out.to.then hb5)
   go_wp2;go_ret;exact ⟨rfl, HE.out⟩
  ·rw [An hr]
   rw [Bool.eq_false_iff.2 hr] at HRT
   have hfk : (st1.fail 3 s.p).k ≠ 0 := Rs.CU zC
   clear hk1 hr;go_enter Ho, Gz
   go_wp2_with fail;refine HAT.out.mono ?_
   rintro r w2 ⟨rfl, rfl⟩;go_wp2_with fail;refine HVR.out.mono ?_
   rintro r w3 ⟨rfl, hst3⟩;have HIN3 := hid (HIN.out.step hst3)
   clear hst3;go_wp2_with fail;refine (HRT.out w3).mono ?_
   rintro r w3' ⟨rfl, rfl⟩;go_wp2_with fail;refine (BB w3 HIN3.out.rd 3 (s.p : Int) zC).mono ?_
   rintro r w4 ⟨rfl, hst4⟩;have HIN4 := hid (HIN3.out.step hst4)
   have hg := AH w4 HIN4.out.rd
   rw [Ad hfk] at hg
   have HG := hid hg
   clear hst4 hg hfk;go_wp2_with fail;refine HG.out.mono ?_
   rintro r w5 ⟨rfl, hb5⟩;have HE := hid (HIN4.out.to.then hb5)
   go_wp2;go_ret;exact ⟨rfl, HE.out⟩
 ·rw [An hk1]
  have hx0 := HBAD.out hk1
  subst hx0;have hfk : st1.k ≠ 0 := hk1
  have hfid : st1.fail 3 s.p = st1 := Rs.Ch hk1
  rw [show poR ((0 : Nat) : Int) = true from zP] at HRT
  clear hk1;go_enter Ho, Gz
  go_wp2_with fail;refine HAT.out.mono ?_
  rintro r w2 ⟨rfl, rfl⟩;go_wp2_with fail;refine HVR.out.mono ?_
  rintro r w3 ⟨rfl, hst3⟩;have HIN3 := hid (HIN.out.step hst3)
  clear hst3;go_wp2_with fail;refine (HRT.out w3).mono ?_
  rintro r w3' ⟨rfl, rfl⟩;go_wp2_with fail;refine ((by have := AH w3 HIN3.out.rd; rw [Ad hfk] at this; exact this : Calls Tryz.prog 44 #[.pointer (some ⟨g, 0, none⟩)] w3 fun r w' => r = .returned (.bool false) ∧ Below w3.heap.size w3 w')).mono ?_
  rintro r w5 ⟨rfl, hb5⟩;have HE := hid (HIN3.out.to.then hb5)
  clear hfk hfid;go_wp2;go_ret;exact ⟨rfl, HE.out⟩
theorem Mt (w : World) {g : Nat} {B : List UInt8} {a : Option Addr} {s : Rs} (h : AZ w g B a s) (hB : B.length ≤ 1000000000) :
  Calls Tryz.prog 183 #[.pointer (some ⟨g, 0, none⟩)] w fun r w' => r = .returned (.int .u64 ((s.po B).2 : Int)) ∧ AE w g B a (s.po B).1 w' := by
 have HR := hid (Mv w h hB)
 generalize s.po B = R at *
 clear h;go_enter Tryz.func183, Tryz.ntmps183
 go_wp2_with fail;refine HR.out.mono ?_
 rintro r w1 ⟨rfl, hst⟩;have HST := hid hst
 clear hst;go_wp2;go_ret;exact ⟨rfl, HST.out⟩
theorem A6.Ta {w w' : World} {α : Type} {lo g : Nat} {A : Rp α} {e : TypeId} {sz : Nat} {v : Value} {xs : List α} (h : A6 lo A lo e sz w v xs) (hb : Tch (fun b => b = g ∨ w.heap.size ≤ b) w w') (hg : g < lo) : A6 lo A lo e sz w' v xs := by
 have hk : ∀ b, lo ≤ b → b < w.heap.size → w'.heap[b]? = w.heap[b]? := fun b h1 h2 => hb.block b h2 zC
 obtain ⟨cells, ho, hlen, hsz, hA⟩ := h
 refine ⟨cells, ⟨ho.1, ?_⟩, hlen, hsz, fun i cs x hi hx => A.mono (A.keep (hA i cs x hi hx) fun b h => hk b h.1 h.2.1) fun b h => ⟨h.1, Ai h.2.1 hb.size, h.2.2⟩⟩
 rcases ho.2 with h0 | ⟨g', cap, cur, h1, h2, h3, h4⟩
 ·exact .inl h0
 ·exact .inr ⟨g', cap, cur, h1, h2, (hk _ h2 (Blk.lt h3)).trans h3, h4⟩
theorem A6.form {w : World} {α : Type} {lo base : Nat} {A : Rp α} {e : TypeId} {sz : Nat} {v : Value} {xs : List α} (h : A6 lo A base e sz w v xs) : ∃ a c, v = .slice a xs.length c := by
 obtain ⟨cells, h1, _⟩ := h
 exact AA h1
theorem UL {z : Int} (h : 0 ≤ z ∧ z ≤ 18446744073709551615) : bits BinOp.xor IntKind.u64 IntKind.u64.max z = 18446744073709551615 - z := by
 obtain ⟨a, rfl⟩ := Ec h.1
 have ha : a < 18446744073709551616 := zC
 have e : IntKind.u64.max = ((18446744073709551615 : Nat) : Int) := rfl
 rw [e, bits_xor_u64_nat _ _ zP ha]
 have h1 : 18446744073709551615 ^^^ a = 18446744073709551615 - a := by
  have h2 := BitVec.toNat_not (x := BitVec.ofNat 64 a)
  rw [BitVec.not_def, BitVec.toNat_xor, BitVec.toNat_allOnes, BitVec.toNat_ofNat, Ds zC] at h2
  exact h2
 rw [h1]
 omega
theorem Sz (w : World) {g : Nat} {B : List UInt8} {a : Option Addr} {s : Rs} (h : AZ w g B a s) (hB : B.length ≤ 1000000000) (pos : Int) (hpos : 0 ≤ pos ∧ pos ≤ 18446744073709551615) :
  Calls Tryz.prog 192 #[.pointer (some ⟨g, 0, none⟩), .int .u64 pos] w fun r w' => ∃ v, r = .returned v ∧ RA.r (EX w w') w' [v] (s.links B pos).2 ∧ AE w g B a (s.links B pos).1 w' := by
 obtain ⟨i0, hi, hz0, hz1, hz2⟩ := A8 T5
 have HI := hid (Ef w h zC 16 zC)
 have hNm := Rs.GP (B := B) (s := s) (m := 16)
 have hlt := h.blk.lt
 have HIN := hid (Dc.refl h)
 unfold Rs.links;generalize s.int B 16 = I at *
 obtain ⟨s1, N⟩ := I
 dsimp only at *;have hN : N ≤ 16 := zC
 clear h;go_enter Tryz.func192, Tryz.ntmps192
 go_wp2_with fail;refine HI.out.mono ?_
 rintro r w1 ⟨rfl, hst⟩;have HIN1 := hid (HIN.out.step hst)
 clear hst;go_wp2_with fail;go_loopw [5, 12] (fun v i wr => ∃ (k : Nat) (J : List BM) (st : Rs), k ≤ N ∧ i = .int .i64 k ∧ Hid (J.length = k) ∧ A6 w.heap.size KI w.heap.size 151 2 wr v J ∧ Hid (∀ x ∈ J, 0 ≤ x.stream ∧ x.stream ≤ 18446744073709551615) ∧ Hid (Dc w wr g B a st) ∧ Hid (Rs.FP B pos N s1 none [] = Rs.FP B pos (N - k) st (J.getLast?.map BM.stream) J)) (fun _ i _ => N - (intOf i).toNat)
 case atStart => exact ⟨0, [], s1, Aj _, rfl, hid rfl, A6.nil, hid zO, HIN1, hid rfl⟩
 case round =>
  obtain ⟨k, J, st, hk, rfl, hJl, hown, hJb, hin, hsp⟩ := hrel
  obtain ⟨av, cv, rfl⟩ := A6.form hown
  rcases Bd k N with hlt2 | hge
  ·have HAT := hid (Cc wr hin.out.rd)
   have HVR := hid (CM wr hin.out.rd zC)
   have hx := Rs.DJ (B := B) (s := st)
   have hsz0 := hin.out.tch.size
   have i1 : (k : Int) < (N : Int) := zC
   have d1 : decide ((k : Int) < (N : Int)) = true := Ae i1
   have d1' : decide (k < N) = true := Ae hlt2
   have HO := hid hown
   clear hown;have hJ16 : J.length ≤ 16 := by have := hJl.out; omega
   by_cases hJe : J = []
   ·have hstep : Rs.FP B pos (N - k) st (J.getLast?.map BM.stream) J = (if ((st.num B).1.delta B pos 4).1.k = 0 then Rs.FP B pos (N - (k + 1)) ((st.num B).1.delta B pos 4).1 (some ((st.num B).2 : Int)) (J ++ [⟨((st.num B).2 : Int), ((st.num B).1.delta B pos 4).2⟩]) else (((st.num B).1.delta B pos 4).1, [])) := by
     rw [show N - k = (N - (k + 1)) + 1 by omega, hJe]; rfl
    have hk0 : k = 0 := by have := hJl.out; rw [hJe] at this; simpa using this.symm
    subst hk0;clear hJe;generalize st.num B = R at *
    obtain ⟨st1, x⟩ := R
    dsimp only at *;have hxb : (0 : Int) ≤ (x : Int) ∧ (x : Int) ≤ 18446744073709551615 := zC
    have HD := hid (fun (W : World) (hW : AZ W g B a st1) => I4 W hW hB pos hpos 4 zC)
    generalize st1.delta B pos 4 = D at *
    obtain ⟨s6, bk⟩ := D
    dsimp only at *;go_wp2_with fail;refine HAT.out.mono ?_
    rintro r w2 ⟨rfl, rfl⟩;go_wp2_with fail;refine HVR.out.mono ?_
    rintro r w3 ⟨rfl, hst3⟩;have HIN3 := hid (hin.out.step hst3)
    have HO3 := hid (A6.Ta HO.out (hst3.2.mono fun b hb e => .inl e) hlt)
    have hsz3 := HIN3.out.tch.size
    clear hst3;go_wp2_with fail;refine (HD.out _ (HIN3.out.row ((by (repeat (first | with_reducible exact Below.refl _ _ | with_reducible assumption | (with_reducible refine AF ?_ _) | (with_reducible refine Below.setCell ?_ zF _) | (with_reducible refine Below.drew ?_) | (with_reducible refine below_drewN ?_ _) | (refine Af zL ?_))) : Below w3.heap.size w3 _).mono hsz3)).rd).mono ?_
    rintro r w6 ⟨v6, rfl, hv6, hst6⟩;obtain ⟨a6, c6, hfv, _, _⟩ := AN hv6
    simp only [Au, AO] at hfv
    subst hfv;have BK6 : Blk w6 w3.heap.size 151 #[.int .u64 (x : Int), .slice none 0 0] := Blk.tch zD hst6.2 zC
    have HIN6 := hid ((HIN3.out.row ((by (repeat (first | with_reducible exact Below.refl _ _ | with_reducible assumption | (with_reducible refine AF ?_ _) | (with_reducible refine Below.setCell ?_ zF _) | (with_reducible refine Below.drew ?_) | (with_reducible refine below_drewN ?_ _) | (refine Af zL ?_))) : Below w3.heap.size w3 _).mono hsz3)).step hst6)
    have HK6 : Hid (Tch (fun b => b = g ∨ w3.heap.size ≤ b) w3 w6) := hid ((Tch.Ij (by (repeat (first | with_reducible exact Below.refl _ _ | with_reducible assumption | (with_reducible refine AF ?_ _) | (with_reducible refine Below.setCell ?_ zF _) | (with_reducible refine Below.drew ?_) | (with_reducible refine below_drewN ?_ _) | (refine Af zL ?_))) : Below w3.heap.size w3 _)).mono (fun b hb e => .inr e) |>.trans hst6.2 (fun b hb e => .inl e))
    by_cases hk6 : s6.k = 0
    ·rw [Am hk6] at hstep
     have HSP := hid (hsp.out.trans hstep)
     have HG := hid (fun (W : World) (hW : AZ W g B a s6) => (by have := AH W hW; rw [Ae hk6] at this; exact this : Calls Tryz.prog 44 #[.pointer (some ⟨g, 0, none⟩)] W fun r w' => r = .returned (.bool true) ∧ Below W.heap.size W w'))
     obtain ⟨y0, y1, f0, f1, hl6⟩ := Cn BK6
     have HV6 := hid hv6
     have hq6 := hst6.2.size
     simp at hq6
     clear hsp hstep hk6 hv6 hst6;go_wp2_with fail;refine (HG.out _ (HIN6.out.row ((by (repeat (first | with_reducible exact Below.refl _ _ | with_reducible assumption | (with_reducible refine AF ?_ _) | (with_reducible refine Below.setCell ?_ zF _) | (with_reducible refine Below.drew ?_) | (with_reducible refine below_drewN ?_ _) | (refine Af zL ?_))) : Below w3.heap.size w6 _).mono hsz3)).rd).mono ?_
     rintro r w7 ⟨rfl, hb7⟩;have B7 : Blk w7 w3.heap.size 151 #[.int .u64 (x : Int), .slice a6 bk.length c6] := Blk.later (BK6.set 1 _) hb7
     obtain ⟨z0, z1, _, _, hl7⟩ := Cn B7
     have hb67 : Below w3.heap.size w6 w7 := (by (repeat (first | with_reducible exact Below.refl _ _ | with_reducible assumption | (with_reducible refine AF ?_ _) | (with_reducible refine Below.setCell ?_ zF _) | (with_reducible refine Below.drew ?_) | (with_reducible refine below_drewN ?_ _) | (refine Af zL ?_))) : Below w3.heap.size w6 (w6.setCell ⟨w3.heap.size, 1, none⟩ (.slice a6 bk.length c6))).trans (hb7.mono zJ)
     have HIN7 := hid (HIN6.out.row (hb67.mono hsz3))
     have hsz7 := HIN7.out.tch.size
     have hk7 : Tch (fun b => b = g ∨ w3.heap.size ≤ b) w3 w7 := HK6.out.trans (Tch.Ij hb67) (fun b hb hle => .inr hle)
     have O7 := A6.Ta HO3.out hk7 hlt
     obtain ⟨cells0, OA0⟩ := HO3.out
     have hlt0 : ∀ g', (Value.slice av J.length cv).ownBlock = some g' → g' < w3.heap.size := fun g' e => (OA0.1.lt g' e).2
     obtain ⟨cells, OA⟩ := A6.below O7 (show Below w7.heap.size w7 (w7.alloc (.cells #[.int .u64 (x : Int), .slice a6 bk.length c6] 151)) from zA)
     have hk8 : ∀ b, w3.heap.size + 1 ≤ b → b < w6.heap.size → (w7.alloc (.cells #[.int .u64 (x : Int), .slice a6 bk.length c6] 151)).heap[b]? = w6.heap[b]? := fun b h1 h2 => (Br w7 _ b (by have := hb67.size; omega)).trans ((hb7.block b zBj).trans (AM _ _ _ _ zN))
     have hv8 := AY.keep (w' := (w7.alloc (.cells #[.int .u64 (x : Int), .slice a6 bk.length c6] 151))) HV6.out (fun b (hb : (w3.alloc (.cells #[.int .u64 (x : Int), .slice none 0 0] 151)).heap.size ≤ b ∧ b < w6.heap.size) => hk8 b (by have := hb.1; simp at this; omega) hb.2)
     have hx8 : KI.r (fun b => w.heap.size ≤ b ∧ b < (w7.alloc (.cells #[.int .u64 (x : Int), .slice a6 bk.length c6] 151)).heap.size ∧ (Value.slice av J.length cv).ownBlock ≠ some b) (w7.alloc (.cells #[.int .u64 (x : Int), .slice a6 bk.length c6] 151)) [.int .u64 (x : Int), .slice a6 bk.length c6] ⟨(x : Int), bk⟩ := by
      refine RE (x := ⟨(x : Int), bk⟩) hxb (AY.mono hv8 fun b hb => ?_)
      have h1 := hb.1
      have h2 := hb.2
      have h3 := hb67.size
      simp at h1
      refine ⟨zC, zJ, fun e => ?_⟩
      have := hlt0 b e
      omega
     have HX := hid hx8
     have HA := hid OA
     have HS9 : Hid (w.heap.size ≤ (w7.alloc (.cells #[.int .u64 (x : Int), .slice a6 bk.length c6] 151)).heap.size) := hid zJ
     clear hx8 hv8 OA OA0 hlt0 hk8 O7 hk7 hb67 hb7 B7 y0 y1 f0 f1 HV6;go_wp2_with (at_builtin; go_loud (refine Aq rfl _ _ _ rfl w.heap.size 151 i0 (.agg #[.int .u64 0, .slice none 0 0]) 2 32 Tryz.underlying24 hi hz0 hz1 hz2 rfl zP (.slice av J.length cv) J.length _ rfl HA.out.1 (some ⟨w7.heap.size, 0, none⟩) 1 1 [.int .u64 (x : Int), .slice a6 bk.length c6] rfl (Bx w7 151 _ rfl rfl rfl) (by intro u hu; simp at hu; rcases hu with rfl | rfl <;> rfl) zK zC HS9.out ?_; intro v1 w9 hown1 hgrow1 hat1; have OP := hid (A6.push HA.out rfl HX.out hown1 hgrow1 hat1 hgrow1.size); have hb9 : Below w.heap.size w7 w9 := (Below.grown ((by (repeat (first | with_reducible exact Below.refl _ _ | with_reducible assumption | (with_reducible refine AF ?_ _) | (with_reducible refine Below.setCell ?_ zF _) | (with_reducible refine Below.drew ?_) | (with_reducible refine below_drewN ?_ _) | (refine Af zL ?_))) : Below w7.heap.size w7 _).mono hsz7) hgrow1 HS9.out (fun g e => (HA.out.1.lt g e).1)); clear hown1 hgrow1 hat1))
     have HIN9 := hid (HIN7.out.row hb9)
     have HJ9 : Hid (∀ y ∈ J ++ [(⟨(x : Int), bk⟩ : BM)], 0 ≤ y.stream ∧ y.stream ≤ 18446744073709551615) := hid (fun y hy => by
      rw [Ed, Dg] at hy
      rcases hy with hy | rfl
      ·exact hJb.out y hy
      ·exact hxb)
     go_roundw
     case rel => exact ⟨0 + 1, J ++ [⟨(x : Int), bk⟩], s6, zC, zV, hid (by rw [Ag, hJl.out]; rfl), OP.out, HJ9, HIN9, hid (by rw [HSP.out]; simp)⟩
     case measure => simp [intOf]; omega
    ·rw [An hk6] at hstep
     have HSP := hid (hsp.out.trans hstep)
     have HG := hid (fun (W : World) (hW : AZ W g B a s6) => (by have := AH W hW; rw [Ad hk6] at this; exact this : Calls Tryz.prog 44 #[.pointer (some ⟨g, 0, none⟩)] W fun r w' => r = .returned (.bool false) ∧ Below W.heap.size W w'))
     obtain ⟨y0, y1, f0, f1, hl6⟩ := Cn BK6
     clear hsp hstep hk6 hv6;go_wp2_with fail;refine (HG.out _ (HIN6.out.row ((by (repeat (first | with_reducible exact Below.refl _ _ | with_reducible assumption | (with_reducible refine AF ?_ _) | (with_reducible refine Below.setCell ?_ zF _) | (with_reducible refine Below.drew ?_) | (with_reducible refine below_drewN ?_ _) | (refine Af zL ?_))) : Below w3.heap.size w6 _).mono hsz3)).rd).mono ?_
     rintro r w7 ⟨rfl, hb7⟩;have hb67 : Below w3.heap.size w6 w7 := (by (repeat (first | with_reducible exact Below.refl _ _ | with_reducible assumption | (with_reducible refine AF ?_ _) | (with_reducible refine Below.setCell ?_ zF _) | (with_reducible refine Below.drew ?_) | (with_reducible refine below_drewN ?_ _) | (refine Af zL ?_))) : Below w3.heap.size w6 (w6.setCell ⟨w3.heap.size, 1, none⟩ (.slice a6 bk.length c6))).trans (hb7.mono zJ)
     have HE := hid (HIN6.out.row (hb67.mono hsz3)).to
     clear hb7;go_wp2;go_ret;rw [HSP.out]
     exact ⟨.slice none 0 0, rfl, A6.Nw (e := 0) (Ak _) A6.nil, HE.out⟩
   ·obtain ⟨m, rfl⟩ : ∃ m, k = m + 1 := ⟨k - 1, by
     have := hJl.out
     have : J.length ≠ 0 := fun e => hJe (AT e)
     omega⟩
    have hmJ : m < J.length := by have := hJl.out; omega
    have hlast : J.getLast?.map BM.stream = some J[m].stream := by
     have := hJl.out
     rw [List.getLast?_eq_getElem?, this, DR, AR hmJ]
     rfl
    have hzb := hJb.out J[m] (Bl hmJ)
    obtain ⟨bq, o, hA, hbb, a1, c1, hc0, hc1, hst, hd⟩ := DE (A6.slice (Ak _) HO.out) hmJ
    subst hA;have hbg : bq ≠ g := by have := hbb.1; omega
    have hbr : bq < wr.heap.size := hbb.2
    have hstep : Rs.FP B pos (N - (m + 1)) st (J.getLast?.map BM.stream) J = (if ((st.stream B (some J[m].stream)).1.delta B pos 4).1.k = 0 then Rs.FP B pos (N - (m + 1 + 1)) ((st.stream B (some J[m].stream)).1.delta B pos 4).1 (some (st.stream B (some J[m].stream)).2) (J ++ [⟨(st.stream B (some J[m].stream)).2, ((st.stream B (some J[m].stream)).1.delta B pos 4).2⟩]) else (((st.stream B (some J[m].stream)).1.delta B pos 4).1, [])) := by
     rw [hlast, show N - (m + 1) = (N - (m + 1 + 1)) + 1 by omega]; rfl
    clear hlast hd hc1 hbb;generalize J[m] = z at *
    have i1' : (m : Int) + 1 < (N : Int) := zC
    have i2 : (m : Int) < (J.length : Int) := zC
    have d2 : decide ((m : Int) + 1 < (N : Int)) = true := Ae i1'
    have e1 := UL hzb
    have hsg : IntKind.u64.signed = false := rfl
    by_cases hf : 18446744073709551615 - z.stream ≤ ((st.num B).2 : Int)
    ·have hS : (st.stream B (some z.stream)).1 = (st.num B).1.fail 13 st.p := by
      simp only [Rs.stream]
      rw [Am hf]
     have hbad : ((st.stream B (some z.stream)).1.delta B pos 4).1.k ≠ 0 := fun e => (Rs.CU (s := (st.num B).1) (c := 13) (at_ := (st.p : Int)) zC) (by rw [← hS]; exact (Rs.Pe (Rs.R6 hin.out.rd.ok) hpos.2 e).2.2.2.2)
     rw [An hbad, hS] at hstep
     rw [hS] at hbad
     clear hS;generalize st.num B = R at *
     obtain ⟨st1, x⟩ := R
     dsimp only at *;have d4 : decide (bits BinOp.xor IntKind.u64 IntKind.u64.max z.stream ≤ (x : Int)) = true := by rw [e1]; exact Ae hf
     clear hf e1;have HD := hid (fun (W : World) (hW : AZ W g B a (st1.fail 13 (st.p : Int))) => I4 W hW hB pos hpos 4 zC)
     generalize (st1.fail 13 (st.p : Int)).delta B pos 4 = D at *
     obtain ⟨s6, bk⟩ := D
     dsimp only at *;go_wp2_with fail;refine HAT.out.mono ?_
     rintro r w2 ⟨rfl, rfl⟩;go_wp2_with fail;refine HVR.out.mono ?_
     rintro r w3 ⟨rfl, hst3⟩;have HIN3 := hid (hin.out.step hst3)
     have HO3 := hid (A6.Ta HO.out (hst3.2.mono fun b hb e => .inl e) hlt)
     have hsz3 := HIN3.out.tch.size
     have X0 := (hst3.2.cell (p := ⟨bq, o + m * 2, none⟩) hbr hbg).trans hc0
     have hb3 : bq < w3.heap.size := Ai hbr hst3.2.size
     clear hst3 hc0;go_wp2_with fail;refine (BB _ (HIN3.out.row ((by (repeat (first | with_reducible exact Below.refl _ _ | with_reducible assumption | (with_reducible refine AF ?_ _) | (with_reducible refine Below.setCell ?_ zF _) | (with_reducible refine Below.drew ?_) | (with_reducible refine below_drewN ?_ _) | (refine Af zL ?_))) : Below w3.heap.size w3 _).mono hsz3)).rd 13 (st.p : Int) zC).mono ?_
     rintro r w4 ⟨rfl, hst4⟩;have B4 : Blk w4 w3.heap.size 151 #[.int .u64 (x : Int), .slice none 0 0] := Blk.tch zD hst4.2 zC
     have HIN4 := hid ((HIN3.out.row ((by (repeat (first | with_reducible exact Below.refl _ _ | with_reducible assumption | (with_reducible refine AF ?_ _) | (with_reducible refine Below.setCell ?_ zF _) | (with_reducible refine Below.drew ?_) | (with_reducible refine below_drewN ?_ _) | (refine Af zL ?_))) : Below w3.heap.size w3 _).mono hsz3)).step hst4)
     have hsz4 := hst4.2.size
     obtain ⟨q0, q1, e0, e1, l4⟩ := Cn B4
     clear hst4;go_wp2_with fail;refine (HD.out _ (HIN4.out.row ((by (repeat (first | with_reducible exact Below.refl _ _ | with_reducible assumption | (with_reducible refine AF ?_ _) | (with_reducible refine Below.setCell ?_ zF _) | (with_reducible refine Below.drew ?_) | (with_reducible refine below_drewN ?_ _) | (refine Af zL ?_))) : Below w3.heap.size w4 _).mono hsz3)).rd).mono ?_
     rintro r w6 ⟨v6, rfl, hv6, hst6⟩;obtain ⟨a6, c6, hfv, _, _⟩ := AN hv6
     simp only [Au, AO] at hfv
     subst hfv;have BK6 : Blk w6 w3.heap.size 151 #[_, .slice none 0 0] := Blk.tch (B4.set 0 _) hst6.2 zC
     have HIN6 := hid ((HIN4.out.row ((by (repeat (first | with_reducible exact Below.refl _ _ | with_reducible assumption | (with_reducible refine AF ?_ _) | (with_reducible refine Below.setCell ?_ zF _) | (with_reducible refine Below.drew ?_) | (with_reducible refine below_drewN ?_ _) | (refine Af zL ?_))) : Below w3.heap.size w4 _).mono hsz3)).step hst6)
     have HSP := hid (hsp.out.trans hstep)
     have HG := hid (fun (W : World) (hW : AZ W g B a s6) => (by have := AH W hW; rw [Ad hbad] at this; exact this : Calls Tryz.prog 44 #[.pointer (some ⟨g, 0, none⟩)] W fun r w' => r = .returned (.bool false) ∧ Below W.heap.size W w'))
     obtain ⟨y0, y1, f0, f1, hl6⟩ := Cn BK6
     clear hsp hstep hbad hv6 B4 q0 q1 e0 e1 l4;go_wp2_with fail;refine (HG.out _ (HIN6.out.row ((by (repeat (first | with_reducible exact Below.refl _ _ | with_reducible assumption | (with_reducible refine AF ?_ _) | (with_reducible refine Below.setCell ?_ zF _) | (with_reducible refine Below.drew ?_) | (with_reducible refine below_drewN ?_ _) | (refine Af zL ?_))) : Below w3.heap.size w6 _).mono hsz3)).rd).mono ?_
     rintro r w7 ⟨rfl, hb7⟩;have hb67 : Below w3.heap.size w6 w7 := (by (repeat (first | with_reducible exact Below.refl _ _ | with_reducible assumption | (with_reducible refine AF ?_ _) | (with_reducible refine Below.setCell ?_ zF _) | (with_reducible refine Below.drew ?_) | (with_reducible refine below_drewN ?_ _) | (refine Af zL ?_))) : Below w3.heap.size w6 (w6.setCell ⟨w3.heap.size, 1, none⟩ (.slice a6 bk.length c6))).trans (hb7.mono zJ)
     have HE := hid (HIN6.out.row (hb67.mono hsz3)).to
     clear hb7;go_wp2;go_ret;rw [HSP.out]
     exact ⟨.slice none 0 0, rfl, A6.Nw (e := 0) (Ak _) A6.nil, HE.out⟩
    ·have hS : st.stream B (some z.stream) = ((st.num B).1, ((st.num B).2 : Int) + (z.stream + 1)) := by
      simp only [Rs.stream]
      rw [An hf, Int.add_assoc]
     rw [hS] at hstep
     clear hS;generalize st.num B = R at *
     obtain ⟨st1, x⟩ := R
     dsimp only at *;have hxb : (0 : Int) ≤ (x : Int) + (z.stream + 1) ∧ (x : Int) + (z.stream + 1) ≤ 18446744073709551615 := zC
     have d4 : decide (bits BinOp.xor IntKind.u64 IntKind.u64.max z.stream ≤ (x : Int)) = false := by rw [e1]; exact Ad hf
     have v1 : 0 ≤ z.stream + 1 := zC
     have v2 : z.stream + 1 ≤ 18446744073709551615 := zC
     have v3 := hxb.1
     have v4 := hxb.2
     clear hf e1;have HD := hid (fun (W : World) (hW : AZ W g B a st1) => I4 W hW hB pos hpos 4 zC)
     generalize st1.delta B pos 4 = D at *
     obtain ⟨s6, bk⟩ := D
     dsimp only at *;go_wp2_with fail;refine HAT.out.mono ?_
     rintro r w2 ⟨rfl, rfl⟩;go_wp2_with fail;refine HVR.out.mono ?_
     rintro r w3 ⟨rfl, hst3⟩;have HIN3 := hid (hin.out.step hst3)
     have HO3 := hid (A6.Ta HO.out (hst3.2.mono fun b hb e => .inl e) hlt)
     have hsz3 := HIN3.out.tch.size
     have X0 := (hst3.2.cell (p := ⟨bq, o + m * 2, none⟩) hbr hbg).trans hc0
     have hb3 : bq < w3.heap.size := Ai hbr hst3.2.size
     clear hst3 hc0;go_wp2_with fail;refine (HD.out _ (HIN3.out.row ((by (repeat (first | with_reducible exact Below.refl _ _ | with_reducible assumption | (with_reducible refine AF ?_ _) | (with_reducible refine Below.setCell ?_ zF _) | (with_reducible refine Below.drew ?_) | (with_reducible refine below_drewN ?_ _) | (refine Af zL ?_))) : Below w3.heap.size w3 _).mono hsz3)).rd).mono ?_
     rintro r w6 ⟨v6, rfl, hv6, hst6⟩;obtain ⟨a6, c6, hfv, _, _⟩ := AN hv6
     simp only [Au, AO] at hfv
     subst hfv;have BK6 : Blk w6 w3.heap.size 151 #[.int .u64 ((x : Int) + (z.stream + 1)), .slice none 0 0] := Blk.tch zD hst6.2 zC
     have HIN6 := hid ((HIN3.out.row ((by (repeat (first | with_reducible exact Below.refl _ _ | with_reducible assumption | (with_reducible refine AF ?_ _) | (with_reducible refine Below.setCell ?_ zF _) | (with_reducible refine Below.drew ?_) | (with_reducible refine below_drewN ?_ _) | (refine Af zL ?_))) : Below w3.heap.size w3 _).mono hsz3)).step hst6)
     have HK6 : Hid (Tch (fun b => b = g ∨ w3.heap.size ≤ b) w3 w6) := hid ((Tch.Ij (by (repeat (first | with_reducible exact Below.refl _ _ | with_reducible assumption | (with_reducible refine AF ?_ _) | (with_reducible refine Below.setCell ?_ zF _) | (with_reducible refine Below.drew ?_) | (with_reducible refine below_drewN ?_ _) | (refine Af zL ?_))) : Below w3.heap.size w3 _)).mono (fun b hb e => .inr e) |>.trans hst6.2 (fun b hb e => .inl e))
     by_cases hk6 : s6.k = 0
     ·rw [Am hk6] at hstep
      have HSP := hid (hsp.out.trans hstep)
      have HG := hid (fun (W : World) (hW : AZ W g B a s6) => (by have := AH W hW; rw [Ae hk6] at this; exact this : Calls Tryz.prog 44 #[.pointer (some ⟨g, 0, none⟩)] W fun r w' => r = .returned (.bool true) ∧ Below W.heap.size W w'))
      obtain ⟨y0, y1, f0, f1, hl6⟩ := Cn BK6
      have HV6 := hid hv6
      have hq6 := hst6.2.size
      simp at hq6
      clear hsp hstep hk6 hv6 hst6;go_wp2_with fail;refine (HG.out _ (HIN6.out.row ((by (repeat (first | with_reducible exact Below.refl _ _ | with_reducible assumption | (with_reducible refine AF ?_ _) | (with_reducible refine Below.setCell ?_ zF _) | (with_reducible refine Below.drew ?_) | (with_reducible refine below_drewN ?_ _) | (refine Af zL ?_))) : Below w3.heap.size w6 _).mono hsz3)).rd).mono ?_
      rintro r w7 ⟨rfl, hb7⟩;have B7 : Blk w7 w3.heap.size 151 #[.int .u64 ((x : Int) + (z.stream + 1)), .slice a6 bk.length c6] := Blk.later (BK6.set 1 _) hb7
      obtain ⟨z0, z1, _, _, hl7⟩ := Cn B7
      have hb67 : Below w3.heap.size w6 w7 := (by (repeat (first | with_reducible exact Below.refl _ _ | with_reducible assumption | (with_reducible refine AF ?_ _) | (with_reducible refine Below.setCell ?_ zF _) | (with_reducible refine Below.drew ?_) | (with_reducible refine below_drewN ?_ _) | (refine Af zL ?_))) : Below w3.heap.size w6 (w6.setCell ⟨w3.heap.size, 1, none⟩ (.slice a6 bk.length c6))).trans (hb7.mono zJ)
      have HIN7 := hid (HIN6.out.row (hb67.mono hsz3))
      have hsz7 := HIN7.out.tch.size
      have hk7 : Tch (fun b => b = g ∨ w3.heap.size ≤ b) w3 w7 := HK6.out.trans (Tch.Ij hb67) (fun b hb hle => .inr hle)
      have O7 := A6.Ta HO3.out hk7 hlt
      obtain ⟨cells0, OA0⟩ := HO3.out
      have hlt0 : ∀ g', (Value.slice (some ⟨bq, o, none⟩) J.length cv).ownBlock = some g' → g' < w3.heap.size := fun g' e => (OA0.1.lt g' e).2
      obtain ⟨cells, OA⟩ := A6.below O7 (show Below w7.heap.size w7 (w7.alloc (.cells #[.int .u64 ((x : Int) + (z.stream + 1)), .slice a6 bk.length c6] 151)) from zA)
      have hk8 : ∀ b, w3.heap.size + 1 ≤ b → b < w6.heap.size → (w7.alloc (.cells #[.int .u64 ((x : Int) + (z.stream + 1)), .slice a6 bk.length c6] 151)).heap[b]? = w6.heap[b]? := fun b h1 h2 => (Br w7 _ b (by have := hb67.size; omega)).trans ((hb7.block b zBj).trans (AM _ _ _ _ zN))
      have hv8 := AY.keep (w' := (w7.alloc (.cells #[.int .u64 ((x : Int) + (z.stream + 1)), .slice a6 bk.length c6] 151))) HV6.out (fun b (hb : (w3.alloc (.cells #[.int .u64 ((x : Int) + (z.stream + 1)), .slice none 0 0] 151)).heap.size ≤ b ∧ b < w6.heap.size) => hk8 b (by have := hb.1; simp at this; omega) hb.2)
      have hx8 : KI.r (fun b => w.heap.size ≤ b ∧ b < (w7.alloc (.cells #[.int .u64 ((x : Int) + (z.stream + 1)), .slice a6 bk.length c6] 151)).heap.size ∧ (Value.slice (some ⟨bq, o, none⟩) J.length cv).ownBlock ≠ some b) (w7.alloc (.cells #[.int .u64 ((x : Int) + (z.stream + 1)), .slice a6 bk.length c6] 151)) [.int .u64 ((x : Int) + (z.stream + 1)), .slice a6 bk.length c6] ⟨((x : Int) + (z.stream + 1)), bk⟩ := by
       refine RE (x := ⟨((x : Int) + (z.stream + 1)), bk⟩) hxb (AY.mono hv8 fun b hb => ?_)
       have h1 := hb.1
       have h2 := hb.2
       have h3 := hb67.size
       simp at h1
       refine ⟨zC, zJ, fun e => ?_⟩
       have := hlt0 b e
       omega
      have HX := hid hx8
      have HA := hid OA
      have HS9 : Hid (w.heap.size ≤ (w7.alloc (.cells #[.int .u64 ((x : Int) + (z.stream + 1)), .slice a6 bk.length c6] 151)).heap.size) := hid zJ
      clear hx8 hv8 OA OA0 hlt0 hk8 O7 hk7 hb67 hb7 B7 y0 y1 f0 f1 HV6;go_wp2_with (at_builtin; go_loud (refine Aq rfl _ _ _ rfl w.heap.size 151 i0 (.agg #[.int .u64 0, .slice none 0 0]) 2 32 Tryz.underlying24 hi hz0 hz1 hz2 rfl zP (.slice (some ⟨bq, o, none⟩) J.length cv) J.length _ rfl HA.out.1 (some ⟨w7.heap.size, 0, none⟩) 1 1 [.int .u64 ((x : Int) + (z.stream + 1)), .slice a6 bk.length c6] rfl (Bx w7 151 _ rfl rfl rfl) (by intro u hu; simp at hu; rcases hu with rfl | rfl <;> rfl) zK zC HS9.out ?_; intro v1 w9 hown1 hgrow1 hat1; have OP := hid (A6.push HA.out rfl HX.out hown1 hgrow1 hat1 hgrow1.size); have hb9 : Below w.heap.size w7 w9 := (Below.grown ((by (repeat (first | with_reducible exact Below.refl _ _ | with_reducible assumption | (with_reducible refine AF ?_ _) | (with_reducible refine Below.setCell ?_ zF _) | (with_reducible refine Below.drew ?_) | (with_reducible refine below_drewN ?_ _) | (refine Af zL ?_))) : Below w7.heap.size w7 _).mono hsz7) hgrow1 HS9.out (fun g e => (HA.out.1.lt g e).1)); clear hown1 hgrow1 hat1))
      have HIN9 := hid (HIN7.out.row hb9)
      have HJ9 : Hid (∀ y ∈ J ++ [(⟨((x : Int) + (z.stream + 1)), bk⟩ : BM)], 0 ≤ y.stream ∧ y.stream ≤ 18446744073709551615) := hid (fun y hy => by
       rw [Ed, Dg] at hy
       rcases hy with hy | rfl
       ·exact hJb.out y hy
       ·exact hxb)
      go_roundw
      case rel => exact ⟨m + 1 + 1, J ++ [⟨((x : Int) + (z.stream + 1)), bk⟩], s6, zC, zV, hid (by rw [Ag, hJl.out]; rfl), OP.out, HJ9, HIN9, hid (by rw [HSP.out]; simp)⟩
      case measure => simp [intOf]; omega
     ·rw [An hk6] at hstep
      have HSP := hid (hsp.out.trans hstep)
      have HG := hid (fun (W : World) (hW : AZ W g B a s6) => (by have := AH W hW; rw [Ad hk6] at this; exact this : Calls Tryz.prog 44 #[.pointer (some ⟨g, 0, none⟩)] W fun r w' => r = .returned (.bool false) ∧ Below W.heap.size W w'))
      obtain ⟨y0, y1, f0, f1, hl6⟩ := Cn BK6
      clear hsp hstep hk6 hv6;go_wp2_with fail;refine (HG.out _ (HIN6.out.row ((by (repeat (first | with_reducible exact Below.refl _ _ | with_reducible assumption | (with_reducible refine AF ?_ _) | (with_reducible refine Below.setCell ?_ zF _) | (with_reducible refine Below.drew ?_) | (with_reducible refine below_drewN ?_ _) | (refine Af zL ?_))) : Below w3.heap.size w6 _).mono hsz3)).rd).mono ?_
      rintro r w7 ⟨rfl, hb7⟩;have hb67 : Below w3.heap.size w6 w7 := (by (repeat (first | with_reducible exact Below.refl _ _ | with_reducible assumption | (with_reducible refine AF ?_ _) | (with_reducible refine Below.setCell ?_ zF _) | (with_reducible refine Below.drew ?_) | (with_reducible refine below_drewN ?_ _) | (refine Af zL ?_))) : Below w3.heap.size w6 (w6.setCell ⟨w3.heap.size, 1, none⟩ (.slice a6 bk.length c6))).trans (hb7.mono zJ)
      have HE := hid (HIN6.out.row (hb67.mono hsz3)).to
      clear hb7;go_wp2;go_ret;rw [HSP.out]
      exact ⟨.slice none 0 0, rfl, A6.Nw (e := 0) (Ak _) A6.nil, HE.out⟩
  ·obtain rfl : k = N := by omega
   have hE := hsp.out
   rw [JK] at hE
   have HSP : Hid (Rs.FP B pos k s1 none [] = (st, J)) := hid hE
   have hv := A6.Nw (Ak _) hown
   have HV := hid hv
   have HE := hid hin.out.to
   clear hE hv hown;go_wp2;go_ret;rw [HSP.out]
   exact ⟨_, rfl, HV.out, HE.out⟩
theorem Eo {W : World} {lo : Nat} {e : TypeId} {sz n : Nat} {v : Value} {xs : List Value} (h : W.ownsRow lo e sz v n xs) : ∀ b, v.ownBlock = some b → lo ≤ b ∧ b < W.heap.size := by
 intro b hv;rcases h.2 with ⟨rfl, _⟩ | ⟨g, cap, cur, rfl, hb, hg, _⟩
 ·cases hv
 ·have e1 : g = b := by simpa [Value.ownBlock] using hv
  subst e1;exact ⟨hb, Blk.lt hg⟩
section
variable {w W : World} {ep : Int} {a : Option Addr} {n c : Nat} {J : List UInt8} {M : List Wa} {aJ : Option Addr} {cJ : Nat} {aM : Option Addr} {cM : Nat}
theorem Wh.far {v : Value} {u : Nat} {xs : List Value} {e : TypeId} {sz : Nat} (h : W.ownsRow (w.heap.size + 3) e sz v u xs) {b : Nat} (hb : b < w.heap.size + 3) : v.ownBlock ≠ some b := fun e => by have := (Eo h b e).1; omega
end
theorem VO {d at_ m : Nat} (hd : d < 4294967296) : (d * 2 ^ at_ / 2 ^ m) % 2 = (if at_ ≤ m ∧ m - at_ < 32 then d / 2 ^ (m - at_) % 2 else 0) := by
 have h1 : ∀ a b : Nat, (a / 2 ^ b) % 2 = (if a.testBit b then 1 else 0) := fun a b => by
  rw [Nat.testBit_eq_decide_div_mod_eq]
  rcases EA (a / 2 ^ b) with e | e <;> rw [e] <;> simp
 rw [h1, h1, De, Nat.testBit_two_pow_mul]
 by_cases h : at_ ≤ m
 ·by_cases h2 : m - at_ < 32
  ·rw [Am (⟨h, h2⟩ : at_ ≤ m ∧ m - at_ < 32)]
   simp [h]
  ·rw [An (fun e : at_ ≤ m ∧ m - at_ < 32 => h2 e.2)]
   have : d.testBit (m - at_) = false := Nat.testBit_lt_two_pow (Ai hd (A4 (by decide : 4294967296 ≤ 2 ^ 32) (G4 zP zC)))
   simp [h, this]
 ·rw [An (fun e : at_ ≤ m ∧ m - at_ < 32 => h e.1)]
  simp [h]
theorem PH : ∀ (Y : List UInt8) (y : UInt8) (E : Nat), Cq (Y ++ [y]) E = Cq Y E ++ [y ^^^ UInt8.ofNat (E / 256 ^ Y.length % 256)] := fun Y y E => by
 rw [JQ]
 rfl
theorem Up (q j : Nat) : q % 2 ^ (j + 1) = (if (q / 2 ^ j) % 2 = 1 then q % 2 ^ j ^^^ 2 ^ j else q % 2 ^ j) := by
 have h1 : (q / 2 ^ j) % 2 = (if q.testBit j then 1 else 0) := by
  rw [Nat.testBit_eq_decide_div_mod_eq]
  rcases EA (q / 2 ^ j) with e | e <;> rw [e] <;> simp
 apply Nat.eq_of_testBit_eq
 intro i;rw [h1, Nat.testBit_mod_two_pow]
 cases hq : q.testBit j
 ·simp only [Bool.false_eq_true, if_false]
  rw [An zP, Nat.testBit_mod_two_pow]
  by_cases h : i < j
  ·simp [h, show i < j + 1 by omega]
  ·by_cases e : i = j
   ·subst e; simp [hq]
   ·simp [show ¬ i < j + 1 by omega, h]
 ·simp only [JG]
  rw [Nat.testBit_xor, Nat.testBit_mod_two_pow, Nat.testBit_two_pow]
  by_cases h : i < j
  ·simp [h, show i < j + 1 by omega, show ¬ j = i by omega]
  ·by_cases e : i = j
   ·subst e; simp [hq]
   ·simp [show ¬ i < j + 1 by omega, h, show ¬ j = i by omega]
theorem Vn {x j : Nat} (hx : x < 256) (hj : j < 8) : bits BinOp.xor IntKind.u8 (x : Int) ((2 : Int) ^ j % 256) = ((x ^^^ 2 ^ j : Nat) : Int) := by
 have key : ∀ (k : Fin 8) (y : Fin 256), bits BinOp.xor IntKind.u8 ((y.val : Nat) : Int) ((2 : Int) ^ k.val % 256) = ((y.val ^^^ 2 ^ k.val : Nat) : Int) := zE
 exact key ⟨j, hj⟩ ⟨x, hx⟩
theorem Qe (B : List UInt8) (ad : Option Addr) (nd cd : Nat) (w : World) (hD : Ah.r (· < w.heap.size) w [.slice ad nd cd] B) (hB : B.length ≤ 1000000000) (at_ d : Nat) (hat : at_ ≤ 10000000000) (hd : d < 4294967296) :
  Calls Tryz.prog 45 #[.slice ad nd cd, .int .i64 (at_ : Int), .int .u32 (d : Int)] w fun r w' => ∃ v, r = .returned v ∧ BS w' w.heap.size v (Cq B (d * 2 ^ at_)) ∧ Below w.heap.size w w' := by
 obtain ⟨rfl, hm, _, _⟩ := AS hD
 obtain ⟨i0, hi, hz0, hz1, hz2⟩ := A8 Dz
 have HD := hid hD; clear hD
 have HBIT := hid (fun m => VO (d := d) (at_ := at_) (m := m) hd)
 have HE : Hid (∀ k (hk : k < B.length), Cq (B.take (k + 1)) (d * 2 ^ at_) = Cq (B.take k) (d * 2 ^ at_) ++ [B[k] ^^^ UInt8.ofNat (d * 2 ^ at_ / 256 ^ k % 256)]) := hid (fun k hk => by
  rw [AU hk, PH, K2, Nat.min_eq_left zC])
 have HT : Hid (Cq (B.take 0) (d * 2 ^ at_) = []) := hid rfl
 generalize hEE : d * 2 ^ at_ = E at *
 clear hEE;go_enter Tryz.func45, Tryz.ntmps45
 go_wp2_with fail;go_loopw [7, 8] (fun o i wr => ∃ k : Nat, k ≤ B.length ∧ i = .int .i64 k ∧ BS wr w.heap.size o (Cq (B.take k) E) ∧ Below w.heap.size w wr) (fun _ i _ => B.length - (intOf i).toNat)
 case atStart => exact ⟨0, Aj _, rfl, by rw [HT.out]; exact ⟨rfl, .inl ⟨rfl, rfl⟩⟩, Below.refl _ _⟩
 case round =>
  obtain ⟨k, hk, rfl, hown, hb⟩ := hrel
  have hbs := hb.size
  have hl := Ga (B.take k) E
  obtain ⟨J, hJ⟩ : ∃ J, J = Cq (B.take k) E := ⟨_, rfl⟩
  rw [← hJ] at hown hl
  obtain ⟨aJ, cJ, rfl⟩ := hown.form
  have HO := hid hown
  have HJ := hid hJ
  rw [K2, Nat.min_eq_left hk] at hl
  have HLJ := hid hl
  clear hown hJ hl;by_cases hlt : k < B.length
  ·have hle := HE.out k hlt
   have i1 : (k : Int) < (B.length : Int) := zC
   have d1 : decide ((k : Int) < (B.length : Int)) = true := Ae i1
   obtain ⟨b, o, hA, hbb, hx⟩ := CO (lift HD.out hb) hlt
   subst hA;have hy := B[k].toNat_lt
   have hfin : Hid (B[k] ^^^ UInt8.ofNat (E / 256 ^ k % 256) = UInt8.ofNat (B[k].toNat ^^^ E / 256 ^ k % 256)) := hid (by
    apply UInt8.toNat_inj.1
    rw [L9, F6]
    exact (Ds (Nat.xor_lt_two_pow (n := 8) B[k].toNat_lt (Nat.mod_lt _ zP))).symm)
   have HLE := hid hle
   clear hle;generalize hyy : B[k].toNat = y at *
   have hbit : ∀ j, j < 8 → (E / 256 ^ k % 256 / 2 ^ j) % 2 = (E / 2 ^ (8 * k + j)) % 2 := fun j hj => by
    have h1 : E / 256 ^ k % 256 / 2 ^ j = E / 256 ^ k / 2 ^ j % 2 ^ (8 - j) := by
     have := Nat.mod_mul_right_div_self (E / 256 ^ k) (2 ^ j) (2 ^ (8 - j))
     rw [← Nat.pow_add, show j + (8 - j) = 8 by omega] at this
     exact this
    rw [h1, Nat.mod_mod_of_dvd _ (show 2 ∣ 2 ^ (8 - j) from ⟨2 ^ (8 - j - 1), by rw [← Nat.pow_succ']; congr 1; omega⟩), F9, show (256 : Nat) ^ k = 2 ^ (8 * k) by rw [Nat.pow_mul], ← Nat.pow_add]
   have HB2 := hid hbit
   have hq : E / 256 ^ k % 256 < 256 := Nat.mod_lt _ zP
   clear hbit hyy;generalize E / 256 ^ k % 256 = q at *
   have hstart : Hid (y ^^^ q % 2 ^ 0 = y) := hid (by simp [Nat.mod_one])
   go_wp2_with fail;go_loopw [9, 10] (fun x i V => ∃ j : Nat, j ≤ 8 ∧ i = .int .i64 j ∧ x = .int .u8 ((y ^^^ q % 2 ^ j : Nat) : Int) ∧ wr = V) (fun _ i _ => 8 - (intOf i).toNat)
   case atStart => exact ⟨0, zC, rfl, by rw [hstart.out], rfl⟩
   case round =>
    obtain ⟨j, hj, rfl, rfl, rfl⟩ := hrel
    by_cases hj8 : j < 8
    ·have e1 : (j : Int) < 8 := by omega
     have e2 : decide ((j : Int) < 8) = true := Ae e1
     have hv1 := HB2.out j hj8
     rw [HBIT.out] at hv1
     have hmore := Up q j
     rw [hv1] at hmore
     obtain ⟨R, hR⟩ : ∃ R, R = decide ((if at_ ≤ 8 * k + j ∧ 8 * k + j - at_ < 32 then d / 2 ^ (8 * k + j - at_) % 2 else 0) = 1) := ⟨_, rfl⟩
     have hm2 : y ^^^ q % 2 ^ (j + 1) = (if R = true then (y ^^^ q % 2 ^ j) ^^^ 2 ^ j else y ^^^ q % 2 ^ j) := by
      rw [hmore, hR]
      by_cases h : (if at_ ≤ 8 * k + j ∧ 8 * k + j - at_ < 32 then d / 2 ^ (8 * k + j - at_) % 2 else 0) = 1
      ·rw [Am h, Am (Ae h), Cv]
      ·rw [An h, An (by rw [Ad h]; decide)]
     have hz : y ^^^ q % 2 ^ j < 256 := Nat.xor_lt_two_pow (n := 8) hy (Nat.lt_of_le_of_lt (Nat.mod_le _ _) hq)
     have HM2 := hid hm2
     have HRR := hid hR
     clear hm2 hR hmore hv1;generalize y ^^^ q % 2 ^ j = z at *
     have HX := hid (Vn hz hj8)
     go_upto_region 10 with (fail)
     obtain ⟨v, hv⟩ : ∃ v : Int, v = 8 * (k : Int) + (j : Int) - (at_ : Int) := ⟨_, rfl⟩
     rw [← hv]
     have HV := hid hv
     clear hv;go_cut [45] from 32 to 44 (fun s V => s = .bool R ∧ Hid (V = wr))
     case first =>
      by_cases c1 : 0 ≤ v
      ·by_cases c2 : v < 32
       ·obtain ⟨i, hii⟩ : ∃ i : Nat, i = 8 * k + j - at_ := ⟨_, rfl⟩
        have hvi : v = (i : Int) := zA8
        have hR2 : Hid (R = decide (d / 2 ^ i % 2 = 1)) := hid (by
         rw [HRR.out, hii, Am (⟨zA8, zA8⟩ : at_ ≤ 8 * k + j ∧ 8 * k + j - at_ < 32)])
        subst hvi;have f1 : decide ((0 : Int) ≤ (i : Int)) = true := Ae c1
        have f2 : decide ((i : Int) < 32) = true := Ae c2
        clear HV hii;go_wp2_with fail;go_meet
        case rel =>
         refine ⟨D8 Value.bool ?_, hid rfl⟩
         rw [hR2.out]
         have hc : ((d : Int) / 2 ^ i).tmod 2 = ((d / 2 ^ i % 2 : Nat) : Int) := by
          rw [show (d : Int) / 2 ^ i = ((d / 2 ^ i : Nat) : Int) by simp]
          rfl
         rw [hc, EM, beq_iff_eq, Ar]
         omega
       ·have f1 : decide ((0 : Int) ≤ v) = true := Ae c1
        have f2 : decide (v < (32 : Int)) = false := Ad c2
        have hRf : R = false := by
         rw [HRR.out, An zA8]
         rfl
        clear HV;go_wp2_with fail;go_meet
        case rel => exact ⟨by rw [hRf], hid rfl⟩
      ·have f1 : decide ((0 : Int) ≤ v) = false := Ad c1
       have hRf : R = false := by
        rw [HRR.out, An zA8]
        rfl
       clear HV;go_wp2_with fail;go_meet
       case rel => exact ⟨by rw [hRf], hid rfl⟩
     case rest =>
      obtain ⟨rfl, hV⟩ := hcut
      have hV' := hV.out.symm
      subst hV';clear hV HRR HV;cases R
      ·have hm3 : Hid (y ^^^ q % 2 ^ (j + 1) = z) := hid HM2.out
       go_wp2_with fail;go_roundw
       case rel => exact ⟨j + 1, zC, zV, by rw [hm3.out], trivial⟩
       case measure => simp [intOf]; omega
      ·have hm3 : Hid (y ^^^ q % 2 ^ (j + 1) = z ^^^ 2 ^ j) := hid HM2.out
       go_wp2_with fail;go_roundw
       case rel => exact ⟨j + 1, zC, zV, by rw [hm3.out, ← HX.out], trivial⟩
       case measure => simp [intOf]; omega
    ·obtain rfl : j = 8 := by omega
     have e2 : decide ((8 : Int) < 8) = false := rfl
     have hq8 : y ^^^ q % 2 ^ 8 = y ^^^ q := by rw [Ds hq]
     rw [hq8]
     have hby : Hid (((y ^^^ q : Nat) : Int) = ((UInt8.ofNat (y ^^^ q)).toNat : Int)) := hid (D6 (Nat.xor_lt_two_pow (n := 8) hy hq))
     clear hq8;go_wp2_with (at_builtin; (refine Aq rfl _ _ _ rfl w.heap.size 5 i0 (.int .u8 0) 1 1 As hi hz0 hz1 hz2 rfl zP (.slice aJ J.length cJ) J.length (byteCells J) rfl (AD HO.out zA) (some ⟨wr.heap.size, 0, none⟩) 1 1 [.int .u8 ((y ^^^ q : Nat) : Int)] rfl (Bx wr 5 _ rfl rfl rfl) zW (by have := HLJ.out; simp only [maxLen]; omega) (by have := HLJ.out; omega) zJ ?_; intro v' w1 hown1 hgrow1 hat1; have HG := hid hgrow1; have HO1 := hid hown1; clear hgrow1 hown1 hat1))
     have ho := HO1.out
     rw [hby.out, Dq, ← hfin.out, HJ.out, ← HLE.out] at ho
     have hB : Below w.heap.size w w1 := Below.grown zA HG.out zJ (fun g e => (HO.out.lt g e).1)
     have hln : (Cq (B.take (k + 1)) E).length = J.length + 1 := by rw [Ga, K2, HLJ.out]; omega
     have HO2 := hid ho
     have HLN := hid hln
     clear ho hln;go_wp2_with fail;go_roundw
     case rel => exact ⟨k + 1, zC, zV, by unfold BS; rw [HLN.out, HJ.out]; exact HO2.out, hB⟩
     case measure => simp [intOf]; omega
  ·obtain rfl : k = B.length := by omega
   have ht : J = Cq B E := by rw [HJ.out, Es]
   have HT2 := hid ht
   clear ht;have d1 : decide ((B.length : Int) < (B.length : Int)) = false := Ad zC
   go_wp2;go_ret;exact ⟨_, rfl, by rw [← HT2.out]; exact HO.out, hb⟩
theorem SE (w : World) (B : List UInt8) (a : Option Addr) (n c : Nat) (hl : Ah.r (· < w.heap.size) w [.slice a n c] B) (hB : B.length ≤ 1000000000) (most : Int) (hm : -9223372036854775808 ≤ most ∧ most ≤ 9223372036854775807) :
  Calls Tryz.prog 213 #[.slice a n c, .int .i64 most] w fun r w' => ∃ v, r = .returned (.tuple #[v, .int .i64 ((KZ (((⟨0, 0, 0⟩ : Rs).frame B most))).2.1 : Int), .agg #[.int .i64 (KZ (((⟨0, 0, 0⟩ : Rs).frame B most))).2.2.1, .int .i64 (KZ (((⟨0, 0, 0⟩ : Rs).frame B most))).2.2.2]]) ∧ Ah.r (fun q => w.heap.size ≤ q ∧ q < w'.heap.size) w' [v] (KZ (((⟨0, 0, 0⟩ : Rs).frame B most))).1 ∧ Below w.heap.size w w' := by
 obtain ⟨rfl, hmx, hcc, hcm⟩ := AS hl
 have HN := hid (Qg (w.alloc (.cells #[.int .i64 0, .int .i64 0] 58)) B a _ c (lift hl zA))
 have hLS := hid (fun (W : World) (h : AZ W (w.heap.size + 1) B a ⟨0, 0, 0⟩) => QS W h hB most hm)
 unfold KZ;generalize ((⟨0, 0, 0⟩ : Rs).frame B most) = L at *
 obtain ⟨s1, D⟩ := L
 dsimp only at *;clear hl;by_cases hk : s1.k = 0
 ·rw [Am hk]
  have d1 : decide (s1.k = 0) = true := Ae hk
  clear hk;dsimp only;go_enter Tryz.func213, Tryz.ntmps213
  go_wp2_with fail;refine HN.out.mono ?_
  rintro r w1 ⟨rfl, hrd, hb1⟩;have F1 : Blk w1 w.heap.size 58 #[.int .i64 0, .int .i64 0] := Blk.later zD hb1
  have hbw1 : Below w.heap.size w w1 := zA
  have hgl := hrd.blk.lt
  simp at hrd hgl
  have HRD := hid hrd
  have HLS := hid (hLS.out w1 hrd)
  clear hrd hb1;go_wp2_with fail;refine HLS.out.mono ?_
  rintro r w2 ⟨v, rfl, hr, hst⟩;obtain ⟨aD, cD, hv, hr2, _⟩ := AN hr
  simp only [Au, AO] at hv
  subst hv;have HST := hid hst
  have HR := hid hr2
  have hs2 := hst.size
  have F2 := F1.tch hst.2 zC
  have hbw2 : Below w.heap.size w w2 := hbw1.trans (hst.below zC zC)
  have HFA := hid (Ig w2 hst.1)
  clear hr hr2 hst F1;go_wp2_with fail;refine HFA.out.mono ?_
  rintro r w3 ⟨rfl, hb3⟩;have F3 := F2.later hb3
  have hG := C7 (w3.alloc (.cells #[.int .i64 s1.k, .int .i64 s1.f] 58)) s1.k s1.f
  rw [d1] at hG
  have HG := hid hG
  have hbw3 := Af hb3 hbw2
  clear hG d1;go_wp2_with fail;refine HG.out.mono ?_
  rintro r w4 ⟨rfl, hb4⟩;have F4 := (F3.alloc _).later hb4
  obtain ⟨y0, y1, g0, g1, l1⟩ := Cn F4
  have hb24 : Below w2.heap.size w2 w4 := zA
  have hbw4 := Af hb24 hbw2
  have HST4 := hid (HST.out.then hb24)
  have hs4 := hb24.size
  have HAT := hid (Cc w4 HST4.out.1)
  have HRK := hid (Ah.mono (S' := fun q => w.heap.size + 1 < q ∧ q < w4.heap.size) (Ah.keep HR.out fun q hq => hb24.block q hq.2) fun q hq => ⟨zC, zC⟩)
  clear F2 F3 F4;go_wp2_with fail;refine HAT.out.mono ?_
  rintro r w4' ⟨rfl, rfl⟩;go_wp2;refine Al (v := .tuple #[.slice aD D.length cD, .int .i64 (s1.p : Int), .agg #[.int .i64 0, .int .i64 0]]) zCb rfl ⟨_, rfl, ?_, zA⟩
  refine Ah.mono (Ah.keep HRK.out fun q hq => ?_) fun q hq => ⟨zC, by simp [World.setCell]; exact hq.2⟩
  repeat (rw [AM _ _ _ _ zN])
 ·rw [An hk]
  have d1 : decide (s1.k = 0) = false := Ad hk
  clear hk;dsimp only;go_enter Tryz.func213, Tryz.ntmps213
  go_wp2_with fail;refine HN.out.mono ?_
  rintro r w1 ⟨rfl, hrd, hb1⟩;have F1 : Blk w1 w.heap.size 58 #[.int .i64 0, .int .i64 0] := Blk.later zD hb1
  have hbw1 : Below w.heap.size w w1 := zA
  have hgl := hrd.blk.lt
  simp at hrd hgl
  have HRD := hid hrd
  have HLS := hid (hLS.out w1 hrd)
  clear hrd hb1;go_wp2_with fail;refine HLS.out.mono ?_
  rintro r w2 ⟨v, rfl, hr, hst⟩;obtain ⟨aD, cD, hv, hr2, _⟩ := AN hr
  simp only [Au, AO] at hv
  subst hv;have HST := hid hst
  have HR := hid hr2
  have hs2 := hst.size
  have F2 := F1.tch hst.2 zC
  have hbw2 : Below w.heap.size w w2 := hbw1.trans (hst.below zC zC)
  have HFA := hid (Ig w2 hst.1)
  clear hr hr2 hst F1;go_wp2_with fail;refine HFA.out.mono ?_
  rintro r w3 ⟨rfl, hb3⟩;have F3 := F2.later hb3
  have hG := C7 (w3.alloc (.cells #[.int .i64 s1.k, .int .i64 s1.f] 58)) s1.k s1.f
  rw [d1] at hG
  have HG := hid hG
  have hbw3 := Af hb3 hbw2
  clear hG d1;go_wp2_with fail;refine HG.out.mono ?_
  rintro r w4 ⟨rfl, hb4⟩;have F4 := (F3.alloc _).later hb4
  obtain ⟨y0, y1, g0, g1, l1⟩ := Cn F4
  have hb24 : Below w2.heap.size w2 w4 := zA
  have hbw4 := Af hb24 hbw2
  have HST4 := hid (HST.out.then hb24)
  have hs4 := hb24.size
  obtain ⟨z0, z1, e0, e1, l2⟩ := Cn (Blk.later (Blk.newAt w3 _ _ rfl) hb4)
  clear F2 F3 F4;go_wp2_with fail;go_region
  all_goals
   go_wp2;refine Al (v := .tuple #[.slice none 0 0, .int .i64 0, .agg #[.int .i64 s1.k, .int .i64 s1.f]]) zCb rfl ⟨_, rfl, Co rfl rfl zC, zA⟩
theorem Rs.QM {B : List UInt8} {s : Rs} {m : Int} (h : s.k ≠ 0) : s.int B m = (s, 0) := by
 unfold Rs.int Rs.most;rw [Rs.D5 h]
 split
 ·rw [An zN]
 ·rw [Rs.Ch h]
theorem Rs.Pp {B : List UInt8} {s : Rs} (h : s.k ≠ 0) : s.byte B = (s, 0) := by
 unfold Rs.byte;rw [Rs.Kv h]
 rfl
theorem Rs.NJ {B : List UInt8} {s : Rs} {m : Int} (h : s.k ≠ 0) : s.loose B m = (s, [], false) := by
 unfold Rs.loose;rw [Rs.QM h]
 dsimp only;rw [Rs.Pp h]
 dsimp only;rw [An h]
end Go.Proofs.YtlbffbkbkajciaaGreat
namespace Go.Bs
open Go.RowKit
structure G1 where
 epoch : Int
 node : Int
 tail : Int
 deriving DecidableEq
structure BD where
 lo : Int
 hi : Int
 sets : List (List Int)
 deriving DecidableEq
structure El where
 epoch : Int
 stripes : List BD
 deriving DecidableEq
structure Msg where
 kind : Int
 epoch : Int
 seq : Int
 pos : Int
 count : Int
 state : Int
 streams : List Int
 links : List BM
 data : List UInt8
 sea : G1
 proj : El
 deriving DecidableEq
def Tr : Rp G1 := rBy (fun s => (s.epoch, s.node, s.tail)) (En (GA .u64) (En (GA .u64) (GA .u64)))
def DW : Rp (List (List Int)) := rSl 1 AY
def G8 : Rp BD := rBy (fun s => (s.lo, s.hi, s.sets)) (En (GA .u64) (En (GA .u64) DW))
def Bg : Rp (List BD) := rSl 3 G8
def Qh : Rp El := rBy (fun p => (p.epoch, p.stripes)) (En (GA .u64) Bg)
def VV : Rp Msg := rBy (fun m => (m.kind, m.epoch, m.seq, m.pos, m.count, m.state, m.streams, m.links, m.data, m.sea, m.proj))
 (En (GA .i64) (En (GA .u64) (En (GA .u64) (En (GA .u64) (En (GA .i64) (En (GA .i64) (En AY (En BU (En Ah (En Tr Qh))))))))))
def inU (x : Int) : Prop := 0 ≤ x ∧ x ≤ 18446744073709551615
def inI (x : Int) : Prop := -9223372036854775808 ≤ x ∧ x ≤ 9223372036854775807
section
variable {S : Nat → Prop} {w : World} {cs : List Value}
theorem PU {x : G1} (h : Tr.r S w cs x) : cs = [.int .u64 x.epoch, .int .u64 x.node, .int .u64 x.tail] ∧ inU x.epoch ∧ inU x.node ∧ inU x.tail := by
 obtain ⟨c1, c2, rfl, ⟨rfl, h1⟩, c3, c4, rfl, ⟨rfl, h2⟩, rfl, h3⟩ := h
 exact ⟨rfl, G2 h1, G2 h2, G2 h3⟩
theorem Nu {x : BD} (h : G8.r S w cs x) : ∃ a c, cs = [.int .u64 x.lo, .int .u64 x.hi, .slice a x.sets.length c] ∧ inU x.lo ∧ inU x.hi ∧ DW.r S w [.slice a x.sets.length c] x.sets := by
 obtain ⟨c1, c2, rfl, ⟨rfl, h1⟩, c3, c4, rfl, ⟨rfl, h2⟩, h3⟩ := h
 obtain ⟨a, c, rfl, h4, _⟩ := AN h3
 exact ⟨a, c, rfl, G2 h1, G2 h2, h4⟩
theorem OL {x : El} (h : Qh.r S w cs x) : ∃ a c, cs = [.int .u64 x.epoch, .slice a x.stripes.length c] ∧ inU x.epoch ∧ Bg.r S w [.slice a x.stripes.length c] x.stripes := by
 obtain ⟨c1, c2, rfl, ⟨rfl, h1⟩, h3⟩ := h
 obtain ⟨a, c, rfl, h4, _⟩ := AN h3
 exact ⟨a, c, rfl, G2 h1, h4⟩
def OS (m : Msg) (a1 : Option Addr) (c1 : Nat) (a2 : Option Addr) (c2 : Nat) (a3 : Option Addr) (c3 : Nat) (a4 : Option Addr) (c4 : Nat) : List Value :=
  [.int .i64 m.kind, .int .u64 m.epoch, .int .u64 m.seq, .int .u64 m.pos, .int .i64 m.count, .int .i64 m.state, .slice a1 m.streams.length c1, .slice a2 m.links.length c2, .slice a3 m.data.length c3,
   .int .u64 m.sea.epoch, .int .u64 m.sea.node, .int .u64 m.sea.tail, .int .u64 m.proj.epoch, .slice a4 m.proj.stripes.length c4]
structure A2 (S : Nat → Prop) (w : World) (m : Msg) (a1 : Option Addr) (c1 : Nat) (a2 : Option Addr) (c2 : Nat) (a3 : Option Addr) (c3 : Nat) (a4 : Option Addr) (c4 : Nat) : Prop where
 kind : inI m.kind
 epoch : inU m.epoch
 seq : inU m.seq
 pos : inU m.pos
 count : inI m.count
 state : inI m.state
 sealE : inU m.sea.epoch
 sealN : inU m.sea.node
 sealT : inU m.sea.tail
 projE : inU m.proj.epoch
 streams : AY.r S w [.slice a1 m.streams.length c1] m.streams
 links : BU.r S w [.slice a2 m.links.length c2] m.links
 data : Ah.r S w [.slice a3 m.data.length c3] m.data
 stripes : Bg.r S w [.slice a4 m.proj.stripes.length c4] m.proj.stripes
theorem Su {x : Msg} (h : VV.r S w cs x) : ∃ a1 c1 a2 c2 a3 c3 a4 c4, cs = OS x a1 c1 a2 c2 a3 c3 a4 c4 ∧ A2 S w x a1 c1 a2 c2 a3 c3 a4 c4 := by
 obtain ⟨_, _, rfl, ⟨rfl, h1⟩, _, _, rfl, ⟨rfl, h2⟩, _, _, rfl, ⟨rfl, h3⟩, _, _, rfl, ⟨rfl, h4⟩, _, _, rfl, ⟨rfl, h5⟩, _, _, rfl, ⟨rfl, h6⟩, _, _, rfl, h7, _, _, rfl, h8, _, _, rfl, h9, _, _, rfl, h10, h11⟩ := h
 obtain ⟨a1, c1, rfl, g1, _⟩ := AN h7
 obtain ⟨a2, c2, rfl, g2, _⟩ := AN h8
 obtain ⟨a3, c3, rfl, g3, _⟩ := AN h9
 obtain ⟨rfl, s1, s2, s3⟩ := PU h10
 obtain ⟨a4, c4, rfl, p1, g4⟩ := OL h11
 exact ⟨a1, c1, a2, c2, a3, c3, a4, c4, rfl, bounds_i64 h1, G2 h2, G2 h3, G2 h4, bounds_i64 h5, bounds_i64 h6, s1, s2, s3, p1, g1, g2, g3, g4⟩
theorem R4 {x : BD} {v : Value} (h0 : inU x.lo) (h1 : inU x.hi) (h : DW.r S w [v] x.sets) : G8.r S w [.int .u64 x.lo, .int .u64 x.hi, v] x :=
 ⟨[_], [_, _], rfl, ⟨rfl, H5 h0⟩, [_], [_], rfl, ⟨rfl, H5 h1⟩, h⟩
theorem EO {xs : List (List Int)} {a : Option Addr} {n c : Nat} (h : DW.r S w [.slice a n c] xs) {i : Nat} (hi : i < xs.length) : ∃ b off, a = some ⟨b, off, none⟩ ∧ S b ∧ ∃ a' c', w.cell? ⟨b, off + i, none⟩ = some (.slice a' xs[i].length c') ∧ AY.r S w [.slice a' xs[i].length c'] xs[i] := by
 obtain ⟨b, off, e, hS, cs, _, hc, hA⟩ := Ls h hi
 obtain ⟨a', c', rfl, h1, _⟩ := AN hA
 have := hc 0 _ rfl
 rw [DA, BE] at this
 exact ⟨b, off, e, hS, a', c', this, h1⟩
theorem DG {xs : List BD} {a : Option Addr} {n c : Nat} (h : Bg.r S w [.slice a n c] xs) {i : Nat} (hi : i < xs.length) : ∃ b off, a = some ⟨b, off, none⟩ ∧ S b ∧ ∃ a' c', w.cell? ⟨b, off + i * 3, none⟩ = some (.int .u64 xs[i].lo) ∧ w.cell? ⟨b, off + i * 3 + 1, none⟩ = some (.int .u64 xs[i].hi) ∧ w.cell? ⟨b, off + i * 3 + 2, none⟩ = some (.slice a' xs[i].sets.length c') ∧
  inU xs[i].lo ∧ inU xs[i].hi ∧ DW.r S w [.slice a' xs[i].sets.length c'] xs[i].sets := by
 obtain ⟨b, off, e, hS, cs, _, hc, hA⟩ := Ls h hi
 obtain ⟨a', c', rfl, h1, h2, h3⟩ := Nu hA
 exact ⟨b, off, e, hS, a', c', hc 0 _ rfl, hc 1 _ rfl, hc 2 _ rfl, h1, h2, h3⟩
end
def Ev (s : G1) : Bool := epR s.epoch && (decide (s.node ≤ 4294967295) && decide (s.tail ≤ 4611686018427387904))
def CT (l : List Int) : Bool := decide (1 ≤ l.length ∧ l.length ≤ 8) && (Ba l && decide (l.getLastD 0 ≤ 4294967295))
def Cp (l : List Int) (others : List (List Int)) : Bool := others.all fun o => l.all fun n => !o.contains n
def Fu (L : List (List Int)) (i : Nat) : Bool := CT (L.getD i []) && Cp (L.getD i []) (L.take i)
def Bv (L : List (List Int)) : Nat → Bool
 | 0 => true
 | n + 1 => Bv L n && Fu L n
def Bm (s : BD) : Bool := decide (s.lo < s.hi ∧ s.hi ≤ 4611686018427387904 ∧ 1 ≤ s.sets.length ∧ s.sets.length ≤ 8) && Bv s.sets s.sets.length
def Dp : Int → List BD → Bool
 | p, [] => decide (p = 4611686018427387904)
 | p, s :: l => decide (s.lo = p) && (Bm s && Dp s.hi l)
def CA (p : El) : Bool := epR p.epoch && (decide (1 ≤ p.stripes.length ∧ p.stripes.length ≤ 64) && Dp 0 p.stripes)
def Du (k : Int) : Nat := if k < 1 ∨ 14 < k then 0 else [0, 1, 33, 0, 1, 1, 10, 0, 128, 36, 0, 64, 17, 128, 4].getD k.toNat 0
def AK (k : Int) (p : Nat) : Bool := Du k / p % 2 == 1
def Dn (k : Int) : Int := if k = 9 then 4 else 20
def Ca (k st : Int) : Bool := decide (k = 2) || (decide (k = 9) && decide (st = 1))
def A7 (h r z : Bool) : Bool := if h then r else z
def Qt : G1 := ⟨0, 0, 0⟩
def FE (m : Msg) : Bool :=
 decide (1 ≤ m.kind ∧ m.kind ≤ 14) && (A7 (AK m.kind 1) (poR m.pos) (decide (m.pos = 0)) && (A7 (AK m.kind 2) (decide (1 ≤ m.count ∧ m.count ≤ 65536)) (decide (m.count = 0)) &&
 (A7 (AK m.kind 4) (decide (1 ≤ m.state ∧ m.state ≤ Dn m.kind)) (decide (m.state = 0)) && (A7 (AK m.kind 8) (decide (m.streams.length ≤ 16) && Ba m.streams) (decide (m.streams.length = 0)) &&
 (A7 (AK m.kind 16) (BK m.pos m.links) (decide (m.links.length = 0)) && (A7 (AK m.kind 64) (Ev m.sea) (decide (m.sea = Qt)) &&
 (A7 (AK m.kind 128) (CA m.proj) (decide (m.proj.epoch = 0) && decide (m.proj.stripes.length = 0)) && (decide (m.data.length = 0) || (Ca m.kind m.state && decide (m.data.length ≤ 1048576))))))))))
theorem LL (k : Int) : Du k ∈ [0, 1, 33, 10, 128, 36, 64, 17, 4] := by
 unfold Du;split
 ·simp
 ·rename_i h
  have h' : k.toNat = 1 ∨ k.toNat = 2 ∨ k.toNat = 3 ∨ k.toNat = 4 ∨ k.toNat = 5 ∨ k.toNat = 6 ∨ k.toNat = 7 ∨ k.toNat = 8 ∨ k.toNat = 9 ∨ k.toNat = 10 ∨ k.toNat = 11 ∨ k.toNat = 12 ∨ k.toNat = 13 ∨ k.toNat = 14 := zC
  rcases h' with h | h | h | h | h | h | h | h | h | h | h | h | h | h <;> rw [h] <;> decide
theorem SC (k : Int) : AK k 32 = (decide (k = 2) || decide (k = 9)) := by
 unfold AK Du;split
 ·have h1 : decide (k = 2) = false := Ad zC
  have h2 : decide (k = 9) = false := Ad zC
  rw [h1, h2]; decide
 ·rename_i h
  have h' : k = 1 ∨ k = 2 ∨ k = 3 ∨ k = 4 ∨ k = 5 ∨ k = 6 ∨ k = 7 ∨ k = 8 ∨ k = 9 ∨ k = 10 ∨ k = 11 ∨ k = 12 ∨ k = 13 ∨ k = 14 := zC
  rcases h' with h | h | h | h | h | h | h | h | h | h | h | h | h | h <;> subst h <;> decide
end Go.Bs
namespace Go.Proofs.YtlbffbkbkajciaaGreat
open Go.RowKit Go.Bs Go.Maps
def tlR (x : Int) : Bool := decide (x ≤ 4611686018427387904)
def Rs.tl (B : List UInt8) (s : Rs) : Rs × Nat := if (s.num B).1.k = 0 then (if tlR ((s.num B).2 : Int) = true then s.num B else ((s.num B).1.fail 3 s.p, 0)) else ((s.num B).1, 0)
def Rs.EZ (B : List UInt8) : Nat → Rs → List Int → Rs × List Int
  | 0, s, out => (s, out)
  | n + 1, s, out =>
    if (s.num B).1.k = 0 then
      (if out ≠ [] ∧ 18446744073709551615 - out.getLastD 0 ≤ ((s.num B).2 : Int) then ((s.num B).1.fail 13 s.p, [])
       else Rs.EZ B n (s.num B).1 (out ++ [if out = [] then ((s.num B).2 : Int) else ((s.num B).2 : Int) + (out.getLastD 0 + 1)]))
    else ((s.num B).1, [])
def Dw : G1 := ⟨0, 0, 0⟩
def Rs.seal_ (B : List UInt8) (s : Rs) : Rs × G1 :=
 let e := s.ep B
 let n := e.1.most B 4294967295
 let t := n.1.tl B
 if t.1.k = 0 then (t.1, ⟨(e.2 : Int), (n.2 : Int), (t.2 : Int)⟩) else (t.1, Dw)
def Rs.many (B : List UInt8) (s : Rs) (m : Int) : Rs × Nat := (if (s.int B m).2 = 0 then (s.int B m).1.fail 3 s.p else (s.int B m).1, (s.int B m).2)
def Rs.FT (B : List UInt8) (s : Rs) (others : List (List Int)) : Rs × List Int :=
 let e := s.many B 8
 let f := Rs.EZ B e.2 e.1 []
 if f.1.k = 0 then
  (if 4294967295 < f.2.getLastD 0 then (f.1.fail 3 e.1.p, f.2) else if Cp f.2 others = true then f else (f.1.fail 13 e.1.p, f.2))
 else (f.1, [])
def Rs.Ft (B : List UInt8) : Nat → Rs → List (List Int) → Rs × List (List Int)
 | 0, s, out => (s, out)
 | n + 1, s, out => if (s.FT B out).1.k = 0 then Rs.Ft B n (s.FT B out).1 (out ++ [(s.FT B out).2]) else ((s.FT B out).1, [])
def GX : BD := ⟨0, 0, []⟩
def Rs.span (B : List UInt8) (s : Rs) (lo : Int) : Rs × Nat :=
 let s0 := if 4611686018427387904 < lo then s.fail 3 s.p else s
 let d := s0.num B
 (if 4611686018427387904 - min lo 4611686018427387904 ≤ (d.2 : Int) then d.1.fail 3 s.p else d.1, d.2)
def Rs.BY (B : List UInt8) (s : Rs) (lo : Int) : Rs × BD :=
 let d := s.span B lo
 let k := d.1.many B 8
 let u := Rs.Ft B k.2 k.1 []
 if u.1.k = 0 then (u.1, ⟨lo, lo + d.2 + 1, u.2⟩) else (u.1, GX)
def Rs.Dv (B : List UInt8) : Nat → Rs → Int → List BD → Rs × Int × List BD
 | 0, s, lo, out => (s, lo, out)
 | n + 1, s, lo, out => if (s.BY B lo).1.k = 0 then Rs.Dv B n (s.BY B lo).1 (s.BY B lo).2.hi (out ++ [(s.BY B lo).2]) else ((s.BY B lo).1, 0, [])
def DL : El := ⟨0, []⟩
def Rs.Ew (B : List UInt8) (s : Rs) : Rs × El :=
 let e := s.ep B
 let i := e.1.many B 64
 let u := Rs.Dv B i.2 i.1 0 []
 let v := if u.2.1 = 4611686018427387904 then u.1 else u.1.fail 3 u.1.p
 if v.k = 0 then (v, ⟨(e.2 : Int), u.2.2⟩) else (v, DL)
theorem Pc (x : Int) (w : World) : Calls Tryz.prog 255 #[.int .u64 x] w fun r w' => r = .returned (.bool (tlR x)) ∧ w = w' := by
 go_enter Tryz.func255, Tryz.ntmps255
 go_wp2_with fail;go_ret;exact ⟨rfl, rfl⟩
theorem Mu (w : World) {g : Nat} {B : List UInt8} {a : Option Addr} {s : Rs} (h : AZ w g B a s) (hB : B.length ≤ 1000000000) :
  Calls Tryz.prog 231 #[.pointer (some ⟨g, 0, none⟩), .func (Fn.func 255) #[] #[]] w fun r w' => r = .returned (.int .u64 ((s.tl B).2 : Int)) ∧ AE w g B a (s.tl B).1 w' := by
 have HAT := hid (Cc w h)
 have HVR := hid (CM w h zC)
 have hxb := Rs.Jm (B := B) (s := s)
 have HIN := hid (Dc.refl h)
 unfold Rs.tl;generalize s.num B = R at *
 obtain ⟨st1, x⟩ := R
 dsimp only at *;have HRT := hid (fun (W : World) => Pc (x : Int) W)
 have HBAD := hid hxb
 clear h hxb;by_cases hk1 : st1.k = 0
 ·rw [Am hk1]
  by_cases hr : tlR (x : Int) = true
  ·rw [Am hr]
   rw [hr] at HRT
   have HK : Hid (decide (st1.k = 0) = true) := hid (Ae hk1)
   clear hk1 hr;go_enter Ho, Gz
   go_wp2_with fail;refine HAT.out.mono ?_
   rintro r w2 ⟨rfl, rfl⟩;go_wp2_with fail;refine HVR.out.mono ?_
   rintro r w3 ⟨rfl, hst3⟩;have HIN3 := hid (HIN.out.step hst3)
   clear hst3;go_wp2_with fail;refine (HRT.out w3).mono ?_
   rintro r w3' ⟨rfl, rfl⟩;go_wp2_with fail;refine ((by have := AH w3 HIN3.out.rd; rw [HK.out] at this; exact this : Calls Tryz.prog 44 #[.pointer (some ⟨g, 0, none⟩)] w3 fun r w' => r = .returned (.bool true) ∧ Below w3.heap.size w3 w')).mono ?_
   rintro r w5 ⟨rfl, hb5⟩;have HE := hid (HIN3.out.to.then hb5)
   go_wp2;go_ret;exact ⟨rfl, HE.out⟩
  ·rw [An hr]
   rw [Bool.eq_false_iff.2 hr] at HRT
   have hfk : (st1.fail 3 s.p).k ≠ 0 := Rs.CU zC
   clear hk1 hr;go_enter Ho, Gz
   go_wp2_with fail;refine HAT.out.mono ?_
   rintro r w2 ⟨rfl, rfl⟩;go_wp2_with fail;refine HVR.out.mono ?_
   rintro r w3 ⟨rfl, hst3⟩;have HIN3 := hid (HIN.out.step hst3)
   clear hst3;go_wp2_with fail;refine (HRT.out w3).mono ?_
   rintro r w3' ⟨rfl, rfl⟩;go_wp2_with fail;refine (BB w3 HIN3.out.rd 3 (s.p : Int) zC).mono ?_
   rintro r w4 ⟨rfl, hst4⟩;have HIN4 := hid (HIN3.out.step hst4)
   have hg := AH w4 HIN4.out.rd
   rw [Ad hfk] at hg
   have HG := hid hg
   clear hst4 hg hfk;go_wp2_with fail;refine HG.out.mono ?_
   rintro r w5 ⟨rfl, hb5⟩;have HE := hid (HIN4.out.to.then hb5)
   go_wp2;go_ret;exact ⟨rfl, HE.out⟩
 ·rw [An hk1]
  have hx0 := HBAD.out hk1
  subst hx0;have hfk : st1.k ≠ 0 := hk1
  have hfid : st1.fail 3 s.p = st1 := Rs.Ch hk1
  rw [show tlR ((0 : Nat) : Int) = true from zP] at HRT
  clear hk1;go_enter Ho, Gz
  go_wp2_with fail;refine HAT.out.mono ?_
  rintro r w2 ⟨rfl, rfl⟩;go_wp2_with fail;refine HVR.out.mono ?_
  rintro r w3 ⟨rfl, hst3⟩;have HIN3 := hid (HIN.out.step hst3)
  clear hst3;go_wp2_with fail;refine (HRT.out w3).mono ?_
  rintro r w3' ⟨rfl, rfl⟩;go_wp2_with fail;refine ((by have := AH w3 HIN3.out.rd; rw [Ad hfk] at this; exact this : Calls Tryz.prog 44 #[.pointer (some ⟨g, 0, none⟩)] w3 fun r w' => r = .returned (.bool false) ∧ Below w3.heap.size w3 w')).mono ?_
  rintro r w5 ⟨rfl, hb5⟩;have HE := hid (HIN3.out.to.then hb5)
  clear hfk hfid;go_wp2;go_ret;exact ⟨rfl, HE.out⟩
theorem LY (w : World) {g : Nat} {B : List UInt8} {a : Option Addr} {s : Rs} (h : AZ w g B a s) (hB : B.length ≤ 1000000000) :
  Calls Tryz.prog 235 #[.pointer (some ⟨g, 0, none⟩)] w fun r w' => r = .returned (.int .u64 ((s.tl B).2 : Int)) ∧ AE w g B a (s.tl B).1 w' := by
 have HR := hid (Mu w h hB)
 generalize s.tl B = R at *
 clear h;go_enter Tryz.func235, Tryz.ntmps235
 go_wp2_with fail;refine HR.out.mono ?_
 rintro r w1 ⟨rfl, hst⟩;have HST := hid hst
 clear hst;go_wp2;go_ret;exact ⟨rfl, HST.out⟩
end Go.Proofs.YtlbffbkbkajciaaGreat
