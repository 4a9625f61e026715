/- Mini: Needed by segmentBack_walk, part 1: texts put together by shake.py; no condition. -/
import Derived.Test.YtfddhafbhceoaaaGreatWC14
import Derived.ProofKit
import Derived.OpenShut
import Derived.Deep.Slices
import Derived.Lib.SmallJoins
import Derived.WalkKit
import Derived.WalkLawsBesides
import Derived.WalkSpells
import Derived.Outline
import Derived.BigQuiet
import Derived.Deep.QuietTactic
import Derived.Deep.Cut
import Derived.Deep.RegionHeld3
import Derived.IntWalk
import Derived.Laws.IdiomStrings
import Derived.Laws.BytesArg
import Derived.Test.YtfddhafbhceoaaaGreatRows
import Derived.Deep.AppendLies
import Derived.Maps.AppendAt
import Derived.StillTailTactics
import Derived.Maps.OwnOps
import Derived.Maps.Views
import Derived.Sort.QuietThIn
import Derived.Sort.BigQuietIn
import Derived.Sort.QuietTacIn
import Derived.RangeFuncNested
import Derived.RangeFuncBound
import Derived.RangeFuncCalls
import Derived.RangeFuncLeaves
import Derived.Shelf.Abstract
import Derived.Shelf.RegionOpen
import Derived.OwnWalkIn
import Derived.TacticsInMore
import Derived.LoopNIn
import Derived.LoopIn
import Derived.Maps.OwnIn
import Derived.StillTail
import Derived.RegionTactic
import Derived.OrdersHeld
import Derived.Deep.RegionHeld
import Derived.ScopeJumps
import Derived.WalkMore
import Derived.BigRegion
import Derived.Lib.SlBytesConst
import Derived.Laws.BitsAllLaws
import Derived.Lib.ConvBytes
import Derived.Laws.AppendOwn
import Derived.Laws.MakeOwn
import Derived.Deep.RegionLaw
import Derived.Laws.Bits64
import Derived.Deep.CutRange
import Derived.Scope
import Derived.Test.YtfddhafbhceoaaaGreatProg
import Derived.Deep.WholeRow
import Derived.Deep.CutBlock
set_option linter.unusedVariables false
set_option linter.unusedSimpArgs false
set_option maxRecDepth 100000
set_option maxHeartbeats 6400000
namespace Go.Bs
open Go.RowKit
section
variable {P : Program}
theorem WU {t : TypeId} {k : IntKind} (ht : P.underlying t = some (.int k)) : Rv P t (Js k) := fun enc w fuel cs x h => by
  obtain ⟨n, rfl, _, hw⟩ := DataW.trod_int ht h
  exact ⟨n, rfl, hw⟩
theorem VB {H : Type} {enc : TypeId × Value → H} {w : World} {fuel : Nat} {t : TypeId} {cs : List Value} {x : DataW H × List MemPlace} {fs : Array Field} (ht : P.underlying t = some (.struct fs)) (h : DataW.trod enc P w 0 (fun _ => true) true fuel t cs = some x) :
    cs.length = P.cellsOf t ∧ ∃ n, ∀ (i : Nat) (f : Field), fs[i]? = some f → ∃ y, DataW.trod enc P w 0 (fun _ => true) true n f.type ((cs.drop f.offset).take (P.cellsOf f.type)) = some y := by
  obtain ⟨xs, n, _, _, h1, h2, h3⟩ := DataW.trod_struct ht h
  refine ⟨h1, n, fun i f hf => ?_⟩
  have hi : i < fs.size := (Array.getElem?_eq_some_iff.1 hf).1
  rw [h3 i f hf, AM (by omega)]
  exact ⟨_, rfl⟩
theorem VE {α β : Type} {A : Rp α} {B : Rp β} {S : Nat → Prop} {w : World} {cs : List Value} {o s o' : Nat} {x : α} {y : β} (ho : o + s = o') (h1 : A.r S w ((cs.drop o).take s) x) (h2 : B.r S w (cs.drop o') y) : (Hd A B).r S w (cs.drop o) (x, y) :=
  ⟨_, _, by subst ho; rw [← List.drop_drop, Dr], h1, h2⟩
theorem VJ {β : Type} {B : Rp β} {S : Nat → Prop} {w : World} {cs : List Value} {o s : Nat} {y : β} (hl : cs.length = o + s) (h2 : B.r S w ((cs.drop o).take s) y) : B.r S w (cs.drop o) y := by
  rwa [Fu (by simp; omega)] at h2
end
open Go.RowKit
def XD : Rp Seg := rBy (fun g => (g.epoch, g.batches)) (Hd (Js .u64) Bf)
section
variable {S : Nat → Prop} {w : World} {cs : List Value}
theorem WO {x : Seg} (h : XD.r S w cs x) : ∃ a c, cs = [.int .u64 x.epoch, .slice a x.batches.length c] ∧ (0 ≤ x.epoch ∧ x.epoch ≤ 18446744073709551615) ∧ Bf.r S w [.slice a x.batches.length c] x.batches := by
  obtain ⟨c1, c2, rfl, ⟨rfl, hw⟩, h2⟩ := h
  obtain ⟨a, c, rfl, h3, _⟩ := AJ h2
  exact ⟨a, c, rfl, bounds_u64 hw, h3⟩
end
end Go.Bs
namespace Go.Proofs.YtfddhafbhceoaaaGreat
open Go.RowKit Go.Bs Go.Maps
theorem Rs.Vx {B : List UInt8} {s : Rs} {n : Int} (h : s.k ≠ 0) : s.take B n = (s, []) := by unfold Rs.take; rw [Rs.Oo h]; simp
open Go.RowKit Go.Bs
theorem WJ : Tryz.prog.cellsOf 36 = 1 := by kernel_rfl
theorem Xs : Tryz.prog.cellsOf 22 = 1 := by kernel_rfl
theorem XB : Tryz.prog.cellsOf 37 = 1 := by kernel_rfl
theorem Xr : Tryz.prog.cellsOf 38 = 1 := by kernel_rfl
theorem Xg : Tryz.prog.cellsOf 46 = 1 := by kernel_rfl
theorem Xh : Tryz.prog.cellsOf 61 = 1 := by kernel_rfl
theorem Wn : Rv Tryz.prog 36 (Js .u64) := WU Tryz.underlying36
theorem Xx : Rv Tryz.prog 37 Bw := OK (sz := 1) JQ (by kernel_rfl) (by decide) Wn
theorem Vt {H : Type} {enc : TypeId × Value → H} {P : Program} {w : World} {cs : List Value} {n : Nat} {fs : Array Field} (h : ∀ (i : Nat) (f : Field), fs[i]? = some f → ∃ y, DataW.trod enc P w 0 (fun _ => true) true n f.type ((cs.drop f.offset).take (P.cellsOf f.type)) = some y)
    {α : Type} {A : Rp α} {t : TypeId} (hA : Rv P t A) (i : Nat) (f : Field) (o : Nat) (hf : fs[i]? = some f) (ht : f.type = t) (ho : f.offset = o) (hs : P.cellsOf t = 1) : ∃ x, A.r (· < w.heap.size) w ((cs.drop o).take 1) x := by
  obtain ⟨y, hy⟩ := h i f hf
  rw [ht, ho, hs] at hy
  exact hA enc w n _ _ hy
theorem Xy : Rv Tryz.prog 215 Jr := fun enc w fuel cs x h => by
  obtain ⟨hl, n, hf⟩ := VB Tryz.underlying215 h
  have hl2 : cs.length = 2 := hl.trans (by kernel_rfl)
  obtain ⟨x0, r0⟩ := Vt hf Wn 0 _ 0 rfl rfl rfl WJ
  obtain ⟨x1, r1⟩ := Vt hf Xx 1 _ 1 rfl rfl rfl XB
  exact ⟨⟨x0, x1⟩, by have h := VE (o := 0) (s := 1) (o' := 1) rfl r0 (VJ (s := 1) hl2 r1); rw [DH] at h; exact h⟩
theorem Xo : Rv Tryz.prog 38 Cb := OK (sz := 2) Tryz.underlying38 (by kernel_rfl) (by decide) Xy
theorem Xp : Rv Tryz.prog 180 NH := fun enc w fuel cs x h => by
  obtain ⟨hl, n, hf⟩ := VB Tryz.underlying180 h
  have hl2 : cs.length = 2 := hl.trans (by kernel_rfl)
  obtain ⟨x0, r0⟩ := Vt hf Xo 0 _ 0 rfl rfl rfl Xr
  obtain ⟨x1, r1⟩ := Vt hf T4 1 _ 1 rfl rfl rfl Xs
  exact ⟨⟨x0, x1⟩, by have h := VE (o := 0) (s := 1) (o' := 1) rfl r0 (VJ (s := 1) hl2 r1); rw [DH] at h; exact h⟩
theorem WV : Rv Tryz.prog 46 AW := OK (sz := 2) Tryz.underlying46 (by kernel_rfl) (by decide) Xp
theorem Xq : Rv Tryz.prog 48 Ff := fun enc w fuel cs x h => by
  obtain ⟨hl, n, hf⟩ := VB Tryz.underlying48 h
  have hl2 : cs.length = 3 := hl.trans (by kernel_rfl)
  obtain ⟨x0, r0⟩ := Vt hf Wn 0 _ 0 rfl rfl rfl WJ
  obtain ⟨x1, r1⟩ := Vt hf Wn 1 _ 1 rfl rfl rfl WJ
  obtain ⟨x2, r2⟩ := Vt hf WV 2 _ 2 rfl rfl rfl Xg
  exact ⟨⟨x0, x1, x2⟩, by have h := VE (o := 0) (s := 1) (o' := 1) rfl r0 (VE (o := 1) (s := 1) (o' := 2) rfl r1 (VJ (s := 1) hl2 r2)); rw [DH] at h; exact h⟩
theorem WW : Rv Tryz.prog 61 Bf := OK (sz := 3) Tryz.underlying61 (by kernel_rfl) (by decide) Xq
theorem XF : Rv Tryz.prog 63 XD := fun enc w fuel cs x h => by
  obtain ⟨hl, n, hf⟩ := VB Tryz.underlying63 h
  have hl2 : cs.length = 2 := hl.trans (by kernel_rfl)
  obtain ⟨x0, r0⟩ := Vt hf Wn 0 _ 0 rfl rfl rfl WJ
  obtain ⟨x1, r1⟩ := Vt hf WW 1 _ 1 rfl rfl rfl Xh
  exact ⟨⟨x0, x1⟩, by have h := VE (o := 0) (s := 1) (o' := 1) rfl r0 (VJ (s := 1) hl2 r1); rw [DH] at h; exact h⟩
theorem VI : ∀ (n x : Nat), DC (Ci n x) = x % 256 ^ n
  | 0, x => by simp [Ci, DC, Nat.mod_one]
  | n + 1, x => by
    have h : (UInt8.ofNat (x % 256)).toNat = x % 256 := by rw [UInt8.toNat_ofNat']; omega
    simp only [Ci, DC, h, VI n (x / 256)]
    rw [EL, Nat.mul_comm (256 ^ n) 256, Nat.mod_mul]
theorem Xb {S : Nat → Prop} {w : World} {a : Option Addr} {B : List UInt8} {c : Nat} (h : Ag.r S w [.slice a B.length c] B) {hi : Nat} (h2 : hi ≤ B.length) :
    ∃ A', (∀ w' : World, (Instr.slice 22 (.slice a B.length c) none (some (.int .i64 (hi : Int))) none).run Tryz.prog w' = .ok (.slice A' hi c) w') ∧ Ag.r S w [.slice A' hi c] (B.take hi) := by
  obtain ⟨_, hm, hc, hcm⟩ := AH h
  have g1 : (0 : Int) ≤ (hi : Int) := by omega
  have g3 : (hi : Int) ≤ (c : Int) := by omega
  have ht := Ie h (k := hi) h2
  rcases a with _ | ⟨b, o, sp⟩
  · refine ⟨none, fun w' => ?_, ht⟩
    clear h ht
    go_simp
  · have hs : sp = none ∨ B.length = 0 := by
      rcases CZ B.length with h0 | h0
      · exact .inr h0
      · obtain ⟨ga, oa, hA, _⟩ := BJ h (i := 0) h0
        simp only [Bh, Ic] at hA
        exact .inl hA.2.2
    by_cases h0 : c = 0
    · refine ⟨some ⟨b, o, sp⟩, fun w' => ?_, ht⟩
      subst h0
      have hh : hi = 0 := by omega
      subst hh
      clear h ht
      go_simp
    · rcases hs with hs | hs
      · subst hs
        refine ⟨some ⟨b, o, none⟩, fun w' => ?_, ht⟩
        clear h ht
        go_simp
      · have hh : hi = 0 := by omega
        subst hh
        refine ⟨(some (⟨b, o, sp⟩ : Addr)).map (·.add (0 * 1)), fun w' => ?_, Bl (by simp) rfl hcm⟩
        clear h ht
        go_simp
theorem V7 (rest : List UInt8) : ∀ (f i x y : Nat), f + i = 9 → (0 < i → 0 < x) → x * 128 ^ i < 18446744073709551616 → CY i y (G0 f x ++ rest) = (y + x * 128 ^ i, i + (G0 f x).length, 0)
  | 0, i, x, y, h, hp, hx => by
    obtain rfl : i = 9 := by omega
    have hx2 : x < 2 := by omega
    have ht : (UInt8.ofNat x).toNat = x := by simp; omega
    have := hp (by omega)
    simp only [G0, K0, A8, AL, By]
    unfold CY
    rw [ht, Ah (by omega), Ah (by omega), Ai (by omega)]
  | f + 1, i, x, y, h, hp, hx => by
    simp only [G0]
    by_cases h128 : x < 128
    · rw [Ai h128]
      have ht : (UInt8.ofNat x).toNat = x := by simp; omega
      simp only [K0, A8, AL, By]
      unfold CY
      rw [ht, Ah (by omega), Ah (by omega), Ai (by omega)]
    · rw [Ah h128]
      have ht : (UInt8.ofNat (128 + x % 128)).toNat = 128 + x % 128 := by simp; omega
      simp only [K0, AL]
      unfold CY
      rw [ht, Ah (by omega), Ah (by omega), Ah (by omega)]
      have hdm : x = 128 * (x / 128) + x % 128 := (Nat.div_add_mod x 128).symm
      have he : x / 128 * 128 ^ (i + 1) + x % 128 * 128 ^ i = x * 128 ^ i := by
        rw [EL]
        generalize 128 ^ i = k
        conv => rhs; rw [hdm]
        rw [Nat.add_mul, Nat.mul_comm k 128, ← Nat.mul_assoc, Nat.mul_comm 128]
      rw [V7 rest f (i + 1) (x / 128) _ (by omega) (fun _ => by omega) (by omega)]
      refine Prod.ext ?_ (Prod.ext ?_ rfl)
      · dsimp only
        rw [show (128 + x % 128) % 128 = x % 128 by omega]
        omega
      · dsimp only; omega
theorem WK (x : Nat) (rest : List UInt8) (hx : x < 18446744073709551616) : CY 0 0 (AV x ++ rest) = (x, (AV x).length, 0) := by
  have := V7 rest 9 0 x 0 rfl (fun h => by omega) (by simpa using hx)
  unfold AV
  rw [this]; simp
theorem Rs.Vk {B rest : List UInt8} {p x : Nat} (hx : x < 18446744073709551616) (h : B.drop p = AV x ++ rest) : (⟨p, 0, 0⟩ : Rs).num B = (⟨p + (AV x).length, 0, 0⟩, x) := by
  unfold Rs.num
  rw [Ai rfl]
  dsimp only
  rw [h, WK x rest hx]
  rfl
theorem Vg {B D rest : List UInt8} {p : Nat} (h : B.drop p = D ++ rest) : B.drop (p + D.length) = rest := by
  rw [← List.drop_drop, h]; simp
theorem Vf {B D rest : List UInt8} {p : Nat} (h : B.drop p = D ++ rest) (hp : p ≤ B.length) : p + D.length + rest.length = B.length := by
  have := Bc List.length h
  simp at this
  omega
theorem Rs.Vw {B D rest : List UInt8} {p : Nat} (h : B.drop p = D ++ rest) (hp : p ≤ B.length) : (⟨p, 0, 0⟩ : Rs).take B (D.length : Int) = (⟨p + D.length, 0, 0⟩, D) := by
  have hr := Vf h hp
  unfold Rs.take Rs.skip
  rw [Ai rfl, Ah (by omega), Ah (by dsimp only; omega)]
  simp [h]
theorem Rs.VP {B rest : List UInt8} {p : Nat} {x : UInt8} (h : B.drop p = x :: rest) (hp : p ≤ B.length) : (⟨p, 0, 0⟩ : Rs).byte B = (⟨p + 1, 0, 0⟩, x) := by
  have hr := Vf (D := [x]) h hp
  simp at hr
  have hx : B.getD p 0 = x := by
    have : (B.drop p)[0]? = some x := by rw [h]; rfl
    simp at this
    simp [List.getD, this]
  unfold Rs.byte Rs.skip
  rw [Ai rfl, Ah (by omega), Ah (by dsimp only; omega)]
  dsimp only
  rw [Ai rfl, hx]
  rfl
theorem Rs.Vn {B rest : List UInt8} {p x : Nat} {m : Int} (hx : x < 18446744073709551616) (h : B.drop p = AV x ++ rest) (hm : (x : Int) ≤ m) : (⟨p, 0, 0⟩ : Rs).int B m = (⟨p + (AV x).length, 0, 0⟩, x) := by
  unfold Rs.int Rs.most
  rw [Ai (by omega), Rs.Vk hx h, Ah (by dsimp only; omega)]
theorem Rs.V5 {B D rest : List UInt8} {p : Nat} {m : Int} (hx : D.length < 18446744073709551616) (h : B.drop p = F0 D ++ rest) (hp : p ≤ B.length) (hm : (D.length : Int) ≤ m) : (⟨p, 0, 0⟩ : Rs).Dk B m = (⟨p + (F0 D).length, 0, 0⟩, D) := by
  unfold F0 at h
  rw [AB] at h
  have h2 := Vg h
  have hr := Vf h hp
  unfold Rs.Dk
  rw [Rs.Vn hx h hm]
  dsimp only
  rw [Rs.Vw h2 (by omega)]
  simp [F0, Nat.add_assoc]
theorem VS {b : List UInt8} {o : Nat} : ∀ (m p : Nat), p + m ≤ b.length → 1 ≤ o → o ≤ p → (∀ k, k < m → b[p + k]? = b[p + k - o]?) → Gu o m (b.take p) = b.take (p + m)
  | 0, p, _, _, _, _ => rfl
  | m + 1, p, h, h1, h2, hs => by
    have h0 := hs 0 (by omega)
    have hb : b[p]? = some b[p] := by simp
    simp only [CR] at h0
    have e : b.take p ++ [(b.take p).getD ((b.take p).length - o) 0] = b.take (p + 1) := by
      rw [List.length_take, Nat.min_eq_left (by omega)]
      have : (b.take p).getD (p - o) 0 = b[p] := by
        have : (b.take p)[p - o]? = some b[p] := by rw [List.getElem?_take_of_lt (by omega), ← h0, hb]
        simp [List.getD, this]
      rw [this]
      rw [List.take_add_one, hb]; rfl
    simp only [Gu]
    rw [e, VS m (p + 1) (by omega) h1 (by omega) (fun k hk => by
      have := hs (k + 1) (by omega)
      rw [show p + 1 + k = p + (k + 1) by omega]
      exact this)]
    rw [show p + 1 + m = p + (m + 1) by omega]
theorem Xk {b B : List UInt8} {bound : Int} (hb : b.length ≤ 1048576) (hbd : (b.length : Int) ≤ bound) {f : Bool} {p : Nat} {ts : List Tok} (hg : Good b f p ts) : p ≤ b.length → ∀ q, q ≤ B.length → B.drop q = Dx ts → exR B bound ⟨q, 0, 0⟩ (b.take p) = (⟨B.length, 0, 0⟩, b) := by
  induction hg with
  | nil =>
    intro _ q hq h
    have : B.length ≤ q := by simpa [Dx] using h
    obtain rfl : q = B.length := by omega
    rw [L7 (by simp)]
    simp
  | @copy f p o m rest hp hbe hm hg ih =>
    intro _ q hq h
    rcases Hz b p with h0 | ⟨o', m', he, h1, h2, h4, hml, _, _⟩
    · rw [hbe] at h0; simp at h0; omega
    · rw [hbe] at he
      simp only [EO] at he
      obtain ⟨rfl, rfl⟩ := he
      have hmb := K9 b p o
      have hre : reach p ≤ p ∧ reach p ≤ 65536 := by unfold reach; omega
      have ht : Dx (⟨[], (o : Int), (m : Int)⟩ :: rest) = AV (2 * m - 7) ++ (AV (o - 1) ++ Dx rest) := by
        simp only [Dx, DA, List.flatten_cons]
        rw [RE o m h1, AB]
      rw [ht] at h
      have hd1 := Vg h
      have hr1 := Vf h hq
      have hd2 := Vg hd1
      have hr2 := Vf hd1 (by omega)
      have hl1 := (A3 (2 * m - 7)).2
      have hN := Rs.Vk (by omega) h
      have hN2 := Rs.Vk (p := q + (AV (2 * m - 7)).length) (by omega) hd1
      have hH : (⟨q, 0, 0⟩ : Rs).head B = (⟨q + (AV (2 * m - 7)).length, 0, 0⟩, true, m) := by
        unfold Rs.head
        rw [hN]
        dsimp only
        rw [Ai rfl, Ai (by omega), Ah (by omega), show (2 * m - 7) / 2 + 4 = m by omega]
      have hO : (⟨q + (AV (2 * m - 7)).length, 0, 0⟩ : Rs).offset B = (⟨q + (AV (2 * m - 7)).length + (AV (o - 1)).length, 0, 0⟩, o) := by
        unfold Rs.offset
        rw [hN2]
        dsimp only
        rw [Ah (by omega), Ai rfl, show o - 1 + 1 = o by omega]
      have hlen : (b.take p).length = p := by simp; omega
      have hS : CL B bound ⟨q, 0, 0⟩ (b.take p) = (⟨q + (AV (2 * m - 7)).length + (AV (o - 1)).length, 0, 0⟩, b.take (p + m)) := by
        unfold CL
        rw [hH]
        dsimp only
        rw [hlen, Ah (by omega), Ah (by simp), hO]
        dsimp only
        rw [Ah (by omega), Ai rfl, VS m p (by omega) h1 (by omega) (fun k hk => (MX (by omega)).2.2.2)]
      rw [Uy ⟨hq, fun _ => rfl⟩ (by dsimp only; omega) rfl, hS]
      exact ih (by omega) _ (by omega) hd2
  | @run p q' rest hlt hle hno hg ih =>
    intro _ q hq h
    have hD : ((b.drop p).take (q' - p)).length = q' - p := by simp; omega
    generalize hDe : (b.drop p).take (q' - p) = D at *
    have ht : Dx (⟨D, 0, 0⟩ :: rest) = AV (2 * D.length - 2) ++ (D ++ Dx rest) := by
      simp only [Dx, DA, List.flatten_cons]
      rw [SU D (by omega) (by omega), AB]
    rw [ht] at h
    have hd1 := Vg h
    have hr1 := Vf h hq
    have hd2 := Vg hd1
    have hr2 := Vf hd1 (by omega)
    have hl1 := (A3 (2 * D.length - 2)).2
    have hN := Rs.Vk (by omega) h
    have hH : (⟨q, 0, 0⟩ : Rs).head B = (⟨q + (AV (2 * D.length - 2)).length, 0, 0⟩, false, D.length) := by
      unfold Rs.head
      rw [hN]
      dsimp only
      rw [Ai rfl, Ah (by omega), Ah (by omega), show (2 * D.length - 2) / 2 + 1 = D.length by omega]
    have hlen : (b.take p).length = p := by simp; omega
    have hS : CL B bound ⟨q, 0, 0⟩ (b.take p) = (⟨q + (AV (2 * D.length - 2)).length + D.length, 0, 0⟩, b.take q') := by
      unfold CL
      rw [hH]
      dsimp only
      rw [hlen, Ah (by omega), Ai rfl, Rs.Vw hd1 (by omega)]
      rw [← hDe]
      refine Prod.ext rfl ?_
      dsimp only
      have : b.take q' = b.take p ++ (b.drop p).take (q' - p) := by
        rw [← Dr p (b.take q'), List.take_take, Nat.min_eq_left (by omega), List.drop_take]
      exact this.symm
    rw [Uy ⟨hq, fun _ => rfl⟩ (by dsimp only; omega) rfl, hS]
    exact ih (by omega) _ (by omega) hd2
theorem Xe {b : List UInt8} {bound : Int} (hb : b.length ≤ 1048576) (hbd : (b.length : Int) ≤ bound) : exB (FL b) bound = (b, 0, 0) := by
  have := Xk (B := FL b) hb hbd (QA b) (by omega) 0 (by omega) rfl
  rw [Uz]
  simp only [Fa] at this
  rw [this, Ai rfl]
theorem Rs.Wp {B D rest : List UInt8} {p : Nat} {most : Int} (h : B.drop p = CM D ++ rest) (hp : p ≤ B.length) (hD : D.length ≤ 1048576) (hm : (D.length : Int) ≤ most) :
    (⟨p, 0, 0⟩ : Rs).loose B most = (⟨p + (CM D).length, 0, 0⟩, D, true) := by
  have htk : (B.drop p).take (CM D).length = CM D := by rw [h]; simp
  have h' := h
  unfold CM at h
  rw [AB] at h
  have hd1 := Vg h
  have hr1 := Vf h hp
  have hI := Rs.Vn (m := min most 1048576) (by omega) h (by omega)
  unfold Rs.loose
  rw [hI]
  dsimp only
  cases hpk : Iz D
  · rw [hpk] at hd1
    rw [Ah (by simp)] at hd1
    have hd2 := Vg (D := [0]) hd1
    have hr2 := Vf (D := [0]) hd1 (by omega)
    simp only [AL, By, Bj] at hd2 hr2
    rw [Rs.VP hd1 (by omega)]
    dsimp only
    rw [Ai rfl, Ai (by rfl), Rs.Vw hd2 (by omega)]
    dsimp only
    rw [Ai rfl]
    have hl : (CM D).length = (AV D.length).length + (1 + D.length) := by simp [CM, hpk]; omega
    rw [show p + (AV D.length).length + 1 + D.length = p + (CM D).length by omega, show p + (CM D).length - p = (CM D).length by omega, htk]
    simp
  · have hpl : (F0 (FL D)).length < D.length := Gq hpk
    have hpl2 := Ez (FL D)
    rw [hpk] at hd1
    rw [Ai rfl] at hd1
    have hd2 := Vg (D := [1]) hd1
    have hr2 := Vf (D := [1]) hd1 (by omega)
    simp only [AL, By, Bj] at hd2 hr2
    rw [Rs.VP hd1 (by omega)]
    dsimp only
    rw [Ai rfl, Ah (by decide), Ai (by rfl)]
    have hB := Rs.V5 (m := 1048576) (by omega) hd2 (by omega) (by omega)
    have hU : (⟨p + (AV D.length).length + 1, 0, 0⟩ : Rs).unp B D.length = (⟨p + (AV D.length).length + 1 + (F0 (FL D)).length, 0, 0⟩, D) := by
      unfold Rs.unp
      rw [hB]
      dsimp only
      rw [Xe hD (Int.le_refl _)]
      dsimp only
      rw [Ai rfl, Ai rfl, Ah (by omega)]
    rw [hU]
    dsimp only
    rw [Ai rfl]
    have hl : (CM D).length = (AV D.length).length + (1 + (F0 (FL D)).length) := by simp [CM, hpk]; omega
    rw [show p + (AV D.length).length + 1 + (F0 (FL D)).length = p + (CM D).length by omega, show p + (CM D).length - p = (CM D).length by omega, htk]
    simp
theorem Rs.Wf {B rest : List UInt8} : ∀ (l : List Int) (below : Int) (p : Nat) (out : List Int), BP below l = true → (∀ x ∈ l, 0 ≤ x) → below ≤ 18446744073709551615 → B.drop p = CG (BX below l) ++ rest → p ≤ B.length →
    Rs.Ey B l.length ⟨p, 0, 0⟩ below out = (⟨p + (CG (BX below l)).length, 0, 0⟩, out ++ l)
  | [], below, p, out, _, _, _, _, _ => by simp [Rs.Ey, BX, CG]
  | x :: l, below, p, out, hf, hx, hb, h, hp => by
    simp only [BP, Aq, Ar] at hf
    have h0 := hx x (by simp)
    simp only [BX] at h ⊢
    rw [IX, AB] at h
    have hn : (below - x - 1).toNat < 18446744073709551616 := by omega
    have hN := Rs.Vk hn h
    have hd := Vg h
    have hr := Vf h hp
    simp only [AL, Rs.Ey]
    rw [hN]
    dsimp only
    rw [Ai rfl, toNat_cast (by omega), Ah (by omega), show below - (below - x - 1) - 1 = x by omega, Rs.Wf l x _ _ hf.2 (fun y hy => hx y (by simp [hy])) (by omega) hd (by omega), IX, Al]
    simp [Nat.add_assoc]
theorem Rs.So {B rest : List UInt8} {l : List Int} {pos : Int} {p : Nat} {most : Int} (hf : BP pos l = true) (hx : ∀ x ∈ l, 0 ≤ x) (hb : pos ≤ 18446744073709551615) (h : B.drop p = Dj pos l ++ rest) (hp : p ≤ B.length) (hm : (l.length : Int) ≤ most) (hl : l.length < 18446744073709551616) :
    (⟨p, 0, 0⟩ : Rs).delta B pos most = (⟨p + (Dj pos l).length, 0, 0⟩, l) := by
  unfold Dj at h ⊢
  rw [AB] at h
  have hd := Vg h
  have hr := Vf h hp
  unfold Rs.delta
  rw [Rs.Vn hl h hm]
  dsimp only
  rw [Rs.Wf l pos _ _ hf hx hb hd (by omega)]
  simp [Nat.add_assoc]
theorem Rs.V2 {B rest : List UInt8} {pos : Int} (hpos : pos ≤ 18446744073709551615) : ∀ (l : List Ba) (prev : Option Int) (p : Nat) (out : List Ba), (∀ x ∈ l, CD pos x = true ∧ (0 ≤ x.stream ∧ x.stream ≤ 18446744073709551615) ∧ ∀ y ∈ x.backs, 0 ≤ y) → (∀ q, prev = some q → 0 ≤ q ∧ Dn (q :: l.map Ba.stream) = true) → Dn (l.map Ba.stream) = true → B.drop p = KU pos prev l ++ rest → p ≤ B.length →
    Rs.Dg B pos l.length ⟨p, 0, 0⟩ prev out = (⟨p + (KU pos prev l).length, 0, 0⟩, out ++ l)
  | [], prev, p, out, _, _, _, _, _ => by simp [Rs.Dg, KU]
  | x :: l, prev, p, out, hx, hq, hri, h, hp => by
    obtain ⟨hr1, hs, hbk⟩ := hx x (by simp)
    simp only [CD, Aq, Ar] at hr1
    have hnext : ∀ q, some x.stream = some q → 0 ≤ q ∧ Dn (q :: l.map Ba.stream) = true := fun q e => by
      simp only [Bh] at e
      subst e
      exact ⟨hs.1, hri⟩
    have hri2 : Dn (l.map Ba.stream) = true := by
      simp only [DA] at hri
      cases hl : l.map Ba.stream with
      | nil => rfl
      | cons y r => rw [hl] at hri; simp only [Dn, Aq] at hri; exact hri.2
    have key : ∃ y : Int, 0 ≤ y ∧ y ≤ 18446744073709551615 ∧ KU pos prev (x :: l) = AV y.toNat ++ (Dj pos x.backs ++ KU pos (some x.stream) l) ∧ (B.drop p = AV y.toNat ++ ((Dj pos x.backs ++ KU pos (some x.stream) l) ++ rest) → (⟨p, 0, 0⟩ : Rs).stream B prev = (⟨p + (AV y.toNat).length, 0, 0⟩, x.stream)) := by
      cases prev with
      | none =>
        refine ⟨x.stream, hs.1, hs.2, by simp [KU], fun h => ?_⟩
        unfold Rs.stream
        dsimp only
        rw [Rs.Vk (by omega) h]
        dsimp only
        rw [toNat_cast hs.1]
      | some q =>
        obtain ⟨h0, hq1⟩ := hq q rfl
        simp only [DA, Dn, Aq, Ar] at hq1
        refine ⟨x.stream - q - 1, by omega, by omega, by simp [KU], fun h => ?_⟩
        unfold Rs.stream
        dsimp only
        rw [Rs.Vk (by omega) h]
        dsimp only
        rw [toNat_cast (by omega), Ah (by omega)]
        refine Prod.ext rfl ?_
        dsimp only
        omega
    obtain ⟨y, hy0, hy1, he, hst⟩ := key
    rw [he] at h ⊢
    rw [AB] at h
    have hS := hst h
    have hd := Vg h
    have hr := Vf h hp
    rw [AB] at hd
    have hD := Rs.So (most := 4) hr1.2 hbk hpos hd (by omega) (by omega) (by omega)
    have hd2 := Vg hd
    have hr2 := Vf hd (by omega)
    simp only [AL, Rs.Dg]
    rw [hS]
    dsimp only
    rw [hD]
    dsimp only
    rw [Ai rfl, Rs.V2 hpos l (some x.stream) _ _ (fun z hz => hx z (by simp [hz])) hnext hri2 hd2 (by omega)]
    simp [Nat.add_assoc]
theorem Rs.Xa {B rest : List UInt8} {pos : Int} {l : List Ba} {p : Nat} (hpos : pos ≤ 18446744073709551615) (hR : BY pos l = true) (hx : ∀ x ∈ l, (0 ≤ x.stream ∧ x.stream ≤ 18446744073709551615) ∧ ∀ y ∈ x.backs, 0 ≤ y) (h : B.drop p = DS pos l ++ rest) (hp : p ≤ B.length) :
    (⟨p, 0, 0⟩ : Rs).links B pos = (⟨p + (DS pos l).length, 0, 0⟩, l) := by
  simp only [BY, Aq, Ar, List.all_eq_true] at hR
  unfold DS at h ⊢
  rw [AB] at h
  have hd := Vg h
  have hr := Vf h hp
  unfold Rs.links
  rw [Rs.Vn (by omega) h (by omega)]
  dsimp only
  rw [Rs.V2 hpos l none _ _ (fun x h => ⟨hR.2.2 x h, hx x h⟩) (fun q e => by cases e) hR.2.1 hd (by omega)]
  simp [Nat.add_assoc]
theorem Rs.Xf {B rest : List UInt8} {pos most : Int} {e : Entry} {p : Nat} (hpos : pos ≤ 18446744073709551615) (hR : Dq pos e = true) (hx : Tw e) (h : B.drop p = FT pos e ++ rest) (hp : p ≤ B.length) (hm : (e.data.length : Int) ≤ most) :
    (⟨p, 0, 0⟩ : Rs).Cm B pos most = (⟨p + (FT pos e).length, 0, 0⟩, e.links, e.data.length) := by
  simp only [Dq, Aq, Ar] at hR
  unfold FT at h ⊢
  rw [AB] at h
  have hd := Vg h
  have hr := Vf h hp
  have hL := Rs.Xa hpos hR.1 hx h hp
  unfold Rs.Cm
  rw [hL]
  dsimp only
  rw [Rs.Vn (by omega) hd hm]
  dsimp only
  rw [Ai rfl]
  simp [Nat.add_assoc]
def Vz (l : List Entry) : List (List Ba × Nat) := l.map fun e => (e.links, e.data.length)
theorem Rs.We {B rest : List UInt8} : ∀ (l : List Entry) (pos left : Int) (p : Nat) (out : List (List Ba × Nat)), Cc pos l = true → (∀ e ∈ l, Tw e) → pos + l.length ≤ 18446744073709551615 → (total l : Int) ≤ left → B.drop p = Ch pos l ++ rest → p ≤ B.length →
    Rs.Dl B l.length ⟨p, 0, 0⟩ pos left out = (⟨p + (Ch pos l).length, 0, 0⟩, out ++ Vz l)
  | [], pos, left, p, out, _, _, _, _, _, _ => by simp [Rs.Dl, Ch, Vz]
  | e :: l, pos, left, p, out, hR, hx, hpos, hlt, h, hp => by
    simp only [Cc, Aq] at hR
    simp only [AL] at hpos
    have ht : total (e :: l) = e.data.length + total l := by simp [total]
    rw [ht] at hlt
    simp only [Ch] at h ⊢
    rw [AB] at h
    have hd := Vg h
    have hr := Vf h hp
    have hE := Rs.Xf (most := left) (by omega) hR.1 (hx e (by simp)) h hp (by omega)
    simp only [AL, Rs.Dl]
    rw [hE]
    dsimp only
    rw [Ai rfl, Rs.We l (pos + 1) _ _ _ hR.2 (fun z hz => hx z (by simp [hz])) (by omega) (by omega) hd (by omega)]
    simp [Vz, Nat.add_assoc]
theorem WM (l : List Entry) : C7 (Vz l) = total l := by
  simp [C7, Vz, total, List.map_map, Function.comp_def]
theorem Ws : ∀ (l : List Entry), E5 (Vz l) (CQ l) = l
  | [] => rfl
  | e :: l => by
    have := Ws l
    simp only [Vz, DA, E5, CQ, List.flatMap_cons] at this ⊢
    rw [List.take_left, List.drop_left, this]
theorem Rs.SD {B rest : List UInt8} {b : Batch} {p : Nat} {blk : Rs → Rs × List UInt8 × Bool} (hR : A4 b = true) (hN : EK b) (h : B.drop p = Co b ++ rest) (hp : p ≤ B.length)
    (hblk : ∀ q, q ≤ B.length → B.drop q = CM (CQ b.entries) ++ rest → blk ⟨q, 0, 0⟩ = (⟨q + (CM (CQ b.entries)).length, 0, 0⟩, CQ b.entries, true)) :
    Rs.batch B blk ⟨p, 0, 0⟩ = (⟨p + (Co b).length, 0, 0⟩, b, true) := by
  obtain ⟨⟨e0, e1⟩, ⟨b0, b1⟩, hen⟩ := hN
  simp only [A4, Aq, Ar] at hR
  obtain ⟨hep, hfit, htot, hent⟩ := hR
  have hfit' := hfit
  simp only [Dc, Ar] at hfit'
  unfold Co Kk at h
  simp only [AB] at h
  have hd1 := Vg h
  have hr1 := Vf h hp
  have hd2 := Vg hd1
  have hr2 := Vf hd1 (by omega)
  have hd3 := Vg hd2
  have hr3 := Vf hd2 (by omega)
  have hd4 := Vg hd3
  have hr4 := Vf hd3 (by omega)
  have hE : (⟨p, 0, 0⟩ : Rs).ep B = (⟨p + (AV b.epoch.toNat).length, 0, 0⟩, b.epoch.toNat) := by
    unfold Rs.ep
    rw [Rs.Vk (by omega) h]
    dsimp only
    rw [Ai rfl, toNat_cast e0, Ai hep]
  have hP : (⟨p + (AV b.epoch.toNat).length, 0, 0⟩ : Rs).po B = (⟨p + (AV b.epoch.toNat).length + (AV b.base.toNat).length, 0, 0⟩, b.base.toNat) := by
    unfold Rs.po
    rw [Rs.Vk (by omega) hd1]
    dsimp only
    rw [Ai rfl, toNat_cast b0, Ai (by unfold poR; exact Ad (by omega))]
  have hI := Rs.Vn (m := 16) (by omega) hd2 (by omega)
  have hF : (⟨p, 0, 0⟩ : Rs).Bm B = (⟨p + (AV b.epoch.toNat).length + (AV b.base.toNat).length + (AV b.entries.length).length, 0, 0⟩, b.epoch.toNat, b.base.toNat, b.entries.length) := by
    unfold Rs.Bm
    rw [hE]
    dsimp only
    rw [hP]
    dsimp only
    rw [hI]
    dsimp only
    rw [toNat_cast b0, Ai hfit]
  have hH := Rs.We b.entries b.base 1048576 _ [] hent hen (by omega) (by omega) hd3 (by omega)
  have hBk := hblk _ (by omega) hd4
  have hsz : C7 (Vz b.entries) = (CQ b.entries).length := by rw [WM, Dh]
  generalize hq : p + (AV b.epoch.toNat).length + (AV b.base.toNat).length + (AV b.entries.length).length + (Ch b.base b.entries).length = q at *
  have hBB : Rs.Mq blk (⟨q, 0, 0⟩, Vz b.entries) = (⟨q + (CM (CQ b.entries)).length, 0, 0⟩, b.entries, true) := by
    unfold Rs.Mq
    dsimp only
    rw [hBk]
    dsimp only
    rw [Ai hsz, Ws]
  unfold Rs.batch
  dsimp only
  rw [hF]
  dsimp only
  rw [Ai rfl, toNat_cast b0, toNat_cast e0, hH, A8, hBB]
  dsimp only
  rw [Ai rfl, ← hq]
  simp only [Co, Kk, Al, Nat.add_assoc]
structure Rs.sh (L : Nat) (s : Rs) : Prop where
  code : s.k = 1
  pl : s.f = L
theorem Rs.sh.Vi {L : Nat} {s : Rs} (h : s.sh L) : s.k ≠ 0 := by rw [h.code]; decide
def Part (D F : List UInt8) : Prop := ∃ E, E ≠ [] ∧ F = D ++ E
theorem Vq {D F G : List UInt8} (h : Part D (F ++ G)) : Part D F ∨ ∃ D2, D = F ++ D2 ∧ Part D2 G := by
  obtain ⟨E, hE, h⟩ := h
  rcases List.append_eq_append_iff.1 h with ⟨a, h1, h2⟩ | ⟨c, h1, h2⟩
  · exact .inr ⟨a, h1, E, hE, h2⟩
  · rcases c with _ | ⟨x, c⟩
    · exact .inr ⟨[], by simpa using h1.symm, E, hE, by simpa using h2.symm⟩
    · exact .inl ⟨x :: c, by simp, h1⟩
theorem Xj {D : List UInt8} (h : Part D []) : False := by
  obtain ⟨E, hE, h⟩ := h
  have := Bc List.length h
  rw [Al, By] at this
  exact hE (AS (by omega))
theorem VO {D F : List UInt8} (h : Part D F) : D.length < F.length := by
  obtain ⟨E, hE, rfl⟩ := h
  rcases E with _ | ⟨x, E⟩
  · exact absurd rfl hE
  · simp
theorem WT {F : List UInt8} {n : Nat} (h : n < F.length) : Part (F.take n) F :=
  ⟨F.drop n, fun e => by have := Bc List.length e; simp at this; omega, (Dr n F).symm⟩
theorem V8 : ∀ (l : List UInt8) (i x : Nat), (∀ c ∈ l, 128 ≤ c.toNat) → i + l.length ≤ 9 → (CY i x l).2.2 = 1
  | [], i, x, _, _ => rfl
  | c :: l, i, x, h, hl => by
    have h1 := h c (by simp)
    simp at hl
    unfold CY
    rw [Ah (by omega), Ah (by omega), Ah (by omega)]
    exact V8 l _ _ (fun d hd => h d (by simp [hd])) (by omega)
theorem V9 : ∀ (f x : Nat) (D : List UInt8), Part D (G0 f x) → (∀ c ∈ D, 128 ≤ c.toNat) ∧ D.length ≤ f
  | 0, x, D, h => by
    have := VO h
    simp [G0] at this
    subst this
    simp
  | f + 1, x, D, h => by
    unfold G0 at h
    by_cases hx : x < 128
    · rw [Ai hx] at h
      have := VO h
      simp at this
      subst this
      simp
    · rw [Ah hx] at h
      rcases D with _ | ⟨c, D⟩
      · simp
      · obtain ⟨E, hE, h⟩ := h
        rw [K0] at h
        injection h with h1 h
        have := V9 f (x / 128) D ⟨E, hE, h⟩
        refine ⟨fun d hd => ?_, by simp; exact this.2⟩
        rcases List.mem_cons.1 hd with rfl | hd
        · rw [← h1, UInt8.toNat_ofNat']
          omega
        · exact this.1 d hd
theorem Rs.Wy {B D : List UInt8} {p x : Nat} (h : B.drop p = D) (hd : Part D (AV x)) : ((⟨p, 0, 0⟩ : Rs).num B).1.sh B.length := by
  have hv := V9 9 x D hd
  have := V8 D 0 0 hv.1 (by omega)
  unfold Rs.num
  rw [Ai rfl]
  dsimp only
  rw [h]
  exact ⟨this, by rw [this]; rfl⟩
theorem Rs.Xz {B D : List UInt8} {p x : Nat} {m : Int} (h : B.drop p = D) (hd : Part D (AV x)) : ((⟨p, 0, 0⟩ : Rs).int B m).1.sh B.length := by
  have hs := Rs.Wy h hd
  have h0 := Rs.NO hs.Vi
  unfold Rs.int Rs.most
  rw [h0]
  split
  · rw [Ah (by omega)]; exact hs
  · rw [Rs.CW hs.Vi]; exact hs
theorem Rs.XG {B D : List UInt8} {p x : Nat} (h : B.drop p = D) (hd : Part D (AV x)) : ((⟨p, 0, 0⟩ : Rs).ep B).1.sh B.length := by
  have hs := Rs.Wy h hd
  unfold Rs.ep
  rw [Ah hs.Vi]
  exact hs
theorem Rs.XE {B D : List UInt8} {p x : Nat} (h : B.drop p = D) (hd : Part D (AV x)) : ((⟨p, 0, 0⟩ : Rs).po B).1.sh B.length := by
  have hs := Rs.Wy h hd
  unfold Rs.po
  rw [Ah hs.Vi]
  exact hs
theorem Rs.VN {B D F : List UInt8} {p : Nat} (h : B.drop p = D) (hd : Part D F) (hp : p ≤ B.length) : ((⟨p, 0, 0⟩ : Rs).take B (F.length : Int)).1.sh B.length := by
  have hl := VO hd
  have hr := Bc List.length h
  simp at hr
  unfold Rs.take Rs.skip
  rw [Ai rfl, Ah (by omega), Ai (by dsimp only; omega)]
  exact ⟨rfl, rfl⟩
theorem Rs.Xt {B : List UInt8} {p : Nat} (h : B.drop p = []) (hp : p ≤ B.length) : ((⟨p, 0, 0⟩ : Rs).byte B).1.sh B.length := by
  have hr := Bc List.length h
  simp at hr
  unfold Rs.byte Rs.skip
  rw [Ai rfl, Ah (by omega), Ai (by dsimp only; omega)]
  exact ⟨rfl, rfl⟩
theorem Rs.Xu {B D F : List UInt8} {p : Nat} {m : Int} (hx : F.length < 18446744073709551616) (h : B.drop p = D) (hd : Part D (F0 F)) (hp : p ≤ B.length) (hm : (F.length : Int) ≤ m) : ((⟨p, 0, 0⟩ : Rs).Dk B m).1.sh B.length := by
  unfold F0 at hd
  unfold Rs.Dk
  rcases Vq hd with hd | ⟨D2, rfl, hgD2⟩
  · have hs := Rs.Xz (m := m) h hd
    rw [Rs.Vx hs.Vi]
    exact hs
  · have hd := hgD2
    have hd' := Vg h
    have hr := Vf h hp
    rw [Rs.Vn hx h hm]
    exact Rs.VN hd' hd (by omega)
theorem Rs.WE {B : List UInt8} {s : Rs} (h : s.k ≠ 0) : s.ep B = (s, 0) := by
  unfold Rs.ep
  rw [Rs.Qg h, Ah h]
def Wq {α : Type} (K : Nat) (p : α → Bool) (l : List α) : Bool := decide (K < l.length) || (l.take K).any p
def Vs {α : Type} (K : Nat) (p : α → Bool) (l : List α) (k : Nat) : Bool := decide (K < l.length) || ((l.take K).drop k).any p
theorem VZ {α : Type} {K : Nat} {p : α → Bool} {l : List α} (h : Wq K p l = false) : l.length ≤ K ∧ ∀ x ∈ l, p x = false := by
  simp only [Wq, Bool.or_eq_false_iff, decide_eq_false_iff_not, List.any_eq_false] at h
  obtain ⟨h1, h2⟩ := h
  rw [Fu (by omega)] at h2
  exact ⟨by omega, fun x hx => by simpa using h2 x hx⟩
theorem VF {α : Type} (K : Nat) (p : α → Bool) (l : List α) (k : Nat) (h : k < l.length) (h2 : k < K) : Vs K p l k = (p l[k] || Vs K p l (k + 1)) := by
  unfold Vs
  have e : (l.take K)[k]'(by simp; omega) = l[k] := by simp
  rw [AD (show k < (l.take K).length by simp; omega), List.any_cons, e]
  cases decide (K < l.length) <;> cases p l[k] <;> simp
theorem Vr {α : Type} (K : Nat) (p : α → Bool) (l : List α) (k : Nat) (h : l.length ≤ k ∨ K ≤ k) : Vs K p l k = decide (K < l.length) := by
  unfold Vs
  rw [List.drop_of_length_le (by simp; omega)]
  simp
def VG (l : List Ba) : Bool := Wq 50 (fun x => decide (50 < x.backs.length)) l
def VD (e : Entry) : Bool := VG e.links || decide (500 < e.data.length)
def VC (l : List Entry) : Bool := Wq 30 VD l
def VA (l : List Entry) : Bool := VC l || decide (300 < total (l.take 30))
def VH (l : List Batch) : Bool := Wq 20 (fun b => VA b.entries) l
theorem WC (l : List Ba) (a : Option Addr) (n c : Nat) (w : World) (hl : Cb.r (· < w.heap.size) w [.slice a n c] l) :
    Calls Tryz.prog 118 #[.slice a n c] w fun r w' => r = .returned (.bool (VG l)) ∧ Below w.heap.size w w' := by
  obtain ⟨rfl, hm, _, _⟩ := AH hl
  have HL := hid hl; clear hl
  go_enter Tryz.func118, Tryz.ntmps118
  go_wp2_with fail
  go_loop [3] (fun i => ∃ k : Nat, k ≤ l.length ∧ k ≤ 50 ∧ i = .int .i64 k ∧ Hid (VG l = Vs 50 (fun x => decide (50 < x.backs.length)) l k)) (fun i => l.length - (intOf i).toNat)
  case atStart => exact ⟨0, At _, At _, rfl, hid rfl⟩
  case round =>
    obtain ⟨k, hk, hk2, rfl, hf⟩ := hrel
    by_cases hlt : k < l.length
    · by_cases h450 : k < 50
      · obtain ⟨b, o, hA, hbb, a1, c1, X0, X1, _, _⟩ := DN HL.out hlt
        subst hA
        have hst := hid (VF 50 (fun x => decide (50 < x.backs.length)) l k hlt h450)
        generalize l[k] = x at *
        generalize x.stream = xs at *
        generalize x.backs.length = n1 at *
        by_cases h3 : 50 < n1
        · have hff : Hid (VG l = true) := hid (by rw [hf.out, hst.out]; simp [h3])
          have d3 : decide ((50 : Int) < (n1 : Int)) = true := by simp; omega
          clear h3
          go_wp2
          go_ret
          exact ⟨by rw [hff.out]; rfl, by (repeat (first | exact Below.refl _ _ | assumption | (refine Au ?_ _) | (refine Below.setCell ?_ (by first | omega | (simp; done) | (simp; omega)) _) | (refine Below.drew ?_) | (refine below_drewN ?_ _) | (refine Af (by assumption) ?_)))⟩
        · have hff : Hid (VG l = Vs 50 (fun x => decide (50 < x.backs.length)) l (k + 1)) := hid (by rw [hf.out, hst.out]; simp [h3])
          have d3 : decide ((50 : Int) < (n1 : Int)) = false := by simp; omega
          clear h3
          go_wp2
          go_round
          case rel => exact ⟨k + 1, by omega, by omega, by go_num, hff⟩
          case measure => simp [intOf]; omega
      · have hff : Hid (VG l = decide ((50 : Int) < (l.length : Int))) := hid (by rw [hf.out, Vr _ _ l k (.inr (by omega))]; simp only [decide_eq_decide]; omega)
        go_wp2
        go_ret
        exact ⟨by rw [hff.out]; rfl, by (repeat (first | exact Below.refl _ _ | assumption | (refine Au ?_ _) | (refine Below.setCell ?_ (by first | omega | (simp; done) | (simp; omega)) _) | (refine Below.drew ?_) | (refine below_drewN ?_ _) | (refine Af (by assumption) ?_)))⟩
    · have hff : Hid (VG l = decide ((50 : Int) < (l.length : Int))) := hid (by rw [hf.out, Vr _ _ l k (.inl (by omega))]; simp only [decide_eq_decide]; omega)
      go_wp2
      go_ret
      exact ⟨by rw [hff.out]; rfl, by (repeat (first | exact Below.refl _ _ | assumption | (refine Au ?_ _) | (refine Below.setCell ?_ (by first | omega | (simp; done) | (simp; omega)) _) | (refine Below.drew ?_) | (refine below_drewN ?_ _) | (refine Af (by assumption) ?_)))⟩
theorem WB (x : Entry) (a a' : Option Addr) (n c n' c' : Nat) (w : World) (hl : Cb.r (· < w.heap.size) w [.slice a n c] x.links) (hd : Ag.r (· < w.heap.size) w [.slice a' n' c'] x.data) :
    Calls Tryz.prog 215 #[.agg #[.slice a n c, .slice a' n' c']] w fun r w' => r = .returned (.bool (VD x)) ∧ Below w.heap.size w w' := by
  obtain ⟨rfl, hm, _, _⟩ := AH hl
  obtain ⟨rfl, hm', _, _⟩ := AH hd
  have HL := hid hl; clear hl hd
  have HLL := hid (show VD x = (VG x.links || decide (500 < x.data.length)) from rfl)
  go_enter Tryz.func215, Tryz.ntmps215
  go_wp2_with fail
  refine (WC x.links _ _ _ _ (lift HL.out (by (repeat (first | exact Below.refl _ _ | assumption | (refine Au ?_ _) | (refine Below.setCell ?_ (by first | omega | (simp; done) | (simp; omega)) _) | (refine Below.drew ?_) | (refine below_drewN ?_ _) | (refine Af (by assumption) ?_)))))).mono ?_
  rintro r w1 ⟨rfl, hb1⟩
  cases h : VG x.links
  · have hff : Hid (VD x = decide ((500 : Int) < (x.data.length : Int))) := hid (by rw [HLL.out, h, Bool.false_or]; simp only [decide_eq_decide]; omega)
    clear h
    have c1 : w1.cell? ⟨w.heap.size, 1, none⟩ = some (.slice a' x.data.length c') := (AE.mk w1 hb1).cell (by go_simp)
    go_wp2
    go_ret
    exact ⟨by rw [hff.out]; rfl, by (repeat (first | exact Below.refl _ _ | assumption | (refine Au ?_ _) | (refine Below.setCell ?_ (by first | omega | (simp; done) | (simp; omega)) _) | (refine Below.drew ?_) | (refine below_drewN ?_ _) | (refine Af (by assumption) ?_)))⟩
  · have hff : Hid (VD x = true) := hid (by rw [HLL.out, h]; rfl)
    clear h
    go_wp2
    go_ret
    exact ⟨by rw [hff.out]; rfl, by (repeat (first | exact Below.refl _ _ | assumption | (refine Au ?_ _) | (refine Below.setCell ?_ (by first | omega | (simp; done) | (simp; omega)) _) | (refine Below.drew ?_) | (refine below_drewN ?_ _) | (refine Af (by assumption) ?_)))⟩
theorem V3 (l : List Entry) (a : Option Addr) (n c : Nat) (w : World) (hl : AW.r (· < w.heap.size) w [.slice a n c] l) :
    Calls Tryz.prog 141 #[.slice a n c] w fun r w' => r = .returned (.bool (VC l)) ∧ Below w.heap.size w w' := by
  obtain ⟨rfl, hm, _, _⟩ := AH hl
  have HL := hid hl; clear hl
  go_enter Tryz.func141, Tryz.ntmps141
  go_wp2_with fail
  go_loopw [3] (fun i wr => ∃ k : Nat, k ≤ l.length ∧ k ≤ 30 ∧ i = .int .i64 k ∧ Hid (VC l = Vs 30 VD l k) ∧ Below w.heap.size w wr) (fun i _ => l.length - (intOf i).toNat)
  case atStart => exact ⟨0, At _, At _, rfl, hid rfl, Below.refl _ _⟩
  case round =>
    obtain ⟨k, hk, hk2, rfl, hf, hb⟩ := hrel
    by_cases hlt : k < l.length
    · by_cases h450 : k < 30
      · obtain ⟨b, o, hA, hbb, a1, c1, a2, c2, X0, X1, hd1, hd2⟩ := Eh (lift HL.out hb) hlt
        subst hA
        have hst := hid (VF 30 VD l k hlt h450)
        have HD1 := hid hd1; have HD2 := hid hd2; clear hd1 hd2
        generalize l[k] = x at *
        go_wp2_with fail
        refine (WB x _ _ _ _ _ _ _ HD1.out HD2.out).mono ?_
        rintro r w1 ⟨rfl, hb1⟩
        have hb2 := Af hb1 hb
        cases h3 : VD x
        · have hff : Hid (VC l = Vs 30 VD l (k + 1)) := hid (by rw [hf.out, hst.out, h3]; rfl)
          clear h3
          go_wp2
          go_roundw
          case rel => exact ⟨k + 1, by omega, by omega, by go_num, hff, hb2⟩
          case measure => simp [intOf]; omega
        · have hff : Hid (VC l = true) := hid (by rw [hf.out, hst.out, h3]; rfl)
          clear h3
          go_wp2
          go_ret
          exact ⟨by rw [hff.out]; rfl, hb2⟩
      · have hff : Hid (VC l = decide ((30 : Int) < (l.length : Int))) := hid (by rw [hf.out, Vr _ _ l k (.inr (by omega))]; simp only [decide_eq_decide]; omega)
        go_wp2
        go_ret
        exact ⟨by rw [hff.out]; rfl, hb⟩
    · have hff : Hid (VC l = decide ((30 : Int) < (l.length : Int))) := hid (by rw [hf.out, Vr _ _ l k (.inl (by omega))]; simp only [decide_eq_decide]; omega)
      go_wp2
      go_ret
      exact ⟨by rw [hff.out]; rfl, hb⟩
theorem Wd {l : List Entry} (h : VC l = false) : l.length ≤ 30 ∧ ∀ x ∈ l, x.data.length ≤ 500 ∧ x.links.length ≤ 50 ∧ ∀ y ∈ x.links, y.backs.length ≤ 50 := by
  obtain ⟨h1, h2⟩ := VZ h
  refine ⟨h1, fun x hx => ?_⟩
  have := h2 x hx
  simp only [VD, Bool.or_eq_false_iff, decide_eq_false_iff_not] at this
  obtain ⟨h3, h4⟩ := VZ this.1
  exact ⟨by omega, h3, fun y hy => by have := h4 y hy; simpa using this⟩
theorem Wk {l : List Entry} {k : Nat} (h : ∀ x ∈ l, x.data.length ≤ k) : total l ≤ k * l.length := by
  induction l with
  | nil => exact At _
  | cons x l ih =>
    have h1 := ih fun y hy => h y (List.mem_cons_of_mem _ hy)
    have h2 := h x (List.mem_cons_self ..)
    simp only [total, DA, List.sum_cons, AL] at *
    rw [Nat.mul_succ]; omega
theorem WA (e b : Int) (l : List Entry) (a : Option Addr) (n c : Nat) (w : World) (hl : AW.r (· < w.heap.size) w [.slice a n c] l) :
    Calls Tryz.prog 86 #[.agg #[.int .u64 e, .int .u64 b, .slice a n c]] w fun r w' => r = .returned (.bool (VA l)) ∧ Below w.heap.size w w' := by
  obtain ⟨rfl, hm, _, _⟩ := AH hl
  have HL := hid hl; clear hl
  have HLL := hid (show VA l = (VC l || decide (300 < total (l.take 30))) from rfl)
  cases hmn : VC l
  · obtain ⟨g1, g2⟩ := Wd hmn
    have ht := Wk (k := 500) (fun x hx => (g2 x hx).1)
    have hff : Hid (VA l = decide ((300 : Int) < ((total l : Nat) : Int))) := hid (by rw [HLL.out, hmn, Bool.false_or, Fu g1]; simp only [decide_eq_decide]; omega)
    have hM := fun W h => V3 l a l.length c W h
    rw [hmn] at hM
    have HM := hid hM; clear hM hmn g2
    have HT := hid ht; clear ht
    go_enter Tryz.func86, Tryz.ntmps86
    go_wp2_with fail
    refine Dm (fun W => Below w.heap.size w W ∧ w.heap.size < W.heap.size ∧ W.cell? ⟨w.heap.size, 2, none⟩ = some (.slice a l.length c)) ⟨by (repeat (first | exact Below.refl _ _ | assumption | (refine Au ?_ _) | (refine Below.setCell ?_ (by first | omega | (simp; done) | (simp; omega)) _) | (refine Below.drew ?_) | (refine below_drewN ?_ _) | (refine Af (by assumption) ?_))), by simp, by go_simp⟩ ?_
    intro W ⟨hbW, hzW, q2⟩
    go_loop [3, 4] (fun s i => ∃ k : Nat, k ≤ l.length ∧ i = .int .i64 k ∧ s = .int .i64 (total (l.take k) : Nat)) (fun _ i => l.length - (intOf i).toNat)
    case atStart => exact ⟨0, At _, rfl, rfl⟩
    case round =>
      obtain ⟨k, hk, rfl, rfl⟩ := hrel
      by_cases hlt : k < l.length
      · obtain ⟨bb, o, hA, hbb, a1, c1, a2, c2, X0, X1, _, _⟩ := Eh (lift HL.out hbW) hlt
        subst hA
        have hs := hid (IK l k hlt)
        have h1 := Gs l (k + 1)
        rw [hs.out] at h1
        have h2 := HT.out
        have d3 : decide ((k : Int) < 30) = true := by simp; omega
        generalize l[k].links.length = n1 at *
        generalize l[k].data.length = n2 at *
        generalize total (l.take k) = t at *
        generalize total l = tt at *
        have h3 : t + n2 ≤ 15000 := by omega
        clear h1 h2
        go_wp2
        go_round
        case rel => exact ⟨k + 1, by omega, by go_num, by rw [hs.out]; simp only [Int.natCast_add]⟩
        case measure => simp [intOf]; omega
      · obtain rfl : k = l.length := by omega
        rw [BW]
        go_wp2_with fail
        refine (HM.out _ (lift HL.out hbW)).mono ?_
        rintro r w1 ⟨rfl, hb1⟩
        go_wp2
        go_ret
        exact ⟨by rw [hff.out]; rfl, Af hb1 hbW⟩
  · have hff : Hid (VA l = true) := hid (by rw [HLL.out, hmn]; rfl)
    have hM := fun W h => V3 l a l.length c W h
    rw [hmn] at hM
    have HM := hid hM; clear hM hmn
    go_enter Tryz.func86, Tryz.ntmps86
    go_wp2_with fail
    refine Dm (fun W => Below w.heap.size w W ∧ w.heap.size < W.heap.size ∧ W.cell? ⟨w.heap.size, 2, none⟩ = some (.slice a l.length c)) ⟨by (repeat (first | exact Below.refl _ _ | assumption | (refine Au ?_ _) | (refine Below.setCell ?_ (by first | omega | (simp; done) | (simp; omega)) _) | (refine Below.drew ?_) | (refine below_drewN ?_ _) | (refine Af (by assumption) ?_))), by simp, by go_simp⟩ ?_
    intro W ⟨hbW, hzW, q2⟩
    go_loop [3, 4] (fun s i => ∃ (k : Nat) (m : Int), k ≤ l.length ∧ k ≤ 30 ∧ i = .int .i64 k ∧ s = .int .i64 m) (fun _ i => l.length - (intOf i).toNat)
    case atStart => exact ⟨0, 0, At _, At _, rfl, rfl⟩
    case round =>
      obtain ⟨k, m, hk, hk2, rfl, rfl⟩ := hrel
      by_cases hlt : k < l.length
      · by_cases h30 : k < 30
        · obtain ⟨bb, o, hA, hbb, a1, c1, a2, c2, X0, X1, _, _⟩ := Eh (lift HL.out hbW) hlt
          subst hA
          generalize l[k].links.length = n1 at *
          generalize l[k].data.length = n2 at *
          go_wp2
          go_round
          case rel => exact ⟨k + 1, _, by omega, by omega, by go_num, rfl⟩
          case measure => simp [intOf]; omega
        · go_wp2_with fail
          refine (HM.out _ (lift HL.out hbW)).mono ?_
          rintro r w1 ⟨rfl, hb1⟩
          go_wp2
          go_ret
          exact ⟨by rw [hff.out]; rfl, Af hb1 hbW⟩
      · go_wp2_with fail
        refine (HM.out _ (lift HL.out hbW)).mono ?_
        rintro r w1 ⟨rfl, hb1⟩
        go_wp2
        go_ret
        exact ⟨by rw [hff.out]; rfl, Af hb1 hbW⟩
theorem WZ {l : List Entry} (h : VA l = false) : l.length ≤ 30 ∧ total l ≤ 300 ∧ ∀ x ∈ l, x.data.length ≤ 500 ∧ x.links.length ≤ 50 ∧ ∀ y ∈ x.links, y.backs.length ≤ 50 := by
  simp only [VA, Bool.or_eq_false_iff, decide_eq_false_iff_not] at h
  obtain ⟨h1, h2⟩ := Wd h.1
  rw [Fu h1] at h
  exact ⟨h1, by omega, h2⟩
theorem Wz (e : Int) (l : List Batch) (a : Option Addr) (n c : Nat) (w : World) (hl : Bf.r (· < w.heap.size) w [.slice a n c] l) :
    Calls Tryz.prog 38 #[.agg #[.int .u64 e, .slice a n c]] w fun r w' => r = .returned (.bool (VH l)) ∧ Below w.heap.size w w' := by
  obtain ⟨rfl, hm, _, _⟩ := AH hl
  have HL := hid hl; clear hl
  go_enter Tryz.func38, Tryz.ntmps38
  go_wp2_with fail
  refine Dm (fun W => Below w.heap.size w W ∧ w.heap.size < W.heap.size ∧ W.cell? ⟨w.heap.size, 1, none⟩ = some (.slice a l.length c)) ⟨by (repeat (first | exact Below.refl _ _ | assumption | (refine Au ?_ _) | (refine Below.setCell ?_ (by first | omega | (simp; done) | (simp; omega)) _) | (refine Below.drew ?_) | (refine below_drewN ?_ _) | (refine Af (by assumption) ?_))), by simp, by go_simp⟩ ?_
  intro W ⟨hbW, hzW, q2⟩
  go_loopw [3] (fun i wr => ∃ k : Nat, k ≤ l.length ∧ k ≤ 20 ∧ i = .int .i64 k ∧ Hid (VH l = Vs 20 (fun b => VA b.entries) l k) ∧ Below W.heap.size W wr) (fun i _ => l.length - (intOf i).toNat)
  case atStart => exact ⟨0, At _, At _, rfl, hid rfl, Below.refl _ _⟩
  case round =>
    obtain ⟨k, hk, hk2, rfl, hf, hb⟩ := hrel
    have hb3 := Af hb hbW
    have t1 : wr.cell? ⟨w.heap.size, 1, none⟩ = some (.slice a l.length c) := (AE.mk wr hb).cell q2
    have hz3 : w.heap.size < wr.heap.size := by have := hb.size; omega
    by_cases hlt : k < l.length
    · by_cases h450 : k < 20
      · obtain ⟨b, o, hA, hbb, a1, c1, X0, X1, X2, _, _, hd⟩ := F3 (lift HL.out hb3) hlt
        subst hA
        have hst := hid (VF 20 (fun b => VA b.entries) l k hlt h450)
        have HD := hid hd; clear hd
        generalize l[k] = x at *
        go_wp2_with fail
        refine (WA _ _ x.entries _ _ _ _ HD.out).mono ?_
        rintro r w1 ⟨rfl, hb1⟩
        have hb2 := Af hb1 hb
        cases h3 : VA x.entries
        · have hff : Hid (VH l = Vs 20 (fun b => VA b.entries) l (k + 1)) := hid (by rw [hf.out, hst.out]; simp [h3])
          clear h3
          go_wp2
          go_roundw
          case rel => exact ⟨k + 1, by omega, by omega, by go_num, hff, hb2⟩
          case measure => simp [intOf]; omega
        · have hff : Hid (VH l = true) := hid (by rw [hf.out, hst.out]; simp [h3])
          clear h3
          go_wp2
          go_ret
          exact ⟨by rw [hff.out]; rfl, Af hb1 hb3⟩
      · have hff : Hid (VH l = decide ((20 : Int) < (l.length : Int))) := hid (by rw [hf.out, Vr _ _ l k (.inr (by omega))]; simp only [decide_eq_decide]; omega)
        go_wp2
        go_ret
        exact ⟨by rw [hff.out]; rfl, hb3⟩
    · have hff : Hid (VH l = decide ((20 : Int) < (l.length : Int))) := hid (by rw [hf.out, Vr _ _ l k (.inl (by omega))]; simp only [decide_eq_decide]; omega)
      go_wp2
      go_ret
      exact ⟨by rw [hff.out]; rfl, hb3⟩
theorem WY {l : List Batch} (h : VH l = false) : l.length ≤ 20 ∧ ∀ b ∈ l, b.entries.length ≤ 30 ∧ total b.entries ≤ 300 ∧ ∀ x ∈ b.entries, x.data.length ≤ 500 ∧ x.links.length ≤ 50 ∧ ∀ y ∈ x.links, y.backs.length ≤ 50 := by
  obtain ⟨h1, h2⟩ := VZ h
  exact ⟨h1, fun b hb => WZ (h2 b hb)⟩
theorem Rs.Wj {B rest : List UInt8} {p : Nat} {e : Int} (h1 : epR e = true) (h : B.drop p = AV e.toNat ++ rest) : (⟨p, 0, 0⟩ : Rs).ep B = (⟨p + (AV e.toNat).length, 0, 0⟩, e.toNat) := by
  have h2 := h1
  simp only [epR, Ar] at h2
  unfold Rs.ep
  rw [Rs.Vk (by omega) h]
  dsimp only
  rw [Ai rfl, toNat_cast (by omega), Ai h1]
section
variable {α : Type} {B : List UInt8} {s : Rs}
theorem Rs.Wx (h : s.k ≠ 0) : s.po B = (s, 0) := by
  unfold Rs.po
  rw [Rs.Qg h, Ah h]
end
theorem Wi {b : Batch} (hR : A4 b = true) : (CQ b.entries).length ≤ 1048576 := by
  simp only [A4, Aq, Ar] at hR
  rw [Dh]
  exact hR.2.2.1
theorem Wt {b : Batch} (hR : A4 b = true) (B rest : List UInt8) (q : Nat) (h1 : q ≤ B.length) (h2 : B.drop q = CM (CQ b.entries) ++ rest) : DD B ⟨q, 0, 0⟩ = (⟨q + (CM (CQ b.entries)).length, 0, 0⟩, CQ b.entries, true) := by
  have hj := Wi hR
  exact Rs.Wp h2 h1 hj (by omega)
theorem Xl {b : Batch} (hR : A4 b = true) (B rest : List UInt8) (q : Nat) (h1 : q ≤ B.length) (h2 : B.drop q = CM (CQ b.entries) ++ rest) : C8 B ⟨q, 0, 0⟩ = (⟨q + (CM (CQ b.entries)).length, 0, 0⟩, CQ b.entries, true) := by
  have := Wt hR B rest q h1 h2
  unfold DD at this
  unfold C8
  rw [this]
  rfl
theorem Rs.Si {B P rest : List UInt8} {p : Nat} (h : B.drop p = Ck P ++ rest) (hp : p ≤ B.length) (hP : P.length ≤ 2097152) : (⟨p, 0, 0⟩ : Rs).frame B 2097152 = (⟨p + (Ck P).length, 0, 0⟩, P) := by
  unfold Ck at h
  rw [AB] at h
  have h1 := Rs.V5 (m := min 2097152 2097152) (by omega) h hp (by omega)
  have h2 := Vg h
  have hr := Vf h hp
  have h3 := Rs.Vw h2 (by omega)
  rw [Dz] at h3
  have h4 : (⟨p + (F0 P).length, 0, 0⟩ : Rs).take B 4 = (⟨p + (F0 P).length + 4, 0, 0⟩, Ci 4 (B8 P)) := h3
  have h5 : B8 P = DC (Ci 4 (B8 P)) := by
    rw [VI]
    have := FA P
    omega
  unfold Rs.frame
  rw [h1]
  dsimp only
  rw [h4]
  dsimp only
  rw [Ai h5, Ai rfl, Eo, Nat.add_assoc]
theorem Rs.Wh {B rest : List UInt8} {p v : Nat} (hv : 1 ≤ v ∧ v ≤ 3) (h : B.drop p = [84, 72, 79, 76] ++ (UInt8.ofNat v :: rest)) (hp : p ≤ B.length) : (⟨p, 0, 0⟩ : Rs).CN B = (⟨p + 5, 0, 0⟩, v) := by
  have h1 := Rs.Vw h hp
  have h2 := Vg h
  have hr := Vf h hp
  have h3 := Rs.VP h2 (by simp at hr ⊢; omega)
  have e1 : (([84, 72, 79, 76] : List UInt8).length : Int) = 4 := rfl
  have e2 : ([84, 72, 79, 76] : List UInt8).length = 4 := rfl
  have e3 : (UInt8.ofNat v).toNat = v := by rw [UInt8.toNat_ofNat']; omega
  rw [e1, e2] at h1
  rw [e2] at h3
  unfold Rs.CN
  rw [h1]
  dsimp only
  rw [Ai rfl, h3]
  dsimp only
  rw [e3, Ai hv]
  dsimp only
  rw [Ai rfl]
theorem Rs.WH {B rest : List UInt8} {p v e b : Nat} (hR : KV (v : Int) (e : Int) (b : Int) = true) (h : B.drop p = Cw v e b ++ rest) (hp : p ≤ B.length) : (⟨p, 0, 0⟩ : Rs).hdr B = (⟨p + (Cw v e b).length, 0, 0⟩, v, e, b) := by
  obtain ⟨hv, he, hb, hvb⟩ := Qz hR
  have hep : 1 ≤ (e : Int) ∧ (e : Int) < 4611686018427387904 := by simpa [epR] using he
  have hpo : (b : Int) < 4611686018427387904 := by simpa [poR] using hb
  have hlen : (Cw v e b).length = 5 + (AV e).length + (if v = 1 then AV b else []).length + 4 := by
    unfold Cw Dw
    simp only [Al, Dz, AL, By]
    omega
  rw [hlen]
  have h0 : B.drop p = [84, 72, 79, 76] ++ (UInt8.ofNat v :: (AV e ++ ((if v = 1 then AV b else []) ++ (Ci 4 (B8 (Dw v e b)) ++ rest)))) := by
    rw [h]
    unfold Cw Dw
    simp
  have hr0 := Vf h0 hp
  have h1 := Rs.Wh hv h0 hp
  have d0 : B.drop (p + 5) = AV e ++ ((if v = 1 then AV b else []) ++ (Ci 4 (B8 (Dw v e b)) ++ rest)) := by
    have h0' : B.drop p = ([84, 72, 79, 76] ++ [UInt8.ofNat v]) ++ (AV e ++ ((if v = 1 then AV b else []) ++ (Ci 4 (B8 (Dw v e b)) ++ rest))) := by
      rw [h0]
      simp
    exact Vg h0'
  have hpl : p + 5 ≤ B.length := by
    have := Bc List.length h0
    simp at this
    omega
  have h2 := Rs.Wj (e := (e : Int)) he (by rw [Gr]; exact d0)
  rw [Gr] at h2
  have hr1 := Vf d0 hpl
  have d1 := Vg d0
  have h3 : (if v = 1 then (⟨p + 5 + (AV e).length, 0, 0⟩ : Rs).po B else (⟨p + 5 + (AV e).length, 0, 0⟩, 0)) = (⟨p + 5 + (AV e).length + (if v = 1 then AV b else []).length, 0, 0⟩, b) := by
    by_cases h1 : v = 1
    · rw [Ai h1] at d1
      rw [Ai h1, Ai h1]
      unfold Rs.po
      rw [Rs.Vk (by omega) d1]
      dsimp only
      rw [Ai rfl, Ai hb]
    · rw [Ah h1, Ah h1]
      have : b = 0 := by omega
      subst this
      rfl
  have hpl2 : p + 5 + (AV e).length ≤ B.length := by omega
  have hr2 := Vf d1 hpl2
  have d2 := Vg d1
  have h4 := Rs.Vw d2 (by omega)
  rw [Dz] at h4
  have h5 : DC (Ci 4 (B8 (Dw v e b))) = B8 (Dw v e b) := by
    rw [VI]
    have := FA (Dw v e b)
    omega
  unfold Rs.hdr
  rw [h1]
  dsimp only
  rw [h2]
  dsimp only
  rw [h3]
  dsimp only
  have h4' : (⟨p + 5 + (AV e).length + (if v = 1 then AV b else []).length, 0, 0⟩ : Rs).take B 4 = (⟨p + 5 + (AV e).length + (if v = 1 then AV b else []).length + 4, 0, 0⟩, Ci 4 (B8 (Dw v e b))) := h4
  rw [h4']
  dsimp only
  rw [Ai rfl, Ai h5, show p + 5 + (AV e).length + (if v = 1 then AV b else []).length + 4 = p + (5 + (AV e).length + (if v = 1 then AV b else []).length + 4) by omega]
theorem Rs.WI {B : List UInt8} {s u : Rs} (h : s.CN B = (u, 0)) (hk : u.k ≠ 0) : s.hdr B = (u, 0, 0, 0) := by
  unfold Rs.hdr
  rw [h]
  dsimp only
  rw [Ah (show ¬ (0 : Nat) = 1 by decide), Rs.WE hk]
  dsimp only
  rw [Rs.Vx hk]
  dsimp only
  rw [Ah hk]
theorem Rs.XA {B D : List UInt8} {p v e b : Nat} (hR : KV (v : Int) (e : Int) (b : Int) = true) (h : B.drop p = D) (hd : Part D (Cw v e b)) (hp : p ≤ B.length) : ((⟨p, 0, 0⟩ : Rs).hdr B).1.sh B.length := by
  obtain ⟨hv, he, hb, hvb⟩ := Qz hR
  have hep : 1 ≤ (e : Int) ∧ (e : Int) < 4611686018427387904 := by simpa [epR] using he
  have hpo : (b : Int) < 4611686018427387904 := by simpa [poR] using hb
  have hH : Cw v e b = [84, 72, 79, 76] ++ ([UInt8.ofNat v] ++ (AV e ++ ((if v = 1 then AV b else []) ++ Ci 4 (B8 (Dw v e b))))) := by
    unfold Cw Dw
    simp
  have e3 : (UInt8.ofNat v).toNat = v := by rw [UInt8.toNat_ofNat']; omega
  generalize Ci 4 (B8 (Dw v e b)) = C at hH
  have hC : C.length = 4 ∨ True := .inr trivial
  rw [hH] at hd
  rcases Vq hd with hd | ⟨D2, hD2, hg2⟩
  · have hs := Rs.VN h hd hp
    have hs' : ((⟨p, 0, 0⟩ : Rs).take B 4).1.sh B.length := hs
    have hb := Rs.Ln (B := B) (s := ⟨p, 0, 0⟩) (n := 4) hs'.Vi
    have hbeg : (⟨p, 0, 0⟩ : Rs).CN B = (((⟨p, 0, 0⟩ : Rs).take B 4).1, 0) := by
      have hx : (if (([] : List UInt8) = [84, 72, 79, 76]) then ((⟨p, 0, 0⟩ : Rs).take B 4).1 else (((⟨p, 0, 0⟩ : Rs).take B 4).1.fail 14 p)) = ((⟨p, 0, 0⟩ : Rs).take B 4).1 := by rw [Ah (by decide), Rs.CW hs'.Vi]
      have hv0 : ¬ (1 ≤ (0 : UInt8).toNat ∧ (0 : UInt8).toNat ≤ 3) := by decide
      unfold Rs.CN
      dsimp only
      rw [hb, hx, Rs.Hx hs'.Vi]
      dsimp only
      rw [Ah hv0, Rs.CW hs'.Vi, Ah hs'.Vi]
    rw [Rs.WI hbeg hs'.Vi]
    exact hs'
  · have h0 : B.drop p = [84, 72, 79, 76] ++ D2 := by rw [h, hD2]
    have hr := Vf h0 hp
    have d1 := Vg h0
    rcases Vq hg2 with hg2 | ⟨D3, hD3, hg3⟩
    · have hD : D2 = [] := by
        have := VO hg2
        simp at this
        exact this
      rw [hD] at d1
      have hp4 : p + 4 ≤ B.length := by simp at hr; omega
      have h1 := Rs.Vw h0 hp
      have h1' : (⟨p, 0, 0⟩ : Rs).take B 4 = (⟨p + 4, 0, 0⟩, [84, 72, 79, 76]) := h1
      have hs := Rs.Xt (B := B) (p := p + 4) d1 hp4
      have hb2 : ((⟨p + 4, 0, 0⟩ : Rs).byte B).2 = 0 := by
        have := hs.Vi
        unfold Rs.byte at this ⊢
        cases hk : ((⟨p + 4, 0, 0⟩ : Rs).skip B.length 1).1
        · rfl
        · rw [(Rs.Fx hk).2.2.2] at this
          exact absurd rfl this
      have hbeg : (⟨p, 0, 0⟩ : Rs).CN B = (((⟨p + 4, 0, 0⟩ : Rs).byte B).1, 0) := by
        unfold Rs.CN
        rw [h1']
        dsimp only
        rw [Ai rfl, hb2, Ah (by decide), Rs.CW hs.Vi, Ah hs.Vi]
      rw [Rs.WI hbeg hs.Vi]
      exact hs
    · have h0' : B.drop p = [84, 72, 79, 76] ++ (UInt8.ofNat v :: D3) := by rw [h0, hD3]; rfl
      have hbeg := Rs.Wh hv h0' hp
      have h0'' : B.drop p = ([84, 72, 79, 76] ++ [UInt8.ofNat v]) ++ D3 := by rw [h0']; simp
      have d2 : B.drop (p + 5) = D3 := Vg h0''
      have hr2 := Vf h0'' hp
      have hp5 : p + 5 ≤ B.length := by simp at hr2; omega
      have key : ∀ u : Rs, u.sh B.length → ∀ (f : Rs × Nat), (if v = 1 then u.po B else (u, 0)) = f → f.1 = u := fun u hu f hf => by
        subst hf
        split
        · rw [Rs.Wx hu.Vi]
        · rfl
      rcases Vq hg3 with hg3 | ⟨D4, hD4, hg4⟩
      · have hs := Rs.XG d2 hg3
        unfold Rs.hdr
        rw [hbeg]
        dsimp only
        rw [key _ hs _ rfl, Rs.Vx hs.Vi]
        dsimp only
        rw [Ah hs.Vi]
        exact hs
      · rw [hD4] at d2
        have h2 := Rs.Wj (e := (e : Int)) he (by rw [Gr]; exact d2)
        rw [Gr] at h2
        have hr3 := Vf d2 hp5
        have d3 := Vg d2
        have hp6 : p + 5 + (AV e).length ≤ B.length := by omega
        rcases Vq hg4 with hg4 | ⟨D5, hD5, hg5⟩
        · by_cases h1 : v = 1
          · rw [Ai h1] at hg4
            have hs := Rs.XE d3 hg4
            unfold Rs.hdr
            rw [hbeg]
            dsimp only
            rw [h2]
            dsimp only
            rw [Ai h1, Rs.Vx hs.Vi]
            dsimp only
            rw [Ah hs.Vi]
            exact hs
          · rw [Ah h1] at hg4
            exact absurd hg4 Xj
        · have h3 : (if v = 1 then (⟨p + 5 + (AV e).length, 0, 0⟩ : Rs).po B else (⟨p + 5 + (AV e).length, 0, 0⟩, 0)) = (⟨p + 5 + (AV e).length + (if v = 1 then AV b else []).length, 0, 0⟩, b) := by
            rw [hD5] at d3
            by_cases h1 : v = 1
            · rw [Ai h1] at d3
              rw [Ai h1, Ai h1]
              unfold Rs.po
              rw [Rs.Vk (by omega) d3]
              dsimp only
              rw [Ai rfl, Ai hb]
            · rw [Ah h1, Ah h1]
              have : b = 0 := by omega
              subst this
              rfl
          rw [hD5] at d3
          have hr4 := Vf d3 hp6
          have d4 := Vg d3
          have hC4 : C.length = 4 := by
            have := Bc List.length hH
            unfold Cw Dw at this
            simp [Dz] at this
            omega
          have hs := Rs.VN d4 hg5 (by omega)
          rw [hC4] at hs
          have hs' : ((⟨p + 5 + (AV e).length + (if v = 1 then AV b else []).length, 0, 0⟩ : Rs).take B 4).1.sh B.length := hs
          unfold Rs.hdr
          rw [hbeg]
          dsimp only
          rw [h2]
          dsimp only
          rw [h3]
          dsimp only
          rw [Ah hs'.Vi]
          exact hs'
theorem Wo (p a : Int) (m : AU) (l : List AU) : Fg p a (m :: l) = AV (m.pos - p).toNat ++ (AV m.count.toNat ++ (AV (m.at_ - a - 1).toNat ++ Fg (m.pos + m.count) m.at_ l)) := rfl
theorem Rs.VY {B : List UInt8} : ∀ (t : List AU) (p : Nat) (pos a : Int) (out : List AU) (rest : List UInt8), 0 ≤ pos → 0 ≤ a → DM pos a t = true → B.drop p = Fg pos a t ++ rest → p ≤ B.length →
    Rs.Gt B t.length ⟨p, 0, 0⟩ pos a out = (⟨p + (Fg pos a t).length, 0, 0⟩, out ++ t)
  | [], p, pos, a, out, rest, h1, h2, hr, h, hp => by simp [Rs.Gt, Fg]
  | m :: t, p, pos, a, out, rest, h1, h2, hr, h, hp => by
    unfold DM at hr
    simp only [Aq] at hr
    obtain ⟨hf, hr⟩ := hr
    obtain ⟨f1, f2, f3, f4, f5, f6, f7⟩ := DV hf
    unfold Fg at h
    rw [AB, AB, AB] at h
    have n1 := Rs.Vk (x := (m.pos - pos).toNat) (by omega) h
    have d1 := Vg h
    have r1 := Vf h hp
    have n2 := Rs.Vn (x := m.count.toNat) (m := 16) (by omega) d1 (by omega)
    have d2 := Vg d1
    have r2 := Vf d1 (by omega)
    have n3 := Rs.Vn (x := (m.at_ - a - 1).toNat) (m := 1099511627775) (by omega) d2 (by omega)
    have d3 := Vg d2
    have r3 := Vf d2 (by omega)
    have ih := Rs.VY t _ (m.pos + m.count) m.at_ (out ++ [m]) rest (by omega) (by omega) hr d3 (by omega)
    have em : (⟨pos + ((m.pos - pos).toNat : Int), (m.count.toNat : Int), a + 1 + ((m.at_ - a - 1).toNat : Int)⟩ : AU) = m := by
      have e1 : pos + ((m.pos - pos).toNat : Int) = m.pos := by omega
      have e2 : (m.count.toNat : Int) = m.count := by omega
      have e3 : a + 1 + ((m.at_ - a - 1).toNat : Int) = m.at_ := by omega
      rw [e1, e2, e3]
    rw [AL, Rs.Kz, n1]
    dsimp only
    rw [n2]
    dsimp only
    rw [n3]
    dsimp only
    rw [Ai rfl, em, Ai hf, show pos + ((m.pos - pos).toNat : Int) + (m.count.toNat : Int) = m.pos + m.count by omega, show a + 1 + ((m.at_ - a - 1).toNat : Int) = m.at_ by omega, ih]
    rw [Wo, AB, Al, Al, Al, show p + (AV (m.pos - pos).toNat).length + (AV m.count.toNat).length + (AV (m.at_ - a - 1).toNat).length + (Fg (m.pos + m.count) m.at_ t).length = p + ((AV (m.pos - pos).toNat).length + ((AV m.count.toNat).length + ((AV (m.at_ - a - 1).toNat).length + (Fg (m.pos + m.count) m.at_ t).length))) by omega]
    rfl
theorem Rs.WX {B rest : List UInt8} {p : Nat} {l : List AU} (hR : Cv l = true) (h : B.drop p = Bx l ++ rest) (hp : p ≤ B.length) : (⟨p, 0, 0⟩ : Rs).CK B = (⟨p + (Bx l).length, 0, 0⟩, l) := by
  unfold Cv at hR
  simp only [Aq, Ar] at hR
  obtain ⟨hr, hl⟩ := hR
  unfold Bx at h ⊢
  rw [AB] at h
  have n1 := Rs.Vn (x := l.length) (m := 16) (by omega) h (by omega)
  have d1 := Vg h
  have r1 := Vf h hp
  unfold Rs.CK
  rw [n1]
  dsimp only
  rw [Rs.VY l _ 0 0 [] rest (by omega) (by omega) hr d1 (by omega), A8, Al, Nat.add_assoc]
theorem V4 {f : Cj} (hR : Ia f) : FW (Eg f) = (f, 0, 0) := by
  have hb := QH.2 hR
  have hN := hR.Gx
  obtain ⟨h0, h1, h2, h3, h4, h5, h6, h7, h8, h9⟩ := hR
  have hep : 1 ≤ f.ep ∧ f.ep < 4611686018427387904 := by simpa [epR] using h0
  have n1 := hN f.first (by simp [Cj.Gx])
  have n2 := hN f.fin (by simp [Cj.Gx])
  have hP : Eg f = 3 :: (AV f.ep.toNat ++ (AV f.n.toNat ++ (AV f.en.toNat ++ (AV f.first.toNat ++ (AV f.fin.toNat ++ (AV f.at_.toNat ++ (AV f.size.toNat ++ []))))))) := by
    unfold Eg Cj.Gx CG
    simp
  generalize Eg f = P at *
  have b0 := Rs.VP (B := P) (p := 0) (by rw [DH]; exact hP) (At _)
  rw [Bj] at b0
  have d0 : P.drop 1 = AV f.ep.toNat ++ (AV f.n.toNat ++ (AV f.en.toNat ++ (AV f.first.toNat ++ (AV f.fin.toNat ++ (AV f.at_.toNat ++ (AV f.size.toNat ++ [])))))) := by rw [hP]; rfl
  have l0 : 1 ≤ P.length := by rw [hP]; simp
  have r0 := Vf d0 l0
  have e1 := Rs.Wj h0 d0
  have d1 := Vg d0
  have r1 := Vf d1 (by omega)
  have e2 := Rs.Vn (m := 65536) (by omega) d1 (by omega)
  have d2 := Vg d1
  have r2 := Vf d2 (by omega)
  have e3 := Rs.Vn (m := 65536) (by omega) d2 (by omega)
  have d3 := Vg d2
  have r3 := Vf d3 (by omega)
  have e4 := Rs.Vk (by omega) d3
  have d4 := Vg d3
  have r4 := Vf d4 (by omega)
  have e5 := Rs.Vk (by omega) d4
  have d5 := Vg d4
  have r5 := Vf d5 (by omega)
  have e6 := Rs.Vn (m := 1099511627776) (by omega) d5 (by omega)
  have d6 := Vg d5
  have r6 := Vf d6 (by omega)
  have e7 := Rs.Vn (m := 1099511627776) (by omega) d6 (by omega)
  have hS : Gd P = (⟨P.length, 0, 0⟩, f) := by
    unfold Gd
    rw [b0]
    dsimp only
    rw [Ai rfl, e1]
    dsimp only
    rw [e2]
    dsimp only
    rw [e3]
    dsimp only
    rw [e4]
    dsimp only
    rw [e5]
    dsimp only
    rw [e6]
    dsimp only
    rw [e7]
    dsimp only
    rw [By] at r6
    rw [toNat_cast (by omega), toNat_cast (by omega), toNat_cast (by omega), toNat_cast (by omega), toNat_cast (by omega), toNat_cast (by omega), toNat_cast (by omega)]
    congr 2
  have hE : Na P = ⟨P.length, 0, 0⟩ := by
    unfold Na Rs.fin
    rw [hS]
    dsimp only
    rw [Ai hb, Ah (Nat.lt_irrefl _)]
  unfold FW
  rw [hE, hS]
  rfl
deriving instance DecidableEq for AU
deriving instance DecidableEq for Cj
theorem Rs.VQ {B D P : List UInt8} {p : Nat} (h : B.drop p = D) (hd : Part D (Ck P)) (hp : p ≤ B.length) (hP : P.length ≤ 2097152) : ((⟨p, 0, 0⟩ : Rs).frame B 2097152).1.sh B.length := by
  unfold Ck at hd
  unfold Rs.frame
  have hb : ∀ s : Rs, s.sh B.length → ∀ v w : Nat, ∀ c : Int, (if v = w then s else s.fail 6 c).sh B.length := fun s hs v w c => by
    split
    · exact hs
    · rwa [Rs.CW hs.Vi]
  dsimp only
  rcases Vq hd with hd | ⟨D2, hD2, hgD2⟩
  · have hs := Rs.Xu (B := B) (D := D) (F := P) (p := p) (m := min 2097152 2097152) (by omega) h hd hp (by omega)
    rw [Rs.Vx hs.Vi]
    exact hb _ hs _ _ _
  · rw [hD2] at h
    have h1 := Rs.V5 (B := B) (p := p) (m := min 2097152 2097152) (by omega) h hp (by omega)
    have h2 := Vg h
    have hr := Vf h hp
    have hs := Rs.VN h2 hgD2 (by omega)
    rw [h1]
    dsimp only
    rw [Dz] at hs
    exact hb _ hs _ _ _
def Vj (t : List Batch) : List UInt8 := (t.map fun b => Em 1 (Co b)).flatten
def Vh : Nat → List Batch → List AU
  | _, [] => []
  | p, b :: t => ⟨b.base, b.entries.length, p⟩ :: Vh (p + (Em 1 (Co b)).length) t
theorem Vv (b : Batch) (t : List Batch) : Vj (b :: t) = Em 1 (Co b) ++ Vj t := by simp [Vj]
theorem Wl : ∀ (t : List Batch) (J : List UInt8) (M : List AU), Ee J M t = (J ++ Vj t, M ++ Vh J.length t)
  | [], J, M => by simp [Ee, Vj, Vh]
  | b :: t, J, M => by
    have h : Ee J M (b :: t) = Ee (J ++ Em 1 (Co b)) (M ++ [⟨b.base, b.entries.length, J.length⟩]) t := rfl
    rw [h, Wl t, Vv, AB, AB, Al]
    rfl
def WG (blk : List UInt8 → Rs → Rs × List UInt8 × Bool) : Prop := ∀ (b : Batch), A4 b = true → ∀ (P rest : List UInt8) (q : Nat), q ≤ P.length → P.drop q = CM (CQ b.entries) ++ rest → blk P ⟨q, 0, 0⟩ = (⟨q + (CM (CQ b.entries)).length, 0, 0⟩, CQ b.entries, true)
theorem XH : WG bS := fun b hR P rest q h1 h2 => Xl hR P rest q h1 h2
theorem XI : WG bL := fun b hR P rest q h1 h2 => Wt hR P rest q h1 h2
theorem VW {B rest : List UInt8} {ep : Int} {blk : List UInt8 → Rs → Rs × List UInt8 × Bool} (hb : WG blk) {n p : Nat} {l : List Batch} {M : List AU} {q : Bool} {b : Batch} (hR : A4 b = true) (hN : EK b)
    (h : B.drop p = Em 1 (Co b) ++ rest) (hp : p ≤ B.length) (hl : l.length < 16) (hm : En ep (BM l l.length) b = true) :
    Bt B ep blk (n + 1) ⟨p, 0, 0⟩ l M q = Bt B ep blk n ⟨p + (Em 1 (Co b)).length, 0, 0⟩ (l ++ [b]) (M ++ [⟨b.base, b.entries.length, p⟩]) q := by
  have hle := Nt hR
  have hF : (⟨p, 0, 0⟩ : Rs).frame B 2097152 = (⟨p + (Em 1 (Co b)).length, 0, 0⟩, 1 :: Co b) := Rs.Si h hp (by simp; omega)
  have hB : Rs.batch (1 :: Co b) (blk (1 :: Co b)) ⟨1, 0, 0⟩ = (⟨1 + (Co b).length, 0, 0⟩, b, true) :=
    Rs.SD (rest := []) hR hN (by simp) (by simp) (fun q' h1 h2 => hb b hR _ _ q' h1 h2)
  have hfin : (⟨1 + (Co b).length, 0, 0⟩ : Rs).fin (1 :: Co b).length = ⟨1 + (Co b).length, 0, 0⟩ := by
    unfold Rs.fin
    rw [Ah (by simp; omega)]
  rw [CC B ep blk n _ l M q hF]
  dsimp only
  rw [Ai rfl, Ah (by simp), Ai (show (1 :: Co b).headD 0 = 1 from rfl), hB]
  dsimp only
  rw [hfin]
  dsimp only
  rw [Rs.CS, Ai rfl, Ah (by omega), Ai hm, Bool.and_true]
theorem VR {B rest : List UInt8} {ep : Int} {blk : List UInt8 → Rs → Rs × List UInt8 × Bool} {n p : Nat} {l : List Batch} {M : List AU} {q : Bool} (hM : Cv M = true)
    (h : B.drop p = Em 2 (Bx M) ++ rest) (hp : p ≤ B.length) :
    Bt B ep blk (n + 1) ⟨p, 0, 0⟩ l M q = (⟨p + (Em 2 (Bx M)).length, 0, 0⟩, p, l, M, q) := by
  have hle := I1 hM
  have hF : (⟨p, 0, 0⟩ : Rs).frame B 2097152 = (⟨p + (Em 2 (Bx M)).length, 0, 0⟩, 2 :: Bx M) := Rs.Si h hp (by simp; omega)
  have hB : (⟨1, 0, 0⟩ : Rs).CK (2 :: Bx M) = (⟨1 + (Bx M).length, 0, 0⟩, M) := Rs.WX (rest := []) hM (by simp) (by simp)
  have hfin : (⟨1 + (Bx M).length, 0, 0⟩ : Rs).fin (2 :: Bx M).length = ⟨1 + (Bx M).length, 0, 0⟩ := by
    unfold Rs.fin
    rw [Ah (by simp; omega)]
  rw [CC B ep blk n _ l M q hF]
  dsimp only
  rw [Ai rfl, Ah (by simp), Ah (show ¬ (2 :: Bx M).headD 0 = 1 from (by decide : ¬ (2 : UInt8) = 1)), Ai (show (2 :: Bx M).headD 0 = 2 from rfl), hB]
  dsimp only
  rw [hfin]
  dsimp only
  rw [Rs.CS, Ah (fun hh => hh.2 rfl)]
theorem Wc : ∀ l : List Batch, l.length ≤ (Vj l).length
  | [] => by simp [Vj]
  | b :: t => by
    have := (Hc 1 (Co b)).2
    have := Wc t
    rw [Vv, Al, AL]
    omega
theorem Wv {B : List UInt8} {ep : Int} {blk : List UInt8 → Rs → Rs × List UInt8 × Bool} (hb : WG blk) (t : List Batch) : ∀ (n p : Nat) (l : List Batch) (M : List AU) (q : Bool) (rest : List UInt8), (∀ b ∈ t, EK b) → DL ep (BM l l.length) t = true → (l ++ t).length ≤ 16 → Cv (M ++ Vh p t) = true →
    B.drop p = Vj t ++ (Em 2 (Bx (M ++ Vh p t)) ++ rest) → p ≤ B.length → t.length < n →
    Bt B ep blk n ⟨p, 0, 0⟩ l M q = (⟨p + (Vj t).length + (Em 2 (Bx (M ++ Vh p t))).length, 0, 0⟩, p + (Vj t).length, l ++ t, M ++ Vh p t, q) := by
  induction t with
  | nil =>
    intro n p l M q rest hN hc hl hM h hp hn
    obtain ⟨n, rfl⟩ : ∃ m, n = m + 1 := ⟨n - 1, by omega⟩
    have e0 : Vj [] = [] := rfl
    have e1 : M ++ Vh p [] = M := Io _
    rw [e1] at hM h ⊢
    rw [e0, A8] at h
    rw [VR hM h hp, e0, Io, By, CR]
  | cons b t ih =>
    intro n p l M q rest hN hc hl hM h hp hn
    obtain ⟨n, rfl⟩ : ∃ m, n = m + 1 := ⟨n - 1, by omega⟩
    unfold DL at hc
    simp only [Aq] at hc
    obtain ⟨c1, c2, c3⟩ := hc
    have e1 : M ++ Vh p (b :: t) = (M ++ [⟨b.base, b.entries.length, p⟩]) ++ Vh (p + (Em 1 (Co b)).length) t := by
      rw [AB]
      rfl
    rw [e1] at hM h ⊢
    rw [Vv, AB (Em 1 (Co b))] at h
    have hd := Vg h
    have hr := Vf h hp
    have hl16 : l.length < 16 := by simp at hl; omega
    have e2 : l ++ [b] ++ t = l ++ b :: t := by rw [AB]; rfl
    have g1 : DL ep (BM (l ++ [b]) (l ++ [b]).length) t = true := by
      rw [Qc]
      exact c3
    have g2 : (l ++ [b] ++ t).length ≤ 16 := by
      rw [e2]
      exact hl
    have g3 : p + (Em 1 (Co b)).length ≤ B.length := Nat.le.intro hr
    have g4 : Cv (M ++ [⟨b.base, b.entries.length, p⟩] ++ Vh (p + (Em 1 (Co b)).length) t) = true := hM
    have g5 : B.drop (p + (Em 1 (Co b)).length) = Vj t ++ (Em 2 (Bx (M ++ [⟨b.base, b.entries.length, p⟩] ++ Vh (p + (Em 1 (Co b)).length) t)) ++ rest) := by
      exact hd
    have g6 : t.length < n := by
      rw [AL] at hn
      exact Nat.lt_of_succ_lt_succ hn
    have ih := ih n (p + (Em 1 (Co b)).length) (l ++ [b]) _ q rest (fun x hx => hN x (List.mem_cons_of_mem _ hx)) g1 g2 g4 g5 g3 g6
    rw [VW hb c1 (hN b (List.mem_cons_self ..)) h hp hl16 c2, ih, Vv, Al, e2, ← Nat.add_assoc p]
theorem Ww {B rest : List UInt8} {p first : Nat} {ep : Int} {M : List AU} (hf : Ia (Ge ep M first ((p : Int) - first))) (h : B.drop p = Fh (Ge ep M first ((p : Int) - first)) ++ rest) (hp : p ≤ B.length) :
    Fc B ⟨p, 0, 0⟩ first ep M = (⟨p + (Fh (Ge ep M first ((p : Int) - first))).length, 0, 0⟩ : Rs).fin B.length := by
  unfold Fc
  generalize Ge ep M first ((p : Int) - first) = f at *
  have hle := Ik f
  unfold Fh at h ⊢
  rw [AB] at h
  have hF := Rs.Si (B := B) (P := Eg f) h hp (by omega)
  have hd := Vg h
  have hr := Vf h hp
  have hT := Rs.Vw hd (by omega)
  rw [IJ] at hT
  have hT' : (⟨p + (Ck (Eg f)).length, 0, 0⟩ : Rs).take B 12 = (⟨p + (Ck (Eg f)).length + 12, 0, 0⟩, DR (Ck (Eg f)).length) := hT
  rw [hF]
  dsimp only
  rw [Ai rfl, V4 hf]
  dsimp only
  rw [Rs.CS, Ai rfl, hT']
  dsimp only
  rw [show p + (Ck (Eg f)).length - p = (Ck (Eg f)).length by omega, Ai rfl, Al, IJ, Nat.add_assoc]
theorem VV (ep : Int) (l : List Batch) : KT ep l = Cw 3 ep.toNat 0 ++ (Vj l ++ (Em 2 (Bx (Vh (Cw 3 ep.toNat 0).length l)) ++ Fh (EC ep l))) ∧
    EC ep l = Ge ep (Vh (Cw 3 ep.toNat 0).length l) ((Cw 3 ep.toNat 0).length + (Vj l).length : Nat) ((Em 2 (Bx (Vh (Cw 3 ep.toNat 0).length l))).length : Nat) ∧ (G8 ep l).2 = Vh (Cw 3 ep.toNat 0).length l := by
  have hW : G8 ep l = (Cw 3 ep.toNat 0 ++ Vj l, Vh (Cw 3 ep.toNat 0).length l) := by
    unfold G8
    rw [Wl, A8]
  unfold KT EC Ow
  rw [hW]
  refine ⟨by simp only [AB], by dsimp only; rw [Al], rfl⟩
theorem Wg {ep : Int} {l : List Batch} (R : List UInt8) (hR : Df ⟨ep, l⟩ = true) (hN : ∀ b ∈ l, EK b) {blk : List UInt8 → Rs → Rs × List UInt8 × Bool} (hb : WG blk) :
    Hv (KT ep l ++ R) blk = (if R = [] then (⟨ep, l⟩, true, 0, 0) else (MW, false, 9, ((KT ep l).length : Int))) := by
  have hFR := Lu hR hN
  obtain ⟨hMR, _⟩ := Ls hR hN
  obtain ⟨e1, e2, e3⟩ := VV ep l
  rw [e3] at hMR
  have hlen := Bc List.length e1
  have hB : KT ep l ++ R = Cw 3 ep.toNat 0 ++ (Vj l ++ (Em 2 (Bx (Vh (Cw 3 ep.toNat 0).length l)) ++ (Fh (EC ep l) ++ R))) := by
    rw [e1]
    simp only [AB]
  generalize KT ep l = S at *
  generalize hBB : S ++ R = B at *
  have hBl : B.length = S.length + R.length := by rw [← hBB, Al]
  obtain ⟨h1, h2, h3⟩ := GG hR
  simp only [Df, Aq, Ar] at hR
  obtain ⟨hep, hl16, hch⟩ := hR
  have hep1 : 1 ≤ ep ∧ ep < 4611686018427387904 := h1
  have hH : KV ((3 : Nat) : Int) ((ep.toNat : Nat) : Int) ((0 : Nat) : Int) = true := by
    rw [toNat_cast (by omega)]
    unfold KV
    rw [hep]
    decide
  have hd0 : B.drop 0 = Cw 3 ep.toNat 0 ++ (Vj l ++ (Em 2 (Bx (Vh (Cw 3 ep.toNat 0).length l)) ++ (Fh (EC ep l) ++ R))) := by rw [DH]; exact hB
  have hh := Rs.WH hH hd0 (At _)
  have hd1 := Vg hd0
  have hr1 := Vf hd0 (At _)
  rw [Bj] at hh hd1
  generalize Cw 3 ep.toNat 0 = H at *
  have hS := Wv (B := B) (ep := ep) hb l (B.length + 1) H.length [] [] true (Fh (EC ep l) ++ R) hN hch (by simpa using hl16) (by simpa using hMR) (by simpa using hd1) (by omega) (by
    have := Wc l
    simp only [Al] at hr1
    omega)
  rw [A8, A8] at hS
  have hd2 := Vg hd1
  have hd3 := Vg hd2
  have hr2 := Vf hd1 (by omega)
  have hr3 := Vf hd2 (by omega)
  generalize Vh H.length l = M at *
  have hfe : Ge ep M ((H.length + (Vj l).length : Nat) : Int) (((H.length + (Vj l).length + (Em 2 (Bx M)).length : Nat) : Int) - ((H.length + (Vj l).length : Nat) : Int)) = EC ep l := by
    rw [e2]
    congr 1
    omega
  have hE := Ww (B := B) (rest := R) (p := H.length + (Vj l).length + (Em 2 (Bx M)).length) (first := H.length + (Vj l).length) (ep := ep) (M := M) (by rw [hfe]; exact hFR) (by rw [hfe]; exact hd3) (by omega)
  rw [hfe] at hE
  unfold Hv
  rw [hh]
  dsimp only
  rw [Ai rfl, Ai rfl, toNat_cast (by omega), hS]
  dsimp only
  rw [Ai rfl, hE]
  have hpl : H.length + (Vj l).length + (Em 2 (Bx M)).length + (Fh (EC ep l)).length = S.length := by
    rw [hlen]
    simp only [Al]
    omega
  rw [hpl]
  unfold Rs.fin
  by_cases hRn : R = []
  · have hl0 : R.length = 0 := by rw [hRn]; rfl
    have hlt : ¬ (⟨S.length, 0, 0⟩ : Rs).p < B.length := by dsimp only; omega
    rw [Ah hlt, Ai hRn]
    dsimp only
    rw [Ai rfl]
  · have : 0 < R.length := List.length_pos_iff.2 hRn
    have hgt : (⟨S.length, 0, 0⟩ : Rs).p < B.length := by dsimp only; omega
    rw [Ai hgt, Ah hRn]
    unfold Rs.fail
    dsimp only
    rw [Ai rfl]
    dsimp only
    rw [Ah (by decide)]
theorem Rs.Xw {L K : Nat} {s : Rs} (h : s.sh L) : (s.fin K).sh L := by
  rw [Rs.NZ h.Vi]
  exact h
theorem WR {B D : List UInt8} {p first : Nat} {ep : Int} {M : List AU} (hf : Ia (Ge ep M first ((p : Int) - first))) (h : B.drop p = D) (hd : Part D (Fh (Ge ep M first ((p : Int) - first)))) (hp : p ≤ B.length) :
    (Fc B ⟨p, 0, 0⟩ first ep M).sh B.length := by
  unfold Fc
  generalize Ge ep M first ((p : Int) - first) = f at *
  have hle := Ik f
  unfold Fh at hd
  rcases Vq hd with hd | ⟨D2, hD2, hg2⟩
  · have hs := Rs.VQ h hd hp (by omega)
    dsimp only
    rw [Ah hs.Vi]
    exact hs
  · rw [hD2] at h
    have hF := Rs.Si (B := B) (P := Eg f) h hp (by omega)
    have hd2 := Vg h
    have hr := Vf h hp
    have hT := Rs.VN hd2 hg2 (Nat.le.intro hr)
    rw [IJ] at hT
    have hT' : ((⟨p + (Ck (Eg f)).length, 0, 0⟩ : Rs).take B 12).1.sh B.length := hT
    have hb := Rs.Ln hT'.Vi
    have hne : ¬ ([] : List UInt8) = DR (p + (Ck (Eg f)).length - p) := fun e => by
      have := Bc List.length e
      rw [IJ, By] at this
      omega
    rw [hF]
    dsimp only
    rw [Ai rfl, V4 hf]
    dsimp only
    rw [Rs.CS, Ai rfl, hb]
    dsimp only
    rw [Ah hne, Rs.CW hT'.Vi]
    exact Rs.Xw hT'
theorem VX {B : List UInt8} {ep : Int} {blk : List UInt8 → Rs → Rs × List UInt8 × Bool} {n : Nat} {s : Rs} {l : List Batch} {M : List AU} {q : Bool} (h : (s.frame B 2097152).1.k ≠ 0) :
    Bt B ep blk (n + 1) s l M q = ((s.frame B 2097152).1, s.p, l, M, q) := by
  rw [CC B ep blk n s l M q rfl, Ah h]
def Wm (B : List UInt8) (ep : Int) (R : Rs × Nat × List Batch × List AU × Bool) : Rs := if R.1.k = 0 then Fc B R.1 R.2.1 ep R.2.2.2.1 else R.1
theorem Wa {B : List UInt8} {ep : Int} {R : Rs × Nat × List Batch × List AU × Bool} (h : R.1.sh B.length) : (Wm B ep R).sh B.length := by
  unfold Wm
  rw [Ah h.Vi]
  exact h
theorem WQ {B : List UInt8} {ep : Int} {blk : List UInt8 → Rs → Rs × List UInt8 × Bool} (hb : WG blk) (t : List Batch) : ∀ (n p : Nat) (l : List Batch) (M : List AU) (q : Bool) (D : List UInt8), (∀ b ∈ t, EK b) → DL ep (BM l l.length) t = true → (l ++ t).length ≤ 16 → Cv (M ++ Vh p t) = true →
    Ia (Ge ep (M ++ Vh p t) ((p + (Vj t).length : Nat) : Int) ((Em 2 (Bx (M ++ Vh p t))).length : Nat)) →
    B.drop p = D → Part D (Vj t ++ (Em 2 (Bx (M ++ Vh p t)) ++ Fh (Ge ep (M ++ Vh p t) ((p + (Vj t).length : Nat) : Int) ((Em 2 (Bx (M ++ Vh p t))).length : Nat)))) → p ≤ B.length → B.length - p < n →
    (Wm B ep (Bt B ep blk n ⟨p, 0, 0⟩ l M q)).sh B.length := by
  induction t with
  | nil =>
    intro n p l M q D hN hc hl hM hf h hd hp hn
    obtain ⟨n, rfl⟩ : ∃ m, n = m + 1 := ⟨n - 1, by omega⟩
    have e0 : Vj [] = [] := rfl
    have e1 : M ++ Vh p [] = M := Io _
    rw [e1] at hM hd hf
    rw [e0] at hd hf
    rw [A8, By, CR] at hd
    rw [By, CR] at hf
    have hle := I1 hM
    rcases Vq hd with hd | ⟨D2, hD2, hg2⟩
    · have hs : ((⟨p, 0, 0⟩ : Rs).frame B 2097152).1.sh B.length := Rs.VQ h hd hp (by simp; omega)
      rw [VX hs.Vi]
      exact Wa hs
    · rw [hD2] at h
      have hd2 := Vg h
      have hr := Vf h hp
      have g3 : p + (Em 2 (Bx M)).length ≤ B.length := Nat.le.intro hr
      rw [VR hM h hp]
      unfold Wm
      dsimp only
      rw [Ai rfl]
      have hfe : ((p + (Em 2 (Bx M)).length : Nat) : Int) - (p : Int) = ((Em 2 (Bx M)).length : Nat) := by omega
      exact WR (by rw [hfe]; exact hf) hd2 (by rw [hfe]; exact hg2) g3
  | cons b t ih =>
    intro n p l M q D hN hc hl hM hf h hd hp hn
    obtain ⟨n, rfl⟩ : ∃ m, n = m + 1 := ⟨n - 1, by omega⟩
    unfold DL at hc
    simp only [Aq] at hc
    obtain ⟨c1, c2, c3⟩ := hc
    have e1 : M ++ Vh p (b :: t) = (M ++ [⟨b.base, b.entries.length, p⟩]) ++ Vh (p + (Em 1 (Co b)).length) t := by
      rw [AB]
      rfl
    have e3 : p + (Vj (b :: t)).length = p + (Em 1 (Co b)).length + (Vj t).length := by rw [Vv, Al, Nat.add_assoc]
    rw [e1] at hM hd hf
    rw [e3] at hd hf
    rw [Vv, AB (Em 1 (Co b))] at hd
    have hle := Nt c1
    rcases Vq hd with hd | ⟨D2, hD2, hg2⟩
    · have hs : ((⟨p, 0, 0⟩ : Rs).frame B 2097152).1.sh B.length := Rs.VQ h hd hp (by simp; omega)
      rw [VX hs.Vi]
      exact Wa hs
    · rw [hD2] at h
      have hd2 := Vg h
      have hr := Vf h hp
      have g3 : p + (Em 1 (Co b)).length ≤ B.length := Nat.le.intro hr
      have hl16 : l.length < 16 := by simp at hl; omega
      have e2 : l ++ [b] ++ t = l ++ b :: t := by rw [AB]; rfl
      have g1 : DL ep (BM (l ++ [b]) (l ++ [b]).length) t = true := by
        rw [Qc]
        exact c3
      have g2 : (l ++ [b] ++ t).length ≤ 16 := by
        rw [e2]
        exact hl
      have g6 : B.length - (p + (Em 1 (Co b)).length) < n := by
        have := (Hc 1 (Co b)).2
        generalize (Em 1 (Co b)).length = x at *
        omega
      rw [VW hb c1 (hN b (List.mem_cons_self ..)) h hp hl16 c2]
      exact ih n _ (l ++ [b]) _ q D2 (fun x hx => hN x (List.mem_cons_of_mem _ hx)) g1 g2 hM hf hd2 hg2 g3 g6
theorem Wr {ep : Int} {l : List Batch} {cut : Nat} (hR : Df ⟨ep, l⟩ = true) (hN : ∀ b ∈ l, EK b) {blk : List UInt8 → Rs → Rs × List UInt8 × Bool} (hb : WG blk) (hc : cut < (KT ep l).length) :
    Hv ((KT ep l).take cut) blk = (MW, false, 1, (cut : Int)) := by
  have hFR := Lu hR hN
  obtain ⟨hMR, _⟩ := Ls hR hN
  obtain ⟨e1, e2, e3⟩ := VV ep l
  rw [e3] at hMR
  have hpart : Part ((KT ep l).take cut) (KT ep l) := WT hc
  have hDl : ((KT ep l).take cut).length = cut := by rw [List.length_take]; omega
  generalize (KT ep l).take cut = D at *
  rw [e1] at hpart
  obtain ⟨h1, h2, h3⟩ := GG hR
  simp only [Df, Aq, Ar] at hR
  obtain ⟨hep, hl16, hch⟩ := hR
  have hep1 : 1 ≤ ep ∧ ep < 4611686018427387904 := h1
  have hH : KV ((3 : Nat) : Int) ((ep.toNat : Nat) : Int) ((0 : Nat) : Int) = true := by
    rw [toNat_cast (by omega)]
    unfold KV
    rw [hep]
    decide
  have hend : ∀ z : Rs, z.sh D.length → (if z.k = 0 then ((⟨ep, []⟩ : Seg), true, (0 : Int), (0 : Int)) else (MW, false, z.k, z.f)) = (MW, false, 1, (cut : Int)) := fun z hz => by
    rw [Ah hz.Vi, hz.code, hz.pl, hDl]
  rcases Vq hpart with hd | ⟨D2, hD2, hg2⟩
  · have hs := Rs.XA (B := D) (p := 0) hH (by rw [DH]) hd (At _)
    unfold Hv
    dsimp only
    generalize (⟨0, 0, 0⟩ : Rs).hdr D = X at *
    obtain ⟨s, v, e, b⟩ := X
    dsimp only at *
    have hs2 : (if v = 3 then s else s.fail 8 4) = s := by
      split
      · rfl
      · exact Rs.CW hs.Vi
    rw [hs2, Ah hs.Vi]
    dsimp only
    rw [Ah hs.Vi, Ah hs.Vi, hs.code, hs.pl, hDl]
  · have hd0 : D.drop 0 = Cw 3 ep.toNat 0 ++ D2 := by rw [DH]; exact hD2
    have hh := Rs.WH hH hd0 (At _)
    have hd1 := Vg hd0
    have hr1 := Vf hd0 (At _)
    rw [Bj] at hh hd1 hr1
    generalize Cw 3 ep.toNat 0 = H at *
    have g3 : H.length ≤ D.length := Nat.le.intro hr1
    rw [e2] at hFR hg2
    have hz := WQ (B := D) (ep := ep) hb l (D.length + 1) H.length [] [] true D2 hN hch (by simpa using hl16) (by simpa using hMR) hFR hd1 hg2 g3 (by omega)
    unfold Wm at hz
    unfold Hv
    rw [hh]
    dsimp only
    rw [Ai rfl, Ai rfl, toNat_cast (by omega), Ah hz.Vi, hz.code, hz.pl, hDl]
theorem WD (v ep bs : Nat) : 10 ≤ (Cw v ep bs).length := by
  have := (A3 ep).2
  simp only [Cw, Dw, Al, Dz, AL, By]
  omega
theorem WS (k : UInt8) (D : List UInt8) (h : 1 ≤ D.length) : 7 ≤ (Em k D).length := by
  have := (A3 (k :: D).length).2
  simp only [Em, Eo, Ez, AL] at this ⊢
  omega
theorem Xd (f : Cj) : 25 ≤ (Fh f).length := by
  have h1 := (A3 f.ep.toNat).2
  have h2 := (A3 f.n.toNat).2
  have h3 := (A3 f.en.toNat).2
  have h4 := (A3 f.first.toNat).2
  have h5 := (A3 f.fin.toNat).2
  have h6 := (A3 f.at_.toNat).2
  have h7 := (A3 f.size.toNat).2
  have hp : 8 ≤ (Eg f).length := by
    simp only [Eg, Cj.Gx, IX, Al, AL, By]
    omega
  have h8 := (A3 (Eg f).length).2
  simp only [Fh, Al, Eo, Ez, IJ]
  omega
theorem Xc (f : Cj) : (Fh f).length ≤ 200 := by
  have h1 := Ik f
  have h8 := (A3 (Eg f).length).1
  simp only [Fh, Al, Eo, Ez, IJ]
  omega
theorem Wb : ∀ (l : List Batch), (∀ b ∈ l, A4 b = true) → (Vj l).length ≤ 1200000 * l.length
  | [], _ => by simp [Vj]
  | b :: l, h => by
    have h1 := Wb l (fun x hx => h x (List.mem_cons_of_mem _ hx))
    have h2 := Nt (h b (List.mem_cons_self ..))
    have h3 := (Hc 1 (Co b)).1
    have e : Vj (b :: l) = Em 1 (Co b) ++ Vj l := rfl
    rw [e, Al, AL]
    omega
theorem VM : ∀ (l : List Batch) (p : Nat), (Vh p l).length = l.length
  | [], p => rfl
  | b :: l, p => by
    have := VM l (p + (Em 1 (Co b)).length)
    simp only [Vh, AL, this]
theorem WN (ep : Int) (l : List Batch) : 42 ≤ (KT ep l).length := by
  obtain ⟨e1, _, _⟩ := VV ep l
  have h1 := Bc List.length e1
  simp only [Al] at h1
  have a1 := WD 3 ep.toNat 0
  have a2 : 7 ≤ (Em 2 (Bx (Vh (Cw 3 ep.toNat 0).length l))).length := WS _ _ (by
    have := (A3 (Vh (Cw 3 ep.toNat 0).length l).length).2
    simp only [Bx, Al]
    omega)
  have a3 := Xd (EC ep l)
  omega
theorem Xm {ep : Int} {l : List Batch} (hR : Df ⟨ep, l⟩ = true) : (KT ep l).length ≤ 100000000 := by
  obtain ⟨e1, _, _⟩ := VV ep l
  have h1 := Bc List.length e1
  simp only [Al] at h1
  obtain ⟨⟨f1, f2⟩, f3, f4⟩ := GG hR
  dsimp only at f1 f2 f3 f4
  have a1 := (I2 (v := 3) (ep := ep.toNat) (bs := 0) (by omega) (by decide)).1
  have a2 := (Hc 2 (Bx (Vh (Cw 3 ep.toNat 0).length l))).1
  have a3 := Xc (EC ep l)
  have a4 := Wb l f4
  have a5 : (Bx (Vh (Cw 3 ep.toNat 0).length l)).length ≤ 10 + 30 * l.length := by
    have h2 := (A3 (Vh (Cw 3 ep.toNat 0).length l).length).1
    have h3 := IY (Vh (Cw 3 ep.toNat 0).length l) 0 0
    rw [VM] at h3 h2
    simp only [Bx, Al, VM]
    omega
  omega
theorem AZ.low {w : World} {α : Type} {lo lo' base base' : Nat} {A : Rp α} {e : TypeId} {sz : Nat} {v : Value} {xs : List α} (h : AZ lo A base e sz w v xs) (hl : lo' ≤ lo) (hb : base' ≤ base) : AZ lo' A base' e sz w v xs := by
  obtain ⟨cells, ho, hlen, hsz, hA⟩ := h
  refine ⟨cells, ⟨ho.1, ?_⟩, hlen, hsz, fun i cs x hi hx => A.mono (hA i cs x hi hx) fun b h => ⟨by have := h.1; omega, h.2⟩⟩
  rcases ho.2 with h0 | ⟨g', cap, cur, h1, h2, h3⟩
  · exact .inl h0
  · exact .inr ⟨g', cap, cur, h1, by omega, h3⟩
structure Xi (w W : World) (ep : Int) (a : Option Addr) (n c : Nat) (b : Batch) (ab : Option Addr) (nb cb : Nat) : Prop where
  below : Below w.heap.size w W
  g : Blk W w.heap.size 63 #[.int .u64 ep, .slice a n c]
  x : Blk W (w.heap.size + 1) 48 #[.int .u64 b.epoch, .int .u64 b.base, .slice ab nb cb]
  r : Blk W (w.heap.size + 1 + 1) 63 #[.int .u64 0, .slice none 0 0]
theorem Xi.later {w W W' : World} {ep : Int} {a : Option Addr} {n c : Nat} {b : Batch} {ab : Option Addr} {nb cb : Nat} (h : Xi w W ep a n c b ab nb cb) (hb : Below W.heap.size W W') : Xi w W' ep a n c b ab nb cb :=
  ⟨Af hb h.below, h.g.later hb, h.x.later hb, h.r.later hb⟩
theorem Xi.grown {w W W' : World} {ep : Int} {a : Option Addr} {n c : Nat} {b : Batch} {ab : Option Addr} {nb cb : Nat} {v : Value} (h : Xi w W ep a n c b ab nb cb) (hg : W.grownBy W' v.ownBlock) (hv : ∀ g, v.ownBlock = some g → w.heap.size + 3 ≤ g) : Xi w W' ep a n c b ab nb cb :=
  ⟨h.below.grown hg h.below.size (fun g e => by have := hv g e; omega), h.g.grown hg (fun e => by have := hv _ e.symm; omega), h.x.grown hg (fun e => by have := hv _ e.symm; omega), h.r.grown hg (fun e => by have := hv _ e.symm; omega)⟩
structure Xv (w W : World) (ep : Int) (a : Option Addr) (n c : Nat) (b : Batch) (ab : Option Addr) (nb cb : Nat) : Prop where
  below : Below w.heap.size w W
  g : Blk W w.heap.size 63 #[.int .u64 ep, .slice a n c]
  x : Blk W (w.heap.size + 1) 48 #[.int .u64 b.epoch, .int .u64 b.base, .slice ab nb cb]
theorem Xv.later {w W W' : World} {ep : Int} {a : Option Addr} {n c : Nat} {b : Batch} {ab : Option Addr} {nb cb : Nat} (h : Xv w W ep a n c b ab nb cb) (hb : Below W.heap.size W W') : Xv w W' ep a n c b ab nb cb :=
  ⟨Af hb h.below, h.g.later hb, h.x.later hb⟩
structure XC (w w4 W : World) (ep : Int) (a : Option Addr) (n c : Nat) (b : Batch) (ab : Option Addr) (nb cb : Nat) (gh : Nat) (e3 : Int) (a3 : Option Addr) (n3 c3 : Nat) : Prop extends Xv w W ep a n c b ab nb cb where
  later4 : Below w4.heap.size w4 W
  h : Blk W gh 63 #[.int .u64 e3, .slice a3 n3 c3]
theorem XC.later {w w4 W W' : World} {ep : Int} {a : Option Addr} {n c : Nat} {b : Batch} {ab : Option Addr} {nb cb : Nat} {gh : Nat} {e3 : Int} {a3 : Option Addr} {n3 c3 : Nat} (h : XC w w4 W ep a n c b ab nb cb gh e3 a3 n3 c3) (hb : Below W.heap.size W W') : XC w w4 W' ep a n c b ab nb cb gh e3 a3 n3 c3 :=
  ⟨h.toXv.later hb, Af hb h.later4, h.h.later hb⟩
theorem Xn {H : Type} (enc : TypeId × Value → H) (W : World) (base : Nat) (v0 : Value) (d0 : DataW H) (p0 : List MemPlace)
    (k0 : DataW.Trod enc Tryz.prog W 0 (fun _ => true) true 63 v0 d0 p0) (o0 : Value.okWide Tryz.prog W .any base 63 v0) :
    ∃ (ep : Int) (l : List Batch) (a : Option Addr) (n c : Nat), v0 = .agg #[.int .u64 ep, .slice a n c] ∧ (0 ≤ ep ∧ ep ≤ 18446744073709551615) ∧ Bf.r (· < W.heap.size) W [.slice a n c] l := by
  obtain ⟨fuel, hf⟩ := k0
  obtain ⟨cs, rfl, hsz⟩ := Go.WideShapes.okWide_struct Tryz.underlying63 o0
  obtain ⟨u, hu⟩ := XF enc W fuel _ _ hf
  obtain ⟨a, c, hcs, h0, hl⟩ := WO hu
  have e : cs = #[.int .u64 u.epoch, .slice a u.batches.length c] := by
    have := hcs
    simp only [Value.cells] at this
    exact Array.ext' this
  exact ⟨u.epoch, u.batches, a, _, c, by rw [e], h0, hl⟩
theorem WL {l : List Batch} (h : ∀ b ∈ l, b.entries.length ≤ 30 ∧ total b.entries ≤ 300 ∧ ∀ x ∈ b.entries, x.data.length ≤ 500 ∧ x.links.length ≤ 50 ∧ ∀ y ∈ x.links, y.backs.length ≤ 50) : ∀ b ∈ l, IF b.entries := fun b hb => by
  obtain ⟨h1, h2, h3⟩ := h b hb
  exact ⟨by omega, by omega, fun e he x hx => by have := (h3 e he).2.2 x hx; omega⟩
theorem Wu {S : Nat → Prop} {w : World} {a : Option Addr} {n c : Nat} {l : List Batch} (h : Bf.r S w [.slice a n c] l) : ∀ b ∈ l, EK b := by
  intro b hb
  obtain ⟨i, hi, rfl⟩ := List.getElem_of_mem hb
  obtain ⟨g, o, _, _, a1, c1, _, _, _, n0, n1, hd⟩ := F3 h hi
  refine ⟨n0, n1, fun e he => ?_⟩
  obtain ⟨k, hk, rfl⟩ := List.getElem_of_mem he
  obtain ⟨_, _, _, _, a2, c2, a3, c3, _, _, hl, _⟩ := Eh hd hk
  exact JC hl
theorem VU {w : World} {e k f : Int} {a : Option Addr} {n c : Nat} : Below w.heap.size w ((w.alloc (.cells #[.int .u64 e, .slice a n c] 63)).alloc (.cells #[.int .i64 k, .int .i64 f] 65)) ∧ Blk ((w.alloc (.cells #[.int .u64 e, .slice a n c] 63)).alloc (.cells #[.int .i64 k, .int .i64 f] 65)) w.heap.size 63 #[.int .u64 e, .slice a n c] ∧ Blk ((w.alloc (.cells #[.int .u64 e, .slice a n c] 63)).alloc (.cells #[.int .i64 k, .int .i64 f] 65)) (w.heap.size + 1) 65 #[.int .i64 k, .int .i64 f] := ⟨by (repeat (first | with_reducible exact Below.refl _ _ | with_reducible assumption | (with_reducible refine Au ?_ _) | (with_reducible refine Below.setCell ?_ (by first | omega | (simp; done) | (simp; omega)) _) | (with_reducible refine Below.drew ?_) | (with_reducible refine below_drewN ?_ _) | (refine Af (by with_reducible assumption) ?_))), by (repeat (first | assumption | exact Blk.newAt _ _ _ (by first | (simp; done) | (simp; omega)) | refine Blk.alloc ?_ _ | refine Blk.drew ?_ | refine Blk.drewN ?_ _ | refine Blk.far ?_ (by first | (simp; done) | (simp; omega)) _)), by (repeat (first | assumption | exact Blk.newAt _ _ _ (by first | (simp; done) | (simp; omega)) | refine Blk.alloc ?_ _ | refine Blk.drew ?_ | refine Blk.drewN ?_ _ | refine Blk.far ?_ (by first | (simp; done) | (simp; omega)) _))⟩
set_option maxHeartbeats 12800000 in
theorem V6 (ep : Int) (l : List Batch) (R : List UInt8) (cut : Int) (a ab : Option Addr) (n c nb cb : Nat) (w : World) (h0 : 0 ≤ ep ∧ ep ≤ 18446744073709551615) (hl : Bf.r (· < w.heap.size) w [.slice a n c] l) (hb : Ag.r (· < w.heap.size) w [.slice ab nb cb] R) :
    Calls Tryz.prog 8 #[.agg #[.int .u64 ep, .slice a n c], .slice ab nb cb, .int .i64 cut] w fun r w' => r = .returned (.bool true) ∧ Below w.heap.size w w' := by
  obtain ⟨rfl, hm, _, _⟩ := AH hl
  obtain ⟨rfl, hmb, _, _⟩ := AH hb
  obtain ⟨i0, hi, hz0, hz1, hz2⟩ := A1 Eu
  have HLG := hid (fun (W : World) (hW : Below w.heap.size w W) => Wz ep l a _ c W (lift hl hW))
  have HL := hid hl
  have HRB := hid hb
  have HBN := hid (Wu hl)
  have hbA : Below w.heap.size w (w.alloc (.cells #[.int .u64 ep, .slice a l.length c] 63)) := by (repeat (first | with_reducible exact Below.refl _ _ | with_reducible assumption | (with_reducible refine Au ?_ _) | (with_reducible refine Below.setCell ?_ (by first | omega | (simp; done) | (simp; omega)) _) | (with_reducible refine Below.drew ?_) | (with_reducible refine below_drewN ?_ _) | (refine Af (by with_reducible assumption) ?_)))
  have hgA : Blk (w.alloc (.cells #[.int .u64 ep, .slice a l.length c] 63)) w.heap.size 63 #[.int .u64 ep, .slice a l.length c] := Blk.new _ _ _
  cases hl1 : VH l
  · rw [hl1] at HLG
    by_cases h100 : R.length ≤ 100
    · have dr : decide ((100 : Int) < (R.length : Int)) = false := Ae (by omega)
      obtain ⟨hL20, hLs⟩ := WY hl1
      have htame := WL hLs
      have HBY := hid (fun (W : World) (hW : Below w.heap.size w W) => My ep l a _ c W h0 (lift HL.out hW) HBN.out htame)
      clear hl hb hl1 htame hLs
      go_enter Tryz.func8, Tryz.ntmps8
      go_upto_region 1 with (fail)
      generalize (w.alloc (.cells #[.int .u64 ep, .slice a l.length c] 63)) = wA at *
      have HBA := hid hbA
      have HGA := hid hgA
      obtain ⟨x0, x1, x2, x3, lx⟩ := Bg hgA
      clear hbA hgA
      go_wp2_with fail
      refine (HLG.out _ HBA.out).mono ?_
      rintro r w1 ⟨rfl, hb1⟩
      have HB1 := hid (Af hb1 HBA.out)
      have HG1 := hid (HGA.out.later hb1)
      clear hb1 HBA HGA x0 x1 x2 x3 lx
      obtain ⟨x0, x1, x2, x3, lx⟩ := Bg HG1.out
      cases hR : Df ⟨ep, l⟩
      · rw [hR] at HBY
        go_wp2_with fail
        refine (HBY.out _ HB1.out).mono ?_
        rintro r w2 ⟨v2, rfl, hr2, hb2⟩
        have hbe := Af hb2 HB1.out
        go_wp2_with fail
        refine (LO _).mono ?_
        rintro r w3 ⟨rfl, hb3⟩
        have HBE := hid (Af hb3 hbe)
        go_wp2_with fail
        go_ret
        exact ⟨rfl, HBE.out⟩
      · rw [hR] at HBY
        have hput := fun (Q : List UInt8) => Wg (ep := ep) (l := l) Q hR HBN.out XH
        have hputL := Wg (ep := ep) (l := l) [] hR HBN.out XI
        have hshort := fun (j : Nat) (hj : j < (KT ep l).length) => Wr (ep := ep) (l := l) hR HBN.out XH hj
        have hp0 := hput []
        rw [Io, Ai rfl] at hp0 hputL
        have h42 : 42 ≤ (KT ep l).length := WN ep l
        have hbig : (KT ep l).length ≤ 100000000 := Xm hR
        have HPUT := hid hput
        have HSHORT := hid hshort
        have HLB : Hid (KT ep l = KT ep l) := hid rfl
        simp only [↓reduceIte] at HBY
        generalize KT ep l = J at *
        have HD0 := hid (fun (V : World) (aJ : Option Addr) (nJ cJ : Nat) (h : Ag.r (· < V.heap.size) V [.slice aJ nJ cJ] J) => Ot V J aJ nJ cJ h (by omega) hp0)
        have HDL := hid (fun (V : World) (aJ : Option Addr) (nJ cJ : Nat) (h : Ag.r (· < V.heap.size) V [.slice aJ nJ cJ] J) => Ou V J aJ nJ cJ h (by omega) hputL)
        have HDR := hid (fun (V : World) (aJ : Option Addr) (nJ cJ : Nat) (hRn : R ≠ []) (h : Ag.r (· < V.heap.size) V [.slice aJ nJ cJ] (J ++ R)) => Ot V (J ++ R) aJ nJ cJ h (by rw [Al]; omega) (show Md (J ++ R) = (MW, false, 9, (J.length : Int)) from (HPUT.out R).trans (Ah hRn)))
        have HDC := hid (fun (V : World) (j : Nat) (hj : j < J.length) (aJ : Option Addr) (nJ cJ : Nat) (h : Ag.r (· < V.heap.size) V [.slice aJ nJ cJ] (J.take j)) => Ot V (J.take j) aJ nJ cJ h (by rw [List.length_take]; omega) (HSHORT.out j hj))
        clear hput hputL hshort hp0 hR HLB HPUT HSHORT
        go_wp2_with fail
        refine (HBY.out _ HB1.out).mono ?_
        rintro r w2 ⟨v2, rfl, hr2, hb2⟩
        obtain ⟨aJ, cJ, hfv, hr2', _⟩ := AJ hr2
        simp only [As, AF] at hfv
        subst hfv
        have HJ2 := hid (show Ag.r (· < w2.heap.size) w2 [.slice aJ J.length cJ] J from Ag.mono hr2' fun q e => e.2)
        have HG2 := hid (HG1.out.later hb2)
        have HB2 := hid (Af hb2 HB1.out)
        clear hr2 hr2' hb2 HG1 HB1 HBY x0 x1 x2 x3 lx
        go_wp2_with fail
        refine (HD0.out _ _ _ _ HJ2.out).mono ?_
        rintro r w3 ⟨a3, c3, rfl, hr3, hb3⟩
        obtain ⟨hbT, hS3, hF3⟩ := VU (w := w3) (e := ep) (k := 0) (f := 0) (a := a3) (n := l.length) (c := c3)
        have HG4 := hid ((HG2.out.later hb3).later hbT)
        have HB4 := hid (Af hbT (Af hb3 HB2.out))
        have HJ4 := hid (lift (lift HJ2.out hb3) hbT)
        have HR4 := hid (show Bf.r (· < ((w3.alloc (.cells #[.int .u64 ep, .slice a3 l.length c3] 63)).alloc (.cells #[.int .i64 0, .int .i64 0] 65)).heap.size) ((w3.alloc (.cells #[.int .u64 ep, .slice a3 l.length c3] 63)).alloc (.cells #[.int .i64 0, .int .i64 0] 65)) [.slice a3 l.length c3] l from lift (Bf.mono (S' := (· < w3.heap.size)) hr3 fun q e => e.2) hbT)
        have HS4 := hid hS3
        have HF4 := hid hF3
        clear hr3 hb3 hbT hS3 hF3 HG2 HB2 HJ2
        go_upto_region 7 with (fail)
        generalize ((w3.alloc (.cells #[.int .u64 ep, .slice a3 l.length c3] 63)).alloc (.cells #[.int .i64 0, .int .i64 0] 65)) = w4 at *
        generalize w3.heap.size = g4 at *
        go_wp2_with fail
        refine (HDL.out _ _ _ _ HJ4.out).mono ?_
        rintro r w5 ⟨a5, c5, rfl, hr5, hb5⟩
        obtain ⟨hbT, hS5, hF5⟩ := VU (w := w5) (e := ep) (k := 0) (f := 0) (a := a5) (n := l.length) (c := c5)
        have HG6 := hid ((HG4.out.later hb5).later hbT)
        have HB6 := hid (Af hbT (Af hb5 HB4.out))
        have HJ6 := hid (lift (lift HJ4.out hb5) hbT)
        have HR6 := hid (lift (lift HR4.out hb5) hbT)
        have HS6 := hid ((HS4.out.later hb5).later hbT)
        have HF6 := hid ((HF4.out.later hb5).later hbT)
        have HQ6 := hid (show Bf.r (· < ((w5.alloc (.cells #[.int .u64 ep, .slice a5 l.length c5] 63)).alloc (.cells #[.int .i64 0, .int .i64 0] 65)).heap.size) ((w5.alloc (.cells #[.int .u64 ep, .slice a5 l.length c5] 63)).alloc (.cells #[.int .i64 0, .int .i64 0] 65)) [.slice a5 l.length c5] l from lift (Bf.mono (S' := (· < w5.heap.size)) hr5 fun q e => e.2) hbT)
        have HT6 := hid hS5
        have HU6 := hid hF5
        clear hr5 hb5 hbT hS5 hF5 HG4 HB4 HJ4 HR4 HS4 HF4 HDL
        go_upto_region 8 with (fail)
        generalize ((w5.alloc (.cells #[.int .u64 ep, .slice a5 l.length c5] 63)).alloc (.cells #[.int .i64 0, .int .i64 0] 65)) = w6 at *
        generalize w5.heap.size = g6 at *
        obtain ⟨x0, x1, x2, x3, lx⟩ := Bg HG6.out
        obtain ⟨s0, s1, s2, s3, ls⟩ := Bg HS6.out
        obtain ⟨f0, f1, f2, f3, lf⟩ := Bg HF6.out
        obtain ⟨t0, t1, t2, t3, lt⟩ := Bg HT6.out
        obtain ⟨u0, u1, u2, u3, lu⟩ := Bg HU6.out
        have HSA := hid (fun (V : World) (aX : Option Addr) (cX : Nat) (h1 : Bf.r (· < V.heap.size) V [.slice aX l.length cX] l) (h2 : Bf.r (· < V.heap.size) V [.slice a l.length c] l) => (by have := PT ep ep l l aX a _ cX _ c V h1 h2; rw [Ad (rfl : (⟨ep, l⟩ : Seg) = ⟨ep, l⟩)] at this; exact this : Calls Tryz.prog 37 #[.agg #[.int .u64 ep, .slice aX l.length cX], .agg #[.int .u64 ep, .slice a l.length c]] V fun r w' => r = .returned (.bool true) ∧ Below V.heap.size V w'))
        go_wp2_with fail
        refine (HSA.out _ _ _ HR6.out (lift HL.out HB6.out)).mono ?_
        rintro r w7 ⟨rfl, hb7⟩
        have HG7 := hid (HG6.out.later hb7)
        have HB7 := hid (Af hb7 HB6.out)
        have HJ7 := hid (lift HJ6.out hb7)
        have HQ7 := hid (lift HQ6.out hb7)
        have HT7 := hid (HT6.out.later hb7)
        clear hb7 HG6 HB6 HJ6 HQ6 HR6 HS6 HF6 HT6 HU6 x0 x1 x2 x3 lx s0 s1 s2 s3 ls f0 f1 f2 f3 lf t0 t1 t2 t3 lt u0 u1 u2 u3 lu
        obtain ⟨x0, x1, x2, x3, lx⟩ := Bg HG7.out
        obtain ⟨t0, t1, t2, t3, lt⟩ := Bg HT7.out
        go_wp2_with fail
        refine (HSA.out _ _ _ HQ7.out (lift HL.out HB7.out)).mono ?_
        rintro r w8 ⟨rfl, hb8⟩
        have HB8 := hid (Af hb8 HB7.out)
        have HJ8 := hid (lift HJ7.out hb8)
        have i42 : decide ((J.length : Int) < (42 : Int)) = false := Ae (by omega)
        clear hb8 HG7 HB7 HJ7 HQ7 HT7 x0 x1 x2 x3 lx t0 t1 t2 t3 lt HSA
        go_upto_if 74 with (fail)
        generalize hnR : decide (0 < R.length) = nR at *
        have HNR := hid hnR
        clear hnR
        go_cut [14, 15] from 75 to 88 (fun _ _ V => Hid (Below w.heap.size w V) ∧ Hid (Ag.r (· < V.heap.size) V [.slice aJ J.length cJ] J))
        case first =>
          cases nR
          · go_wp2_with fail
            go_meet
            case rel => exact ⟨HB8, HJ8⟩
          · have hR1 : 1 ≤ R.length := by have h0 := Gq HNR.out; omega
            have hRn : R ≠ [] := List.length_pos_iff.1 hR1
            have HDRR := hid (fun (V : World) (aJ : Option Addr) (nJ cJ : Nat) (h : Ag.r (· < V.heap.size) V [.slice aJ nJ cJ] (J ++ R)) => (by exact HDR.out V aJ nJ cJ hRn h : Calls Tryz.prog 34 #[.slice aJ nJ cJ] V fun r w' => ∃ a' c', r = .returned (.tuple #[.agg #[.int .u64 0, .slice a' 0 c'], .agg #[.int .i64 9, .int .i64 (J.length : Int)]]) ∧ Bf.r (fun x => V.heap.size ≤ x ∧ x < w'.heap.size) w' [.slice a' 0 c'] [] ∧ Below V.heap.size V w'))
            have HSS := hid (fun (V : World) (hV : Below w8.heap.size w8 V) => BH (lift HJ8.out hV))
            have HSR := hid (fun (V : World) (hV : Below w.heap.size w V) => BH (lift HRB.out hV))
            have HONES := hid (A7 J)
            have HONER := hid (A7 R)
            have HBR := hid (fun (W : World) (v : Value) (h : W.ownsRow w8.heap.size 5 1 v (J.length + R.length) (byteCells J ++ byteCells R)) => (by
              have h := h
              rw [EX] at h
              exact Ag.mono (Cg (l := J ++ R) (by simp) h) fun b hb => hb.2 : Ag.r (· < W.heap.size) W [v] (J ++ R)))
            have hbw8 := HB8.out
            clear hRn HDR HDC HD0
            go_wp2_with (first | (at_builtin; go_loud (refine AA rfl _ _ _ rfl w8.heap.size 5 i0 (.int .u8 0) 1 1 AG hi hz0 hz1 hz2 rfl (by decide) (.slice (some ⟨w8.heap.size, 0, none⟩) 0 0) 0 [] rfl (D4 _ (by simp) rfl) aJ J.length cJ (byteCells J) rfl (HSS.out _ (by (repeat (first | with_reducible exact Below.refl _ _ | with_reducible assumption | (with_reducible refine Au ?_ _) | (with_reducible refine Below.setCell ?_ (by first | omega | (simp; done) | (simp; omega)) _) | (with_reducible refine Below.drew ?_) | (with_reducible refine below_drewN ?_ _) | (refine Af (by with_reducible assumption) ?_))))) HONES.out (by simp only [maxLen]; omega) (by omega) (by simp) ?_; intro v9 w9 hown9 hgrow9 hat9; rw [Bj, A8] at hown9; obtain ⟨a9', c9', rfl⟩ := AX hown9; have hb89 : Below w8.heap.size w8 w9 := (Below.grown (by (repeat (first | with_reducible exact Below.refl _ _ | with_reducible assumption | (with_reducible refine Au ?_ _) | (with_reducible refine Below.setCell ?_ (by first | omega | (simp; done) | (simp; omega)) _) | (with_reducible refine Below.drew ?_) | (with_reducible refine below_drewN ?_ _) | (refine Af (by with_reducible assumption) ?_)))) hgrow9 (by simp) (fun g e => by { have e' : some w8.heap.size = some g := e; injection e' with e'; omega })); have hs9 := hb89.size; have HO9 := hid hown9; have HB9 := hid hb89; clear hown9 hgrow9 hat9)) | (at_builtin; go_loud (refine AA rfl _ _ _ rfl w8.heap.size 5 i0 (.int .u8 0) 1 1 AG hi hz0 hz1 hz2 rfl (by decide) (.slice a9' J.length c9') J.length (byteCells J) rfl HO9.out ab R.length cb (byteCells R) rfl (HSR.out _ (Af HB9.out hbw8)) HONER.out (by simp only [maxLen]; omega) (by omega) hs9 ?_; intro v10 w10 hown10 hgrow10 hat10; have HB10v := hid (HBR.out w10 v10 hown10); obtain ⟨a10, c10, rfl⟩ := AX hown10; have hb810 : Below w8.heap.size w8 w10 := (Below.grown HB9.out hgrow10 hs9 (fun g e => (HO9.out.lt g e).1)); have HB10 := hid hb810; clear hown10 hgrow10 hat10)))
            refine (HDRR.out _ _ _ _ HB10v.out).mono ?_
            rintro r w11 ⟨a11, c11, rfl, hr11, hb11⟩
            obtain ⟨hbT, hS11, hF11⟩ := VU (w := w11) (e := 0) (k := 9) (f := (J.length : Int)) (a := a11) (n := 0) (c := c11)
            have HJ12 := hid (lift (lift (lift HJ8.out HB10.out) hb11) hbT)
            have HB12 := hid (Af hbT (Af hb11 (Af HB10.out hbw8)))
            have HF12 := hid hF11
            clear hr11 hb11 hbT hS11 hF11 HDRR HSS HSR HONES HONER HBR HO9 HB9 HB10v HB10
            go_upto_region 14 with (fail)
            generalize ((w11.alloc (.cells #[.int .u64 0, .slice a11 0 c11] 63)).alloc (.cells #[.int .i64 9, .int .i64 (J.length : Int)] 65)) = w12 at *
            generalize w11.heap.size = g12 at *
            obtain ⟨u0, u1, u2, u3, lu⟩ := Bg HF12.out
            have eJ : ((J.length : Int) == (J.length : Int)) = true := by simp
            go_wp2_with fail
            go_meet
            case rel => exact ⟨HB12, HJ12⟩
        case rest =>
          obtain ⟨HB9, HJ9⟩ := hcut
          clear HB8 HJ8
          generalize hW9 : wc = w9 at *
          obtain ⟨j, hj⟩ : ∃ j : Nat, (j : Int) = min (max cut 0) ((J.length : Int) - 1) := ⟨(min (max cut 0) ((J.length : Int) - 1)).toNat, by omega⟩
          have hjl : j < J.length := by omega
          have HJM := hid hj
          clear hj
          go_upto_region 16 with (fail)
          go_cut [2] from 89 to 94 (fun s2 V => s2 = .int .i64 (j : Int) ∧ Hid (Below w.heap.size w V) ∧ Hid (Ag.r (· < V.heap.size) V [.slice aJ J.length cJ] J))
          case first =>
            have hj := HJM.out
            by_cases g1 : 0 ≤ cut
            · have d1 : decide (0 ≤ cut) = true := Ad g1
              have d1' : decide (cut ≤ 0) = decide (cut ≤ 0) := rfl
              by_cases g2 : (J.length : Int) - 1 < cut
              · have d2 : decide ((J.length : Int) - 1 < cut) = true := Ad g2
                have hje : (j : Int) = (J.length : Int) - 1 := by omega
                have HJE := hid hje
                clear hj hje d1'
                go_wp2_with fail
                go_meet
                case rel => exact ⟨by rw [HJE.out], HB9, HJ9⟩
              · have d2 : decide ((J.length : Int) - 1 < cut) = false := Ae g2
                have hje : (j : Int) = cut := by omega
                have HJE := hid hje
                clear hj hje d1'
                go_wp2_with fail
                go_meet
                case rel => exact ⟨by rw [HJE.out], HB9, HJ9⟩
            · have d1 : decide (0 ≤ cut) = false := Ae g1
              have d2 : decide ((J.length : Int) - 1 < 0) = false := Ae (by omega)
              have hje : (j : Int) = 0 := by omega
              have HJE := hid hje
              clear hj hje
              go_wp2_with fail
              go_meet
              case rel => exact ⟨by rw [HJE.out], HB9, HJ9⟩
          case rest =>
            obtain ⟨rfl, HB10, HJ10⟩ := hcut
            clear HB9 HJ9 HJM
            generalize hW10 : wc = w10 at *
            obtain ⟨A', hcut2, hrd2⟩ := Xb HJ10.out (hi := j) (by omega)
            have HDJ := hid (by exact HDC.out w10 j hjl _ _ _ hrd2 : Calls Tryz.prog 34 #[.slice A' j cJ] w10 fun r w' => ∃ a' c', r = .returned (.tuple #[.agg #[.int .u64 0, .slice a' 0 c'], .agg #[.int .i64 1, .int .i64 (j : Int)]]) ∧ Bf.r (fun x => w10.heap.size ≤ x ∧ x < w'.heap.size) w' [.slice a' 0 c'] [] ∧ Below w10.heap.size w10 w')
            clear HDC HDR HD0 hrd2
            go_wp2_with fail
            refine HDJ.out.mono ?_
            rintro r w14 ⟨a14, c14, rfl, hr14, hb14⟩
            obtain ⟨hbT, hS15, hF15⟩ := VU (w := w14) (e := 0) (k := 1) (f := (j : Int)) (a := a14) (n := 0) (c := c14)
            have HB15 := hid (Af hbT (Af hb14 HB10.out))
            have HS15 := hid hS15
            have HF15 := hid hF15
            clear hr14 hb14 hbT hS15 hF15 HDJ HB10 HJ10
            go_upto_region 18 with (fail)
            generalize ((w14.alloc (.cells #[.int .u64 0, .slice a14 0 c14] 63)).alloc (.cells #[.int .i64 1, .int .i64 (j : Int)] 65)) = w15 at *
            generalize w14.heap.size = g15 at *
            obtain ⟨s0, s1, s2, s3, ls⟩ := Bg HS15.out
            obtain ⟨u0, u1, u2, u3, lu⟩ := Bg HF15.out
            have eJ : ((j : Int) == (j : Int)) = true := by simp
            go_wp2_with fail
            refine (LO _).mono ?_
            rintro r w16 ⟨rfl, hb16⟩
            have HBE := hid (Af hb16 HB15.out)
            clear hb16
            go_wp2_with fail
            go_ret
            exact ⟨rfl, HBE.out⟩
    · have dr : decide ((100 : Int) < (R.length : Int)) = true := Ad (by omega)
      clear h100
      clear hl hb hl1
      go_enter Tryz.func8, Tryz.ntmps8
      go_upto_region 1 with (fail)
      generalize (w.alloc (.cells #[.int .u64 ep, .slice a l.length c] 63)) = wA at *
      have HBA := hid hbA
      have HGA := hid hgA
      obtain ⟨x0, x1, x2, x3, lx⟩ := Bg hgA
      clear hbA hgA
      go_wp2_with fail
      refine (HLG.out _ HBA.out).mono ?_
      rintro r w1 ⟨rfl, hb1⟩
      have HB1 := hid (Af hb1 HBA.out)
      clear hb1 x0 x1 x2 x3 lx
      go_wp2_with fail
      refine (LO _).mono ?_
      rintro r w3 ⟨rfl, hb3⟩
      have HBE := hid (Af hb3 HB1.out)
      go_wp2_with fail
      go_ret
      exact ⟨rfl, HBE.out⟩
  · rw [hl1] at HLG
    clear hl hb hl1
    go_enter Tryz.func8, Tryz.ntmps8
    go_upto_region 1 with (fail)
    generalize (w.alloc (.cells #[.int .u64 ep, .slice a l.length c] 63)) = wA at *
    have HBA := hid hbA
    have HGA := hid hgA
    obtain ⟨x0, x1, x2, x3, lx⟩ := Bg hgA
    clear hbA hgA
    go_wp2_with fail
    refine (HLG.out _ HBA.out).mono ?_
    rintro r w1 ⟨rfl, hb1⟩
    have HB1 := hid (Af hb1 HBA.out)
    clear hb1 x0 x1 x2 x3 lx
    go_wp2_with fail
    refine (LO _).mono ?_
    rintro r w3 ⟨rfl, hb3⟩
    have HBE := hid (Af hb3 HB1.out)
    go_wp2_with fail
    go_ret
    exact ⟨rfl, HBE.out⟩
theorem segmentBack_walk {H : Type} (enc : TypeId × Value → H) (W : World) (base : Nat) (v0 v1 v2 : Value) (d0 d1 d2 : DataW H) (p0 p1 p2 : List MemPlace)
    (k0 : DataW.Trod enc Tryz.prog W 0 (fun _ => true) true 63 v0 d0 p0) (k1 : DataW.Trod enc Tryz.prog W 0 (fun _ => true) true 22 v1 d1 p1) (k2 : DataW.Trod enc Tryz.prog W 0 (fun _ => true) true 3 v2 d2 p2)
    (o0 : Value.okWide Tryz.prog W .any base 63 v0) (o1 : Value.okWide Tryz.prog W .any base 22 v1) (o2 : Value.okWide Tryz.prog W .any base 3 v2) :
    Calls Tryz.prog 8 #[v0, v1, v2] W fun e w' => e = .returned (.bool true) ∧ Below W.heap.size W w' := by
  obtain ⟨ep, l, a, n, c, rfl, h0, hl⟩ := Xn enc W base v0 d0 p0 k0 o0
  obtain ⟨fuel, hf⟩ := k1
  obtain ⟨ab, nb, cb, rfl⟩ := Go.WideShapes.okWide_slice AG o1
  obtain ⟨R, hb⟩ := T4 enc W fuel _ _ hf
  obtain ⟨cut, rfl⟩ := Go.WideShapes.okWide_int Tryz.underlying3 o2
  exact V6 ep l R cut a ab n c nb cb W h0 hl hb
end Go.Proofs.YtfddhafbhceoaaaGreat
