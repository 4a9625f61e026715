/- Mini: Needed by rpcBack_walk, part 1: texts put together by shake.py; no condition. -/
import Derived.Test.YtlbffbkbkajciaaGreatZO14
import Derived.ProofKit
import Derived.OpenShut
import Derived.Deep.Slices
import Derived.Lib.SmallJoins
import Derived.WalkKit
import Derived.WalkLawsBesides
import Derived.WalkSpells
import Derived.Outline
import Derived.BigQuiet
import Derived.Deep.QuietTactic
import Derived.Laws.IdiomStrings
import Derived.Laws.BytesArg
import Derived.Test.YtlbffbkbkajciaaGreatRows
import Derived.Deep.AppendLies
import Derived.Maps.AppendAt
import Derived.StillTailTactics
import Derived.Maps.OwnOps
import Derived.Maps.Views
import Derived.Sort.QuietThIn
import Derived.Sort.BigQuietIn
import Derived.Sort.QuietTacIn
import Derived.RangeFuncNested
import Derived.RangeFuncBound
import Derived.RangeFuncCalls
import Derived.RangeFuncLeaves
import Derived.Shelf.Abstract
import Derived.Shelf.RegionOpen
import Derived.OwnWalkIn
import Derived.TacticsInMore
import Derived.LoopNIn
import Derived.LoopIn
import Derived.Maps.OwnIn
import Derived.StillTail
import Derived.RegionTactic
import Derived.OrdersHeld
import Derived.Deep.RegionHeld
import Derived.Deep.Cut
import Derived.Deep.RegionHeld3
import Derived.IntWalk
import Derived.ScopeJumps
import Derived.WalkMore
import Derived.BigRegion
import Derived.Lib.SlBytesConst
import Derived.Deep.CutRange
import Derived.Scope
import Derived.Deep.RegionLaw
import Derived.Laws.MakeOwn
import Derived.Test.YtlbffbkbkajciaaGreatProg
import Derived.Deep.WholeRow
import Derived.Laws.Bits64
import Derived.Laws.BitsAllLaws
import Derived.Lib.ConvBytes
import Derived.Laws.AppendOwn
set_option linter.unusedVariables false
set_option linter.unusedSimpArgs false
set_option maxRecDepth 100000
set_option maxHeartbeats 6400000
namespace Go.Bs
theorem Z0{p:Prop}(h:p:=by simp only [FV, As] at hr; exact hr.1):p:=h
theorem z9{p:Prop}(h:p:=by rw [hf.out, hst.out]; simp [h3]):p:=h
theorem z8{p:Prop}(h:p:=by have h := Uy (o := 0) (s := 1) (o' := 1) rfl r0 (We (s := 1) hl2 r1); rw [List.drop_zero] at h; exact h):p:=h
theorem z7{p:Prop}(h:p:=by have h := Uy (o := 0) (s := 1) (o' := 1) rfl r0 (Uy (o := 1) (s := 1) (o' := 2) rfl r1 (We (s := 1) hl2 r2)); rw [List.drop_zero] at h; exact h):p:=h
theorem z6{p:Prop}(h:p:=by rw [hf.out, WW _ _ l k (.inl (by omega))]; simp only [decide_eq_decide]; omega):p:=h
theorem z5{p:Prop}(h:p:=by rw [hf.out, WW _ _ l k (.inr (by omega))]; simp only [decide_eq_decide]; omega):p:=h
theorem Uv:type_of% @Nat.add_assoc:=@Nat.add_assoc
open Go.RowKit
section
variable {P : Program}
theorem Vm {t : TypeId} {k : IntKind} (ht : P.underlying t = some (.int k)) : Qh P t (Nf k) := fun enc w fuel cs x h => by
 obtain ⟨n, rfl, _, hw⟩ := DataW.trod_int ht h
 exact ⟨n, rfl, hw⟩
theorem UC {H : Type} {enc : TypeId × Value → H} {w : World} {fuel : Nat} {t : TypeId} {cs : List Value} {x : DataW H × List MemPlace} {fs : Array Field} (ht : P.underlying t = some (.struct fs)) (h : DataW.trod enc P w 0 (fun _ => true) true fuel t cs = some x) :
  cs.length = P.cellsOf t ∧ ∃ n, ∀ (i : Nat) (f : Field), fs[i]? = some f → ∃ y, DataW.trod enc P w 0 (fun _ => true) true n f.type ((cs.drop f.offset).take (P.cellsOf f.type)) = some y := by
 obtain ⟨xs, n, _, _, h1, h2, h3⟩ := DataW.trod_struct ht h
 refine ⟨h1, n, fun i f hf => ?_⟩
 have hi : i < fs.size := (Array.getElem?_eq_some_iff.1 hf).1
 rw [h3 i f hf, AJ zD]
 exact ⟨_, rfl⟩
theorem Uy {α β : Type} {A : Rp α} {B : Rp β} {S : Nat → Prop} {w : World} {cs : List Value} {o s o' : Nat} {x : α} {y : β} (ho : o + s = o') (h1 : A.r S w ((cs.drop o).take s) x) (h2 : B.r S w (cs.drop o') y) : (Js A B).r S w (cs.drop o) (x, y) :=
 ⟨_, _, by subst ho; rw [← List.drop_drop, Fs], h1, h2⟩
theorem We {β : Type} {B : Rp β} {S : Nat → Prop} {w : World} {cs : List Value} {o s : Nat} {y : β} (hl : cs.length = o + s) (h2 : B.r S w ((cs.drop o).take s) y) : B.r S w (cs.drop o) y := by
 rwa [EU zL] at h2
end
end Go.Bs
namespace Go.Proofs.YtlbffbkbkajciaaGreat
open Go.RowKit Go.Bs Go.Maps
section
variable {w w1 w2 : World} {g : Nat} {B : List UInt8} {a : Option Addr} {s s' : Rs}
end
theorem Xc {S : Nat → Prop} {w : World} {a : Option Addr} {B : List UInt8} {c : Nat} (h : Ag.r S w [.slice a B.length c] B) {lo : Nat} (h1 : lo ≤ B.length) :
  ∃ A' c', (∀ w' : World, (Instr.slice 25 (.slice a B.length c) (some (.int .i64 (lo : Int))) none none).run Tryz.prog w' = .ok (.slice A' (B.length - lo) c') w') ∧ Ag.r S w [.slice A' (B.length - lo) c'] (B.drop lo) := by
 obtain ⟨_, hm, hc, hcm⟩ := AP h
 have g1 : (0 : Int) ≤ (lo : Int) := zD
 have g2 : (lo : Int) ≤ (B.length : Int) := zD
 rcases Bo lo B.length with hlt | hge
 ·obtain ⟨ga, oa, hA, hga, _⟩ := Cx h (i := lo) zD
  subst hA;have hd := PJ h (k := lo) zD
  rw [Eb] at hd
  refine ⟨some ⟨ga, oa + lo, none⟩, c - lo, fun w' => ?_, hd⟩
  have g4 : ¬ c = lo := zD
  clear h hd;go_simp
 ·obtain rfl : lo = B.length := by omega
  by_cases g4 : c = B.length
  ·refine ⟨a, c - B.length, fun w' => ?_, Cd zO zD zD⟩
   clear h;subst g4;go_simp
  ·refine ⟨a.map (·.add (B.length * 1)), c - B.length, fun w' => ?_, Cd zO zD zD⟩
   clear h;go_simp
theorem Rs.Vb {B : List UInt8} {s : Rs} {n : Int} (h : s.k ≠ 0) : s.take B n = (s, []) := by unfold Rs.take; rw [Rs.Jm h]; simp
open Go.RowKit Go.Bs
theorem UT : Tryz.prog.cellsOf 22 = 1 := zH
theorem WT : Tryz.prog.cellsOf 25 = 1 := zH
theorem WC : Tryz.prog.cellsOf 23 = 1 := zH
theorem WS : Tryz.prog.cellsOf 24 = 1 := zH
theorem UR : Qh Tryz.prog 22 (Nf .u64) := Vm Tryz.underlying22
theorem VD : Qh Tryz.prog 23 AQ := Nk (sz := 1) Dr zH zP UR
theorem UA {H : Type} {enc : TypeId × Value → H} {P : Program} {w : World} {cs : List Value} {n : Nat} {fs : Array Field} (h : ∀ (i : Nat) (f : Field), fs[i]? = some f → ∃ y, DataW.trod enc P w 0 (fun _ => true) true n f.type ((cs.drop f.offset).take (P.cellsOf f.type)) = some y)
  {α : Type} {A : Rp α} {t : TypeId} (hA : Qh P t A) (i : Nat) (f : Field) (o : Nat) (hf : fs[i]? = some f) (ht : f.type = t) (ho : f.offset = o) (hs : P.cellsOf t = 1) : ∃ x, A.r (· < w.heap.size) w ((cs.drop o).take 1) x := by
 obtain ⟨y, hy⟩ := h i f hf
 rw [ht, ho, hs] at hy
 exact hA enc w n _ _ hy
theorem W7 : Qh Tryz.prog 151 Kn := fun enc w fuel cs x h => by
 obtain ⟨hl, n, hf⟩ := UC Tryz.underlying151 h
 have hl2 : cs.length = 2 := hl.trans zH
 obtain ⟨x0, r0⟩ := UA hf UR 0 _ 0 rfl rfl rfl UT
 obtain ⟨x1, r1⟩ := UA hf VD 1 _ 1 rfl rfl rfl WC
 exact ⟨⟨x0, x1⟩, z8⟩
theorem WN : Qh Tryz.prog 24 BK := Nk (sz := 2) Tryz.underlying24 zH zP W7
theorem Rs.UZ {B rest : List UInt8} {p : Nat} {x : UInt8} (h : B.drop p = x :: rest) (hp : p ≤ B.length) : (⟨p, 0, 0⟩ : Rs).byte B = (⟨p + 1, 0, 0⟩, x) := by
 have hr := I9 (D := [x]) h hp
 simp at hr
 have hx : B.getD p 0 = x := by
  have : (B.drop p)[0]? = some x := by rw [h]; rfl
  simp at this
  simp [List.getD, this]
 unfold Rs.byte Rs.skip;rw [Ak rfl, An zD, An zM]
 dsimp only;rw [Ak rfl, hx]
 rfl
theorem Vd {b : List UInt8} {o : Nat} : ∀ (m p : Nat), p + m ≤ b.length → 1 ≤ o → o ≤ p → (∀ k, k < m → b[p + k]? = b[p + k - o]?) → FN o m (b.take p) = b.take (p + m)
 | 0, p, _, _, _, _ => rfl
 | m + 1, p, h, h1, h2, hs => by
  have h0 := hs 0 zD
  have hb : b[p]? = some b[p] := zO
  simp only [BR] at h0
  have e : b.take p ++ [(b.take p).getD ((b.take p).length - o) 0] = b.take (p + 1) := by
   rw [List.length_take, Nat.min_eq_left zD]
   have : (b.take p).getD (p - o) 0 = b[p] := by
    have : (b.take p)[p - o]? = some b[p] := by rw [List.getElem?_take_of_lt zD, ← h0, hb]
    simp [List.getD, this]
   rw [this]
   rw [List.take_add_one, hb]; rfl
  simp only [FN]
  rw [e, Vd m (p + 1) zD h1 zD (fun k hk => by
   have := hs (k + 1) zD
   rw [show p + 1 + k = p + (k + 1) by omega]
   exact this)]
  rw [show p + 1 + m = p + (m + 1) by omega]
theorem Wz {b B : List UInt8} {bound : Int} (hb : b.length ≤ 1048576) (hbd : (b.length : Int) ≤ bound) {f : Bool} {p : Nat} {ts : List Tok} (hg : Good b f p ts) : p ≤ b.length → ∀ q, q ≤ B.length → B.drop q = Df ts → exR B bound ⟨q, 0, 0⟩ (b.take p) = (⟨B.length, 0, 0⟩, b) := by
 induction hg with
 | nil =>
  intro _ q hq h;have : B.length ≤ q := by simpa [Df] using h
  obtain rfl : q = B.length := zD
  rw [KD zO]
  simp
 | @copy f p o m rest hp hbe hm hg ih =>
  intro _ q hq h;rcases GZ b p with h0 | ⟨o', m', he, h1, h2, h4, hml, _, _⟩
  ·rw [hbe] at h0; simp at h0; omega
  ·rw [hbe] at he
   simp only [CG] at he
   obtain ⟨rfl, rfl⟩ := he
   have hmb := JS b p o
   have hre : reach p ≤ p ∧ reach p ≤ 65536 := zBc
   have ht : Df (⟨[], (o : Int), (m : Int)⟩ :: rest) = AH (2 * m - 7) ++ (AH (o - 1) ++ Df rest) := by
    simp only [Df, List.map_cons, IG]
    rw [Qs o m h1, Au]
   rw [ht] at h
   have hd1 := LP h
   have hr1 := I9 h hq
   have hd2 := LP hd1
   have hr2 := I9 hd1 zD
   have hl1 := (A2 (2 * m - 7)).2
   have hN := Rs.Sr zD h
   have hN2 := Rs.Sr (p := q + (AH (2 * m - 7)).length) zD hd1
   have hH : (⟨q, 0, 0⟩ : Rs).head B = (⟨q + (AH (2 * m - 7)).length, 0, 0⟩, true, m) := by
    unfold Rs.head;rw [hN]
    dsimp only;rw [Ak rfl, Ak zD, An zD, show (2 * m - 7) / 2 + 4 = m by omega]
   have hO : (⟨q + (AH (2 * m - 7)).length, 0, 0⟩ : Rs).offset B = (⟨q + (AH (2 * m - 7)).length + (AH (o - 1)).length, 0, 0⟩, o) := by
    unfold Rs.offset;rw [hN2]
    dsimp only;rw [An zD, Ak rfl, show o - 1 + 1 = o by omega]
   have hlen : (b.take p).length = p := zL
   have hS : CC B bound ⟨q, 0, 0⟩ (b.take p) = (⟨q + (AH (2 * m - 7)).length + (AH (o - 1)).length, 0, 0⟩, b.take (p + m)) := by
    unfold CC;rw [hH]
    dsimp only;rw [hlen, An zD, An zO, hO]
    dsimp only;rw [An zD, Ak rfl, Vd m p zD h1 zD (fun k hk => (Lx zD).2.2.2)]
   rw [TY ⟨hq, fun _ => rfl⟩ zM rfl, hS]
   exact ih zD _ zD hd2
 | @run p q' rest hlt hle hno hg ih =>
  intro _ q hq h;have hD : ((b.drop p).take (q' - p)).length = q' - p := zL
  generalize hDe : (b.drop p).take (q' - p) = D at *
  have ht : Df (⟨D, 0, 0⟩ :: rest) = AH (2 * D.length - 2) ++ (D ++ Df rest) := by
   simp only [Df, List.map_cons, IG]
   rw [RB D zD zD, Au]
  rw [ht] at h
  have hd1 := LP h
  have hr1 := I9 h hq
  have hd2 := LP hd1
  have hr2 := I9 hd1 zD
  have hl1 := (A2 (2 * D.length - 2)).2
  have hN := Rs.Sr zD h
  have hH : (⟨q, 0, 0⟩ : Rs).head B = (⟨q + (AH (2 * D.length - 2)).length, 0, 0⟩, false, D.length) := by
   unfold Rs.head;rw [hN]
   dsimp only;rw [Ak rfl, An zD, An zD, show (2 * D.length - 2) / 2 + 1 = D.length by omega]
  have hlen : (b.take p).length = p := zL
  have hS : CC B bound ⟨q, 0, 0⟩ (b.take p) = (⟨q + (AH (2 * D.length - 2)).length + D.length, 0, 0⟩, b.take q') := by
   unfold CC;rw [hH]
   dsimp only;rw [hlen, An zD, Ak rfl, Rs.MS hd1 zD]
   rw [← hDe]
   refine Prod.ext rfl ?_
   dsimp only;have : b.take q' = b.take p ++ (b.drop p).take (q' - p) := by
    rw [← Fs p (b.take q'), List.take_take, Nat.min_eq_left zD, List.drop_take]
   exact this.symm
  rw [TY ⟨hq, fun _ => rfl⟩ zM rfl, hS]
  exact ih zD _ zD hd2
theorem Wi {b : List UInt8} {bound : Int} (hb : b.length ≤ 1048576) (hbd : (b.length : Int) ≤ bound) : exB (Fa b) bound = (b, 0, 0) := by
 have := Wz (B := Fa b) hb hbd (Pc b) zD 0 zD rfl
 rw [TZ]
 simp only [List.take_zero] at this
 rw [this, Ak rfl]
theorem Rs.Vy {B D rest : List UInt8} {p : Nat} {most : Int} (h : B.drop p = Cu D ++ rest) (hp : p ≤ B.length) (hD : D.length ≤ 1048576) (hm : (D.length : Int) ≤ most) :
  (⟨p, 0, 0⟩ : Rs).loose B most = (⟨p + (Cu D).length, 0, 0⟩, D, true) := by
 have htk : (B.drop p).take (Cu D).length = Cu D := by rw [h]; simp
 have h' := h
 unfold Cu at h;rw [Au] at h
 have hd1 := LP h
 have hr1 := I9 h hp
 have hI := Rs.Tp (m := min most 1048576) zD h zD
 unfold Rs.loose;rw [hI]
 dsimp only;cases hpk : Hm D
 ·rw [hpk] at hd1
  rw [An zO] at hd1
  have hd2 := LP (D := [0]) hd1
  have hr2 := I9 (D := [0]) hd1 zD
  simp only [A7, Br, Bn] at hd2 hr2
  rw [Rs.UZ hd1 zD]
  dsimp only;rw [Ak rfl, Ak zX, Rs.MS hd2 zD]
  dsimp only;rw [Ak rfl]
  have hl : (Cu D).length = (AH D.length).length + (1 + D.length) := by simp [Cu, hpk]; omega
  rw [show p + (AH D.length).length + 1 + D.length = p + (Cu D).length by omega, show p + (Cu D).length - p = (Cu D).length by omega, htk]
  simp
 ·have hpl : (Db (Fa D)).length < D.length := B6 hpk
  have hpl2 := EW (Fa D)
  rw [hpk] at hd1
  rw [Ak rfl] at hd1
  have hd2 := LP (D := [1]) hd1
  have hr2 := I9 (D := [1]) hd1 zD
  simp only [A7, Br, Bn] at hd2 hr2
  rw [Rs.UZ hd1 zD]
  dsimp only;rw [Ak rfl, An zP, Ak zX]
  have hB := Rs.SX (m := 1048576) zD hd2 zD zD
  have hU : (⟨p + (AH D.length).length + 1, 0, 0⟩ : Rs).unp B D.length = (⟨p + (AH D.length).length + 1 + (Db (Fa D)).length, 0, 0⟩, D) := by
   unfold Rs.unp;rw [hB]
   dsimp only;rw [Wi hD (Int.le_refl _)]
   dsimp only;rw [Ak rfl, Ak rfl, An zD]
  rw [hU]
  dsimp only;rw [Ak rfl]
  have hl : (Cu D).length = (AH D.length).length + (1 + (Db (Fa D)).length) := by simp [Cu, hpk]; omega
  rw [show p + (AH D.length).length + 1 + (Db (Fa D)).length = p + (Cu D).length by omega, show p + (Cu D).length - p = (Cu D).length by omega, htk]
  simp
theorem Rs.Vo {B rest : List UInt8} : ∀ (l : List Int) (below : Int) (p : Nat) (out : List Int), Cb below l = true → (∀ x ∈ l, 0 ≤ x) → below ≤ 18446744073709551615 → B.drop p = CJ (Co below l) ++ rest → p ≤ B.length →
  Rs.Ex B l.length ⟨p, 0, 0⟩ below out = (⟨p + (CJ (Co below l)).length, 0, 0⟩, out ++ l)
 | [], below, p, out, _, _, _, _, _ => by simp [Rs.Ex, Co, CJ]
 | x :: l, below, p, out, hf, hx, hb, h, hp => by
  simp only [Cb, As, Aw] at hf
  have h0 := hx x zO
  simp only [Co] at h ⊢
  rw [Fg, Au] at h
  have hn : (below - x - 1).toNat < 18446744073709551616 := zD
  have hN := Rs.Sr hn h
  have hd := LP h
  have hr := I9 h hp
  simp only [A7, Rs.Ex]
  rw [hN]
  dsimp only;rw [Ak rfl, toNat_cast zD, An zD, show below - (below - x - 1) - 1 = x by omega, Rs.Vo l x _ _ hf.2 (fun y hy => hx y (by simp [hy])) zD hd zD, Fg, Am]
  simp [Uv]
theorem Rs.Q9 {B rest : List UInt8} {l : List Int} {pos : Int} {p : Nat} {most : Int} (hf : Cb pos l = true) (hx : ∀ x ∈ l, 0 ≤ x) (hb : pos ≤ 18446744073709551615) (h : B.drop p = D8 pos l ++ rest) (hp : p ≤ B.length) (hm : (l.length : Int) ≤ most) (hl : l.length < 18446744073709551616) :
  (⟨p, 0, 0⟩ : Rs).delta B pos most = (⟨p + (D8 pos l).length, 0, 0⟩, l) := by
 unfold D8 at h ⊢;rw [Au] at h
 have hd := LP h
 have hr := I9 h hp
 unfold Rs.delta;rw [Rs.Tp hl h hm]
 dsimp only;rw [Rs.Vo l pos _ _ hf hx hb hd zD]
 simp [Uv]
theorem Rs.Vi {B rest : List UInt8} {pos : Int} (hpos : pos ≤ 18446744073709551615) : ∀ (l : List BB) (prev : Option Int) (p : Nat) (out : List BB), (∀ x ∈ l, Cv pos x = true ∧ (0 ≤ x.stream ∧ x.stream ≤ 18446744073709551615) ∧ ∀ y ∈ x.backs, 0 ≤ y) → (∀ q, prev = some q → 0 ≤ q ∧ A1 (q :: l.map BB.stream) = true) → A1 (l.map BB.stream) = true → B.drop p = JK pos prev l ++ rest → p ≤ B.length →
  Rs.Dk B pos l.length ⟨p, 0, 0⟩ prev out = (⟨p + (JK pos prev l).length, 0, 0⟩, out ++ l)
 | [], prev, p, out, _, _, _, _, _ => by simp [Rs.Dk, JK]
 | x :: l, prev, p, out, hx, hq, hri, h, hp => by
  obtain ⟨hr1, hs, hbk⟩ := hx x zO
  simp only [Cv, As, Aw] at hr1
  have hnext : ∀ q, some x.stream = some q → 0 ≤ q ∧ A1 (q :: l.map BB.stream) = true := fun q e => by
   simp only [Bc] at e
   subst e;exact ⟨hs.1, hri⟩
  have hri2 : A1 (l.map BB.stream) = true := by
   simp only [List.map_cons] at hri
   cases hl : l.map BB.stream with
   | nil => rfl
   | cons y r => rw [hl] at hri; simp only [A1, As] at hri; exact hri.2
  have key : ∃ y : Int, 0 ≤ y ∧ y ≤ 18446744073709551615 ∧ JK pos prev (x :: l) = AH y.toNat ++ (D8 pos x.backs ++ JK pos (some x.stream) l) ∧ (B.drop p = AH y.toNat ++ ((D8 pos x.backs ++ JK pos (some x.stream) l) ++ rest) → (⟨p, 0, 0⟩ : Rs).stream B prev = (⟨p + (AH y.toNat).length, 0, 0⟩, x.stream)) := by
   cases prev with
   | none =>
    refine ⟨x.stream, hs.1, hs.2, by simp [JK], fun h => ?_⟩
    unfold Rs.stream;dsimp only;rw [Rs.Sr zD h]
    dsimp only;rw [toNat_cast hs.1]
   | some q =>
    obtain ⟨h0, hq1⟩ := hq q rfl
    simp only [List.map_cons, A1, As, Aw] at hq1
    refine ⟨x.stream - q - 1, zD, zD, by simp [JK], fun h => ?_⟩
    unfold Rs.stream;dsimp only;rw [Rs.Sr zD h]
    dsimp only;rw [toNat_cast zD, An zD]
    refine Prod.ext rfl ?_
    dsimp only;omega
  obtain ⟨y, hy0, hy1, he, hst⟩ := key
  rw [he] at h ⊢
  rw [Au] at h
  have hS := hst h
  have hd := LP h
  have hr := I9 h hp
  rw [Au] at hd
  have hD := Rs.Q9 (most := 4) hr1.2 hbk hpos hd zD zD zD
  have hd2 := LP hd
  have hr2 := I9 hd zD
  simp only [A7, Rs.Dk]
  rw [hS]
  dsimp only;rw [hD]
  dsimp only;rw [Ak rfl, Rs.Vi hpos l (some x.stream) _ _ (fun z hz => hx z (by simp [hz])) hnext hri2 hd2 zD]
  simp [Uv]
theorem Rs.Wd {B rest : List UInt8} {pos : Int} {l : List BB} {p : Nat} (hpos : pos ≤ 18446744073709551615) (hR : Bl pos l = true) (hx : ∀ x ∈ l, (0 ≤ x.stream ∧ x.stream ≤ 18446744073709551615) ∧ ∀ y ∈ x.backs, 0 ≤ y) (h : B.drop p = CR pos l ++ rest) (hp : p ≤ B.length) :
  (⟨p, 0, 0⟩ : Rs).links B pos = (⟨p + (CR pos l).length, 0, 0⟩, l) := by
 simp only [Bl, As, Aw, List.all_eq_true] at hR
 unfold CR at h ⊢;rw [Au] at h
 have hd := LP h
 have hr := I9 h hp
 unfold Rs.links;rw [Rs.Tp zD h zD]
 dsimp only;rw [Rs.Vi hpos l none _ _ (fun x h => ⟨hR.2.2 x h, hx x h⟩) (fun q e => by cases e) hR.2.1 hd zD]
 simp [Uv]
structure Rs.sh (L : Nat) (s : Rs) : Prop where
 code : s.k = 1
 pl : s.f = L
theorem Rs.sh.UU {L : Nat} {s : Rs} (h : s.sh L) : s.k ≠ 0 := by rw [h.code]; decide
def Part (D F : List UInt8) : Prop := ∃ E, E ≠ [] ∧ F = D ++ E
theorem Vx {D F G : List UInt8} (h : Part D (F ++ G)) : Part D F ∨ ∃ D2, D = F ++ D2 ∧ Part D2 G := by
 obtain ⟨E, hE, h⟩ := h
 rcases List.append_eq_append_iff.1 h with ⟨a, h1, h2⟩ | ⟨c, h1, h2⟩
 ·exact .inr ⟨a, h1, E, hE, h2⟩
 ·rcases c with _ | ⟨x, c⟩
  ·exact .inr ⟨[], by simpa using h1.symm, E, hE, by simpa using h2.symm⟩
  ·exact .inl ⟨x :: c, zO, h1⟩
theorem Vh {D F : List UInt8} (h : Part D F) : D.length < F.length := by
 obtain ⟨E, hE, rfl⟩ := h
 rcases E with _ | ⟨x, E⟩
 ·exact absurd rfl hE
 ·simp
theorem VY {F : List UInt8} {n : Nat} (h : n < F.length) : Part (F.take n) F :=
 ⟨F.drop n, fun e => by have := IF List.length e; simp at this; omega, (Fs n F).symm⟩
theorem Vk : ∀ (l : List UInt8) (i x : Nat), (∀ c ∈ l, 128 ≤ c.toNat) → i + l.length ≤ 9 → (De i x l).2.2 = 1
 | [], i, x, _, _ => rfl
 | c :: l, i, x, h, hl => by
  have h1 := h c zO
  simp at hl
  unfold De;rw [An zD, An zD, An zD]
  exact Vk l _ _ (fun d hd => h d (by simp [hd])) zD
theorem Vl : ∀ (f x : Nat) (D : List UInt8), Part D (Eh f x) → (∀ c ∈ D, 128 ≤ c.toNat) ∧ D.length ≤ f
 | 0, x, D, h => by
  have := Vh h
  simp [Eh] at this
  subst this;simp
 | f + 1, x, D, h => by
  unfold Eh at h;by_cases hx : x < 128
  ·rw [Ak hx] at h
   have := Vh h
   simp at this
   subst this;simp
  ·rw [An hx] at h
   rcases D with _ | ⟨c, D⟩
   ·simp
   ·obtain ⟨E, hE, h⟩ := h
    rw [Ez] at h
    injection h with h1 h
    have := Vl f (x / 128) D ⟨E, hE, h⟩
    refine ⟨fun d hd => ?_, by simp; exact this.2⟩
    rcases List.mem_cons.1 hd with rfl | hd
    ·rw [← h1, UInt8.toNat_ofNat']
     omega
    ·exact this.1 d hd
theorem Rs.W8 {B D : List UInt8} {p x : Nat} (h : B.drop p = D) (hd : Part D (AH x)) : ((⟨p, 0, 0⟩ : Rs).num B).1.sh B.length := by
 have hv := Vl 9 x D hd
 have := Vk D 0 0 hv.1 zD
 unfold Rs.num;rw [Ak rfl]
 dsimp only;rw [h]
 exact ⟨this, by rw [this]; rfl⟩
theorem Rs.Xa {B D : List UInt8} {p x : Nat} {m : Int} (h : B.drop p = D) (hd : Part D (AH x)) : ((⟨p, 0, 0⟩ : Rs).int B m).1.sh B.length := by
 have hs := Rs.W8 h hd
 have h0 := Rs.Iw hs.UU
 unfold Rs.int Rs.most;rw [h0]
 split
 ·rw [An zD]; exact hs
 ·rw [Rs.Bw hs.UU]; exact hs
theorem Rs.VQ {B D F : List UInt8} {p : Nat} (h : B.drop p = D) (hd : Part D F) (hp : p ≤ B.length) : ((⟨p, 0, 0⟩ : Rs).take B (F.length : Int)).1.sh B.length := by
 have hl := Vh hd
 have hr := IF List.length h
 simp at hr
 unfold Rs.take Rs.skip;rw [Ak rfl, An zD, Ak zM]
 exact ⟨rfl, rfl⟩
theorem Rs.WU {B D F : List UInt8} {p : Nat} {m : Int} (hx : F.length < 18446744073709551616) (h : B.drop p = D) (hd : Part D (Db F)) (hp : p ≤ B.length) (hm : (F.length : Int) ≤ m) : ((⟨p, 0, 0⟩ : Rs).DH B m).1.sh B.length := by
 unfold Db at hd;unfold Rs.DH;rcases Vx hd with hd | ⟨D2, rfl, hgD2⟩
 ·have hs := Rs.Xa (m := m) h hd
  rw [Rs.Vb hs.UU]
  exact hs
 ·have hd := hgD2
  have hd' := LP h
  have hr := I9 h hp
  rw [Rs.Tp hx h hm]
  exact Rs.VQ hd' hd zD
end Go.Proofs.YtlbffbkbkajciaaGreat
namespace Go.Bs
open Go.RowKit
def Wq : Rp Hd := rBy (fun s => (s.epoch, s.node, s.tail)) (Js (Nf .u64) (Js (Nf .u64) (Nf .u64)))
def VC : Rp Ea := rBy (fun p => (p.epoch, p.stripes)) (Js (Nf .u64) A9)
def Vt : Rp Msg := rBy (fun m => (m.kind, m.epoch, m.seq, m.pos, m.count, m.state, m.streams, m.links, m.data, m.sea, m.proj))
 (Js (Nf .i64) (Js (Nf .u64) (Js (Nf .u64) (Js (Nf .u64) (Js (Nf .i64) (Js (Nf .i64) (Js AQ (Js BK (Js Ag (Js Wq VC))))))))))
section
variable {S : Nat → Prop} {w : World} {cs : List Value}
theorem VA {x : Hd} (h : Wq.r S w cs x) : cs = [.int .u64 x.epoch, .int .u64 x.node, .int .u64 x.tail] ∧ inU x.epoch ∧ inU x.node ∧ inU x.tail := by
 obtain ⟨c1, c2, rfl, ⟨rfl, h1⟩, c3, c4, rfl, ⟨rfl, h2⟩, rfl, h3⟩ := h
 exact ⟨rfl, bounds_u64 h1, bounds_u64 h2, bounds_u64 h3⟩
theorem Vu {x : Ea} (h : VC.r S w cs x) : ∃ a c, cs = [.int .u64 x.epoch, .slice a x.stripes.length c] ∧ inU x.epoch ∧ A9.r S w [.slice a x.stripes.length c] x.stripes := by
 obtain ⟨c1, c2, rfl, ⟨rfl, h1⟩, h3⟩ := h
 obtain ⟨a, c, rfl, h4, _⟩ := AE h3
 exact ⟨a, c, rfl, bounds_u64 h1, h4⟩
def UM (m : Msg) (a1 : Option Addr) (c1 : Nat) (a2 : Option Addr) (c2 : Nat) (a3 : Option Addr) (c3 : Nat) (a4 : Option Addr) (c4 : Nat) : List Value :=
  [.int .i64 m.kind, .int .u64 m.epoch, .int .u64 m.seq, .int .u64 m.pos, .int .i64 m.count, .int .i64 m.state, .slice a1 m.streams.length c1, .slice a2 m.links.length c2, .slice a3 m.data.length c3,
   .int .u64 m.sea.epoch, .int .u64 m.sea.node, .int .u64 m.sea.tail, .int .u64 m.proj.epoch, .slice a4 m.proj.stripes.length c4]
theorem Wb {x : Msg} (h : Vt.r S w cs x) : ∃ a1 c1 a2 c2 a3 c3 a4 c4, cs = UM x a1 c1 a2 c2 a3 c3 a4 c4 ∧ AF S w x a1 c1 a2 c2 a3 c3 a4 c4 := by
 obtain ⟨_, _, rfl, ⟨rfl, h1⟩, _, _, rfl, ⟨rfl, h2⟩, _, _, rfl, ⟨rfl, h3⟩, _, _, rfl, ⟨rfl, h4⟩, _, _, rfl, ⟨rfl, h5⟩, _, _, rfl, ⟨rfl, h6⟩, _, _, rfl, h7, _, _, rfl, h8, _, _, rfl, h9, _, _, rfl, h10, h11⟩ := h
 obtain ⟨a1, c1, rfl, g1, _⟩ := AE h7
 obtain ⟨a2, c2, rfl, g2, _⟩ := AE h8
 obtain ⟨a3, c3, rfl, g3, _⟩ := AE h9
 obtain ⟨rfl, s1, s2, s3⟩ := VA h10
 obtain ⟨a4, c4, rfl, p1, g4⟩ := Vu h11
 exact ⟨a1, c1, a2, c2, a3, c3, a4, c4, rfl, bounds_i64 h1, bounds_u64 h2, bounds_u64 h3, bounds_u64 h4, bounds_i64 h5, bounds_i64 h6, s1, s2, s3, p1, g1, g2, g3, g4⟩
end
end Go.Bs
namespace Go.Proofs.YtlbffbkbkajciaaGreat
open Go.RowKit Go.Bs
def Vn {α : Type} (K : Nat) (p : α → Bool) (l : List α) : Bool := decide (K < l.length) || (l.take K).any p
def Uz {α : Type} (K : Nat) (p : α → Bool) (l : List α) (k : Nat) : Bool := decide (K < l.length) || ((l.take K).drop k).any p
theorem UY {α : Type} {K : Nat} {p : α → Bool} {l : List α} (h : Vn K p l = false) : l.length ≤ K ∧ ∀ x ∈ l, p x = false := by
 simp only [Vn, Bool.or_eq_false_iff, decide_eq_false_iff_not, List.any_eq_false] at h
 obtain ⟨h1, h2⟩ := h
 rw [EU zD] at h2
 exact ⟨zD, fun x hx => by simpa using h2 x hx⟩
theorem UH {α : Type} (K : Nat) (p : α → Bool) (l : List α) (k : Nat) (h : k < l.length) (h2 : k < K) : Uz K p l k = (p l[k] || Uz K p l (k + 1)) := by
 unfold Uz;have e : (l.take K)[k]'zL = l[k] := zO
 rw [AI (show k < (l.take K).length by simp; omega), List.any_cons, e]
 cases decide (K < l.length) <;> cases p l[k] <;> simp
theorem WW {α : Type} (K : Nat) (p : α → Bool) (l : List α) (k : Nat) (h : l.length ≤ k ∨ K ≤ k) : Uz K p l k = decide (K < l.length) := by
 unfold Uz;rw [List.drop_of_length_le zL]
 simp
def UP (l : List BB) : Bool := Vn 50 (fun x => decide (50 < x.backs.length)) l
theorem VH (l : List BB) (a : Option Addr) (n c : Nat) (w : World) (hl : BK.r (· < w.heap.size) w [.slice a n c] l) :
  Calls Tryz.prog 58 #[.slice a n c] w fun r w' => r = .returned (.bool (UP l)) ∧ Below w.heap.size w w' := by
 obtain ⟨rfl, hm, _, _⟩ := AP hl
 have HL := hid hl; clear hl
 go_enter Tryz.func58, Tryz.ntmps58
 go_wp2_with fail;go_loop [3] (fun i => ∃ k : Nat, k ≤ l.length ∧ k ≤ 50 ∧ i = .int .i64 k ∧ Hid (UP l = Uz 50 (fun x => decide (50 < x.backs.length)) l k)) (fun i => l.length - (intOf i).toNat)
 case atStart => exact ⟨0, Aj _, Aj _, rfl, hid rfl⟩
 case round =>
  obtain ⟨k, hk, hk2, rfl, hf⟩ := hrel
  by_cases hlt : k < l.length
  ·by_cases h450 : k < 50
   ·obtain ⟨b, o, hA, hbb, a1, c1, X0, X1, _, _⟩ := DR HL.out hlt
    subst hA;have hst := hid (UH 50 (fun x => decide (50 < x.backs.length)) l k hlt h450)
    generalize l[k] = x at *
    generalize x.stream = xs at *
    generalize x.backs.length = n1 at *
    by_cases h3 : 50 < n1
    ·have hff : Hid (UP l = true) := hid z9
     have d3 : decide ((50 : Int) < (n1 : Int)) = true := zL
     clear h3;go_wp2;go_ret;exact ⟨zI, zB⟩
    ·have hff : Hid (UP l = Uz 50 (fun x => decide (50 < x.backs.length)) l (k + 1)) := hid z9
     have d3 : decide ((50 : Int) < (n1 : Int)) = false := zL
     clear h3;go_wp2;go_round
     case rel => exact ⟨k + 1, zD, zD, zW, hff⟩
     case measure => simp [intOf]; omega
   ·have hff : Hid (UP l = decide ((50 : Int) < (l.length : Int))) := hid z5
    go_wp2;go_ret;exact ⟨zI, zB⟩
  ·have hff : Hid (UP l = decide ((50 : Int) < (l.length : Int))) := hid z6
   go_wp2;go_ret;exact ⟨zI, zB⟩
open Go.RowKit Go.Bs Go.Maps
def UI (l : List (List Int)) : Bool := Vn 20 (fun x => decide (20 < x.length)) l
def UQ (l : List Bk) : Bool := Vn 70 (fun x => UI x.sets) l
def UK (m : Msg) : Bool := decide (50 < m.streams.length) || (UP m.links || (decide (300 < m.data.length) || UQ m.proj.stripes))
structure WG (m : Msg) : Prop where
 streams : m.streams.length ≤ 50
 links : m.links.length ≤ 50
 backs : ∀ x ∈ m.links, x.backs.length ≤ 50
 data : m.data.length ≤ 300
 stripes : m.proj.stripes.length ≤ 70
 sets : ∀ s ∈ m.proj.stripes, s.sets.length ≤ 20 ∧ ∀ x ∈ s.sets, x.length ≤ 20
theorem Wc {m : Msg} (h : UK m = false) : WG m := by
 simp only [UK, Bool.or_eq_false_iff, decide_eq_false_iff_not] at h
 obtain ⟨h1, h2, h3, h4⟩ := h
 obtain ⟨l1, l2⟩ := UY h2
 obtain ⟨s1, s2⟩ := UY h4
 refine ⟨zD, l1, fun x hx => by have := l2 x hx; simp only [decide_eq_false_iff_not] at this; omega, zD, s1, fun s hs => ?_⟩
 obtain ⟨t1, t2⟩ := UY (s2 s hs)
 exact ⟨t1, fun x hx => by have := t2 x hx; simp only [decide_eq_false_iff_not] at this; omega⟩
theorem VJ (lo hp : Int) (l : List (List Int)) (a : Option Addr) (n c : Nat) (w : World) (hl : Dw.r (· < w.heap.size) w [.slice a n c] l) :
  Calls Tryz.prog 144 #[.agg #[.int .u64 lo, .int .u64 hp, .slice a n c]] w fun r w' => r = .returned (.bool (UI l)) ∧ Below w.heap.size w w' := by
 obtain ⟨rfl, hm, _, _⟩ := AP hl
 have hb0 : Below w.heap.size w (w.alloc (.cells #[.int .u64 lo, .int .u64 hp, .slice a l.length c] 155)) := zB
 have x2 : (w.alloc (.cells #[.int .u64 lo, .int .u64 hp, .slice a l.length c] 155)).cell? ⟨w.heap.size, 2, none⟩ = some (.slice a l.length c) := zO
 go_enter Tryz.func144, Tryz.ntmps144
 go_wp2_with fail;generalize w.alloc (.cells #[.int .u64 lo, .int .u64 hp, .slice a l.length c] 155) = w0 at *
 have HL := hid (lift hl hb0)
 clear hl;go_loop [3] (fun i => ∃ k : Nat, k ≤ l.length ∧ k ≤ 20 ∧ i = .int .i64 k ∧ Hid (UI l = Uz 20 (fun x => decide (20 < x.length)) l k)) (fun i => l.length - (intOf i).toNat)
 case atStart => exact ⟨0, Aj _, Aj _, rfl, hid rfl⟩
 case round =>
  obtain ⟨k, hk, hk2, rfl, hf⟩ := hrel
  by_cases hlt : k < l.length
  ·have i1 : (k : Int) < (l.length : Int) := by omega
   have e1 : decide ((k : Int) < (l.length : Int)) = true := Ac i1
   by_cases h20 : k < 20
   ·have e2 : decide ((k : Int) < 20) = true := Ac zD
    obtain ⟨b, o, hA, hbb, ak, ck, X0, _⟩ := EZ HL.out hlt
    subst hA;have hst := hid (UH 20 (fun x => decide (20 < x.length)) l k hlt h20)
    generalize l[k] = x at *
    generalize x.length = n1 at *
    by_cases h3 : 20 < n1
    ·have hff : Hid (UI l = true) := hid z9
     have d3 : decide ((20 : Int) < (n1 : Int)) = true := Ac zD
     clear h3;go_wp2_with fail;go_ret;exact ⟨zI, hb0⟩
    ·have hff : Hid (UI l = Uz 20 (fun x => decide (20 < x.length)) l (k + 1)) := hid z9
     have d3 : decide ((20 : Int) < (n1 : Int)) = false := Ab zD
     clear h3;go_wp2_with fail;go_round
     case rel => exact ⟨k + 1, zD, zD, zW, hff⟩
     case measure => (simp [intOf]; try omega)
   ·have e2 : decide ((k : Int) < 20) = false := Ab zD
    have hff : Hid (UI l = decide ((20 : Int) < (l.length : Int))) := hid z5
    go_wp2_with fail;go_ret;exact ⟨zI, hb0⟩
  ·have e1 : decide ((k : Int) < (l.length : Int)) = false := Ab zD
   have hff : Hid (UI l = decide ((20 : Int) < (l.length : Int))) := hid z6
   go_wp2_with fail;go_ret;exact ⟨zI, hb0⟩
theorem VI (ep : Int) (l : List Bk) (a : Option Addr) (n c : Nat) (w : World) (hl : A9.r (· < w.heap.size) w [.slice a n c] l) :
  Calls Tryz.prog 59 #[.agg #[.int .u64 ep, .slice a n c]] w fun r w' => r = .returned (.bool (UQ l)) ∧ Below w.heap.size w w' := by
 obtain ⟨rfl, hm, _, _⟩ := AP hl
 have hb0 : Below w.heap.size w (w.alloc (.cells #[.int .u64 ep, .slice a l.length c] 30)) := zB
 have x1 : (w.alloc (.cells #[.int .u64 ep, .slice a l.length c] 30)).cell? ⟨w.heap.size, 1, none⟩ = some (.slice a l.length c) := zO
 have hs0 : w.heap.size < (w.alloc (.cells #[.int .u64 ep, .slice a l.length c] 30)).heap.size := zO
 go_enter Tryz.func59, Tryz.ntmps59
 go_wp2_with fail;generalize w.alloc (.cells #[.int .u64 ep, .slice a l.length c] 30) = w0 at *
 have HL := hid (lift hl hb0)
 have HB0 := hid hb0
 clear hl hb0;go_loopw [3] (fun i wr => ∃ k : Nat, k ≤ l.length ∧ k ≤ 70 ∧ i = .int .i64 k ∧ Hid (UQ l = Uz 70 (fun x => UI x.sets) l k) ∧ Below w0.heap.size w0 wr) (fun i _ => l.length - (intOf i).toNat)
 case atStart => exact ⟨0, Aj _, Aj _, rfl, hid rfl, Below.refl _ _⟩
 case round =>
  obtain ⟨k, hk, hk2, rfl, hf, hb⟩ := hrel
  have X1 := (hb.cell (p := ⟨w.heap.size, 1, none⟩) hs0).trans x1
  have HBE := hid (HB0.out.trans (hb.mono HB0.out.size))
  by_cases hlt : k < l.length
  ·have i1 : (k : Int) < (l.length : Int) := by omega
   have e1 : decide ((k : Int) < (l.length : Int)) = true := Ac i1
   by_cases h20 : k < 70
   ·have e2 : decide ((k : Int) < 70) = true := Ac zD
    obtain ⟨b, o, hA, hbb, ak, ck, u0, u1, u2, _, _, xl⟩ := DV (lift HL.out hb) hlt
    subst hA;have hst := hid (UH 70 (fun x => UI x.sets) l k hlt h20)
    have HC := hid (VJ l[k].lo l[k].hi l[k].sets ak _ ck wr xl)
    have HB := hid hb
    clear xl hb;generalize l[k] = x at *
    (try dsimp only at hst)
    cases h3 : UI x.sets
    ·have hff : Hid (UQ l = Uz 70 (fun x => UI x.sets) l (k + 1)) := hid (by rw [hf.out, hst.out, h3]; simp)
     rw [h3] at HC
     clear h3;go_wp2_with fail;refine HC.out.mono ?_
     rintro r w3 ⟨rfl, hb3⟩;have hbe := Af hb3 HB.out
     go_wp2_with fail;go_roundw
     case rel => exact ⟨k + 1, zD, zD, zW, hff, hbe⟩
     case measure => (simp [intOf]; try omega)
    ·have hff : Hid (UQ l = true) := hid (by rw [hf.out, hst.out, h3]; rfl)
     rw [h3] at HC
     clear h3;go_wp2_with fail;refine HC.out.mono ?_
     rintro r w3 ⟨rfl, hb3⟩;have hbe := Af hb3 HBE.out
     go_wp2_with fail;go_ret;exact ⟨zI, hbe⟩
   ·have e2 : decide ((k : Int) < 70) = false := Ab zD
    have hff : Hid (UQ l = decide ((70 : Int) < (l.length : Int))) := hid z5
    clear hb;go_wp2_with fail;go_ret;exact ⟨zI, HBE.out⟩
  ·have e1 : decide ((k : Int) < (l.length : Int)) = false := Ab zD
   have hff : Hid (UQ l = decide ((70 : Int) < (l.length : Int))) := hid z6
   clear hb;go_wp2_with fail;go_ret;exact ⟨zI, HBE.out⟩
theorem VG (m : Msg) (a1 : Option Addr) (c1 : Nat) (a2 : Option Addr) (c2 : Nat) (a3 : Option Addr) (c3 : Nat) (a4 : Option Addr) (c4 : Nat) (w : World) (hm : AF (· < w.heap.size) w m a1 c1 a2 c2 a3 c3 a4 c4) :
  Calls Tryz.prog 12 #[.agg #[.int .i64 m.kind, .int .u64 m.epoch, .int .u64 m.seq, .int .u64 m.pos, .int .i64 m.count, .int .i64 m.state, .slice a1 m.streams.length c1, .slice a2 m.links.length c2, .slice a3 m.data.length c3, .int .u64 m.sea.epoch, .int .u64 m.sea.node, .int .u64 m.sea.tail, .int .u64 m.proj.epoch, .slice a4 m.proj.stripes.length c4]] w fun r w' => r = .returned (.bool (UK m)) ∧ Below w.heap.size w w' := by
 have H23 := hid (fun (W : World) (hW : Below w.heap.size w W) => VH m.links a2 _ c2 W (lift hm.links hW))
 have H20 := hid (fun (W : World) (hW : Below w.heap.size w W) => VI m.proj.epoch m.proj.stripes a4 _ c4 W (lift hm.stripes hW))
 have hl : UK m = (decide (50 < m.streams.length) || (UP m.links || (decide (300 < m.data.length) || UQ m.proj.stripes))) := rfl
 have HBX : Hid (Blk (w.alloc (.cells #[.int .i64 m.kind, .int .u64 m.epoch, .int .u64 m.seq, .int .u64 m.pos, .int .i64 m.count, .int .i64 m.state, .slice a1 m.streams.length c1, .slice a2 m.links.length c2, .slice a3 m.data.length c3, .int .u64 m.sea.epoch, .int .u64 m.sea.node, .int .u64 m.sea.tail, .int .u64 m.proj.epoch, .slice a4 m.proj.stripes.length c4] 32)) w.heap.size 32 #[.int .i64 m.kind, .int .u64 m.epoch, .int .u64 m.seq, .int .u64 m.pos, .int .i64 m.count, .int .i64 m.state, .slice a1 m.streams.length c1, .slice a2 m.links.length c2, .slice a3 m.data.length c3, .int .u64 m.sea.epoch, .int .u64 m.sea.node, .int .u64 m.sea.tail, .int .u64 m.proj.epoch, .slice a4 m.proj.stripes.length c4]) := hid (Blk.new w _ _)
 have hb0 : Below w.heap.size w (w.alloc (.cells #[.int .i64 m.kind, .int .u64 m.epoch, .int .u64 m.seq, .int .u64 m.pos, .int .i64 m.count, .int .i64 m.state, .slice a1 m.streams.length c1, .slice a2 m.links.length c2, .slice a3 m.data.length c3, .int .u64 m.sea.epoch, .int .u64 m.sea.node, .int .u64 m.sea.tail, .int .u64 m.proj.epoch, .slice a4 m.proj.stripes.length c4] 32)) := zB
 generalize UK m = L at *
 clear hm;by_cases h1 : 50 < m.streams.length
 ·have d1 : decide ((50 : Int) < (m.streams.length : Int)) = true := Ac zD
  have hff : Hid (L = true) := hid (by rw [hl, Ac h1]; rfl)
  clear hl h1;go_enter Tryz.func12, Tryz.ntmps12
  go_wp2_with fail;go_ret;exact ⟨zI, hb0⟩
 ·have d1 : decide ((50 : Int) < (m.streams.length : Int)) = false := Ab zD
  rw [Ab h1, Bool.false_or] at hl
  clear h1;go_enter Tryz.func12, Tryz.ntmps12
  go_wp2_with fail;generalize w.alloc (.cells #[.int .i64 m.kind, .int .u64 m.epoch, .int .u64 m.seq, .int .u64 m.pos, .int .i64 m.count, .int .i64 m.state, .slice a1 m.streams.length c1, .slice a2 m.links.length c2, .slice a3 m.data.length c3, .int .u64 m.sea.epoch, .int .u64 m.sea.node, .int .u64 m.sea.tail, .int .u64 m.proj.epoch, .slice a4 m.proj.stripes.length c4] 32) = w0 at *
  refine (H23.out _ hb0).mono ?_
  rintro r w1 ⟨rfl, hb1⟩;have hb01 := Af hb1 hb0
  cases h2 : UP m.links
  ·have X1 := hid (HBX.out.later hb1)
   have y8 : w1.cell? ⟨w.heap.size, 8, none⟩ = some (.slice a3 m.data.length c3) := X1.out.cell 8
   have y12 : w1.cell? ⟨w.heap.size, 12, none⟩ = some (.int .u64 m.proj.epoch) := X1.out.cell 12
   have y13 : w1.cell? ⟨w.heap.size, 13, none⟩ = some (.slice a4 m.proj.stripes.length c4) := X1.out.cell 13
   rw [h2, Bool.false_or] at hl
   clear h2;by_cases h3 : 300 < m.data.length
   ·have d3 : decide ((300 : Int) < (m.data.length : Int)) = true := Ac zD
    have hff : Hid (L = true) := hid (by rw [hl, Ac h3]; rfl)
    clear hl h3;go_wp2_with fail;go_ret;exact ⟨zI, hb01⟩
   ·have d3 : decide ((300 : Int) < (m.data.length : Int)) = false := Ab zD
    have hff : Hid (L = UQ m.proj.stripes) := hid (by rw [hl, Ab h3]; rfl)
    clear hl h3;go_wp2_with fail;refine (H20.out _ hb01).mono ?_
    rintro r w2 ⟨rfl, hb2⟩;have hbe := Af hb2 hb01
    go_wp2_with fail;go_ret;exact ⟨zI, hbe⟩
  ·have hff : Hid (L = true) := hid (by rw [hl, h2]; rfl)
   clear hl h2;go_wp2_with fail;go_ret;exact ⟨zI, hb01⟩
theorem Rs.Vg {B rest : List UInt8} : ∀ (l : List Int) (prev : Option Int) (p : Nat) (out : List Int), (prev = none ∧ out = [] ∨ ∃ q, prev = some q ∧ 0 ≤ q ∧ out ≠ [] ∧ out.getLastD 0 = q ∧ ∀ x ∈ l.head?, q < x) → A1 l = true → (∀ x ∈ l, 0 ≤ x ∧ x ≤ 18446744073709551615) → B.drop p = CJ (EB prev l) ++ rest → p ≤ B.length →
  Rs.DC B l.length ⟨p, 0, 0⟩ out = (⟨p + (CJ (EB prev l)).length, 0, 0⟩, out ++ l)
 | [], prev, p, out, _, _, _, _, _ => by simp [Rs.DC, EB, CJ]
 | x :: l, prev, p, out, hp, hr, hx, h, hl => by
  have h0 := hx x zO
  have hr2 : A1 l = true := by
   cases l with
   | nil => rfl
   | cons y l => simp only [A1, As] at hr; exact hr.2
  have hnx : ∀ y ∈ l.head?, x < y := by
   cases l with
   | nil => simp
   | cons y l => simp only [A1, As, Aw] at hr; intro z hz; simp at hz; subst hz; exact hr.1
  simp only [EB] at h ⊢
  rw [Fg, Au] at h
  have hd := LP h
  have hro := I9 h hl
  have hrec := Rs.Vg l (some x) _ (out ++ [x]) (.inr ⟨x, rfl, h0.1, zO, zO, hnx⟩) hr2 (fun y hy => hx y (by simp [hy])) hd zD
  simp only [A7, Rs.DC]
  rcases hp with ⟨rfl, rfl⟩ | ⟨q, rfl, hq0, hne, hq, hlt⟩
  ·dsimp only at h hrec ⊢
   have hN := Rs.Sr (x := x.toNat) zD h
   rw [hN]
   dsimp only;rw [Ak rfl, An (fun h => h.1 rfl), Ak rfl, toNat_cast h0.1, hrec, Fg, Am]
   simp [Uv]
  ·have hqx : q < x := hlt x zO
   dsimp only at h hrec ⊢;have hN := Rs.Sr (x := (x - q - 1).toNat) zD h
   rw [hN]
   dsimp only;rw [Ak rfl, hq, toNat_cast zD, An zD, An hne, show x - q - 1 + (q + 1) = x by omega, hrec, Fg, Am]
   simp [Uv]
theorem Rs.WI {B rest : List UInt8} {l : List Int} {O : List (List Int)} {p : Nat} (hn : CH l = true) (ha : BW l O = true) (hx : ∀ x ∈ l, 0 ≤ x ∧ x ≤ 18446744073709551615) (h : B.drop p = Ec l ++ rest) (hp : p ≤ B.length) :
  (⟨p, 0, 0⟩ : Rs).DX B O = (⟨p + (Ec l).length, 0, 0⟩, l) := by
 unfold CH at hn;simp only [As, Aw] at hn
 obtain ⟨⟨h1, h8⟩, hr, hla⟩ := hn
 unfold Ec JG at h ⊢;rw [Au] at h
 have hi := Rs.Tp (m := 8) zD h zD
 have hd := LP h
 have hro := I9 h hp
 have hR := Rs.Vg l none _ [] (.inl ⟨rfl, rfl⟩) hr hx hd zD
 unfold Rs.DX Rs.many;rw [hi]
 dsimp only;rw [An (show ¬ l.length = 0 by omega), hR]
 dsimp only;rw [A8, Ak rfl, An (show ¬ 4294967295 < l.getLastD 0 by omega), Ak ha, Am, Uv]
theorem Vf {L : List (List Int)} : ∀ n, Bd L n = true → ∀ i, i < n → E0 L i = true
 | 0, _, i, hi => absurd hi zD
 | n + 1, h, i, hi => by
  unfold Bd at h;rw [As] at h
  by_cases e : i = n
  ·subst e; exact h.2
  ·exact Vf n h.1 i zD
theorem Rs.Vr {B rest : List UInt8} : ∀ (l out : List (List Int)) (p : Nat), (∀ i, out.length ≤ i → i < (out ++ l).length → E0 (out ++ l) i = true) → (∀ x ∈ l, ∀ y ∈ x, 0 ≤ y ∧ y ≤ 18446744073709551615) → B.drop p = EY l ++ rest → p ≤ B.length →
  Rs.Du B l.length ⟨p, 0, 0⟩ out = (⟨p + (EY l).length, 0, 0⟩, out ++ l)
 | [], out, p, _, _, _, _ => by simp [Rs.Du, EY]
 | x :: l, out, p, hs, hx, h, hp => by
  have h1 := hs out.length (Al _) zO
  unfold E0 at h1;rw [show (out ++ x :: l).getD out.length [] = x by simp [List.getD_eq_getElem?_getD], List.take_left, As] at h1
  have e : EY (x :: l) = Ec x ++ EY l := by simp [EY]
  rw [e, Au] at h
  have hS := Rs.WI h1.1 h1.2 (hx x zO) h hp
  have hd := LP h
  have hro := I9 h hp
  have e2 : out ++ x :: l = (out ++ [x]) ++ l := zO
  have hrec := Rs.Vr l (out ++ [x]) _ (fun i h1 h2 => by rw [← e2]; rw [← e2] at h2; exact hs i (by rw [Am] at h1; omega) h2) (fun z hz => hx z (by simp [hz])) hd zD
  simp only [A7, Rs.Du]
  rw [hS]
  dsimp only;rw [Ak rfl, hrec, e, e2, Am, Uv]
theorem Rs.Oi {B rest : List UInt8} {s : Bk} {p : Nat} (hr : Bb s = true) (h0 : 0 ≤ s.lo) (hx : ∀ x ∈ s.sets, ∀ y ∈ x, 0 ≤ y ∧ y ≤ 18446744073709551615) (h : B.drop p = Dm s ++ rest) (hp : p ≤ B.length) :
  (⟨p, 0, 0⟩ : Rs).Bi B s.lo = (⟨p + (Dm s).length, 0, 0⟩, s) := by
 obtain ⟨lo, hi, sets⟩ := s
 unfold Bb at hr;simp only [As, Aw] at hr
 obtain ⟨⟨a1, a2, a3, a4⟩, a5⟩ := hr
 dsimp only at *;unfold Dm at h ⊢;dsimp only at h ⊢;rw [Au, Au] at h
 have hN := Rs.Sr (x := (hi - lo - 1).toNat) zD h
 have hd := LP h
 have hro := I9 h hp
 have hI := Rs.Tp (m := 8) (x := sets.length) zD hd zD
 have hd2 := LP hd
 have hro2 := I9 hd zD
 have hS := Rs.Vr sets [] _ (fun i _ hi => by rw [A8] at hi ⊢; exact Vf _ a5 i hi) hx hd2 zD
 unfold Rs.Bi Rs.span Rs.many;dsimp only;rw [An (show ¬ 4611686018427387904 < lo by omega), hN]
 dsimp only;rw [toNat_cast zD, An (show ¬ 4611686018427387904 - min lo 4611686018427387904 ≤ hi - lo - 1 by omega), hI]
 dsimp only;rw [An (show ¬ sets.length = 0 by omega), hS]
 dsimp only;rw [Ak rfl, show lo + (hi - lo - 1) + 1 = hi by omega, A8, Am, Am, Uv, Uv, Uv]
theorem Rs.Vq {B rest : List UInt8} {p : Nat} {e : Int} (h1 : epR e = true) (h : B.drop p = AH e.toNat ++ rest) : (⟨p, 0, 0⟩ : Rs).ep B = (⟨p + (AH e.toNat).length, 0, 0⟩, e.toNat) := by
 have h2 := h1
 simp only [epR, Aw] at h2
 unfold Rs.ep;rw [Rs.Sr zD h]
 dsimp only;rw [Ak rfl, toNat_cast zD, Ak h1]
theorem Rs.WX {B rest : List UInt8} {p : Nat} {e : Int} (h0 : 0 ≤ e) (h1 : e ≤ 4611686018427387904) (h : B.drop p = AH e.toNat ++ rest) : (⟨p, 0, 0⟩ : Rs).tl B = (⟨p + (AH e.toNat).length, 0, 0⟩, e.toNat) := by
 unfold Rs.tl;rw [Rs.Sr zD h]
 dsimp only;rw [Ak rfl, toNat_cast h0, Ak (show tlR e = true from Ac h1)]
theorem Rs.Ww {B rest : List UInt8} {p m : Nat} {e : Int} (h0 : 0 ≤ e) (h1 : e ≤ m) (hm : m < 18446744073709551616) (h : B.drop p = AH e.toNat ++ rest) : (⟨p, 0, 0⟩ : Rs).most B m = (⟨p + (AH e.toNat).length, 0, 0⟩, e.toNat) := by
 unfold Rs.most;rw [Rs.Sr zD h]
 dsimp only;rw [An (show ¬ m < e.toNat by omega)]
theorem Rs.RO {B rest : List UInt8} {s : Hd} {p : Nat} (hr : Dv s = true) (h0 : 0 ≤ s.node) (h1 : 0 ≤ s.tail) (h : B.drop p = Ef s ++ rest) (hp : p ≤ B.length) :
  (⟨p, 0, 0⟩ : Rs).seal_ B = (⟨p + (Ef s).length, 0, 0⟩, s) := by
 obtain ⟨e, n, t⟩ := s
 unfold Dv at hr;simp only [As, Aw] at hr
 obtain ⟨a1, a2, a3⟩ := hr
 dsimp only at *;have a4 := a1
 simp only [epR, Aw] at a4
 unfold Ef at h ⊢;dsimp only at h ⊢;rw [Au, Au] at h
 have hd := LP h
 have hd2 := LP hd
 unfold Rs.seal_;rw [Rs.Vq a1 h]
 dsimp only;rw [Rs.Ww (m := 4294967295) h0 zD zD hd]
 dsimp only;rw [Rs.WX h1 a3 hd2]
 dsimp only;rw [Ak rfl, toNat_cast zD, toNat_cast h0, toNat_cast h1, Am, Am, Uv, Uv, Uv]
theorem Rs.Vc {B rest : List UInt8} : ∀ (l : List Bk) (lo : Int) (out : List Bk) (p : Nat), 0 ≤ lo → CY lo l = true → (∀ s ∈ l, ∀ x ∈ s.sets, ∀ y ∈ x, 0 ≤ y ∧ y ≤ 18446744073709551615) → B.drop p = CO l ++ rest → p ≤ B.length →
  Rs.Bt B l.length ⟨p, 0, 0⟩ lo out = (⟨p + (CO l).length, 0, 0⟩, 4611686018427387904, out ++ l)
 | [], lo, out, p, _, hc, _, _, _ => by
  simp only [CY, Aw] at hc
  subst hc;simp [Rs.Bt, CO]
 | s :: l, lo, out, p, h0, hc, hx, h, hp => by
  simp only [CY, As, Aw] at hc
  obtain ⟨rfl, hr, hc⟩ := hc
  have e : CO (s :: l) = Dm s ++ CO l := by simp [CO]
  rw [e, Au] at h
  have hS := Rs.Oi hr h0 (hx s zO) h hp
  have hd := LP h
  have hro := I9 h hp
  have h3 : s.lo < s.hi := by
   unfold Bb at hr;simp only [As, Aw] at hr
   exact hr.1.1
  have hrec := Rs.Vc l s.hi (out ++ [s]) _ zD hc (fun z hz => hx z (by simp [hz])) hd zD
  simp only [A7, Rs.Bt]
  rw [hS]
  dsimp only;rw [Ak rfl, hrec, e, Am, Uv, Au]
  rfl
theorem Rs.Sb {B rest : List UInt8} {s : Ea} {p : Nat} (hr : Cc s = true) (hx : ∀ z ∈ s.stripes, ∀ x ∈ z.sets, ∀ y ∈ x, 0 ≤ y ∧ y ≤ 18446744073709551615) (h : B.drop p = D4 s ++ rest) (hp : p ≤ B.length) :
  (⟨p, 0, 0⟩ : Rs).C3 B = (⟨p + (D4 s).length, 0, 0⟩, s) := by
 obtain ⟨e, l⟩ := s
 unfold Cc at hr;simp only [As, Aw] at hr
 obtain ⟨a1, ⟨a2, a3⟩, a4⟩ := hr
 dsimp only at *;have a5 := a1
 simp only [epR, Aw] at a5
 unfold D4 at h ⊢;dsimp only at h ⊢;rw [Au, Au] at h
 have hd := LP h
 have hro := I9 h hp
 have hI := Rs.Tp (m := 64) (x := l.length) zD hd zD
 have hd2 := LP hd
 have hro2 := I9 hd zD
 have hS := Rs.Vc l 0 [] _ zD a4 hx hd2 zD
 unfold Rs.C3 Rs.many;rw [Rs.Vq a1 h]
 dsimp only;rw [hI]
 dsimp only;rw [An (show ¬ l.length = 0 by omega), hS]
 dsimp only;rw [Ak rfl, Ak rfl, A8, toNat_cast zD, Am, Am, Uv, Uv, Uv]
theorem Rs.UD {α : Type} {B rest b : List UInt8} {h : Bool} {f : Rs → Rs × α} {z x : α} {p : Nat} (hb : B.drop p = Bg h b ++ rest) (yes : h = true → B.drop p = b ++ rest → f ⟨p, 0, 0⟩ = (⟨p + b.length, 0, 0⟩, x)) (no : h = false → x = z) :
  Rs.part h ⟨p, 0, 0⟩ f z = (⟨p + (Bg h b).length, 0, 0⟩, x) := by
 cases h with
 | false => rw [no rfl]; rfl
 | true => exact yes rfl hb
theorem Rs.WK {B rest : List UInt8} {p : Nat} {x : Int} (h0 : 0 ≤ x) (h1 : poR x = true) (h : B.drop p = AH x.toNat ++ rest) : (⟨p, 0, 0⟩ : Rs).Ed B = (⟨p + (AH x.toNat).length, 0, 0⟩, x) := by
 have h2 := h1
 simp only [poR, Aw] at h2
 unfold Rs.Ed Rs.po;rw [Rs.Sr zD h]
 dsimp only;rw [Ak rfl, toNat_cast h0, Ak h1]
 dsimp only;rw [toNat_cast h0]
theorem Rs.WQ {B rest : List UInt8} {p : Nat} {x : Int} (h0 : 1 ≤ x) (h1 : x ≤ 65536) (h : B.drop p = AH x.toNat ++ rest) : (⟨p, 0, 0⟩ : Rs).cnt B = (⟨p + (AH x.toNat).length, 0, 0⟩, x) := by
 unfold Rs.cnt Rs.many;rw [Rs.Tp (x := x.toNat) (m := 65536) zD h zD]
 dsimp only;rw [An (show ¬ x.toNat = 0 by omega), toNat_cast zD]
theorem Rs.Wp {B rest : List UInt8} {p : Nat} {l : List Int} (hl : l.length ≤ 16) (hr : A1 l = true) (hx : ∀ x ∈ l, 0 ≤ x ∧ x ≤ 18446744073709551615) (h : B.drop p = Ec l ++ rest) (hp : p ≤ B.length) : (⟨p, 0, 0⟩ : Rs).FH B = (⟨p + (Ec l).length, 0, 0⟩, l) := by
 unfold Ec JG at h ⊢;rw [Au] at h
 have hd := LP h
 have hro := I9 h hp
 unfold Rs.FH;rw [Rs.Tp (x := l.length) (m := 16) zD h zD]
 dsimp only;rw [Rs.Vg l none _ [] (.inl ⟨rfl, rfl⟩) hr hx hd zD, A8, Am, Uv]
theorem Rs.WH {B rest : List UInt8} {p : Nat} {k x : Int} (h0 : 1 ≤ x ∧ x ≤ CK k) (h : B.drop p = [UInt8.ofNat x.toNat] ++ rest) (hp : p ≤ B.length) : (⟨p, 0, 0⟩ : Rs).stt B k = (⟨p + 1, 0, 0⟩, x) := by
 have hm : CK k ≤ 20 := by unfold CK; split <;> omega
 have e : (((UInt8.ofNat x.toNat).toNat : Nat) : Int) = x := by
  rw [UInt8.toNat_ofNat']
  omega
 unfold Rs.stt;rw [Rs.UZ (x := UInt8.ofNat x.toNat) h hp]
 dsimp only;rw [e, Ak h0]
def Vj (m : Msg) : List UInt8 :=
 Bg (Ay m.kind 1) (AH m.pos.toNat) ++ (Bg (Ay m.kind 2) (AH m.count.toNat) ++ (Bg (Ay m.kind 4) [UInt8.ofNat m.state.toNat] ++
 (Bg (Ay m.kind 8) (Ec m.streams) ++ Bg (Ay m.kind 16) (CR m.pos m.links))))
theorem Rs.Wo {B rest : List UInt8} {m : Msg} {p : Nat} (hN : Ut m)
  (r1 : AM (Ay m.kind 1) (poR m.pos) (decide (m.pos = 0)) = true) (r2 : AM (Ay m.kind 2) (decide (1 ≤ m.count ∧ m.count ≤ 65536)) (decide (m.count = 0)) = true)
  (r3 : AM (Ay m.kind 4) (decide (1 ≤ m.state ∧ m.state ≤ CK m.kind)) (decide (m.state = 0)) = true) (r4 : AM (Ay m.kind 8) (decide (m.streams.length ≤ 16) && A1 m.streams) (decide (m.streams.length = 0)) = true)
  (r5 : AM (Ay m.kind 16) (Bl m.pos m.links) (decide (m.links.length = 0)) = true) (h : B.drop p = Vj m ++ rest) (hp : p ≤ B.length) :
  (⟨p, 0, 0⟩ : Rs).ahead B m.kind = (⟨p + (Vj m).length, 0, 0⟩, ⟨m.pos, m.count, m.state, m.streams, m.links⟩) := by
 obtain ⟨n1, n2, n3, _, _, _⟩ := hN
 unfold Vj at h ⊢;simp only [Au] at h
 have hd1 := LP h
 have o1 := I9 h hp
 have hd2 := LP hd1
 have o2 := I9 hd1 zD
 have hd3 := LP hd2
 have o3 := I9 hd2 zD
 have hd4 := LP hd3
 have o4 := I9 hd3 zD
 have P1 := Rs.UD (h := Ay m.kind 1) (f := Rs.Ed B) (z := 0) (x := m.pos) h (fun e hb => Rs.WK n1.1 (by rw [e] at r1; exact r1) hb) (fun e => by rw [e] at r1; exact B6 r1)
 have P2 := Rs.UD (h := Ay m.kind 2) (f := Rs.cnt B) (z := 0) (x := m.count) hd1 (fun e hb => by rw [e] at r2; have := B6 r2; exact Rs.WQ this.1 this.2 hb) (fun e => by rw [e] at r2; exact B6 r2)
 have P3 := Rs.UD (h := Ay m.kind 4) (f := Rs.stt B m.kind) (z := 0) (x := m.state) hd2 (fun e hb => by rw [e] at r3; exact Rs.WH (B6 r3) hb (by omega)) (fun e => by rw [e] at r3; exact B6 r3)
 have P4 := Rs.UD (h := Ay m.kind 8) (f := Rs.FH B) (z := []) (x := m.streams) hd3 (fun e hb => by rw [e] at r4; have := (As _ _).mp r4; exact Rs.Wp (B6 this.1) this.2 n2 hb (by omega)) (fun e => by rw [e] at r4; exact List.length_eq_zero_iff.1 (B6 r4))
 have P5 := Rs.UD (h := Ay m.kind 16) (f := fun t => t.links B m.pos) (z := []) (x := m.links) hd4 (fun e hb => by rw [e] at r5; exact Rs.Wd n1.2 r5 n3 hb (by omega)) (fun e => by rw [e] at r5; exact List.length_eq_zero_iff.1 (B6 r5))
 unfold Rs.ahead;rw [P1]
 dsimp only;rw [P2]
 dsimp only;rw [P3]
 dsimp only;rw [P4]
 dsimp only;rw [P5]
 simp only [Am, Uv]
theorem Rs.SW {B rest : List UInt8} {m : Msg} {p : Nat} {blk : Rs → Rs × List UInt8 × Bool} (hN : Ut m) (hr : En m = true) (he : m.epoch = 0) (hs : m.seq = 0) (h : B.drop p = F0 m ++ rest) (hp : p ≤ B.length)
  (hblk : ∀ q rest', q ≤ B.length → B.drop q = Cu m.data ++ rest' → blk ⟨q, 0, 0⟩ = (⟨q + (Cu m.data).length, 0, 0⟩, m.data, true)) :
  Rs.body B blk m.kind ⟨p, 0, 0⟩ = (⟨p + (F0 m).length, 0, 0⟩, m, true) := by
 unfold En at hr;simp only [As] at hr
 obtain ⟨rk, r1, r2, r3, r4, r5, r6, r7, r8⟩ := hr
 have rk := B6 rk
 have e : F0 m = Vj m ++ (Bg (Bj m.kind m.state) (Cu m.data) ++ (Bg (Ay m.kind 64) (Ef m.sea) ++ Bg (Ay m.kind 128) (D4 m.proj))) := by simp [F0, Vj]
 rw [e] at h ⊢
 simp only [Au] at h
 have hd1 := LP h
 have o1 := I9 h hp
 have hd2 := LP hd1
 have o2 := I9 hd1 zD
 have hd3 := LP hd2
 have o3 := I9 hd2 zD
 have hA := Rs.Wo hN r1 r2 r3 (by simpa using r4) r5 h hp
 have P1 := Rs.UD (h := Bj m.kind m.state) (f := blk) (z := ([], true)) (x := (m.data, true)) hd1 (fun _ hb => hblk _ _ zD hb) (fun e => by
  rw [e] at r8
  have : m.data.length = 0 := by simpa using r8
  rw [List.length_eq_zero_iff.1 this])
 have P2 := Rs.UD (h := Ay m.kind 64) (f := Rs.seal_ B) (z := CI) (x := m.sea) hd2 (fun e hb => by rw [e] at r6; exact Rs.RO r6 hN.node hN.tail hb (by omega)) (fun e => by rw [e] at r6; exact B6 r6)
 have P3 := Rs.UD (h := Ay m.kind 128) (f := Rs.C3 B) (z := CX) (x := m.proj) hd3 (fun e hb => by rw [e] at r7; exact Rs.Sb r7 hN.proj hb (by omega)) (fun e => by
  rw [e] at r7
  have h7 := (As _ _).mp r7
  have h8 := B6 h7.1
  have h9 := List.length_eq_zero_iff.1 (B6 h7.2)
  cases hq : m.proj with
  | mk a b => rw [hq] at h8 h9; dsimp only at h8 h9; rw [h8, h9]; rfl)
 unfold Rs.body;rw [Ak rk, hA]
 dsimp only;rw [P1]
 dsimp only;rw [P2]
 dsimp only;rw [P3]
 dsimp only;rw [Ak rfl]
 simp only [Am, Uv]
 obtain ⟨a, b, c, d, e, f, g, h, i, j, k⟩ := m
 dsimp only at he hs;subst he hs;rfl
theorem VM {n : Int} (h : (Lit.int .i64 n).wf = true) : -9223372036854775808 ≤ n ∧ n ≤ 9223372036854775807 := by
 simp [Lit.wf, IntKind.min, IntKind.max, IntKind.signed, IntKind.bits] at h; omega
def UE (B : List UInt8) := I4 B (fun P => C4 P) flS
theorem Vs (w : World) (B : List UInt8) (a : Option Addr) (c0 c : Nat) (hl : Ag.r (· < w.heap.size) w [.slice a c0 c] B) (hB : B.length ≤ 1000000000) {m : Msg} {q : Bool} {n : Nat} {k f : Int} (hZ : UE B = (m, q, n, k, f)) :
  Calls Tryz.prog 52 #[.slice a c0 c] w fun r w' => ∃ a1 a1' a2 a2' a3 a3' a4 a4', r = .returned (.tuple #[.agg #[.int .i64 m.kind, .int .u64 m.epoch, .int .u64 m.seq, .int .u64 m.pos, .int .i64 m.count, .int .i64 m.state, .slice a1 m.streams.length a1', .slice a2 m.links.length a2', .slice a3 m.data.length a3', .int .u64 m.sea.epoch, .int .u64 m.sea.node, .int .u64 m.sea.tail, .int .u64 m.proj.epoch, .slice a4 m.proj.stripes.length a4'], .int .i64 (n : Int), .agg #[.int .i64 k, .int .i64 f]]) ∧ AF (fun q => w.heap.size ≤ q ∧ q < w'.heap.size) w' m a1 a1' a2 a2' a3 a3' a4 a4' ∧ Below w.heap.size w w' := by
 obtain ⟨rfl, hmx, hcc, hcm⟩ := AP hl
 have HGT := hid (Tb ((w.alloc (.cells #[.int .i64 0, .int .u64 0, .int .u64 0, .int .u64 0, .int .i64 0, .int .i64 0, .slice none 0 0, .slice none 0 0, .slice none 0 0, .int .u64 0, .int .u64 0, .int .u64 0, .int .u64 0, .slice none 0 0] 32)).alloc (.cells #[.int .i64 0, .int .i64 0] 58)) B a _ c (lift hl zA) hB _ _ _ (fun P h => OG h) hZ)
 have hz00 : w.heap.size + 1 < (((w.alloc (.cells #[.int .i64 0, .int .u64 0, .int .u64 0, .int .u64 0, .int .i64 0, .int .i64 0, .slice none 0 0, .slice none 0 0, .slice none 0 0, .int .u64 0, .int .u64 0, .int .u64 0, .int .u64 0, .slice none 0 0] 32)).alloc (.cells #[.int .i64 0, .int .i64 0] 58))).heap.size := zO
 clear hl hZ;go_enter Tryz.func52, Tryz.ntmps52
 go_wp2_with fail;refine HGT.out.mono ?_
 rintro r w1 ⟨a1, a1', a2, a2', a3, a3', a4, a4', rfl, hm1, hb1⟩;have I1 : Ld w w1 := ⟨Blk.later zC hb1, Blk.later zC hb1, zA⟩
 have hlow1 : w.heap.size + 1 < w1.heap.size := I1.fb.lt
 have E2 : Blk ((w1.alloc (.cells #[.int .i64 m.kind, .int .u64 m.epoch, .int .u64 m.seq, .int .u64 m.pos, .int .i64 m.count, .int .i64 m.state, .slice a1 m.streams.length a1', .slice a2 m.links.length a2', .slice a3 m.data.length a3', .int .u64 m.sea.epoch, .int .u64 m.sea.node, .int .u64 m.sea.tail, .int .u64 m.proj.epoch, .slice a4 m.proj.stripes.length a4'] 32)).alloc (.cells #[.int .i64 k, .int .i64 f] 58)) w1.heap.size 32 #[.int .i64 m.kind, .int .u64 m.epoch, .int .u64 m.seq, .int .u64 m.pos, .int .i64 m.count, .int .i64 m.state, .slice a1 m.streams.length a1', .slice a2 m.links.length a2', .slice a3 m.data.length a3', .int .u64 m.sea.epoch, .int .u64 m.sea.node, .int .u64 m.sea.tail, .int .u64 m.proj.epoch, .slice a4 m.proj.stripes.length a4'] := zC
 have F2 : Blk ((w1.alloc (.cells #[.int .i64 m.kind, .int .u64 m.epoch, .int .u64 m.seq, .int .u64 m.pos, .int .i64 m.count, .int .i64 m.state, .slice a1 m.streams.length a1', .slice a2 m.links.length a2', .slice a3 m.data.length a3', .int .u64 m.sea.epoch, .int .u64 m.sea.node, .int .u64 m.sea.tail, .int .u64 m.proj.epoch, .slice a4 m.proj.stripes.length a4'] 32)).alloc (.cells #[.int .i64 k, .int .i64 f] 58)) (w1.heap.size + 1) 58 #[.int .i64 k, .int .i64 f] := zC
 have hb2 : Below w1.heap.size w1 ((w1.alloc (.cells #[.int .i64 m.kind, .int .u64 m.epoch, .int .u64 m.seq, .int .u64 m.pos, .int .i64 m.count, .int .i64 m.state, .slice a1 m.streams.length a1', .slice a2 m.links.length a2', .slice a3 m.data.length a3', .int .u64 m.sea.epoch, .int .u64 m.sea.node, .int .u64 m.sea.tail, .int .u64 m.proj.epoch, .slice a4 m.proj.stripes.length a4'] 32)).alloc (.cells #[.int .i64 k, .int .i64 f] 58)) := zA
 have HI2 := hid (I1.row hb2)
 have X2 := hid (AF.C6 (S' := fun q => w.heap.size + 1 < q ∧ q < w1.heap.size) hm1 (fun q hq => hb2.block q hq.2) (fun q hq => ⟨zD, hq.2⟩))
 have l2 : w1.heap.size + 1 < (((w1.alloc (.cells #[.int .i64 m.kind, .int .u64 m.epoch, .int .u64 m.seq, .int .u64 m.pos, .int .i64 m.count, .int .i64 m.state, .slice a1 m.streams.length a1', .slice a2 m.links.length a2', .slice a3 m.data.length a3', .int .u64 m.sea.epoch, .int .u64 m.sea.node, .int .u64 m.sea.tail, .int .u64 m.proj.epoch, .slice a4 m.proj.stripes.length a4'] 32)).alloc (.cells #[.int .i64 k, .int .i64 f] 58))).heap.size := zO
 obtain ⟨y0, y1, y2, y3, y4, y5, y6, y7, y8, y9, y10, y11, y12, y13, ly⟩ := AZ E2
 obtain ⟨f0, f1, f2, f3, f4⟩ := Bu F2
 clear hm1 hb1 hb2 I1;go_wp2_with fail;generalize ((w1.alloc (.cells #[.int .i64 m.kind, .int .u64 m.epoch, .int .u64 m.seq, .int .u64 m.pos, .int .i64 m.count, .int .i64 m.state, .slice a1 m.streams.length a1', .slice a2 m.links.length a2', .slice a3 m.data.length a3', .int .u64 m.sea.epoch, .int .u64 m.sea.node, .int .u64 m.sea.tail, .int .u64 m.proj.epoch, .slice a4 m.proj.stripes.length a4'] 32)).alloc (.cells #[.int .i64 k, .int .i64 f] 58)) = w2 at *
 have hM := HI2.out.mb.drew
 have hF := HI2.out.fb.drew
 have hbl := HI2.out.bl.drew
 have hEd := (E2).drew
 have hFd := (F2).drew
 have XD := hid (AF.C6 (w' := w2.drew) X2.out (fun q hq => rfl) (fun q hq => hq))
 have ld : w1.heap.size + 1 < w2.drew.heap.size := l2
 have SK := hid (fun (w' : World) (h1 : Blk w' w1.heap.size 32 #[.int .i64 m.kind, .int .u64 m.epoch, .int .u64 m.seq, .int .u64 m.pos, .int .i64 m.count, .int .i64 m.state, .slice a1 m.streams.length a1', .slice a2 m.links.length a2', .slice a3 m.data.length a3', .int .u64 m.sea.epoch, .int .u64 m.sea.node, .int .u64 m.sea.tail, .int .u64 m.proj.epoch, .slice a4 m.proj.stripes.length a4']) (h2 : Blk w' (w1.heap.size + 1) 58 #[.int .i64 k, .int .i64 f]) => (⟨h1.cell 0, h1.cell 1, h1.cell 2, h1.cell 3, h1.cell 4, h1.cell 5, h1.cell 6, h1.cell 7, h1.cell 8, h1.cell 9, h1.cell 10, h1.cell 11, h1.cell 12, h1.cell 13, h2.cell 0, h2.cell 1⟩ : w'.cell? ⟨w1.heap.size, 0, none⟩ = some (.int .i64 m.kind) ∧ w'.cell? ⟨w1.heap.size, 1, none⟩ = some (.int .u64 m.epoch) ∧ w'.cell? ⟨w1.heap.size, 2, none⟩ = some (.int .u64 m.seq) ∧ w'.cell? ⟨w1.heap.size, 3, none⟩ = some (.int .u64 m.pos) ∧ w'.cell? ⟨w1.heap.size, 4, none⟩ = some (.int .i64 m.count) ∧ w'.cell? ⟨w1.heap.size, 5, none⟩ = some (.int .i64 m.state) ∧ w'.cell? ⟨w1.heap.size, 6, none⟩ = some (.slice a1 m.streams.length a1') ∧ w'.cell? ⟨w1.heap.size, 7, none⟩ = some (.slice a2 m.links.length a2') ∧ w'.cell? ⟨w1.heap.size, 8, none⟩ = some (.slice a3 m.data.length a3') ∧ w'.cell? ⟨w1.heap.size, 9, none⟩ = some (.int .u64 m.sea.epoch) ∧ w'.cell? ⟨w1.heap.size, 10, none⟩ = some (.int .u64 m.sea.node) ∧ w'.cell? ⟨w1.heap.size, 11, none⟩ = some (.int .u64 m.sea.tail) ∧ w'.cell? ⟨w1.heap.size, 12, none⟩ = some (.int .u64 m.proj.epoch) ∧ w'.cell? ⟨w1.heap.size, 13, none⟩ = some (.slice a4 m.proj.stripes.length a4') ∧ w'.cell? ⟨(w1.heap.size + 1), 0, none⟩ = some (.int .i64 k) ∧ w'.cell? ⟨(w1.heap.size + 1), 1, none⟩ = some (.int .i64 f)))
 have HS := hid (SK.out w2 E2 F2)
 obtain ⟨r0, r1, r2, r3, r4, r5, r6, r7, r8, r9, r10, r11, r12, r13, lr⟩ := AZ hM
 obtain ⟨g0, g1, g2, g3, g4, g5, g6, g7, g8, g9, g10, g11, g12, g13⟩ := Dh hM
 obtain ⟨z0, z1, z2, z3, z4⟩ := Bu hF
 (try clear y0 y1 y2 y3 y4 y5 y6 y7 y8 y9 y10 y11 y12 y13 ly)
 (try clear f0 f1 f2 f3 f4)
 go_wp2_with fail;refine Cg (S := fun w' => w'.cell? ⟨w1.heap.size, 0, none⟩ = some (.int .i64 m.kind) ∧ w'.cell? ⟨w1.heap.size, 1, none⟩ = some (.int .u64 m.epoch) ∧ w'.cell? ⟨w1.heap.size, 2, none⟩ = some (.int .u64 m.seq) ∧ w'.cell? ⟨w1.heap.size, 3, none⟩ = some (.int .u64 m.pos) ∧ w'.cell? ⟨w1.heap.size, 4, none⟩ = some (.int .i64 m.count) ∧ w'.cell? ⟨w1.heap.size, 5, none⟩ = some (.int .i64 m.state) ∧ w'.cell? ⟨w1.heap.size, 6, none⟩ = some (.slice a1 m.streams.length a1') ∧ w'.cell? ⟨w1.heap.size, 7, none⟩ = some (.slice a2 m.links.length a2') ∧ w'.cell? ⟨w1.heap.size, 8, none⟩ = some (.slice a3 m.data.length a3') ∧ w'.cell? ⟨w1.heap.size, 9, none⟩ = some (.int .u64 m.sea.epoch) ∧ w'.cell? ⟨w1.heap.size, 10, none⟩ = some (.int .u64 m.sea.node) ∧ w'.cell? ⟨w1.heap.size, 11, none⟩ = some (.int .u64 m.sea.tail) ∧ w'.cell? ⟨w1.heap.size, 12, none⟩ = some (.int .u64 m.proj.epoch) ∧ w'.cell? ⟨w1.heap.size, 13, none⟩ = some (.slice a4 m.proj.stripes.length a4') ∧ w'.cell? ⟨(w1.heap.size + 1), 0, none⟩ = some (.int .i64 k) ∧ w'.cell? ⟨(w1.heap.size + 1), 1, none⟩ = some (.int .i64 f)) zH HS.out (fun hHeld => ?_)
 refine At (i := 0) (oi := _) (v := ?_) rfl zF zF zF (fun _ _ _ h => h) (Or.inl ⟨zX, ?_⟩) zN ?_
 rotate_left
 ·(intro w hSw; (try dsimp only at hSw); go_simp <;> with_reducible rfl)
 (try simp only [Act.put, Aa, Ad, Ae])
 refine At (i := 1) (oi := _) (v := ?_) rfl zF zF zF (fun _ _ _ h => h) (Or.inl ⟨zX, ?_⟩) zN ?_
 rotate_left
 ·(intro w hSw; (try dsimp only at hSw); go_simp <;> with_reducible rfl)
 (try simp only [Act.put, Aa, Ad, Ae])
 refine At (i := 2) (oi := _) (v := ?_) rfl zF zF zF (fun _ _ _ h => h) (Or.inl ⟨zX, ?_⟩) zN ?_
 rotate_left
 ·(intro w hSw; (try dsimp only at hSw); go_simp <;> with_reducible rfl)
 (try simp only [Act.put, Aa, Ad, Ae])
 generalize w2.drew = wd at *
 refine A4 (rs := [3]) zF zO ?_
 refine AR (o := _) rfl (fun K hK => ?_) AllReadyH.nil
 go_simp
 refine hK.out _ _ ?_ (fun hHeld => ?_)
 ·exact SK.out _ zG zG
 clear hK K
 (try simp only [Act.put, Aa, Ad, Ae])
 refine At (i := 4) (oi := _) (v := ?_) rfl zF zF zF (fun _ _ _ h => h) (Or.inl ⟨zX, ?_⟩) zN ?_
 rotate_left
 ·(intro w hSw; (try dsimp only at hSw); go_simp <;> with_reducible rfl)
 (try simp only [Act.put, Aa, Ad, Ae])
 refine A4 (rs := [5]) zF zO ?_
 refine AR (o := _) rfl (fun K hK => ?_) AllReadyH.nil
 go_simp
 refine hK.out _ _ ?_ (fun hHeld => ?_)
 ·exact SK.out _ zG zG
 clear hK K
 (try simp only [Act.put, Aa, Ad, Ae])
 (try simp only [AX, AT, AL, Act.put, Aa, Ad, Ae])
 refine Dj zH ?_ _
 go_wp2_with fail;have hput := D5 (k := .int .i64 k) (f := .int .i64 f) (v0 := .int .i64 m.kind) (v1 := .int .u64 m.epoch) (v2 := .int .u64 m.seq) (v3 := .int .u64 m.pos) (v4 := .int .i64 m.count) (v5 := .int .i64 m.state) (v6 := .slice a1 m.streams.length a1') (v7 := .slice a2 m.links.length a2') (v8 := .slice a3 m.data.length a3') (v9 := .int .u64 m.sea.epoch) (v10 := .int .u64 m.sea.node) (v11 := .int .u64 m.sea.tail) (v12 := .int .u64 m.proj.epoch) (v13 := .slice a4 m.proj.stripes.length a4') hM hF zD
 refine BP (fun W => Blk W w.heap.size 32 #[.int .i64 m.kind, .int .u64 m.epoch, .int .u64 m.seq, .int .u64 m.pos, .int .i64 m.count, .int .i64 m.state, .slice a1 m.streams.length a1', .slice a2 m.links.length a2', .slice a3 m.data.length a3', .int .u64 m.sea.epoch, .int .u64 m.sea.node, .int .u64 m.sea.tail, .int .u64 m.proj.epoch, .slice a4 m.proj.stripes.length a4'] ∧ Blk W (w.heap.size + 1) 58 #[.int .i64 k, .int .i64 f] ∧ Tch (fun b => b = w.heap.size ∨ b = w.heap.size + 1) wd W) hput ?_
 intro W5 ⟨q5, p5, ht5⟩;obtain ⟨n0, n1, n2, n3, n4, n5, n6, n7, n8, n9, n10, n11, n12, n13, ln⟩ := AZ q5
 obtain ⟨p0, p1, p2, p3, p4⟩ := Bu p5
 have hz5 := ht5.size
 refine Ai (v := .tuple #[.agg #[.int .i64 m.kind, .int .u64 m.epoch, .int .u64 m.seq, .int .u64 m.pos, .int .i64 m.count, .int .i64 m.state, .slice a1 m.streams.length a1', .slice a2 m.links.length a2', .slice a3 m.data.length a3', .int .u64 m.sea.epoch, .int .u64 m.sea.node, .int .u64 m.sea.tail, .int .u64 m.proj.epoch, .slice a4 m.proj.stripes.length a4'], .int .i64 (n : Int), .agg #[.int .i64 k, .int .i64 f]]) (by simp [results, Tryz.results52, go_sem, n0, n1, n2, n3, n4, n5, n6, n7, n8, n9, n10, n11, n12, n13, p0, p1]) rfl ⟨a1, a1', a2, a2', a3, a3', a4, a4', rfl, AF.C6 XD.out (fun q hq => ht5.block q zD zD) (fun q hq => ⟨zD, zD⟩), hbl.trans (ht5.BE hbl.size fun b hb e => zD)⟩
theorem WL {W : World} {lo : Nat} {e : TypeId} {sz n : Nat} {v : Value} {xs : List Value} (h : W.ownsRow lo e sz v n xs) : ∀ b, v.ownBlock = some b → lo ≤ b ∧ b < W.heap.size := fun b hv => h.lt b hv
theorem WD : Tryz.prog.cellsOf 3 = 1 := zH
theorem Xe : Tryz.prog.cellsOf 27 = 3 := zH
theorem Xd : Tryz.prog.cellsOf 153 = 1 := zH
theorem Wj : Tryz.prog.cellsOf 28 = 1 := zH
theorem WR : Tryz.prog.cellsOf 30 = 2 := zH
theorem VT : Qh Tryz.prog 3 (Nf .i64) := Vm Tryz.underlying3
theorem WY : Qh Tryz.prog 153 Dw := Nk (sz := 1) Tryz.underlying153 zH zP VD
theorem Ux {H : Type} {enc : TypeId × Value → H} {P : Program} {w : World} {cs : List Value} {n : Nat} {fs : Array Field} (h : ∀ (i : Nat) (f : Field), fs[i]? = some f → ∃ y, DataW.trod enc P w 0 (fun _ => true) true n f.type ((cs.drop f.offset).take (P.cellsOf f.type)) = some y)
  {α : Type} {A : Rp α} {t : TypeId} (hA : Qh P t A) (i : Nat) (f : Field) (o s : Nat) (hf : fs[i]? = some f) (ht : f.type = t) (ho : f.offset = o) (hs : P.cellsOf t = s) : ∃ x, A.r (· < w.heap.size) w ((cs.drop o).take s) x := by
 obtain ⟨y, hy⟩ := h i f hf
 rw [ht, ho, hs] at hy
 exact hA enc w n _ _ hy
theorem WZ : Qh Tryz.prog 27 Wq := fun enc w fuel cs x h => by
 obtain ⟨hl, n, hf⟩ := UC Tryz.underlying27 h
 have hl2 : cs.length = 3 := hl.trans zH
 obtain ⟨x0, r0⟩ := UA hf UR 0 _ 0 rfl rfl rfl UT
 obtain ⟨x1, r1⟩ := UA hf UR 1 _ 1 rfl rfl rfl UT
 obtain ⟨x2, r2⟩ := UA hf UR 2 _ 2 rfl rfl rfl UT
 exact ⟨⟨x0, x1, x2⟩, z7⟩
theorem Ws : Qh Tryz.prog 155 G2 := fun enc w fuel cs x h => by
 obtain ⟨hl, n, hf⟩ := UC Tryz.underlying155 h
 have hl2 : cs.length = 3 := hl.trans zH
 obtain ⟨x0, r0⟩ := UA hf UR 0 _ 0 rfl rfl rfl UT
 obtain ⟨x1, r1⟩ := UA hf UR 1 _ 1 rfl rfl rfl UT
 obtain ⟨x2, r2⟩ := UA hf WY 2 _ 2 rfl rfl rfl Xd
 exact ⟨⟨x0, x1, x2⟩, z7⟩
theorem VZ : Qh Tryz.prog 28 A9 := Nk (sz := 3) Tryz.underlying28 zH zP Ws
theorem WM : Qh Tryz.prog 30 VC := fun enc w fuel cs x h => by
 obtain ⟨hl, n, hf⟩ := UC Tryz.underlying30 h
 have hl2 : cs.length = 2 := hl.trans zH
 obtain ⟨x0, r0⟩ := UA hf UR 0 _ 0 rfl rfl rfl UT
 obtain ⟨x1, r1⟩ := UA hf VZ 1 _ 1 rfl rfl rfl Wj
 exact ⟨⟨x0, x1⟩, z8⟩
theorem Xf : Qh Tryz.prog 32 Vt := fun enc w fuel cs x h => by
 obtain ⟨hl, n, hf⟩ := UC Tryz.underlying32 h
 have hl2 : cs.length = 14 := hl.trans zH
 obtain ⟨x0, r0⟩ := Ux hf VT 0 _ 0 1 rfl rfl rfl WD
 obtain ⟨x1, r1⟩ := Ux hf UR 1 _ 1 1 rfl rfl rfl UT
 obtain ⟨x2, r2⟩ := Ux hf UR 2 _ 2 1 rfl rfl rfl UT
 obtain ⟨x3, r3⟩ := Ux hf UR 3 _ 3 1 rfl rfl rfl UT
 obtain ⟨x4, r4⟩ := Ux hf VT 4 _ 4 1 rfl rfl rfl WD
 obtain ⟨x5, r5⟩ := Ux hf VT 5 _ 5 1 rfl rfl rfl WD
 obtain ⟨x6, r6⟩ := Ux hf VD 6 _ 6 1 rfl rfl rfl WC
 obtain ⟨x7, r7⟩ := Ux hf WN 7 _ 7 1 rfl rfl rfl WS
 obtain ⟨x8, r8⟩ := Ux hf Th 8 _ 8 1 rfl rfl rfl WT
 obtain ⟨x9, r9⟩ := Ux hf WZ 9 _ 9 3 rfl rfl rfl Xe
 obtain ⟨x10, r10⟩ := Ux hf WM 10 _ 12 2 rfl rfl rfl WR
 exact ⟨⟨x0, x1, x2, x3, x4, x5, x6, x7, x8, x9, x10⟩, by have h := (Uy (o := 0) (s := 1) (o' := 1) rfl r0 (Uy (o := 1) (s := 1) (o' := 2) rfl r1 (Uy (o := 2) (s := 1) (o' := 3) rfl r2 (Uy (o := 3) (s := 1) (o' := 4) rfl r3 (Uy (o := 4) (s := 1) (o' := 5) rfl r4 (Uy (o := 5) (s := 1) (o' := 6) rfl r5 (Uy (o := 6) (s := 1) (o' := 7) rfl r6 (Uy (o := 7) (s := 1) (o' := 8) rfl r7 (Uy (o := 8) (s := 1) (o' := 9) rfl r8 (Uy (o := 9) (s := 3) (o' := 12) rfl r9 (We (o := 12) (s := 2) hl2 r10))))))))))); rw [List.drop_zero] at h; exact h⟩
theorem WB {S : Nat → Prop} {w : World} {a : Option Addr} {B : List UInt8} {c : Nat} (h : Ag.r S w [.slice a B.length c] B) {n : Nat} (h1 : n ≤ B.length) :
  (∀ w' : World, (Instr.slice 25 (.slice a B.length c) none (some (.int .i64 (n : Int))) none).run Tryz.prog w' = .ok (.slice a n c) w') ∧ Ag.r S w [.slice a n c] (B.take n) := by
 obtain ⟨_, hm, hc, hcm⟩ := AP h
 have g1 : (0 : Int) ≤ (n : Int) := zD
 have g3 : (n : Int) ≤ (c : Int) := zD
 refine ⟨fun w' => ?_, ?_⟩
 ·clear h
  cases a with
  | none => go_simp
  | some p => go_simp
 ·obtain ⟨a', c', e, h2, h3, h4⟩ := Ga h h1
  have hl : (B.take n).length = n := zL
  simp at e
  obtain ⟨rfl, _, rfl⟩ := e
  exact A3 (a := a) (c := c) (by rw [hl]) zD zD h4
theorem Wv {S : Nat → Prop} {w : World} {m : Msg} {a1 : Option Addr} {c1 : Nat} {a2 : Option Addr} {c2 : Nat} {a3 : Option Addr} {c3 : Nat} {a4 : Option Addr} {c4 : Nat} (h : AF S w m a1 c1 a2 c2 a3 c3 a4 c4) : Ut m := by
 refine ⟨h.pos, GI h.streams, fun x hx => ?_, h.sealN.1, h.sealT.1, fun z hz x hx => ?_⟩
 ·obtain ⟨i, hi, rfl⟩ := List.getElem_of_mem hx
  obtain ⟨b, o, hA, hbb, p1, q1, hc0, hc1, hst, hd⟩ := DR h.links hi
  exact ⟨hst, fun y hy => (GI hd y hy).1⟩
 ·obtain ⟨i, hi, rfl⟩ := List.getElem_of_mem hz
  obtain ⟨b, o, hA, hbb, p1, q1, hc0, hc1, hc2, ub0, ub1, hd1⟩ := DV h.stripes hi
  obtain ⟨j, hj, rfl⟩ := List.getElem_of_mem hx
  obtain ⟨b', o', hA', hbb', p2, q2, hc3, hd2⟩ := EZ hd1 hj
  exact GI hd2
theorem Vp {D : List UInt8} (hD : D.length ≤ 1048576) (B : List UInt8) (q : Nat) (rest : List UInt8) (h1 : q ≤ B.length) (h2 : B.drop q = Cu D ++ rest) : CM B ⟨q, 0, 0⟩ = (⟨q + (Cu D).length, 0, 0⟩, D, true) :=
 Rs.Vy h2 h1 hD zD
theorem Wk {D : List UInt8} (hD : D.length ≤ 1048576) (B : List UInt8) (q : Nat) (rest : List UInt8) (h1 : q ≤ B.length) (h2 : B.drop q = Cu D ++ rest) : C4 B ⟨q, 0, 0⟩ = (⟨q + (Cu D).length, 0, 0⟩, D, true) := by
 have := Vp hD B q rest h1 h2
 unfold CM at this;unfold C4;rw [this]
 rfl
theorem Vw {m : Msg} {blk : List UInt8 → Rs → Rs × List UInt8 × Bool} {fl : Rs → Bool → Bool} (hN : Ut m) (hr : FV m = true) (hs : inU m.seq)
  (hblk : ∀ (B : List UInt8) (q : Nat) (rest : List UInt8), q ≤ B.length → B.drop q = Cu m.data ++ rest → blk B ⟨q, 0, 0⟩ = (⟨q + (Cu m.data).length, 0, 0⟩, m.data, true)) (hfl : ∀ p, fl ⟨p, 0, 0⟩ true = true) :
  Fc (IT m) (blk (IT m)) fl = (m, true, 0, 0) := by
 simp only [FV, As] at hr
 obtain ⟨hr, he⟩ := hr
 obtain ⟨hs0, hs1⟩ := hs
 have hkd : 1 ≤ m.kind ∧ m.kind ≤ 14 := by
  have := hr
  unfold En at this;simp only [As, Aw] at this
  exact this.1
 have he2 : 1 ≤ m.epoch ∧ m.epoch < 4611686018427387904 := by simpa [epR] using he
 have hB : IT m = UInt8.ofNat m.kind.toNat :: (AH m.epoch.toNat ++ (AH m.seq.toNat ++ (F0 m ++ []))) := by
  unfold IT;simp
 generalize IT m = B at *
 have h1 := Rs.UZ (B := B) (p := 0) (by rw [List.drop_zero]; exact hB) (Aj _)
 rw [Bn] at h1
 have d1 : B.drop 1 = AH m.epoch.toNat ++ (AH m.seq.toNat ++ (F0 m ++ [])) := by rw [hB]; rfl
 have hy : ((UInt8.ofNat m.kind.toNat).toNat : Int) = m.kind := by
  rw [UInt8.toNat_ofNat']
  omega
 have h2 := Rs.Vq he d1
 have d2 := LP d1
 have h3 := Rs.Sr (x := m.seq.toNat) zD d2
 have d3 := LP d2
 have hle1 : 1 ≤ B.length := by rw [hB]; simp
 have r1 := I9 d1 hle1
 have r2 := I9 d2 (by simp at r1; omega)
 have hp3 : 1 + (AH m.epoch.toNat).length + (AH m.seq.toNat).length ≤ B.length := zD
 have h4 := Rs.SW (B := B) (rest := []) (m := ({ m with epoch := 0, seq := 0 } : Msg)) (blk := blk B) ⟨hN.pos, hN.streams, hN.links, hN.node, hN.tail, hN.proj⟩ hr rfl rfl (by exact d3) hp3 (fun q rest h1 h2 => hblk _ q rest h1 h2)
 have r3 := I9 d3 hp3
 have hml : (F0 ({ m with epoch := 0, seq := 0 } : Msg)).length = (F0 m).length := rfl
 have h5 : ((⟨1 + (AH m.epoch.toNat).length + (AH m.seq.toNat).length + (F0 m).length, 0, 0⟩ : Rs).fin B.length) = ⟨1 + (AH m.epoch.toNat).length + (AH m.seq.toNat).length + (F0 m).length, 0, 0⟩ := by
  unfold Rs.fin;rw [An]
  simp at r3
  dsimp only;omega
 have hkk : ((⟨1, 0, 0⟩ : Rs).kd m.kind) = ⟨1, 0, 0⟩ := Ak hkd
 rw [hml] at h4
 dsimp only at h4;unfold Fc;rw [h1]
 dsimp only;rw [hy, hkk, h2]
 dsimp only;rw [h3]
 dsimp only;rw [Ak rfl, h4]
 dsimp only;rw [h5]
 dsimp only;rw [Ak rfl, hfl, toNat_cast zD, toNat_cast hs0]
theorem Vv {m : Msg} (hN : Ut m) (hr : FV m = true) (hs : inU m.seq) (hd : m.data.length ≤ 1048576) : Fc (IT m) (C4 (IT m)) flS = (m, true, 0, 0) :=
 Vw (blk := fun P => C4 P) hN hr hs (fun B q rest h1 h2 => Wk hd B q rest h1 h2) (fun p => rfl)
theorem Wr {m : Msg} (hN : Ut m) (hr : FV m = true) (hs : inU m.seq) (hd : m.data.length ≤ 1048576) : Fc (IT m) (CM (IT m)) flL = (m, true, 0, 0) :=
 Vw (blk := fun P => CM P) hN hr hs (fun B q rest h1 h2 => Vp hd B q rest h1 h2) (fun p => rfl)
theorem UG {m : Msg} (h : FV m = true) : (BU (IT m)).length ≤ 49035 + m.data.length := by
 have h1 := Sl h
 have h2 := (A2 (IT m).length).1
 rw [Gn, EW]
 omega
end Go.Proofs.YtlbffbkbkajciaaGreat
namespace Go.Bs
open Go.RowKit
def UL : Rp (List Msg) := rSl 14 Vt
theorem Va {S : Nat → Prop} {w : World} {xs : List Msg} {a : Option Addr} {n c : Nat} (h : UL.r S w [.slice a n c] xs) {i : Nat} (hi : i < xs.length) : ∃ b off, a = some ⟨b, off, none⟩ ∧ S b ∧ ∃ (a1 : Option Addr) (c1 : Nat) (a2 : Option Addr) (c2 : Nat) (a3 : Option Addr) (c3 : Nat) (a4 : Option Addr) (c4 : Nat),
  (w.cell? ⟨b, off + i * 14, none⟩ = some (.int .i64 xs[i].kind) ∧ w.cell? ⟨b, off + i * 14 + 1, none⟩ = some (.int .u64 xs[i].epoch) ∧ w.cell? ⟨b, off + i * 14 + 2, none⟩ = some (.int .u64 xs[i].seq) ∧ w.cell? ⟨b, off + i * 14 + 3, none⟩ = some (.int .u64 xs[i].pos) ∧ w.cell? ⟨b, off + i * 14 + 4, none⟩ = some (.int .i64 xs[i].count) ∧ w.cell? ⟨b, off + i * 14 + 5, none⟩ = some (.int .i64 xs[i].state) ∧ w.cell? ⟨b, off + i * 14 + 6, none⟩ = some (.slice a1 xs[i].streams.length c1) ∧ w.cell? ⟨b, off + i * 14 + 7, none⟩ = some (.slice a2 xs[i].links.length c2) ∧ w.cell? ⟨b, off + i * 14 + 8, none⟩ = some (.slice a3 xs[i].data.length c3) ∧ w.cell? ⟨b, off + i * 14 + 9, none⟩ = some (.int .u64 xs[i].sea.epoch) ∧ w.cell? ⟨b, off + i * 14 + 10, none⟩ = some (.int .u64 xs[i].sea.node) ∧ w.cell? ⟨b, off + i * 14 + 11, none⟩ = some (.int .u64 xs[i].sea.tail) ∧ w.cell? ⟨b, off + i * 14 + 12, none⟩ = some (.int .u64 xs[i].proj.epoch) ∧ w.cell? ⟨b, off + i * 14 + 13, none⟩ = some (.slice a4 xs[i].proj.stripes.length c4)) ∧ AF S w xs[i] a1 c1 a2 c2 a3 c3 a4 c4 := by
 obtain ⟨b, off, e, hS, cs, _, hc, hA⟩ := Ke h hi
 obtain ⟨a1, c1, a2, c2, a3, c3, a4, c4, rfl, h1⟩ := Wb hA
 exact ⟨b, off, e, hS, a1, c1, a2, c2, a3, c3, a4, c4, ⟨hc 0 _ rfl, hc 1 _ rfl, hc 2 _ rfl, hc 3 _ rfl, hc 4 _ rfl, hc 5 _ rfl, hc 6 _ rfl, hc 7 _ rfl, hc 8 _ rfl, hc 9 _ rfl, hc 10 _ rfl, hc 11 _ rfl, hc 12 _ rfl, hc 13 _ rfl⟩, h1⟩
end Go.Bs
namespace Go.Proofs.YtlbffbkbkajciaaGreat
open Go.RowKit Go.Bs Go.Maps
def UW (l : List Msg) : Bool := Vn 12 UK l
def VP (l : List Msg) : Bool := l.all FV
def UF (l : List Msg) : List UInt8 := (l.map fun m => BU (IT m)).flatten
def UB (l : List Msg) : List UInt8 × Int := if VP l = true then (UF l, 0) else ([], 3)
theorem Wm (l : List Msg) (k : Nat) (h : k < l.length) : UF (l.take (k + 1)) = UF (l.take k) ++ BU (IT l[k]) := by
 unfold UF;rw [A6 h, C7, DA]; simp only [List.map_cons, List.map_nil, IG, List.flatten_nil, List.append_nil]
theorem WV {l : List Msg} (h : VP l = true) (i : Nat) (hi : i < l.length) : FV l[i] = true := List.all_eq_true.1 h _ (BZ hi)
theorem VO {l : List Msg} (i : Nat) (hi : i < l.length) (h : FV l[i] = false) : VP l = false := by
 rcases hh : VP l with _ | _
 ·rfl
 ·rw [WV hh i hi] at h; cases h
theorem Wl {l : List Msg} (h : ∀ i, i < l.length → ∀ hi : i < l.length, FV l[i] = true) : VP l = true := List.all_eq_true.2 fun x hx => by
 obtain ⟨i, hi, rfl⟩ := List.getElem_of_mem hx
 exact h i hi hi
theorem VF (l : List Msg) (a : Option Addr) (n c : Nat) (w : World) (hl : UL.r (· < w.heap.size) w [.slice a n c] l) :
  Calls Tryz.prog 25 #[.slice a n c] w fun r w' => r = .returned (.bool (UW l)) ∧ Below w.heap.size w w' := by
 obtain ⟨rfl, hm, _, _⟩ := AP hl
 have HL := hid hl
 clear hl;go_enter Tryz.func25, Tryz.ntmps25
 go_wp2_with fail;go_loopw [3] (fun i wr => ∃ k : Nat, k ≤ l.length ∧ k ≤ 12 ∧ i = .int .i64 k ∧ Hid (UW l = Uz 12 UK l k) ∧ Below w.heap.size w wr) (fun i _ => l.length - (intOf i).toNat)
 case atStart => exact ⟨0, Aj _, Aj _, rfl, hid rfl, Below.refl _ _⟩
 case round =>
  obtain ⟨k, hk, hk2, rfl, hf, hb⟩ := hrel
  by_cases hlt : k < l.length
  ·have i1 : (k : Int) < (l.length : Int) := by omega
   have e1 : decide ((k : Int) < (l.length : Int)) = true := Ac i1
   by_cases h20 : k < 12
   ·have e2 : decide ((k : Int) < 12) = true := Ac zD
    obtain ⟨b, o, hA, hbb, a1, c1, a2, c2, a3, c3, a4, c4, ⟨u0, u1, u2, u3, u4, u5, u6, u7, u8, u9, u10, u11, u12, u13⟩, xl⟩ := Va (lift HL.out hb) hlt
    subst hA;have hst := hid (UH 12 UK l k hlt h20)
    have HC := hid (VG l[k] a1 c1 a2 c2 a3 c3 a4 c4 wr xl)
    have HB := hid hb
    clear xl hb;generalize l[k] = x at *
    cases h3 : UK x
    ·have hff : Hid (UW l = Uz 12 UK l (k + 1)) := hid (by rw [hf.out, hst.out, h3]; simp)
     rw [h3] at HC
     clear h3;go_wp2_with fail;refine HC.out.mono ?_
     rintro r w3 ⟨rfl, hb3⟩;have hbe := Af hb3 HB.out
     go_wp2_with fail;go_roundw
     case rel => exact ⟨k + 1, zD, zD, zW, hff, hbe⟩
     case measure => (simp [intOf]; try omega)
    ·have hff : Hid (UW l = true) := hid (by rw [hf.out, hst.out, h3]; rfl)
     rw [h3] at HC
     clear h3;go_wp2_with fail;refine HC.out.mono ?_
     rintro r w3 ⟨rfl, hb3⟩;have hbe := Af hb3 HB.out
     go_wp2_with fail;go_ret;exact ⟨zI, hbe⟩
   ·have e2 : decide ((k : Int) < 12) = false := Ab zD
    have hff : Hid (UW l = decide ((12 : Int) < (l.length : Int))) := hid z5
    go_wp2_with fail;go_ret;exact ⟨zI, hb⟩
  ·have e1 : decide ((k : Int) < (l.length : Int)) = false := Ab zD
   have hff : Hid (UW l = decide ((12 : Int) < (l.length : Int))) := hid z6
   go_wp2_with fail;go_ret;exact ⟨zI, hb⟩
theorem WJ (l : List Msg) (a : Option Addr) (n c : Nat) (w : World) (hl : UL.r (· < w.heap.size) w [.slice a n c] l) (hsh : ∀ m ∈ l, WG m) (hlen : l.length ≤ 12) :
  Calls Tryz.prog 34 #[.slice a n c] w fun r w' => ∃ v, r = .returned (.tuple #[v, .int .i64 (UB l).2]) ∧ Ag.r (fun q => w.heap.size ≤ q ∧ q < w'.heap.size) w' [v] (UB l).1 ∧ Below w.heap.size w w' := by
 obtain ⟨rfl, hm, _, _⟩ := AP hl
 obtain ⟨i0, hi, hz0, hz1, hz2⟩ := Bq EF
 have HL := hid hl
 have HSH := hid (fun (k : Nat) (h : k < l.length) => hsh l[k] (BZ h))
 have HAS := hid (fun (k : Nat) (h : k < l.length) => Wm l k h)
 clear hl hsh;go_enter Tryz.func34, Tryz.ntmps34
 go_wp2_with fail;go_loopw [4, 11] (fun v i wr => ∃ (k : Nat) (J : List UInt8), k ≤ l.length ∧ i = .int .i64 k ∧ Ih wr w.heap.size v J ∧ Hid (J = UF (l.take k)) ∧ Hid (∀ i, i < k → ∀ hi : i < l.length, FV l[i] = true) ∧ J.length ≤ k * 49335 ∧ (∃ aJ cJ, v = .slice aJ J.length cJ) ∧ Below w.heap.size w wr) (fun _ i _ => l.length - (intOf i).toNat)
 case atStart => exact ⟨0, [], Aj _, rfl, ⟨rfl, .inl ⟨rfl, rfl⟩⟩, hid (by simp [UF]), hid (fun i hi => zD), Aj _, ⟨_, _, rfl⟩, Below.refl _ _⟩
 case round =>
  obtain ⟨k, J, hk, rfl, hown, hJ, hall, hJl, ⟨aJ, cJ, rfl⟩, hb⟩ := hrel
  have HO := hid hown
  have HB := hid hb
  have hz := hb.size
  by_cases hlt : k < l.length
  ·have i1 : (k : Int) < (l.length : Int) := by omega
   have e1 : decide ((k : Int) < (l.length : Int)) = true := Ac i1
   obtain ⟨b, o, hA, hbb, a1, c1, a2, c2, a3, c3, a4, c4, ⟨u0, u1, u2, u3, u4, u5, u6, u7, u8, u9, u10, u11, u12, u13⟩, xl⟩ := Va (lift HL.out hb) hlt
   subst hA;have hs := HSH.out k hlt
   have hst := HAS.out k hlt
   have hfin : FV l[k] = false → VP l = false := VO k hlt
   have hnx : FV l[k] = true → ∀ i, i < k + 1 → ∀ hi : i < l.length, FV l[i] = true := fun h1 i hi h2 => by
    rcases Bo i k with h3 | h3
    ·exact hall.out i h3 h2
    ·obtain rfl : i = k := by omega
     exact h1
   have hbl : b < wr.heap.size := Ck _ _ u0
   have HC := hid (fun (W : World) (hW : Below wr.heap.size wr W) => Lq W l[k] a1 c1 a2 c2 a3 c3 a4 c4 (AF.lift xl hW) (fun x hx => by have := hs.backs x hx; omega) (by have := hs.data; omega))
   unfold E6 at HC;clear xl hb hown;generalize l[k] = x at *
   have hfl : FV x = true → (BU (IT x)).length ≤ 49335 := fun h => by have := UG h; have := hs.data; omega
   generalize BU (IT x) = FX at *
   have HONE := hid (BV FX)
   have HST := hid hst
   clear hst hs;cases hr : FV x
   ·rw [hr] at HC
    simp only [Bool.false_eq_true, if_false] at HC
    have hff : Hid (UB l = ([], 3)) := hid (by unfold UB; rw [hfin hr]; rfl)
    clear hfin hnx hfl hr;go_wp2_with fail;refine (HC.out _ zA).mono ?_
    rintro r w3 ⟨v3, rfl, hr3, hb3⟩;obtain ⟨e3, k3, hv3, hr3', _⟩ := AE hr3
    simp only [Ap, AD] at hv3
    subst hv3;have hbe : Below w.heap.size w w3 := Af hb3 (Az HB.out _)
    clear hr3 hr3';go_wp2_with fail;go_ret2
    rw [hff.out]
    exact ⟨_, rfl, Gq rfl rfl zD, hbe⟩
   ·rw [hr] at HC
    simp only [if_true] at HC
    have hal := hid (hnx hr)
    have hfx := hfl hr
    clear hfin hnx hfl hr;go_wp2_with fail;refine (HC.out _ zA).mono ?_
    rintro r w3 ⟨v3, rfl, hr3, hb3⟩;obtain ⟨e3, k3, hv3, hr3', _⟩ := AE hr3
    simp only [Ap, AD] at hv3
    subst hv3;have hbw3 : Below wr.heap.size wr w3 := zA
    have HQ := hid (By HO.out hbw3)
    have HS3 := hid (CZ hr3')
    have hz3 := hbw3.size
    clear hr3 hr3' hb3;go_wp2_with (at_builtin; go_loud (refine AB rfl _ _ _ rfl w.heap.size 5 i0 (.int .u8 0) 1 1 AU hi hz0 hz1 hz2 rfl zP (.slice aJ J.length cJ) J.length (byteCells J) rfl (HQ.out) (e3) (FX.length) (k3) (byteCells FX) rfl (HS3.out) HONE.out zQ zD zD ?_; intro v' w5x hown5x hgrow5x hat5x; obtain ⟨a5x, c5x, rfl⟩ := Bh hown5x; have HO5x := hid (Ih.app hown5x); have hbg5x : Below w.heap.size w3 w5x := (Below.grown (Below.refl _ _) hgrow5x zD (fun g e => (WL (HQ.out) g e).1)); clear hown5x hgrow5x hat5x))
    have hbe : Below w.heap.size w w5x := HB.out.trans ((hbw3.mono hz).trans hbg5x)
    go_roundw
    case rel => exact ⟨k + 1, J ++ FX, zD, zW, HO5x.out, hid (by rw [HST.out, hJ.out]), hal, by rw [Am]; omega, ⟨_, _, by rw [Am]⟩, hbe⟩
    case measure => (simp [intOf]; try omega)
  ·obtain rfl : k = l.length := by omega
   have e1 : decide ((l.length : Int) < (l.length : Int)) = false := Ab zD
   have hff : Hid (UB l = (J, 0)) := hid (by unfold UB; rw [Ak (Wl hall.out), hJ.out, Gx])
   have HV := hid (Cp rfl hown)
   clear hown hJ;go_wp2_with fail;go_ret2
   rw [hff.out]
   exact ⟨_, rfl, HV.out, hb⟩
theorem VB (l : List Msg) (a b : Option Addr) (n c n' c' : Nat) (w : World) (hx : UL.r (· < w.heap.size) w [.slice a n c] l) (hy : UL.r (· < w.heap.size) w [.slice b n' c'] l) :
  Calls Tryz.prog 57 #[.slice a n c, .slice b n' c'] w fun r w' => r = .returned (.bool true) ∧ Below w.heap.size w w' := by
 obtain ⟨rfl, hm, _, _⟩ := AP hx
 obtain ⟨rfl, hm', _, _⟩ := AP hy
 have HX := hid hx
 have HY := hid hy
 clear hx hy;have e1 : ((l.length : Int) != (l.length : Int)) = false := zO
 go_enter Tryz.func57, Tryz.ntmps57
 go_wp2_with fail;go_loopw [5] (fun i wr => ∃ k : Nat, k ≤ l.length ∧ i = .int .i64 k ∧ Below w.heap.size w wr) (fun i _ => l.length - (intOf i).toNat)
 case atStart => exact ⟨0, Aj _, rfl, Below.refl _ _⟩
 case round =>
  obtain ⟨k, hk, rfl, hb⟩ := hrel
  by_cases hlt : k < l.length
  ·obtain ⟨b0, o0, hA, hbb, a1, c1, a2, c2, a3, c3, a4, c4, ⟨u0, u1, u2, u3, u4, u5, u6, u7, u8, u9, u10, u11, u12, u13⟩, xl⟩ := Va (lift HX.out hb) hlt
   obtain ⟨b1, o1, hA', hbb', g1, d1, g2, d2, g3, d3, g4, d4, ⟨v0, v1, v2, v3, v4, v5, v6, v7, v8, v9, v10, v11, v12, v13⟩, yl⟩ := Va (lift HY.out hb) hlt
   subst hA hA';have X0 := fun s : AN wr => s.cell u0
   have X1 := fun s : AN wr => s.cell u1
   have X2 := fun s : AN wr => s.cell u2
   have X3 := fun s : AN wr => s.cell u3
   have X4 := fun s : AN wr => s.cell u4
   have X5 := fun s : AN wr => s.cell u5
   have X6 := fun s : AN wr => s.cell u6
   have X7 := fun s : AN wr => s.cell u7
   have X8 := fun s : AN wr => s.cell u8
   have X9 := fun s : AN wr => s.cell u9
   have X10 := fun s : AN wr => s.cell u10
   have X11 := fun s : AN wr => s.cell u11
   have X12 := fun s : AN wr => s.cell u12
   have X13 := fun s : AN wr => s.cell u13
   have Y0 := fun s : AN wr => s.cell v0
   have Y1 := fun s : AN wr => s.cell v1
   have Y2 := fun s : AN wr => s.cell v2
   have Y3 := fun s : AN wr => s.cell v3
   have Y4 := fun s : AN wr => s.cell v4
   have Y5 := fun s : AN wr => s.cell v5
   have Y6 := fun s : AN wr => s.cell v6
   have Y7 := fun s : AN wr => s.cell v7
   have Y8 := fun s : AN wr => s.cell v8
   have Y9 := fun s : AN wr => s.cell v9
   have Y10 := fun s : AN wr => s.cell v10
   have Y11 := fun s : AN wr => s.cell v11
   have Y12 := fun s : AN wr => s.cell v12
   have Y13 := fun s : AN wr => s.cell v13
   have hO := fun s : AN wr => Fh l[k] s.at_ a1 a2 a3 a4 g1 g2 g3 g4 c1 c2 c3 c4 d1 d2 d3 d4 (AF.lift xl s.below) (AF.lift yl s.below)
   clear u0 u1 u2 u3 u4 u5 u6 u7 u8 u9 u10 u11 u12 u13 v0 v1 v2 v3 v4 v5 v6 v7 v8 v9 v10 v11 v12 v13 xl yl;have i0 : (0 : Int) ≤ (k : Int) := zD
   have i1 : (k : Int) < (l.length : Int) := zD
   generalize l[k] = x at *
   have HO := hid hO; clear hO
   go_wp2_with fail;refine Ar zH zH ?_
   repeat (go_big_quiet_step (((go_at_call 22; exact AW (HO.out _)))))
   refine AA ?_
   rintro W5 ⟨⟨W5', hb5⟩, rfl⟩;go_wp2_with fail;go_roundw
   case rel => exact ⟨k + 1, zD, zW, Af hb5 hb⟩
   case measure => (simp [intOf]; try omega)
  ·obtain rfl : k = l.length := by omega
   have e2 : decide ((l.length : Int) < (l.length : Int)) = false := Ab zD
   go_wp2_with fail;go_ret;exact ⟨rfl, hb⟩
theorem Wh {B : List UInt8} {m : Int} (hk : ((⟨0, 0, 0⟩ : Rs).frame B m).1.k = 0) : 4 ≤ ((⟨0, 0, 0⟩ : Rs).frame B m).1.p := by
 unfold Rs.frame at hk ⊢;dsimp only at hk ⊢;have hf : ∀ s : Rs, (s.take B 4).1.k = 0 → (s.take B 4).1.p = s.p + 4 := fun s h => by
  unfold Rs.take Rs.skip at h ⊢;by_cases h0 : s.k = 0
  ·rw [Ak h0, An zP] at h ⊢
   by_cases h1 : (B.length : Int) - s.p < 4
   ·rw [Ak h1] at h
    exact absurd h (show ¬ (1 : Int) = 0 by decide)
   ·rw [An h1]
    rfl
  ·rw [An h0] at h
   exact absurd h h0
 split at hk
 ·rename_i hc
  rw [Ak hc]
  have := hf _ hk
  omega
 ·exact absurd hk (Rs.Be zD)
theorem VN {B : List UInt8} {blk : List UInt8 → Rs → Rs × List UInt8 × Bool} {fl : Rs → Bool → Bool} (h : (I4 B blk fl).2.2.2.1 = 0) : 0 < (I4 B blk fl).2.2.1 ∧ (I4 B blk fl).2.2.1 ≤ B.length := by
 have h1 := (Pd (B := B) (m := 2097152)).1
 have h2 := Wh (B := B) (m := 2097152)
 unfold I4 at h ⊢;unfold KA at h h1 ⊢;generalize (⟨0, 0, 0⟩ : Rs).frame B 2097152 = F at *
 obtain ⟨s, P⟩ := F
 dsimp only at h h1 h2 ⊢;by_cases hk : s.k = 0
 ·rw [Ak hk] at h h1 ⊢
  dsimp only at h h1 ⊢;rw [Ak rfl] at h ⊢
  split at h
  ·rename_i hc
   rw [Ak hc]
   have := h2 hk
   dsimp only;omega
  ·rename_i hc
   exact absurd h hc
 ·rw [An hk] at h
  dsimp only at h;rw [An hk] at h
  exact absurd h hk
def Uw (B : List UInt8) : Nat → Nat → List Msg × Int × Int
 | 0, _ => ([], 0, 0)
 | f + 1, p =>
  if p < B.length then
   let g := UE (B.drop p)
   if g.2.2.2.1 = 0 then
    let r := Uw B f (p + g.2.2.1)
    if r.2.1 = 0 then (g.1 :: r.1, 0, 0) else ([], r.2.1, r.2.2)
   else ([], g.2.2.2.1, wrap64 (g.2.2.2.2 + (p : Int)))
  else ([], 0, 0)
def UJ (L : List Msg) (r : List Msg × Int × Int) : List Msg × Int × Int := if r.2.1 = 0 then (L ++ r.1, 0, 0) else ([], r.2.1, r.2.2)
theorem VV (B : List UInt8) : ∀ (f p : Nat), (Uw B f p).2.1 = 0 → (Uw B f p).2.2 = 0
 | 0, p, _ => rfl
 | f + 1, p, h => by
  unfold Uw at h ⊢;split at h
  ·rename_i hp
   rw [Ak hp]
   dsimp only at h ⊢;split at h
   ·rename_i hk
    rw [Ak hk]
    split at h
    ·rename_i hr
     rw [Ak hr]
    ·rename_i hr
     exact absurd h hr
   ·rename_i hk
    exact absurd h hk
  ·rename_i hp
   rw [An hp]
theorem Wf {r : List Msg × Int × Int} (h1 : r.2.1 = 0 → r.2.2 = 0) (h2 : r.2.1 ≠ 0 → r.1 = []) : UJ [] r = r := by
 obtain ⟨x, y, z⟩ := r
 dsimp only at h1 h2;unfold UJ;dsimp only;by_cases h : y = 0
 ·rw [Ak h, h1 h, h]
  rfl
 ·rw [An h, h2 h]
theorem Vz (B : List UInt8) : ∀ (f p : Nat), (Uw B f p).2.1 ≠ 0 → (Uw B f p).1 = []
 | 0, p, _ => rfl
 | f + 1, p, h => by
  unfold Uw at h ⊢;split at h
  ·rename_i hp
   rw [Ak hp]
   dsimp only at h ⊢;split at h
   ·rename_i hk
    rw [Ak hk]
    split at h
    ·rename_i hr
     exact absurd rfl h
    ·rename_i hr
     rw [An hr]
   ·rename_i hk
    rw [An hk]
  ·rename_i hp
   exact absurd rfl h
theorem VL (B : List UInt8) (f p : Nat) (L : List Msg) (hp : p < B.length) (hk : (UE (B.drop p)).2.2.2.1 = 0) : UJ L (Uw B (f + 1) p) = UJ (L ++ [(UE (B.drop p)).1]) (Uw B f (p + (UE (B.drop p)).2.2.1)) := by
 conv => lhs; unfold Uw
 rw [Ak hp]
 dsimp only;rw [Ak hk]
 generalize Uw B f (p + (UE (B.drop p)).2.2.1) = r
 unfold UJ;by_cases hr : r.2.1 = 0
 ·rw [Ak hr, Ak hr]
  dsimp only;rw [Ak rfl, Au]
  rfl
 ·rw [An hr, An hr]
  dsimp only;rw [An hr]
theorem VK (B : List UInt8) (f p : Nat) (L : List Msg) (hp : p < B.length) (hk : (UE (B.drop p)).2.2.2.1 ≠ 0) : UJ L (Uw B (f + 1) p) = ([], (UE (B.drop p)).2.2.2.1, wrap64 ((UE (B.drop p)).2.2.2.2 + (p : Int))) := by
 conv => lhs; unfold Uw
 rw [Ak hp]
 dsimp only;rw [An hk]
 unfold UJ;dsimp only;rw [An hk]
theorem Wg (B : List UInt8) (f p : Nat) (L : List Msg) (hp : ¬ p < B.length) : UJ L (Uw B (f + 1) p) = (L, 0, 0) := by
 conv => lhs; unfold Uw
 rw [An hp]
 unfold UJ;dsimp only;rw [Ak rfl, List.append_nil]
def VR (B : List UInt8) : List Msg × Int × Int := Uw B (B.length + 1) 0
theorem Rs.Wy {D P : List UInt8} (hd : Part D (BU P)) (hP : P.length ≤ 2097152) : ((⟨0, 0, 0⟩ : Rs).frame D 2097152).1.sh D.length := by
 unfold BU at hd;unfold Rs.frame;have hb : ∀ s : Rs, s.sh D.length → ∀ v w : Nat, ∀ c : Int, (if v = w then s else s.fail 6 c).sh D.length := fun s hs v w c => by
  split
  ·exact hs
  ·rwa [Rs.Bw hs.UU]
 dsimp only;rcases Vx hd with hd | ⟨D2, hD2, hgD2⟩
 ·have hs := Rs.WU (B := D) (D := D) (F := P) (p := 0) (m := min 2097152 2097152) zD (by rw [List.drop_zero]) hd (Aj _) zD
  rw [Rs.Vb hs.UU]
  exact hb _ hs _ _ _
 ·have h0 : D.drop 0 = Db P ++ D2 := by rw [List.drop_zero]; exact hD2
  have h1 := Rs.SX (B := D) (p := 0) (m := min 2097152 2097152) zD h0 (Aj _) zD
  have h2 := LP h0
  have hr := I9 h0 (Aj _)
  have hs := Rs.VQ h2 hgD2 zD
  rw [h1]
  dsimp only;rw [Fj] at hs
  exact hb _ hs _ _ _
theorem Xb {D P : List UInt8} (hd : Part D (BU P)) (hP : P.length ≤ 2097152) : UE D = (CU, false, 0, 1, (D.length : Int)) := by
 have h := Rs.Wy hd hP
 unfold UE I4 KA;rw [An h.UU]
 dsimp only;rw [An h.UU, h.code, h.pl]
theorem US {m : Msg} (h : FV m = true) : (IT m).length ≤ 2097152 := by
 have h1 := UG h
 have h2 : m.data.length ≤ 1048576 := (Su (by simp only [FV, As] at h; exact h.1)).2
 rw [Gn, EW] at h1
 omega
theorem UX (P : List UInt8) : 5 ≤ (BU P).length := by
 have := (A2 P.length).2
 rw [Gn, EW]
 omega
theorem Wx {m : Msg} {rest : List UInt8} (hN : Ut m) (hr : FV m = true) (hs : inU m.seq) : UE (BU (IT m) ++ rest) = (m, true, (BU (IT m)).length, 0, 0) := by
 have hd : m.data.length ≤ 1048576 := (Su Z0).2
 unfold UE;rw [QY (blk := fun P => C4 P) (US hr)]
 have h := Vv hN hr hs hd
 rw [h]
 rfl
theorem WA {m : Msg} (hN : Ut m) (hr : FV m = true) (hs : inU m.seq) : P9 (BU (IT m)) = (m, true, 0, 0) ∧ Qa (BU (IT m)) = (m, true, 0, 0) := by
 have hd : m.data.length ≤ 1048576 := (Su Z0).2
 unfold P9 Qa;rw [Je (blk := fun P => C4 P) (US hr) (Vv hN hr hs hd), Je (blk := fun P => CM P) (US hr) (Wr hN hr hs hd)]
 exact ⟨rfl, rfl⟩
theorem Ve (B : List UInt8) : ∀ (l : List Msg) (f p : Nat), (∀ m ∈ l, Ut m ∧ FV m = true ∧ inU m.seq) → B.drop p = UF l → p ≤ B.length → l.length < f → Uw B f p = (l, 0, 0)
 | [], f + 1, p, _, h, hp, _ => by
  have hr := IF List.length h
  simp [UF] at hr
  unfold Uw;rw [An zD]
 | m :: l, f + 1, p, hl, h, hp, hf => by
  obtain ⟨hN, hR, hs⟩ := hl m (List.mem_cons_self ..)
  have e : UF (m :: l) = BU (IT m) ++ UF l := by simp [UF]
  rw [e] at h
  have h5 := UX (IT m)
  have hr := I9 h hp
  have h2 := LP h
  have ih := Ve B l f (p + (BU (IT m)).length) (fun x hx => hl x (List.mem_cons_of_mem _ hx)) h2 zD (by simp at hf; omega)
  have hg := Wx (rest := UF l) hN hR hs
  unfold Uw;rw [Ak zD, h, hg]
  dsimp only;rw [Ak rfl, ih]
  rfl
 | _, 0, _, _, _, _, hf => absurd hf (Nat.not_lt_zero _)
theorem WE {l : List Msg} : 5 * l.length ≤ (UF l).length := by
 induction l with
 | nil => simp [UF]
 | cons m l ih =>
  have h5 := UX (IT m)
  have e : UF (m :: l) = BU (IT m) ++ UF l := by simp [UF]
  rw [e, Am, A7]
  omega
theorem VU {l : List Msg} (hl : ∀ m ∈ l, Ut m ∧ FV m = true ∧ inU m.seq) : VR (UF l) = (l, 0, 0) :=
 Ve _ l _ 0 hl (by rw [List.drop_zero]) (Aj _) (by have := WE (l := l); omega)
end Go.Proofs.YtlbffbkbkajciaaGreat
