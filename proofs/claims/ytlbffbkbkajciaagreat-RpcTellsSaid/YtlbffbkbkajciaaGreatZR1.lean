/- Mini: Needed by rpcTells_walk, part 1: texts put together by shake.py; no condition. -/
import Derived.WalkKit
import Derived.WalkLawsBesides
import Derived.WalkSpells
import Derived.Outline
import Derived.BigQuiet
import Derived.Deep.QuietTactic
import Derived.ProofKit
import Derived.OpenShut
import Derived.Deep.Slices
import Derived.Lib.SmallJoins
import Derived.Test.YtlbffbkbkajciaaGreatRows
import Derived.Deep.AppendLies
import Derived.Laws.IdiomStrings
import Derived.Laws.BytesArg
import Derived.Maps.AppendAt
set_option linter.unusedVariables false
set_option linter.unusedSimpArgs false
set_option maxRecDepth 100000
set_option maxHeartbeats 6400000
namespace Go.Bs
theorem zCk{p:Prop}(h:p:=by rw [hff.out, Am rfl, hst.out]; exact HV.out):p:=h
theorem zCi{p:Prop}(h:p:=by rw [hxs.out.2.2, K4]; simp [BG]):p:=h
theorem zCh{p:Prop}(h:p:=by simp only [BW]; rw [Ae hlt2]; rfl):p:=h
theorem zCf{p:Prop}(h:p:=by simp only; omega):p:=h
theorem zB7{p:Prop}(h:p:=by rw [hf.out, hend.out]; rfl):p:=h
theorem zB4{p:Prop}(h:p:=by simp only [BW]; rw [Ae (by omega)]; rfl):p:=h
theorem zB3{p:Prop}(h:p:=by simp only [BK]; rw [Ae (by omega)]; rfl):p:=h
theorem zBz{p:Prop}(h:p:=by rw [hf.out, hdr.out, hlR, Ad (by omega)]; simp):p:=h
theorem zBx{p:Prop}(h:p:=by simp [BW]; omega):p:=h
theorem zBm{p:Prop}(h:p:=by rw [hff.out]; exact Bh rfl (Ak _) (Aj _) (.inl rfl)):p:=h
theorem zBk{p:Prop}(h:p:=by rw [hst.out]; simp [huv]):p:=h
theorem zBj{p:Prop}(h:p:=by simpa using h2):p:=h
theorem zAx{p:Prop}(h:p:=by simp at hA'; exact ⟨hA'.1.symm, hA'.2.symm⟩):p:=h
theorem zAv{p:Prop}(h:p:=by rw [hf.out, hst.out]; simp [huv]):p:=h
theorem zAp{p:Prop}(h:p:=by simp [byteCells]):p:=h
theorem zAn{p:Prop}(h:p:=by rw [hf.out, hst.out, Ad (by omega)]; rfl):p:=h
theorem zAe{p:Prop}(h:p:=by simpa using h1):p:=h
theorem zAd{p:Prop}(h:p:=by rw [hb.block g (Array.getElem?_eq_some_iff.1 h3).1]; exact h3):p:=h
theorem zAa{p:Prop}(h:p:=by rw [hf.out, hst'.out]):p:=h
theorem Z7{p:Prop}(h:p:=by rw [hst.out, Ae (by omega)]; rfl):p:=h
theorem ZS{p:Prop}(h:p:=by simpa using h):p:=h
theorem ZM{p:Prop}(h:p:=by have := (List.getElem?_eq_some_iff.1 hj).1; rw [hsz _ (Bl hic)] at this; exact this):p:=h
theorem ZG{p:Prop}(h:p:=by simp [Value.oneCell']):p:=h
theorem ZB{p:Prop}(h:p:=by rw [hf.out, K4, List.drop_of_length_le (by rw [HL.out]; exact Ak _)]; rfl):p:=h
theorem zV{p:Prop}(h:p:=by go_num):p:=h
theorem zP{p:Prop}(h:p:=by decide):p:=h
theorem zO{p:Prop}(h:p:=by simp):p:=h
theorem zK{p:Prop}(h:p:=by simp only [maxLen]; omega):p:=h
theorem zJ{p:Prop}(h:p:=by simp; omega):p:=h
theorem zH{p:Prop}(h:p:=by rw [hff.out]; rfl):p:=h
theorem zG{p:Prop}(h:p:=by kernel_rfl):p:=h
theorem zC{p:Prop}(h:p:=by omega):p:=h
theorem zB{p:Prop}(h:p:=by (repeat (first | exact Below.refl _ _ | assumption | (refine AF ?_ _) | (refine Below.setCell ?_ (by first | omega | (simp; done) | (simp; omega)) _) | (refine Below.drew ?_) | (refine below_drewN ?_ _) | (refine Af (by assumption) ?_)))):p:=h
theorem Ad:type_of% @decide_eq_false:=@decide_eq_false
theorem Ae:type_of% @decide_eq_true:=@decide_eq_true
theorem Ag:type_of% @List.length_append:=@List.length_append
theorem Ai:type_of% @Nat.lt_of_lt_of_le:=@Nat.lt_of_lt_of_le
theorem Aj:type_of% @Nat.zero_le:=@Nat.zero_le
theorem Ak:type_of% @Nat.le_refl:=@Nat.le_refl
theorem Am:type_of% @if_pos:=@if_pos
theorem An:type_of% @if_neg:=@if_neg
theorem Ao:type_of% @Bool.and_eq_true:=@Bool.and_eq_true
theorem Ar:type_of% @decide_eq_true_eq:=@decide_eq_true_eq
theorem As:type_of% @Proofs.Tryz.underlying25:=@Proofs.Tryz.underlying25
theorem Au:type_of% @List.cons.injEq:=@List.cons.injEq
theorem AL:type_of% @wpQuiet_nil:=@wpQuiet_nil
theorem AM:type_of% @RowKit.Below.heap_setCell:=@RowKit.Below.heap_setCell
theorem AO:type_of% @and_true:=@and_true
theorem AQ:type_of% @List.length_cons:=@List.length_cons
theorem AR:type_of% @List.getElem?_eq_getElem:=@List.getElem?_eq_getElem
theorem AT:type_of% @List.eq_nil_of_length_eq_zero:=@List.eq_nil_of_length_eq_zero
theorem AW:type_of% @List.drop_eq_getElem_cons:=@List.drop_eq_getElem_cons
theorem A3:type_of% @Nat.zero_add:=@Nat.zero_add
theorem A4:type_of% @Nat.le_trans:=@Nat.le_trans
theorem A8:type_of% @info_parts:=@info_parts
theorem Bb:type_of% @wpList_plain:=@wpList_plain
theorem Bd:type_of% @Nat.lt_or_ge:=@Nat.lt_or_ge
theorem Bk:type_of% @Option.some.injEq:=@Option.some.injEq
theorem Bl:type_of% @List.getElem_mem:=@List.getElem_mem
theorem Bq:type_of% @List.getElem?_append_left:=@List.getElem?_append_left
theorem Br:type_of% @RowKit.Below.heap_alloc:=@RowKit.Below.heap_alloc
theorem By:type_of% @List.getElem?_append_right:=@List.getElem?_append_right
theorem Bz:type_of% @World.cell?_of_block:=@World.cell?_of_block
theorem BE:type_of% @Nat.add_zero:=@Nat.add_zero
theorem BH:type_of% @Option.some.inj:=@Option.some.inj
theorem Ce:type_of% @Bool.true_and:=@Bool.true_and
theorem Cr:type_of% @World.block_lt_of_cell?:=@World.block_lt_of_cell?
theorem Cy:type_of% @World.frozen?_of_block:=@World.frozen?_of_block
theorem Cz:type_of% @Nat.eq_zero_or_pos:=@Nat.eq_zero_or_pos
theorem CK:type_of% @Proofs.Tryz.underlying23:=@Proofs.Tryz.underlying23
theorem CQ:type_of% @Nat.mul_le_mul_right:=@Nat.mul_le_mul_right
theorem CR:type_of% @List.getElem?_take:=@List.getElem?_take
theorem CS:type_of% @List.map_append:=@List.map_append
theorem CY:type_of% @List.take_of_length_le:=@List.take_of_length_le
theorem Dd:type_of% @Addr.mk.injEq:=@Addr.mk.injEq
theorem Dg:type_of% @List.mem_singleton:=@List.mem_singleton
theorem Dx:type_of% @List.flatten_cons:=@List.flatten_cons
theorem Dy:type_of% @List.flatten_append:=@List.flatten_append
theorem DA:type_of% @Nat.mul_one:=@Nat.mul_one
theorem D7:type_of% @List.map_cons:=@List.map_cons
theorem Ec:type_of% @Int.eq_ofNat_of_zero_le:=@Int.eq_ofNat_of_zero_le
theorem Ed:type_of% @List.mem_append:=@List.mem_append
theorem EC:type_of% @List.take_append_drop:=@List.take_append_drop
theorem EM:type_of% @Bool.eq_iff_iff:=@Bool.eq_iff_iff
theorem F6:type_of% @UInt8.toNat_ofNat':=@UInt8.toNat_ofNat'
theorem G2:type_of% @bounds_u64:=@bounds_u64
theorem Hp:type_of% @Nat.zero_mul:=@Nat.zero_mul
theorem JG:type_of% @if_true:=@if_true
theorem JL:type_of% @List.getElem?_map:=@List.getElem?_map
theorem K4:type_of% @List.drop_length:=@List.drop_length
open Go.RowKit
theorem hid {p : Prop} (h : p) : Hid p := h
theorem AF {a W : World} (h : Below a.heap.size a W) (o : Obj) : Below a.heap.size a (W.alloc o) := h.alloc h.size _
theorem below_drewN {B : Nat} {a w : World} (h : Below B a w) (n : Nat) : Below B a (w.drewN n) := ⟨h.os, h.tape, h.output, h.size, h.block⟩
theorem Af {a W w' : World} (hb : Below W.heap.size W w') (h : Below a.heap.size a W) : Below a.heap.size a w' := h.trans (hb.mono h.size)
def Blk (w : World) (g : Nat) (t : TypeId) (cs : Array Value) : Prop := w.heap[g]? = some (.cells cs t (0, 0))
section
variable {w w' : World} {g : Nat} {t : TypeId} {cs : Array Value}
theorem Blk.lt (h : Blk w g t cs) : g < w.heap.size := by
 rcases Bd g w.heap.size with h' | h'
 ·exact h'
 ·unfold Blk at h; rw [Array.getElem?_eq_none h'] at h; cases h
theorem Blk.cell (h : Blk w g t cs) (i : Nat) : w.cell? ⟨g, i, none⟩ = cs[i]? := by unfold Blk at h; simp [World.cell?, h]
theorem Blk.free (h : Blk w g t cs) (i : Nat) : w.frozen? ⟨g, i, none⟩ = false := by unfold Blk at h; simp [World.frozen?, h]
theorem Blk.new (w : World) (t : TypeId) (cs : Array Value) : Blk (w.alloc (.cells cs t)) w.heap.size t cs := by
 unfold Blk; show (w.heap.push _)[w.heap.size]? = _; simp
theorem Blk.newAt (w : World) (t : TypeId) (cs : Array Value) {g : Nat} (h : g = w.heap.size) : Blk (w.alloc (.cells cs t)) g t cs := h ▸ Blk.new w t cs
theorem Blk.VZ (w : World) (o : Obj) (t : TypeId) (cs : Array Value) : Blk ((w.alloc o).alloc (.cells cs t)) (w.heap.size + 1) t cs := by
 have := Blk.new (w.alloc o) t cs
 simpa using this
theorem Blk.alloc (h : Blk w g t cs) (o : Obj) : Blk (w.alloc o) g t cs := (Br w o g h.lt).trans h
theorem Blk.drewN (h : Blk w g t cs) (n : Nat) : Blk (w.drewN n) g t cs := h
theorem Blk.drew (h : Blk w g t cs) : Blk w.drew g t cs := h
theorem Blk.set (h : Blk w g t cs) (i : Nat) (u : Value) : Blk (w.setCell ⟨g, i, none⟩ u) g t (cs.setIfInBounds i u) := by
 unfold Blk at h ⊢;simp [World.setCell, Array.getElem?_modify, h]
theorem Blk.far (h : Blk w g t cs) {p : Addr} (hp : g ≠ p.block) (u : Value) : Blk (w.setCell p u) g t cs := (AM w p u g hp).trans h
theorem Blk.below {B : Nat} (h : Blk w g t cs) (hb : Below B w w') (hg : g < B) : Blk w' g t cs := (hb.block g hg).trans h
theorem Blk.later (h : Blk w g t cs) (hb : Below w.heap.size w w') : Blk w' g t cs := h.below hb h.lt
theorem Blk.grown {row : Option Nat} (h : Blk w g t cs) (hb : w.grownBy w' row) (hg : some g ≠ row) : Blk w' g t cs := (hb.block g h.lt hg).trans h
end
structure A1 (w : World) where
 at_ : World
 below : Below w.heap.size w at_
instance (w : World) : Inhabited (A1 w) := ⟨⟨w, Below.refl _ _⟩⟩
theorem A1.cell {w : World} {b o : Nat} {v : Value} (h : w.cell? ⟨b, o, none⟩ = some v) (s : A1 w) : s.at_.cell? ⟨b, o, none⟩ = some v := by
 have hlt := Cr w _ h
 rw [s.below.cell (p := ⟨b, o, none⟩) hlt]; exact h
section
variable {P : Program}
theorem GQ {c : Code} {Q : Exit → Act → World → Prop} {a : Act} {w : World} (F : World → Prop) (hF : F w) (h : ∀ W, F W → c.wp P Q a W) : c.wp P Q a w := h w hF
theorem Ax {id : Nat} {Q : Exit → Act → World → Prop} {a : Act} {w : World} {l : List Oper} (hm : P.follows .mixedOrders = true) (hB : Region.lexB .any l.toArray = true)
  (h : wpQuiet P l.toArray (fun w' => ∃ s : A1 w, w' = s.at_) (fun a' => ∀ w', (∃ s : A1 w, w' = s.at_) → Q .normal a' w') l a) : (Code.region id l.toArray true).wp P Q a w :=
 wp_region_quiet (C := fun w' => ∃ s : A1 w, w' = s.at_) hm hB ⟨⟨w.drew, (Below.refl _ _).drew⟩, rfl⟩ ZS
theorem Be {f : FuncId} {args : Array Value} {w : World} {s : A1 w} {v : Value}
  (h : Calls P f args s.at_ fun e w' => e = .returned v ∧ Below s.at_.heap.size s.at_ w') : Calls P f args s.at_ fun e w'' => e = .returned v ∧ ∃ s' : A1 w, w'' = s'.at_ :=
 h.mono fun _ w' ⟨he, hb⟩ => ⟨he, ⟨w', s.below.trans (hb.mono s.below.size)⟩, rfl⟩
theorem Fi {f : FuncId} {args : Array Value} {w : World} {s : A1 w} {v : Value}
  (h : Calls P f args s.at_ fun e w' => e = .returned v ∧ s.at_ = w') : Calls P f args s.at_ fun e w'' => e = .returned v ∧ ∃ s' : A1 w, w'' = s'.at_ :=
 h.mono fun _ _ ⟨he, hb⟩ => ⟨he, s, hb.symm⟩
end
open Go.RowKit
structure Rp (α : Type) where
 r : (Nat → Prop) → World → List Value → α → Prop
 keep : ∀ {S : Nat → Prop} {w w' : World} {cs : List Value} {x : α}, r S w cs x → (∀ b, S b → w'.heap[b]? = w.heap[b]?) → r S w' cs x
 mono : ∀ {S S' : Nat → Prop} {w : World} {cs : List Value} {x : α}, r S w cs x → (∀ b, S b → S' b) → r S' w cs x
def GA (k : IntKind) : Rp Int := ⟨fun _ _ cs n => cs = [.int k n] ∧ (Lit.int k n).wf = true, fun h _ => h, fun h _ => h⟩
def Vf : Rp UInt8 := ⟨fun _ _ cs b => cs = [.int .u8 (b.toNat : Int)], fun h _ => h, fun h _ => h⟩
def En {α β : Type} (A : Rp α) (B : Rp β) : Rp (α × β) :=
  ⟨fun S w cs x => ∃ c d, cs = c ++ d ∧ A.r S w c x.1 ∧ B.r S w d x.2,
   fun ⟨c, d, h, h1, h2⟩ hk => ⟨c, d, h, A.keep h1 hk, B.keep h2 hk⟩, fun ⟨c, d, h, h1, h2⟩ hk => ⟨c, d, h, A.mono h1 hk, B.mono h2 hk⟩⟩
def rBy {α β : Type} (f : α → β) (B : Rp β) : Rp α := ⟨fun S w cs x => B.r S w cs (f x), fun h hk => B.keep h hk, fun h hk => B.mono h hk⟩
def V9 {α : Type} (sz : Nat) (A : Rp α) (S : Nat → Prop) (w : World) (b off : Nat) (xs : List α) : Prop :=
 S b ∧ ∀ i x, xs[i]? = some x → ∃ cs : List Value, cs.length = sz ∧ (∀ j v, cs[j]? = some v → w.cell? ⟨b, off + i * sz + j, none⟩ = some v) ∧ A.r S w cs x
def rSl {α : Type} (sz : Nat) (A : Rp α) : Rp (List α) :=
  ⟨fun S w cs xs => ∃ a c, cs = [.slice a xs.length c] ∧ xs.length ≤ c ∧ c ≤ maxLen ∧ (xs = [] ∨ ∃ b off, a = some ⟨b, off, none⟩ ∧ V9 sz A S w b off xs),
   fun ⟨a, c, h, h1, h2, h3⟩ hk => ⟨a, c, h, h1, h2, h3.imp id fun ⟨b, off, e, hb, hr⟩ => ⟨b, off, e, hb, fun i x hi =>
     let ⟨cs, hl, hc, hA⟩ := hr i x hi
     ⟨cs, hl, fun j v hj => (Bz (a := ⟨b, off + i * sz + j, none⟩) (hk b hb)).trans (hc j v hj), A.keep hA hk⟩⟩⟩,
   fun ⟨a, c, h, h1, h2, h3⟩ hk => ⟨a, c, h, h1, h2, h3.imp id fun ⟨b, off, e, hb, hr⟩ => ⟨b, off, e, hk b hb, fun i x hi =>
     let ⟨cs, hl, hc, hA⟩ := hr i x hi
     ⟨cs, hl, hc, A.mono hA hk⟩⟩⟩⟩
theorem Bh {α : Type} {sz : Nat} {A : Rp α} {S : Nat → Prop} {w : World} {cs : List Value} {xs : List α} {a : Option Addr} {c : Nat} (h : cs = [.slice a xs.length c]) (h1 : xs.length ≤ c) (h2 : c ≤ maxLen)
  (h3 : xs = [] ∨ ∃ b off, a = some ⟨b, off, none⟩ ∧ V9 sz A S w b off xs) : (rSl sz A).r S w cs xs := ⟨a, c, h, h1, h2, h3⟩
theorem Pj {α : Type} (n : Nat) (Q : Nat → α → Prop) (h : ∀ i, i < n → ∃ y, Q i y) : ∃ ys : List α, ys.length = n ∧ ∀ i y, ys[i]? = some y → Q i y := by
 induction n with
 | zero => exact ⟨[], rfl, fun i y h => by simp at h⟩
 | succ n ih =>
  obtain ⟨ys, h1, h2⟩ := ih fun i hi => h i zC
  obtain ⟨y, hy⟩ := h n zC
  refine ⟨ys ++ [y], by simp [h1], fun i z hz => ?_⟩
  rcases Bd i ys.length with hi | hi
  ·rw [Bq hi] at hz
   exact h2 i z hz
  ·rw [By hi] at hz
   have h0 : i - ys.length = 0 := by
    rcases Cz (i - ys.length) with h | h
    ·exact h
    ·rw [List.getElem?_eq_none zJ] at hz; cases hz
   rw [h0] at hz
   simp at hz
   subst hz;have : i = n := zC
   subst this;exact hy
theorem Rp.below {α : Type} (A : Rp α) {w w' : World} {B : Nat} {cs : List Value} {x : α} (h : A.r (· < B) w cs x) (hb : Below B w w') : A.r (· < B) w' cs x := A.keep h hb.block
section
variable {P : Program}
def EW (P : Program) (t : TypeId) {α : Type} (A : Rp α) : Prop :=
 ∀ {H : Type} (enc : TypeId × Value → H) (w : World) (fuel : Nat) (cs : List Value) (x : DataW H × List MemPlace), DataW.trod enc P w 0 (fun _ => true) true fuel t cs = some x → ∃ y, A.r (· < w.heap.size) w cs y
theorem JY {t : TypeId} {k : IntKind} (ht : P.underlying t = some (.int k)) : EW P t (GA k) := fun enc w fuel cs x h => by
 obtain ⟨n, rfl, _, hw⟩ := DataW.trod_int ht h
 exact ⟨n, rfl, hw⟩
theorem Qr {t : TypeId} (ht : P.underlying t = some (.int .u8)) : EW P t Vf := fun enc w fuel cs x h => by
 obtain ⟨n, rfl, _, hw⟩ := DataW.trod_int ht h
 have := bounds_u8 hw
 refine ⟨UInt8.ofNat n.toNat, ?_⟩
 show _ = _
 have e : ((UInt8.ofNat n.toNat).toNat : Int) = n := by
  simp [F6]; omega
 rw [e]
theorem Us {a : Addr} {b : Nat} {n : Nat} {v : Value} {w : World} (h : w.cell? (a.add n) = some v) : n = 0 → a.spot = none := by
 rintro rfl;unfold Addr.add at h;simp only [JG] at h
 unfold World.cell? at h;cases hs : a.spot with
 | none => rfl
 | some s =>
  rw [hs] at h
  split at h <;> simp at h
theorem FD {t e : TypeId} {sz : Nat} {α : Type} {A : Rp α} (ht : P.underlying t = some (.slice e)) (hs : P.cellsOf e = sz) (hsz : 0 < sz) (hA : EW P e A) : EW P t (rSl sz A) := fun enc w fuel cs x h => by
 rcases Deep.open_slice ht h with ⟨rfl, rfl⟩ | ⟨a, len, cap, m, n, D, Pl, rfl, hb, hl, hm, hmm, _, hel⟩
 ·exact ⟨[], Bh rfl (Ak _) (Aj _) (.inl rfl)⟩
 ·have hlm : len ≤ m := by simp at hmm; omega
  rw [hs] at hel
  have hy : ∀ i, i < len → ∃ y, ∃ cs' : List Value, cs'.length = sz ∧ (∀ j v, cs'[j]? = some v → w.cell? ((a.add (i * sz)).add j) = some v) ∧ A.r (· < w.heap.size) w cs' y := by
   intro i hi;obtain ⟨cs', hc, ht'⟩ := hel i zC
   obtain ⟨y, hy⟩ := hA enc w n cs' _ ht'
   obtain ⟨_, h1, h2⟩ := World.cells?_some hc
   exact ⟨y, cs', h1, fun j v hj => by
    have hj' : j < sz := by rw [← h1]; exact (List.getElem?_eq_some_iff.1 hj).1
    rw [h2 j hj']; exact hj, hy⟩
  by_cases h0 : len = 0
  ·subst h0
   exact ⟨[], Bh rfl (Aj _) hm (.inl rfl)⟩
  have hspot : a.spot = none := by
   obtain ⟨y, cs', h1, h2, _⟩ := hy 0 zC
   obtain ⟨v, hv⟩ : ∃ v, cs'[0]? = some v := ⟨cs'[0], AR zC⟩
   have := h2 0 v hv
   have e1 : (a.add (0 * sz)).add 0 = a.add 0 := by simp [Addr.add]
   rw [e1] at this
   exact Us (b := 0) this rfl
  obtain ⟨ys, hys⟩ : ∃ ys : List α, ys.length = len ∧ ∀ i y, ys[i]? = some y → ∃ cs' : List Value, cs'.length = sz ∧ (∀ j v, cs'[j]? = some v → w.cell? ((a.add (i * sz)).add j) = some v) ∧ A.r (· < w.heap.size) w cs' y := by
   exact Pj len _ hy
  obtain ⟨hlen, hys⟩ := hys
  refine ⟨ys, Bh (a := some a) (c := cap) (by rw [hlen]) zC hm (.inr ⟨a.block, a.off, by cases a; simp at hspot; rw [hspot], ?_, ?_⟩)⟩
  ·obtain ⟨y, cs', h1, h2, _⟩ := hy 0 zC
   obtain ⟨v, hv⟩ : ∃ v, cs'[0]? = some v := ⟨cs'[0], AR zC⟩
   have := Cr w _ (h2 0 v hv)
   simpa [Addr.add] using this
  ·intro i y hiy
   obtain ⟨cs', h1, h2, h3⟩ := hys i y hiy
   refine ⟨cs', h1, fun j v hj => ?_, h3⟩
   rw [← h2 j v hj]
   congr 1
   cases a with
   | mk ab ao asp =>
    simp at hspot
    subst hspot;unfold Addr.add;split <;> split <;> simp_all
theorem Fs {H : Type} {enc : TypeId × Value → H} {w : World} {fuel : Nat} {t : TypeId} {cs : List Value} {x : DataW H × List MemPlace} {fs : Array Field} (ht : P.underlying t = some (.struct fs)) (h : DataW.trod enc P w 0 (fun _ => true) true fuel t cs = some x) :
  cs.length = P.cellsOf t ∧ ∃ n, ∀ (i : Nat) (f : Field), fs[i]? = some f → ∃ y, DataW.trod enc P w 0 (fun _ => true) true n f.type ((cs.drop f.offset).take (P.cellsOf f.type)) = some y := by
 obtain ⟨xs, n, _, _, h1, h2, h3⟩ := DataW.trod_struct ht h
 refine ⟨h1, n, fun i f hf => ?_⟩
 have hi : i < fs.size := (Array.getElem?_eq_some_iff.1 hf).1
 rw [h3 i f hf, AR zC]
 exact ⟨_, rfl⟩
theorem Ea {α β : Type} {A : Rp α} {B : Rp β} {S : Nat → Prop} {w : World} {cs : List Value} {o s o' : Nat} {x : α} {y : β} (ho : o + s = o') (h1 : A.r S w ((cs.drop o).take s) x) (h2 : B.r S w (cs.drop o') y) : (En A B).r S w (cs.drop o) (x, y) :=
 ⟨_, _, by subst ho; rw [← List.drop_drop, EC], h1, h2⟩
theorem SA {β : Type} {B : Rp β} {S : Nat → Prop} {w : World} {cs : List Value} {o s : Nat} {y : β} (hl : cs.length = o + s) (h2 : B.r S w ((cs.drop o).take s) y) : B.r S w (cs.drop o) y := by
 rwa [CY zJ] at h2
end
open Go.RowKit
structure BM where
 stream : Int
 backs : List Int
structure Entry where
 links : List BM
 data : List UInt8
structure Batch where
 epoch : Int
 base : Int
 entries : List Entry
structure Seg where
 epoch : Int
 batches : List Batch
def AY : Rp (List Int) := rSl 1 (GA .u64)
def Ah : Rp (List UInt8) := rSl 1 Vf
def KI : Rp BM := rBy (fun l => (l.stream, l.backs)) (En (GA .u64) AY)
def BU : Rp (List BM) := rSl 2 KI
def Qi : Rp Entry := rBy (fun e => (e.links, e.data)) (En BU Ah)
def LG : Rp (List Entry) := rSl 2 Qi
def G9 : Rp Batch := rBy (fun b => (b.epoch, b.base, b.entries)) (En (GA .u64) (En (GA .u64) LG))
section
variable {S : Nat → Prop} {w : World} {cs : List Value}
theorem AN {α : Type} {sz : Nat} {A : Rp α} {xs : List α} (h : (rSl sz A).r S w cs xs) : ∃ a c, cs = [.slice a xs.length c] ∧ (rSl sz A).r S w [.slice a xs.length c] xs ∧ xs.length ≤ 9223372036854775807 := by
 obtain ⟨a, c, rfl, h1, h2, h3⟩ := h
 exact ⟨a, c, rfl, ⟨a, c, rfl, h1, h2, h3⟩, by unfold maxLen at h2; omega⟩
theorem AS {α : Type} {sz : Nat} {A : Rp α} {xs : List α} {a : Option Addr} {n c : Nat} (h : (rSl sz A).r S w [.slice a n c] xs) : n = xs.length ∧ xs.length ≤ 9223372036854775807 ∧ n ≤ c ∧ c ≤ 9223372036854775807 := by
 obtain ⟨a', c', e, h1, h2, h3⟩ := h
 simp at e
 obtain ⟨_, rfl, rfl⟩ := e
 exact ⟨rfl, by unfold maxLen at h2; omega, h1, h2⟩
theorem Ls {α : Type} {sz : Nat} {A : Rp α} {xs : List α} {a : Option Addr} {n c : Nat} (h : (rSl sz A).r S w [.slice a n c] xs) {i : Nat} (hi : i < xs.length) :
  ∃ b off, a = some ⟨b, off, none⟩ ∧ S b ∧ ∃ cs : List Value, cs.length = sz ∧ (∀ j v, cs[j]? = some v → w.cell? ⟨b, off + i * sz + j, none⟩ = some v) ∧ A.r S w cs xs[i] := by
 obtain ⟨a', c', e, h1, h2, h3⟩ := h
 simp at e
 obtain ⟨rfl, rfl, rfl⟩ := e
 rcases h3 with rfl | ⟨b, off, rfl, hS, hr⟩
 ·simp at hi
 ·obtain ⟨cs, hl, hc, hA⟩ := hr i xs[i] (AR hi)
  exact ⟨b, off, rfl, hS, cs, hl, hc, hA⟩
theorem QA {x : BM} (h : KI.r S w cs x) : ∃ a c, cs = [.int .u64 x.stream, .slice a x.backs.length c] ∧ (0 ≤ x.stream ∧ x.stream ≤ 18446744073709551615) ∧ AY.r S w [.slice a x.backs.length c] x.backs := by
 obtain ⟨c1, c2, rfl, ⟨rfl, hw⟩, h2⟩ := h
 obtain ⟨a, c, rfl, h3, _⟩ := AN h2
 exact ⟨a, c, rfl, G2 hw, h3⟩
theorem H5 {n : Int} (h : 0 ≤ n ∧ n ≤ 18446744073709551615) : (Lit.int .u64 n).wf = true := by
 simp [Lit.wf, IntKind.min, IntKind.max, IntKind.signed, IntKind.bits]; omega
theorem RE {x : BM} {a : Option Addr} {n c : Nat} (h0 : 0 ≤ x.stream ∧ x.stream ≤ 18446744073709551615) (h : AY.r S w [.slice a n c] x.backs) : KI.r S w [.int .u64 x.stream, .slice a n c] x := ⟨[_], [_], rfl, ⟨rfl, H5 h0⟩, h⟩
theorem Uq {x : Batch} {v : Value} (h0 : 0 ≤ x.epoch ∧ x.epoch ≤ 18446744073709551615) (h1 : 0 ≤ x.base ∧ x.base ≤ 18446744073709551615) (h : LG.r S w [v] x.entries) : G9.r S w [.int .u64 x.epoch, .int .u64 x.base, v] x :=
 ⟨[_], [_, _], rfl, ⟨rfl, H5 h0⟩, [_], [_], rfl, ⟨rfl, H5 h1⟩, h⟩
theorem Cw {xs : List Int} {a : Option Addr} {n c : Nat} (h : AY.r S w [.slice a n c] xs) {i : Nat} (hi : i < xs.length) : ∃ b off, a = some ⟨b, off, none⟩ ∧ S b ∧ w.cell? ⟨b, off + i, none⟩ = some (.int .u64 xs[i]) ∧ 0 ≤ xs[i] ∧ xs[i] ≤ 18446744073709551615 := by
 obtain ⟨b, off, e, hS, cs, _, hc, rfl, hw⟩ := Ls h hi
 have := hc 0 _ rfl
 rw [DA, BE] at this
 exact ⟨b, off, e, hS, this, G2 hw⟩
theorem CO {xs : List UInt8} {a : Option Addr} {n c : Nat} (h : Ah.r S w [.slice a n c] xs) {i : Nat} (hi : i < xs.length) : ∃ b off, a = some ⟨b, off, none⟩ ∧ S b ∧ w.cell? ⟨b, off + i, none⟩ = some (.int .u8 (xs[i].toNat : Int)) := by
 obtain ⟨b, off, e, hS, cs, _, hc, rfl⟩ := Ls h hi
 have := hc 0 _ rfl
 rw [DA, BE] at this
 exact ⟨b, off, e, hS, this⟩
theorem DE {xs : List BM} {a : Option Addr} {n c : Nat} (h : BU.r S w [.slice a n c] xs) {i : Nat} (hi : i < xs.length) : ∃ b off, a = some ⟨b, off, none⟩ ∧ S b ∧ ∃ a' c', w.cell? ⟨b, off + i * 2, none⟩ = some (.int .u64 xs[i].stream) ∧ w.cell? ⟨b, off + i * 2 + 1, none⟩ = some (.slice a' xs[i].backs.length c') ∧
  (0 ≤ xs[i].stream ∧ xs[i].stream ≤ 18446744073709551615) ∧ AY.r S w [.slice a' xs[i].backs.length c'] xs[i].backs := by
 obtain ⟨b, off, e, hS, cs, _, hc, hA⟩ := Ls h hi
 obtain ⟨a', c', rfl, h1, h2⟩ := QA hA
 exact ⟨b, off, e, hS, a', c', hc 0 _ rfl, hc 1 _ rfl, h1, h2⟩
end
theorem lift {α : Type} {A : Rp α} {w w' : World} {cs : List Value} {x : α} (h : A.r (· < w.heap.size) w cs x) (hb : Below w.heap.size w w') : A.r (· < w'.heap.size) w' cs x :=
 A.mono (A.below h hb) fun b hlt => Ai hlt hb.size
def epR (e : Int) : Bool := decide (1 ≤ e ∧ e < 4611686018427387904)
def poR (e : Int) : Bool := decide (e < 4611686018427387904)
def BW : Int → List Int → Bool
 | _, [] => true
 | b, x :: l => decide (x < b) && BW x l
def Ba : List Int → Bool
 | [] => true
 | [_] => true
 | x :: y :: l => decide (x < y) && Ba (y :: l)
def C3 (pos : Int) (x : BM) : Bool := decide (x.backs.length ≤ 4) && BW pos x.backs
def BK (pos : Int) (l : List BM) : Bool := decide (l.length ≤ 16) && (Ba (l.map BM.stream) && l.all (C3 pos))
end Go.Bs
namespace Go.Proofs.YtlbffbkbkajciaaGreat
open Go.RowKit Go.Bs
theorem FH (e : Int) (w : World) : Calls Tryz.prog 113 #[.int .u64 e] w fun r w' => r = .returned (.bool (epR e)) ∧ w = w' := by
 by_cases h1 : 1 ≤ e
 ·by_cases h2 : e < 4611686018427387904
  ·have : epR e = true := by simp [epR, h1, h2]
   rw [this]
   have d1 : decide (1 ≤ e) = true := zAe
   have d2 : decide (e < 4611686018427387904) = true := zBj
   clear this h1 h2;go_enter Tryz.func113, Tryz.ntmps113
   go_wp2;go_ret;exact ⟨rfl, rfl⟩
  ·have : epR e = false := by simp [epR, h2]
   rw [this]
   have d1 : decide (1 ≤ e) = true := zAe
   have d2 : decide (e < 4611686018427387904) = false := zBj
   clear this h1 h2;go_enter Tryz.func113, Tryz.ntmps113
   go_wp2;go_ret;exact ⟨rfl, rfl⟩
 ·have : epR e = false := by simp [epR, h1]
  rw [this]
  have d1 : decide (1 ≤ e) = false := zAe
  clear this h1;go_enter Tryz.func113, Tryz.ntmps113
  go_wp2;go_ret;exact ⟨rfl, rfl⟩
theorem Ki (e : Int) (w : World) : Calls Tryz.prog 82 #[.int .u64 e] w fun r w' => r = .returned (.bool (poR e)) ∧ w = w' := by
 go_enter Tryz.func82, Tryz.ntmps82
 go_wp2;go_ret;exact ⟨rfl, rfl⟩
theorem Ic (e : Int) (h0 : 0 ≤ e) (w : World) : Calls Tryz.prog 114 #[.int .u64 e] w fun r w' => r = .returned (.bool (epR e)) ∧ w = w' := by
 by_cases h1 : 0 < e
 ·by_cases h2 : e ≤ 4611686018427387903
  ·have : epR e = true := by simp [epR]; omega
   rw [this]
   have d1 : decide (0 < e) = true := zAe
   have d2 : decide (e ≤ 4611686018427387903) = true := zBj
   clear this h1 h2;go_enter Tryz.func114, Tryz.ntmps114
   go_wp2;go_ret;exact ⟨rfl, rfl⟩
  ·have : epR e = false := by simp [epR]; omega
   rw [this]
   have d1 : decide (0 < e) = true := zAe
   have d2 : decide (e ≤ 4611686018427387903) = false := zBj
   clear this h1 h2;go_enter Tryz.func114, Tryz.ntmps114
   go_wp2;go_ret;exact ⟨rfl, rfl⟩
 ·have : epR e = false := by simp [epR]; omega
  rw [this]
  have d1 : decide (0 < e) = false := zAe
  clear this h1;go_enter Tryz.func114, Tryz.ntmps114
  go_wp2;go_ret;exact ⟨rfl, rfl⟩
theorem Sj (e : Int) (w : World) : Calls Tryz.prog 89 #[.int .u64 e] w fun r w' => r = .returned (.bool (poR e)) ∧ w = w' := by
 have : poR e = decide (e ≤ 4611686018427387903) := by simp only [poR, decide_eq_decide]; omega
 rw [this]
 clear this;go_enter Tryz.func89, Tryz.ntmps89
 go_wp2;go_ret;exact ⟨rfl, rfl⟩
theorem LV : (Tryz.prog.info? 22).map (fun i => (i.zero, i.size, i.bytes)) = some (some (.int .u64 0), 1, 8) := zG
def BG : Int → List Int → List Int
 | _, [] => []
 | b, x :: l => (b - x - 1) :: BG x l
def ahead (b : Int) (l : List Int) (k : Nat) : Int := if k = 0 then b else l.getD (k - 1) 0
theorem ahead_zero (b : Int) (l : List Int) : ahead b l 0 = b := rfl
theorem Gv (b : Int) (l : List Int) (k : Nat) (h : k < l.length) : ahead b l (k + 1) = l[k] := by
 unfold ahead; rw [An zC]; simp [h]
def Ut (below : Int) (l : List Int) (w : World) (e : Ending) (w' : World) : Prop :=
 ∃ v, e = .returned (.tuple #[v, .bool (BW below l)]) ∧ AY.r (· < w'.heap.size) w' [v] (if BW below l then BG below l else []) ∧ Below w.heap.size w w'
theorem TL {w : World} {base : Nat} {e : TypeId} {v : Value} {xs : List Int} (h : w.ownsRow base e 1 v xs.length (xs.map (Value.int .u64))) (hb : ∀ x ∈ xs, 0 ≤ x ∧ x ≤ 18446744073709551615) (hm : xs.length ≤ maxLen) : AY.r (· < w.heap.size) w [v] xs := by
 rcases h.2 with ⟨rfl, h0⟩ | ⟨g, cap, cur, rfl, hbg, hg, hn, hc, hcur, hx⟩
 ·have : xs = [] := AT h0
  subst this;exact Bh rfl (Ak _) (Aj _) (.inl rfl)
 ·refine Bh rfl hn hc (.inr ⟨g, 0, rfl, Blk.lt hg, fun i x hi => ⟨[.int .u64 x], rfl, fun j v hj => ?_, rfl, H5 (hb x (List.mem_of_getElem? hi))⟩⟩)
  have hj0 : j = 0 := by
   rcases j with _ | j
   ·rfl
   ·simp at hj
  subst hj0;simp at hj
  subst hj;have hi' : i < xs.length := (List.getElem?_eq_some_iff.1 hi).1
  rw [A3, DA, BE, Blk.cell hg i]
  have e1 : cur[i]? = (cur.toList.take (xs.length * 1))[i]? := by
   rw [CR, Am zC]; simp
  rw [e1, hx, JL, hi]; rfl
theorem Sa (below : Int) (l : List Int) (a : Option Addr) (n c : Nat) (w : World) (hb0 : 0 ≤ below ∧ below ≤ 18446744073709551615) (hl : AY.r (· < w.heap.size) w [.slice a n c] l) (hlen : l.length ≤ 1000000000000) :
  Calls Tryz.prog 215 #[.int .u64 below, .slice a n c] w (Ut below l w) := by
 obtain ⟨rfl, hm, _, _⟩ := AS hl
 obtain ⟨i0, hi, hz0, hz1, hz2⟩ := A8 LV
 have HL := hid hl; clear hl
 go_enter Tryz.func215, Tryz.ntmps215
 go_wp2;go_loopw [0, 6, 11] (fun b v i wr => ∃ k : Nat, k ≤ l.length ∧ i = .int .i64 k ∧ b = .int .u64 (ahead below l k) ∧ 0 ≤ ahead below l k ∧ ahead below l k ≤ 18446744073709551615 ∧ Hid (BW below l = BW (ahead below l k) (l.drop k)) ∧
   (∃ xs : List Int, Hid (xs.length = k ∧ (∀ x ∈ xs, 0 ≤ x ∧ x ≤ 18446744073709551615) ∧ BG below l = xs ++ BG (ahead below l k) (l.drop k)) ∧ wr.ownsRow w.heap.size 22 1 v k (xs.map (Value.int .u64))) ∧ Below w.heap.size w wr) (fun _ _ i _ => l.length - (intOf i).toNat)
 case atStart => exact ⟨0, Aj _, rfl, rfl, hb0.1, hb0.2, hid rfl, ⟨[], hid ⟨rfl, zO, rfl⟩, ⟨rfl, .inl ⟨rfl, rfl⟩⟩⟩, Below.refl _ _⟩
 case round =>
  obtain ⟨k, hk, rfl, rfl, ha0, ha1, hf, ⟨xs, hxs, hown⟩, hb⟩ := hrel
  by_cases hlt : k < l.length
  ·obtain ⟨b, o, hA, hbb, hc, hx0, hx1⟩ := Cw HL.out hlt
   subst hA;have q := (hb.cell (p := ⟨b, o + k, none⟩) hbb).trans hc
   clear hc;have hd := hid (AW hlt)
   have hsu := hid (Gv below l k hlt)
   generalize hlk : l[k] = x at *
   clear hlk;generalize ahead below l k = p at *
   by_cases hge : p ≤ x
   ·have hff : Hid (BW below l = false) := by
     rw [hf.out, hd.out]; exact hid zBx
    go_wp2;go_ret2
    exact ⟨.slice none 0 0, zH, zBm, hb⟩
   ·have hbs := hb.size
    have w1 : 0 ≤ p - x := zC
    have w2 : 0 ≤ p - x - 1 := zC
    go_wp2_with (at_builtin; refine wpList_append_lies _ rfl _ _ _ rfl w.heap.size 22 i0 (.int .u64 0) 1 8 CK hi hz0 hz1 hz2 rfl zP _ k _ rfl (hown.alloc _) ⟨wr.heap.size, 0, none⟩ 1 1 [.int .u64 (p - x - 1)] rfl rfl (World.news_of_block (Blk.new _ _ _)) ZG zP zK zC zJ _ rfl ?_; intro g1 cap1 w1' hown1 hgrow1 hat1 hlt1)
    go_roundw
    case rel =>
     refine ⟨k + 1, zC, zV, by rw [hsu.out], by rw [hsu.out]; exact hx0, by rw [hsu.out]; exact hx1, ?_, ⟨xs ++ [p - x - 1], ?_, ?_⟩, ?_⟩
     ·rw [hf.out, hd.out, hsu.out]
      exact hid zB4
     ·refine hid ⟨by simp [hxs.out.1], ?_, ?_⟩
      ·intro y hy
       rw [Ed, Dg] at hy
       rcases hy with hy | rfl
       ·exact hxs.out.2.1 y hy
       ·omega
      ·rw [hsu.out, hxs.out.2.2, hd.out]
       simp [BG]
     ·rw [CS]; exact hown1
     ·refine Below.grown ?_ hgrow1 zJ (fun g e => (hown.lt g e).1)
      exact hb.alloc hbs _
    case measure => simp [intOf]; omega
  ·obtain rfl : k = l.length := by omega
   have hff : Hid (BW below l = true) := by
    rw [hf.out, K4]; exact hid rfl
   have hxl := hxs.out.1
   have hst : Hid (BG below l = xs) := hid zCi
   have hv : AY.r (· < wr.heap.size) wr [u6] xs := TL (by rw [hxl]; exact hown) hxs.out.2.1 (by unfold maxLen; omega)
   have HV := hid hv; clear hv hxl
   go_wp2;go_ret2
   exact ⟨u6, zH, zCk, hb⟩
theorem Pd (below : Int) (l : List Int) (a : Option Addr) (n c : Nat) (w : World) (hb0 : 0 ≤ below ∧ below ≤ 18446744073709551615) (hl : AY.r (· < w.heap.size) w [.slice a n c] l) (hlen : l.length ≤ 1000000000000) :
  Calls Tryz.prog 159 #[.int .u64 below, .slice a n c] w fun r w' => r = .returned (.bool (BW below l)) ∧ Below w.heap.size w w' := by
 have HL := hid hl; clear hl
 go_enter Tryz.func159, Tryz.ntmps159
 go_wp2_with fail;refine (Sa below l a n c _ hb0 HL.out hlen).mono ?_
 rintro e w1 ⟨v, rfl, _, hb1⟩;go_wp2;go_ret;exact ⟨rfl, hb1⟩
theorem Ov (below : Int) (l : List Int) (a : Option Addr) (n c : Nat) (w : World) (hl : AY.r (· < w.heap.size) w [.slice a n c] l) :
  Calls Tryz.prog 163 #[.int .u64 below, .slice a n c] w fun r w' => r = .returned (.bool (BW below l)) ∧ Below w.heap.size w w' := by
 obtain ⟨rfl, hm, _, _⟩ := AS hl
 have HL := hid hl; clear hl
 go_enter Tryz.func163, Tryz.ntmps163
 go_wp2;go_loopw [5] (fun i wr => ∃ k : Nat, k ≤ l.length ∧ i = .int .i64 k ∧ Hid (BW below l = BW (ahead below l k) (l.drop k)) ∧ Below w.heap.size w wr) (fun i _ => l.length - (intOf i).toNat)
 case atStart => exact ⟨0, Aj _, rfl, hid rfl, Below.refl _ _⟩
 case round =>
  obtain ⟨k, hk, rfl, hf, hb⟩ := hrel
  by_cases hlt : k < l.length
  ·obtain ⟨b, o, hA, hbb, hc, hx0, hx1⟩ := Cw HL.out hlt
   have hd := hid (AW hlt)
   have hsu := hid (Gv below l k hlt)
   have hlt' : (k : Int) < (l.length : Int) := zC
   rcases k with _ | m
   ·subst hA
    have X0 := fun s : A1 wr => s.cell ((hb.cell (p := ⟨b, o + 0, none⟩) hbb).trans hc)
    simp only [BE] at X0
    clear hc;generalize hlk : l[0] = x at *
    clear hlk;rw [ahead_zero] at hf
    by_cases hge : below ≤ x
    ·have d1 : decide (below ≤ x) = true := by simpa using hge
     have hff : Hid (BW below l = false) := by
      rw [hf.out, hd.out]; exact hid zBx
     clear hge;go_wp2_with fail;refine Ax zG zG ?_
     repeat (go_big_quiet_step (fail))
     refine AL ?_
     rintro W5 ⟨⟨W5', hb5⟩, rfl⟩;go_wp2;go_ret;exact ⟨zH, Af hb5 hb⟩
    ·have d1 : decide (below ≤ x) = false := by simpa using hge
     clear hge;have hlt2 : x < below := by simpa using d1
     go_wp2_with fail;refine Ax zG zG ?_
     repeat (go_big_quiet_step (fail))
     refine AL ?_
     rintro W5 ⟨⟨W5', hb5⟩, rfl⟩;go_wp2;go_roundw
     case rel =>
      refine ⟨1, zC, rfl, ?_, Af hb5 hb⟩
      rw [hsu.out, hf.out, hd.out]
      exact hid zCh
     case measure => simp [intOf]; omega
   ·obtain ⟨b', o', hA', hbb', hc', _, _⟩ := Cw HL.out (show m < l.length by omega)
    have hp := hid (Gv below l m zC)
    subst hA;obtain ⟨rfl, rfl⟩ : b' = b ∧ o' = o := zAx
    clear hA';have X0 := fun s : A1 wr => s.cell ((hb.cell (p := ⟨b', o' + (m + 1), none⟩) hbb).trans hc)
    have X1 := fun s : A1 wr => s.cell ((hb.cell (p := ⟨b', o' + m, none⟩) hbb).trans hc')
    clear hc hc';generalize hlk : l[m + 1] = x at *
    generalize hlm : l[m] = y at *
    clear hlk hlm;rw [hp.out] at hf
    rw [show ((m + 1 : Nat) : Int) = (m : Int) + 1 from zC]
    have k0 : ((m : Int) + 1 == 0) = false := zJ
    have k1 : (0 : Int) < (m : Int) + 1 := zC
    have k2 : (0 : Int) ≤ (m : Int) + 1 - 1 := zC
    have k3 : (m : Int) + 1 < (l.length : Int) := zC
    by_cases hge : y ≤ x
    ·have d1 : decide (y ≤ x) = true := by simpa using hge
     have hff : Hid (BW below l = false) := by
      rw [hf.out, hd.out]; exact hid zBx
     clear hge;go_wp2_with fail;refine Ax zG zG ?_
     repeat (go_big_quiet_step (fail))
     refine AL ?_
     rintro W5 ⟨⟨W5', hb5⟩, rfl⟩;go_wp2;go_ret;exact ⟨zH, Af hb5 hb⟩
    ·have d1 : decide (y ≤ x) = false := by simpa using hge
     clear hge;have hlt2 : x < y := by simpa using d1
     go_wp2_with fail;refine Ax zG zG ?_
     repeat (go_big_quiet_step (fail))
     refine AL ?_
     rintro W5 ⟨⟨W5', hb5⟩, rfl⟩;go_wp2;go_roundw
     case rel =>
      refine ⟨m + 1 + 1, zC, zV, ?_, Af hb5 hb⟩
      rw [hsu.out, hf.out, hd.out]
      exact hid zCh
     case measure => simp [intOf]; omega
  ·obtain rfl : k = l.length := by omega
   have hff : Hid (BW below l = true) := by
    rw [hf.out, K4]; exact hid rfl
   go_wp2;go_ret;exact ⟨zH, hb⟩
end Go.Proofs.YtlbffbkbkajciaaGreat
namespace Go.Bs
open Go.RowKit
deriving instance DecidableEq for BM, Entry, Batch, Seg
theorem IC {P : Program} {S : Nat → Prop} {w : World} {a : Option Addr} {n c : Nat} {l : List UInt8} (src dst e : TypeId) (hs : P.underlying src = some (.slice e)) (he : P.underlying e = some (.int .u8)) (hd : P.underlying dst = some .string)
  (h : Ah.r S w [.slice a n c] l) : (convert src dst (.slice a l.length c)).run P w = .ok (.string ⟨l.toArray⟩) w := by
 obtain ⟨rfl, _, _, _⟩ := AS h
 rcases a with _ | ad
 ·have h0 : l = [] := by
   rcases l with _ | ⟨x, l⟩
   ·rfl
   ·obtain ⟨b, off, e, _⟩ := CO h (i := 0) zO
    cases e
  subst h0;exact run_convert_bytes_nil w src e hs he _ _ dst hd
 ·refine run_convert_bytes_back w src dst e ad c l hs he hd fun j hj => ?_
  obtain ⟨b, off, e, _, hc⟩ := CO h hj
  simp at e
  subst e;rw [← hc]
  congr 1
  unfold Addr.add;split
  ·rename_i h0; subst h0; rfl
  ·rfl
end Go.Bs
namespace Go.Proofs.YtlbffbkbkajciaaGreat
open Go.RowKit Go.Bs
theorem G7 (x y : List UInt8) (a a' : Option Addr) (n c n' c' : Nat) (w : World) (hx : Ah.r (· < w.heap.size) w [.slice a n c] x) (hy : Ah.r (· < w.heap.size) w [.slice a' n' c'] y) :
  Calls Tryz.prog 18 #[.slice a n c, .slice a' n' c'] w fun r w' => r = .returned (.bool (decide (x = y))) ∧ w = w' := by
 obtain ⟨rfl, _, _, _⟩ := AS hx
 obtain ⟨rfl, _, _, _⟩ := AS hy
 have h1 := IC (P := Tryz.prog) 25 9 5 As Tryz.underlying5 Tryz.underlying9 hx
 have h2 := IC (P := Tryz.prog) 25 9 5 As Tryz.underlying5 Tryz.underlying9 hy
 have he : (x == y) = decide (x = y) := by
  by_cases h : x = y
  ·simp [h]
  ·simp [h]
 have HE := hid he; clear he hx hy
 go_enter Tryz.func18, Tryz.ntmps18
 go_wp2;go_ret;refine ⟨?_, rfl⟩
 rw [← HE.out]
 simp [go_sem]
theorem F0 {α : Type} [DecidableEq α] (x y : List α) (k : Nat) (hx : k < x.length) (hy : k < y.length) : decide (x.drop k = y.drop k) = (decide (x[k] = y[k]) && decide (x.drop (k + 1) = y.drop (k + 1))) := by
 rw [AW hx, AW hy, EM, decide_eq_true_iff, Ao, decide_eq_true_iff, decide_eq_true_iff, Au]
theorem JU (x y : List Int) (a a' : Option Addr) (n c n' c' : Nat) (w : World) (hx : AY.r (· < w.heap.size) w [.slice a n c] x) (hy : AY.r (· < w.heap.size) w [.slice a' n' c'] y) :
  Calls Tryz.prog 99 #[.slice a n c, .slice a' n' c'] w fun r w' => r = .returned (.bool (decide (x = y))) ∧ Below w.heap.size w w' := by
 obtain ⟨rfl, hm, _, _⟩ := AS hx
 obtain ⟨rfl, hm', _, _⟩ := AS hy
 by_cases hl : x.length = y.length
 ·have HX := hid hx; clear hx
  have HY := hid hy; clear hy
  have HL := hid hl
  have e1 : ((x.length : Int) != (y.length : Int)) = false := by simp [hl]
  clear hl;go_enter Tryz.func99, Tryz.ntmps99
  go_wp2;go_loopw [5] (fun i wr => ∃ k : Nat, k ≤ x.length ∧ i = .int .i64 k ∧ Hid (decide (x = y) = decide (x.drop k = y.drop k)) ∧ Below w.heap.size w wr) (fun i _ => x.length - (intOf i).toNat)
  case atStart => exact ⟨0, Aj _, rfl, hid rfl, Below.refl _ _⟩
  case round =>
   obtain ⟨k, hk, rfl, hf, hb⟩ := hrel
   by_cases hlt : k < x.length
   ·have hlt' : k < y.length := by rw [← HL.out]; exact hlt
    obtain ⟨b, o, hA, hbb, hc, _, _⟩ := Cw HX.out hlt
    obtain ⟨b', o', hA', hbb', hc', _, _⟩ := Cw HY.out hlt'
    have hst := hid (F0 x y k hlt hlt')
    subst hA hA';have X0 := fun s : A1 wr => s.cell ((hb.cell (p := ⟨b, o + k, none⟩) hbb).trans hc)
    have X1 := fun s : A1 wr => s.cell ((hb.cell (p := ⟨b', o' + k, none⟩) hbb').trans hc')
    clear hc hc';generalize hlk : x[k] = u at *
    generalize hlm : y[k] = v at *
    clear hlk hlm;have i0 : (0 : Int) ≤ (k : Int) := zC
    have i1 : (k : Int) < (x.length : Int) := zC
    have i2 : (k : Int) < (y.length : Int) := zC
    by_cases huv : u = v
    ·have d1 : (u != v) = false := by simp [huv]
     have hst' : Hid (decide (x.drop k = y.drop k) = decide (x.drop (k + 1) = y.drop (k + 1))) := hid zBk
     clear huv;go_wp2_with fail;refine Ax zG zG ?_
     repeat (go_big_quiet_step (fail))
     refine AL ?_
     rintro W5 ⟨⟨W5', hb5⟩, rfl⟩;go_wp2;go_roundw
     case rel => exact ⟨k + 1, zC, zV, hid zAa, Af hb5 hb⟩
     case measure => simp [intOf]; omega
    ·have d1 : (u != v) = true := by simp [huv]
     have hff : Hid (decide (x = y) = false) := hid zAv
     clear huv;go_wp2_with fail;refine Ax zG zG ?_
     repeat (go_big_quiet_step (fail))
     refine AL ?_
     rintro W5 ⟨⟨W5', hb5⟩, rfl⟩;go_wp2;go_ret;exact ⟨zH, Af hb5 hb⟩
   ·obtain rfl : k = x.length := by omega
    have hff : Hid (decide (x = y) = true) := hid ZB
    go_wp2;go_ret;exact ⟨zH, hb⟩
 ·have hff : Hid (decide (x = y) = false) := hid (by simp; rintro rfl; exact hl rfl)
  have e1 : ((x.length : Int) != (y.length : Int)) = true := zJ
  clear hl hx hy;go_enter Tryz.func99, Tryz.ntmps99
  go_wp2;go_ret;exact ⟨zH, Below.refl _ _⟩
def CW (l : List Int) (k : Nat) : Bool := if k = 0 then Ba l else Ba (l.drop (k - 1))
theorem GF (l : List Int) : CW l 1 = CW l 0 := by simp [CW]
theorem FU (l : List Int) (m : Nat) (h : m + 1 < l.length) : CW l (m + 1) = (decide (l[m] < l[m + 1]) && CW l (m + 2)) := by
 have e1 : l.drop m = l[m] :: l[m + 1] :: l.drop (m + 2) := by
  rw [AW (show m < l.length by omega), AW h]
 have e2 : l.drop (m + 1) = l[m + 1] :: l.drop (m + 2) := AW h
 show Ba (l.drop m) = (_ && Ba (l.drop (m + 1)))
 rw [e1, e2]; rfl
theorem GG (l : List Int) : CW l l.length = true := by
 unfold CW;split
 ·rename_i h; rw [AT h]; rfl
 ·rename_i h
  have e : l.drop (l.length - 1) = [l[l.length - 1]] := by
   rw [AW (show l.length - 1 < l.length by omega), List.drop_of_length_le zC]
  rw [e]; rfl
theorem KN (s : Int) (v : Value) (h1 : v.oneCell' = true) (w : World) : Calls Tryz.prog 157 #[.agg #[.int .u64 s, v]] w fun r w' => r = .returned (.int .u64 s) ∧ Below w.heap.size w w' := by
 go_enter Tryz.func157, Tryz.ntmps157
 go_wp2;go_ret;exact ⟨rfl, zB⟩
theorem Qx (l : List BM) (a : Option Addr) (n c : Nat) (w : World) (hl : BU.r (· < w.heap.size) w [.slice a n c] l) :
  Calls Tryz.prog 156 #[.slice a n c, .func (.func 157) #[] #[]] w fun r w' => r = .returned (.bool (Ba (l.map BM.stream))) ∧ Below w.heap.size w w' := by
 obtain ⟨rfl, hm, _, _⟩ := AS hl
 have HL := hid hl; clear hl
 go_enter Tryz.func156, Tryz.ntmps156
 go_wp2;go_loopw [8] (fun i wr => ∃ k : Nat, k ≤ l.length ∧ i = .int .i64 k ∧ Hid (Ba (l.map BM.stream) = CW (l.map BM.stream) k) ∧ Below w.heap.size w wr) (fun i _ => l.length - (intOf i).toNat)
 case atStart => exact ⟨0, Aj _, rfl, hid rfl, Below.refl _ _⟩
 case round =>
  obtain ⟨k, hk, rfl, hf, hb⟩ := hrel
  by_cases hlt : k < l.length
  ·obtain ⟨b, o, hA, hbb, a1, c1, hc0, hc1, _, _⟩ := DE HL.out hlt
   have hlt' : (k : Int) < (l.length : Int) := zC
   rcases k with _ | m
   ·have h1 := hid (GF (l.map BM.stream))
    go_wp2_with fail;refine Ax zG zG ?_
    repeat (go_big_quiet_step (fail))
    refine AL ?_
    rintro W5 ⟨⟨W5', hb5⟩, rfl⟩;go_wp2;go_roundw
    case rel => exact ⟨1, zC, rfl, hid (by rw [hf.out, h1.out]), Af hb5 hb⟩
    case measure => simp [intOf]; omega
   ·obtain ⟨b', o', hA', hbb', a2, c2, hd0, hd1, _, _⟩ := DE HL.out (show m < l.length by omega)
    have hst := hid (FU (l.map BM.stream) m (by simpa using hlt))
    subst hA;obtain ⟨rfl, rfl⟩ : b' = b ∧ o' = o := zAx
    clear hA';have X0 := fun s : A1 wr => s.cell ((hb.cell (p := ⟨b', o' + (m + 1) * 2, none⟩) hbb).trans hc0)
    have X1 := fun s : A1 wr => s.cell ((hb.cell (p := ⟨b', o' + (m + 1) * 2 + 1, none⟩) hbb).trans hc1)
    have Y0 := fun s : A1 wr => s.cell ((hb.cell (p := ⟨b', o' + m * 2, none⟩) hbb).trans hd0)
    have Y1 := fun s : A1 wr => s.cell ((hb.cell (p := ⟨b', o' + m * 2 + 1, none⟩) hbb).trans hd1)
    clear hc0 hc1 hd0 hd1;simp only [List.getElem_map] at hst
    generalize l[m + 1].stream = x at *
    generalize l[m].stream = y at *
    generalize l[m + 1].backs.length = n1 at *
    generalize l[m].backs.length = n2 at *
    rw [show ((m + 1 : Nat) : Int) = (m : Int) + 1 from zC]
    have k1 : (0 : Int) < (m : Int) + 1 := zC
    have k2 : (0 : Int) ≤ (m : Int) + 1 - 1 := zC
    have k3 : (m : Int) + 1 < (l.length : Int) := zC
    have k4 : (m : Int) < (l.length : Int) := zC
    by_cases hge : x ≤ y
    ·have d1 : decide (x ≤ y) = true := by simpa using hge
     have hff : Hid (Ba (l.map BM.stream) = false) := hid (by rw [hf.out, hst.out]; simp; omega)
     clear hge;go_wp2_with fail;refine Ax zG zG ?_
     repeat (go_big_quiet_step (((go_at_call 157; exact Be (KN _ _ rfl _)))))
     refine AL ?_
     rintro W5 ⟨⟨W5', hb5⟩, rfl⟩;go_wp2;go_ret;exact ⟨zH, Af hb5 hb⟩
    ·have d1 : decide (x ≤ y) = false := by simpa using hge
     have hst' : Hid (CW (l.map BM.stream) (m + 1) = CW (l.map BM.stream) (m + 2)) := hid Z7
     clear hge;go_wp2_with fail;refine Ax zG zG ?_
     repeat (go_big_quiet_step (((go_at_call 157; exact Be (KN _ _ rfl _)))))
     refine AL ?_
     rintro W5 ⟨⟨W5', hb5⟩, rfl⟩;go_wp2;go_roundw
     case rel => exact ⟨m + 2, zC, zV, hid zAa, Af hb5 hb⟩
     case measure => simp [intOf]; omega
  ·obtain rfl : k = l.length := by omega
   have hff : Hid (Ba (l.map BM.stream) = true) := hid (by
    have := GG (l.map BM.stream)
    rw [List.length_map] at this
    rw [hf.out, this])
   go_wp2;go_ret;exact ⟨zH, hb⟩
theorem Qv (pos : Int) (x : BM) (a : Option Addr) (n c : Nat) (blk : Nat) (w : World) (hpos : 0 ≤ pos ∧ pos ≤ 18446744073709551615) (hx : AY.r (· < w.heap.size) w [.slice a n c] x.backs) (hlen : x.backs.length ≤ 1000000000000)
  (hc : w.cell? ⟨blk, 0, none⟩ = some (.int .u64 pos)) :
  Calls Tryz.prog 158 #[.agg #[.int .u64 x.stream, .slice a n c], .pointer (some ⟨blk, 0, none⟩)] w fun r w' => r = .returned (.bool (!C3 pos x)) ∧ Below w.heap.size w w' := by
 obtain ⟨rfl, hm, _, _⟩ := AS hx
 have hlt := Cr w _ hc
 have X0 := (A1.mk _ ((Below.refl w.heap.size w).alloc (Ak _) (.cells #[.int .u64 x.stream, .slice a x.backs.length c] 151))).cell hc
 by_cases h4 : 4 < x.backs.length
 ·have hff : C3 pos x = false := by simp [C3]; omega
  rw [hff]
  clear hff hx hc;go_enter Tryz.func158, Tryz.ntmps158
  go_wp2;go_ret;exact ⟨rfl, zB⟩
 ·have hff : C3 pos x = BW pos x.backs := by simp only [C3]; rw [Ae zC]; rfl
  rw [hff]
  have d4 : decide (4 < (x.backs.length : Int)) = false := zJ
  have HX := hid hx; clear hx hff
  go_enter Tryz.func158, Tryz.ntmps158
  go_wp2_with fail;refine (Pd pos x.backs _ _ _ _ hpos (lift HX.out zB) hlen).mono ?_
  rintro e w1 ⟨rfl, hb1⟩;go_wp2;go_ret;exact ⟨rfl, zB⟩
theorem Ln {α : Type} (p : α → Bool) (l : List α) (k : Nat) (h : k < l.length) : (l.drop k).takeWhile p = if p l[k] then l[k] :: (l.drop (k + 1)).takeWhile p else [] := by
 rw [AW h, List.takeWhile_cons]
theorem Mm {α : Type} (p : α → Bool) (l : List α) : decide ((l.takeWhile p).length = l.length) = l.all p := by
 induction l with
 | nil => rfl
 | cons x l ih =>
  rw [List.takeWhile_cons, List.all_cons]
  cases h : p x
  ·simp
  ·simp only [JG, AQ, Nat.add_right_cancel_iff, Ce]; exact ih
theorem Qy (pos : Int) (l : List BM) (a : Option Addr) (n c : Nat) (blk : Nat) (w : World) (hpos : 0 ≤ pos ∧ pos ≤ 18446744073709551615) (hl : BU.r (· < w.heap.size) w [.slice a n c] l) (hbk : ∀ x ∈ l, x.backs.length ≤ 1000000000000)
  (hc : w.cell? ⟨blk, 0, none⟩ = some (.int .u64 pos)) :
  Calls Tryz.prog 160 #[.slice a n c, .func (.func 158) #[] #[.pointer (some ⟨blk, 0, none⟩)]] w fun r w' => r = .returned (.int .i64 ((l.takeWhile (C3 pos)).length : Nat)) ∧ Below w.heap.size w w' := by
 obtain ⟨rfl, hm, _, _⟩ := AS hl
 have HL := hid hl; clear hl
 have HB := hid hbk; clear hbk
 have hblk := Cr w _ hc
 have HC := hid hc; clear hc
 go_enter Tryz.func160, Tryz.ntmps160
 go_wp2;go_loopw [9] (fun i wr => ∃ k : Nat, k ≤ l.length ∧ i = .int .i64 k ∧ Hid ((l.takeWhile (C3 pos)).length = k + ((l.drop k).takeWhile (C3 pos)).length) ∧ Below w.heap.size w wr) (fun i _ => l.length - (intOf i).toNat)
 case atStart => exact ⟨0, Aj _, rfl, hid zO, Below.refl _ _⟩
 case round =>
  obtain ⟨k, hk, rfl, hf, hb⟩ := hrel
  by_cases hlt : k < l.length
  ·obtain ⟨b, o, hA, hbb, a1, c1, hc0, hc1, _, hbs⟩ := DE HL.out hlt
   subst hA;have X0 := (hb.cell (p := ⟨b, o + k * 2, none⟩) hbb).trans hc0
   have X1 := (hb.cell (p := ⟨b, o + k * 2 + 1, none⟩) hbb).trans hc1
   clear hc0 hc1;have hbl := HB.out _ (Bl hlt)
   have hst := hid (Ln (C3 pos) l k hlt)
   have HBS := hid hbs; clear hbs
   generalize hlk : l[k] = x at *
   clear hlk;have hzz := hb.size
   go_wp2_with fail;refine (Qv pos x _ _ _ blk _ hpos (lift HBS.out zB) hbl ?_).mono ?_
   ·have := (A1.mk wr hb).cell HC.out
    exact (A1.mk _ ((Below.refl wr.heap.size wr).alloc (Ak _) _)).cell this
   rintro e w1 ⟨rfl, hb1⟩;have hb2 : Below w.heap.size w w1 := zB
   cases hr : C3 pos x
   ·have hff : Hid ((l.takeWhile (C3 pos)).length = k) := hid (by rw [hf.out, hst.out, hr]; simp)
    clear hr;go_wp2;go_ret;exact ⟨zH, hb2⟩
   ·have hff : Hid ((l.takeWhile (C3 pos)).length = (k + 1) + ((l.drop (k + 1)).takeWhile (C3 pos)).length) := hid (by rw [hf.out, hst.out, hr]; simp; omega)
    clear hr;go_wp2;go_roundw
    case rel => exact ⟨k + 1, zC, zV, hff, hb2⟩
    case measure => simp [intOf]; omega
  ·obtain rfl : k = l.length := by omega
   have hff : Hid ((l.takeWhile (C3 pos)).length = l.length) := hid (by rw [hf.out, K4]; simp)
   go_wp2;go_ret;exact ⟨zH, hb⟩
theorem LQ (pos : Int) (l : List BM) (a : Option Addr) (n c : Nat) (w : World) (hpos : 0 ≤ pos ∧ pos ≤ 18446744073709551615) (hl : BU.r (· < w.heap.size) w [.slice a n c] l) (hbk : ∀ x ∈ l, x.backs.length ≤ 1000000000000) :
  Calls Tryz.prog 85 #[.int .u64 pos, .slice a n c] w fun r w' => r = .returned (.bool (BK pos l)) ∧ Below w.heap.size w w' := by
 obtain ⟨rfl, hm, _, _⟩ := AS hl
 have HL := hid hl; clear hl
 have HB := hid hbk; clear hbk
 by_cases h16 : 16 < l.length
 ·have hff : Hid (BK pos l = false) := hid (by simp [BK]; omega)
  go_enter Tryz.func85, Tryz.ntmps85
  go_wp2;go_ret;exact ⟨zH, zB⟩
 ·have hff : Hid (BK pos l = (Ba (l.map BM.stream) && l.all (C3 pos))) := hid zB3
  have hta := hid (Mm (C3 pos) l)
  go_enter Tryz.func85, Tryz.ntmps85
  go_wp2_with fail;refine (Qx l _ _ _ _ (lift HL.out zB)).mono ?_
  rintro e w1 ⟨rfl, hb1⟩;have hb2 : Below w.heap.size w w1 := zB
  cases hr : Ba (l.map BM.stream)
  ·have hf2 : Hid (BK pos l = false) := hid (by rw [hff.out, hr]; rfl)
   clear hr;go_wp2;go_ret;exact ⟨by rw [hf2.out]; rfl, hb2⟩
  ·have hf2 : Hid (BK pos l = l.all (C3 pos)) := hid (by rw [hff.out, hr]; rfl)
   clear hr;go_wp2_with fail;refine (Qy pos l _ _ _ w.heap.size _ hpos (lift HL.out hb2) HB.out ?_).mono ?_
   ·exact (A1.mk w1 hb1).cell (by go_simp)
   rintro e w3 ⟨rfl, hb3⟩;have hlt := (List.takeWhile_sublist (l := l) (C3 pos)).length_le
   generalize hg : (l.takeWhile (C3 pos)).length = t at *
   have hg' := hid hg; clear hg
   go_wp2;go_ret;refine ⟨?_, zB⟩
   rw [hf2.out, ← hta.out]
   by_cases h : t = l.length
   ·subst h; simp
   ·have : ¬ ((t : Int) = (l.length : Int)) := by omega
    simp [h, this]
theorem Oq (pos : Int) (l : List BM) (a : Option Addr) (n c : Nat) (w : World) (hl : BU.r (· < w.heap.size) w [.slice a n c] l) :
  Calls Tryz.prog 92 #[.int .u64 pos, .slice a n c] w fun r w' => r = .returned (.bool (BK pos l)) ∧ Below w.heap.size w w' := by
 obtain ⟨rfl, hm, _, _⟩ := AS hl
 have HL := hid hl; clear hl
 by_cases h16 : 16 < l.length
 ·have hff : Hid (BK pos l = false) := hid (by simp [BK]; omega)
  go_enter Tryz.func92, Tryz.ntmps92
  go_wp2;go_ret;exact ⟨zH, zB⟩
 ·have hff : Hid (BK pos l = (Ba (l.map BM.stream) && l.all (C3 pos))) := hid zB3
  go_enter Tryz.func92, Tryz.ntmps92
  go_wp2_with fail;go_loopw [5] (fun i wr => ∃ k : Nat, k ≤ l.length ∧ i = .int .i64 k ∧ Hid (BK pos l = (CW (l.map BM.stream) k && (l.drop k).all (C3 pos))) ∧ Below w.heap.size w wr) (fun i _ => l.length - (intOf i).toNat)
  case atStart => exact ⟨0, Aj _, rfl, hid zH, Below.refl _ _⟩
  case round =>
   obtain ⟨k, hk, rfl, hf, hb⟩ := hrel
   clear hff;by_cases hlt : k < l.length
   ·obtain ⟨b, o, hA, hbb, a1, c1, hc0, hc1, _, hbs⟩ := DE HL.out hlt
    have hlt' : (k : Int) < (l.length : Int) := zC
    have hlR : C3 pos l[k] = (decide (l[k].backs.length ≤ 4) && BW pos l[k].backs) := rfl
    have hdr := hid (show (l.drop k).all (C3 pos) = (C3 pos l[k] && (l.drop (k + 1)).all (C3 pos)) by rw [AW hlt]; rfl)
    obtain ⟨z, hz⟩ : ∃ z, l[k] = z := ⟨_, rfl⟩
    rw [hz] at hc0 hc1 hbs hlR hdr
    have HZ := hid hz; clear hz
    have HBS := hid (lift hbs hb)
    have HFA := fun (s : A1 wr) => Ov pos z.backs a1 _ c1 s.at_ (lift HBS.out s.below)
    have HF := hid HFA; clear HFA hbs
    rcases k with _ | m
    ·have h1 := hid (GF (l.map BM.stream))
     have X1 := fun s : A1 wr => s.cell ((hb.cell (p := ⟨b, o + 0 * 2 + 1, none⟩) hbb).trans hc1)
     subst hA;simp only [Hp, BE] at X1
     clear hc0 hc1;by_cases h4 : 4 < z.backs.length
     ·have hff : Hid (BK pos l = false) := hid zBz
      have d4 : decide (4 < (z.backs.length : Int)) = true := zJ
      clear hlR;go_wp2_with fail;refine Ax zG zG ?_
      repeat (go_big_quiet_step (fail))
      refine AL ?_
      rintro W5 ⟨⟨W5', hb5⟩, rfl⟩;go_wp2;go_ret;exact ⟨zH, Af hb5 hb⟩
     ·have d4 : decide (4 < (z.backs.length : Int)) = false := by simp; omega
      cases hfa : BW pos z.backs
      ·have hff : Hid (BK pos l = false) := hid (by rw [hf.out, hdr.out, hlR, hfa]; simp)
       rw [hfa] at HF
       clear hlR hfa;go_wp2_with fail;refine Ax zG zG ?_
       repeat (go_big_quiet_step (((go_at_call 163; exact Be (HF.out _)))))
       refine AL ?_
       rintro W5 ⟨⟨W5', hb5⟩, rfl⟩;go_wp2;go_ret;exact ⟨zH, Af hb5 hb⟩
      ·have hff : Hid (BK pos l = (CW (l.map BM.stream) (1) && (l.drop (1)).all (C3 pos))) := hid (by rw [hf.out, hdr.out, hlR, hfa, ← h1.out, Ae (by omega)]; simp)
       rw [hfa] at HF
       clear hlR hfa;go_wp2_with fail;refine Ax zG zG ?_
       repeat (go_big_quiet_step (((go_at_call 163; exact Be (HF.out _)))))
       refine AL ?_
       rintro W5 ⟨⟨W5', hb5⟩, rfl⟩;go_wp2;go_roundw
       case rel => exact ⟨1, zC, rfl, hff, Af hb5 hb⟩
       case measure => simp [intOf]; omega
    ·obtain ⟨b', o', hA', hbb', a2, c2, hd0, hd1, _, _⟩ := DE HL.out (show m < l.length by omega)
     have hst := hid (FU (l.map BM.stream) m (by simpa using hlt))
     subst hA;obtain ⟨rfl, rfl⟩ : b' = b ∧ o' = o := zAx
     clear hA';have X0 := fun s : A1 wr => s.cell ((hb.cell (p := ⟨b', o' + (m + 1) * 2, none⟩) hbb).trans hc0)
     have X1 := fun s : A1 wr => s.cell ((hb.cell (p := ⟨b', o' + (m + 1) * 2 + 1, none⟩) hbb).trans hc1)
     have Y0 := fun s : A1 wr => s.cell ((hb.cell (p := ⟨b', o' + m * 2, none⟩) hbb).trans hd0)
     clear hc0 hc1 hd0 hd1;simp only [List.getElem_map] at hst
     rw [HZ.out] at hst
     generalize hy : l[m].stream = y at *
     clear hy;generalize hx : z.stream = x at *
     clear hx;rw [show ((m + 1 : Nat) : Int) = (m : Int) + 1 from zC]
     have k1 : (0 : Int) < (m : Int) + 1 := zC
     have k2 : (0 : Int) ≤ (m : Int) + 1 - 1 := zC
     have k3 : (m : Int) + 1 < (l.length : Int) := zC
     have k4 : (m : Int) < (l.length : Int) := zC
     by_cases hge : x ≤ y
     ·have d1 : decide (x ≤ y) = true := by simpa using hge
      have hff : Hid (BK pos l = false) := hid zAn
      clear hge hlR;go_wp2_with fail;refine Ax zG zG ?_
      repeat (go_big_quiet_step (fail))
      refine AL ?_
      rintro W5 ⟨⟨W5', hb5⟩, rfl⟩;go_wp2;go_ret;exact ⟨zH, Af hb5 hb⟩
     ·have d1 : decide (x ≤ y) = false := by simpa using hge
      have hst' : Hid (CW (l.map BM.stream) (m + 1) = CW (l.map BM.stream) (m + 2)) := hid Z7
      clear hge;by_cases h4 : 4 < z.backs.length
      ·have hff : Hid (BK pos l = false) := hid zBz
       have d4 : decide (4 < (z.backs.length : Int)) = true := zJ
       clear hlR;go_wp2_with fail;refine Ax zG zG ?_
       repeat (go_big_quiet_step (fail))
       refine AL ?_
       rintro W5 ⟨⟨W5', hb5⟩, rfl⟩;go_wp2;go_ret;exact ⟨zH, Af hb5 hb⟩
      ·have d4 : decide (4 < (z.backs.length : Int)) = false := by simp; omega
       cases hfa : BW pos z.backs
       ·have hff : Hid (BK pos l = false) := hid (by rw [hf.out, hdr.out, hlR, hfa]; simp)
        rw [hfa] at HF
        clear hlR hfa;go_wp2_with fail;refine Ax zG zG ?_
        repeat (go_big_quiet_step (((go_at_call 163; exact Be (HF.out _)))))
        refine AL ?_
        rintro W5 ⟨⟨W5', hb5⟩, rfl⟩;go_wp2;go_ret;exact ⟨zH, Af hb5 hb⟩
       ·have hff : Hid (BK pos l = (CW (l.map BM.stream) (m + 2) && (l.drop (m + 2)).all (C3 pos))) := hid (by rw [hf.out, hdr.out, hlR, hfa, hst'.out, Ae (by omega)]; simp)
        rw [hfa] at HF
        clear hlR hfa;go_wp2_with fail;refine Ax zG zG ?_
        repeat (go_big_quiet_step (((go_at_call 163; exact Be (HF.out _)))))
        refine AL ?_
        rintro W5 ⟨⟨W5', hb5⟩, rfl⟩;go_wp2;go_roundw
        case rel => exact ⟨m + 2, zC, zV, hff, Af hb5 hb⟩
        case measure => simp [intOf]; omega
   ·obtain rfl : k = l.length := by omega
    have hff : Hid (BK pos l = true) := hid (by
     have := GG (l.map BM.stream)
     rw [List.length_map] at this
     rw [hf.out, this, K4]; rfl)
    go_wp2;go_ret;exact ⟨zH, hb⟩
theorem Sh (x y : BM) (a a' : Option Addr) (n c n' c' : Nat) (w : World) (hx : AY.r (· < w.heap.size) w [.slice a n c] x.backs) (hy : AY.r (· < w.heap.size) w [.slice a' n' c'] y.backs) :
  Calls Tryz.prog 169 #[.agg #[.int .u64 x.stream, .slice a n c], .agg #[.int .u64 y.stream, .slice a' n' c']] w fun r w' => r = .returned (.bool (decide (x = y))) ∧ Below w.heap.size w w' := by
 have he : decide (x = y) = (decide (x.stream = y.stream) && decide (x.backs = y.backs)) := by
  rw [EM]; cases x; cases y; simp
 have HE := hid he; clear he
 have HX := hid hx; clear hx
 have HY := hid hy; clear hy
 by_cases h : x.stream = y.stream
 ·have e1 : (x.stream == y.stream) = true := by simp [h]
  have hff : Hid (decide (x = y) = decide (x.backs = y.backs)) := hid (by rw [HE.out]; simp [h])
  clear h;go_enter Tryz.func169, Tryz.ntmps169
  go_wp2_with fail;refine (JU x.backs y.backs _ _ _ _ _ _ _ (lift HX.out zB) (lift HY.out zB)).mono ?_
  rintro e w1 ⟨rfl, hb1⟩;go_wp2;go_ret;exact ⟨zH, zB⟩
 ·have e1 : (x.stream == y.stream) = false := by simp [h]
  have hff : Hid (decide (x = y) = false) := hid (by rw [HE.out]; simp [h])
  clear h;go_enter Tryz.func169, Tryz.ntmps169
  go_wp2;go_ret;exact ⟨zH, zB⟩
theorem Qa (x y : List BM) (a a' : Option Addr) (n c n' c' : Nat) (w : World) (hx : BU.r (· < w.heap.size) w [.slice a n c] x) (hy : BU.r (· < w.heap.size) w [.slice a' n' c'] y) :
  Calls Tryz.prog 100 #[.slice a n c, .slice a' n' c'] w fun r w' => r = .returned (.bool (decide (x = y))) ∧ Below w.heap.size w w' := by
 obtain ⟨rfl, hm, _, _⟩ := AS hx
 obtain ⟨rfl, hm', _, _⟩ := AS hy
 by_cases hl : x.length = y.length
 ·have HX := hid hx; clear hx
  have HY := hid hy; clear hy
  have HL := hid hl
  have e1 : ((x.length : Int) != (y.length : Int)) = false := by simp [hl]
  clear hl;go_enter Tryz.func100, Tryz.ntmps100
  go_wp2;go_loopw [5] (fun i wr => ∃ k : Nat, k ≤ x.length ∧ i = .int .i64 k ∧ Hid (decide (x = y) = decide (x.drop k = y.drop k)) ∧ Below w.heap.size w wr) (fun i _ => x.length - (intOf i).toNat)
  case atStart => exact ⟨0, Aj _, rfl, hid rfl, Below.refl _ _⟩
  case round =>
   obtain ⟨k, hk, rfl, hf, hb⟩ := hrel
   by_cases hlt : k < x.length
   ·have hlt' : k < y.length := by rw [← HL.out]; exact hlt
    obtain ⟨b, o, hA, hbb, a1, c1, hc0, hc1, _, hr1⟩ := DE HX.out hlt
    obtain ⟨b', o', hA', hbb', a2, c2, hd0, hd1, _, hr2⟩ := DE HY.out hlt'
    have hst := hid (F0 x y k hlt hlt')
    subst hA hA';have X0 := fun s : A1 wr => s.cell ((hb.cell (p := ⟨b, o + k * 2, none⟩) hbb).trans hc0)
    have X1 := fun s : A1 wr => s.cell ((hb.cell (p := ⟨b, o + k * 2 + 1, none⟩) hbb).trans hc1)
    have Y0 := fun s : A1 wr => s.cell ((hb.cell (p := ⟨b', o' + k * 2, none⟩) hbb').trans hd0)
    have Y1 := fun s : A1 wr => s.cell ((hb.cell (p := ⟨b', o' + k * 2 + 1, none⟩) hbb').trans hd1)
    clear hc0 hc1 hd0 hd1;generalize hlk : x[k] = u at *
    generalize hlm : y[k] = v at *
    clear hlk hlm;have hs1 := hid (lift hr1 hb)
    have hs2 := hid (lift hr2 hb)
    clear hr1 hr2;have hO := fun s : A1 wr => Sh u v a1 a2 _ c1 _ c2 s.at_ (lift hs1.out s.below) (lift hs2.out s.below)
    have i0 : (0 : Int) ≤ (k : Int) := zC
    have i1 : (k : Int) < (x.length : Int) := zC
    have i2 : (k : Int) < (y.length : Int) := zC
    by_cases huv : u = v
    ·rw [Ae huv] at hO
     have HO := hid hO; clear hO
     have hst' : Hid (decide (x.drop k = y.drop k) = decide (x.drop (k + 1) = y.drop (k + 1))) := hid zBk
     clear huv;go_wp2_with fail;refine Ax zG zG ?_
     repeat (go_big_quiet_step (((go_at_call 169; exact Be (HO.out _)))))
     refine AL ?_
     rintro W5 ⟨⟨W5', hb5⟩, rfl⟩;go_wp2;go_roundw
     case rel => exact ⟨k + 1, zC, zV, hid zAa, Af hb5 hb⟩
     case measure => simp [intOf]; omega
    ·rw [Ad huv] at hO
     have HO := hid hO; clear hO
     have hff : Hid (decide (x = y) = false) := hid zAv
     clear huv;go_wp2_with fail;refine Ax zG zG ?_
     repeat (go_big_quiet_step (((go_at_call 169; exact Be (HO.out _)))))
     refine AL ?_
     rintro W5 ⟨⟨W5', hb5⟩, rfl⟩;go_wp2;go_ret;exact ⟨zH, Af hb5 hb⟩
   ·obtain rfl : k = x.length := by omega
    have hff : Hid (decide (x = y) = true) := hid ZB
    go_wp2;go_ret;exact ⟨zH, hb⟩
 ·have hff : Hid (decide (x = y) = false) := hid (by simp; rintro rfl; exact hl rfl)
  have e1 : ((x.length : Int) != (y.length : Int)) = true := zJ
  clear hl hx hy;go_enter Tryz.func100, Tryz.ntmps100
  go_wp2;go_ret;exact ⟨zH, Below.refl _ _⟩
end Go.Proofs.YtlbffbkbkajciaaGreat
namespace Go.Bs
open Go.RowKit
section
variable {P : Program} {w : World}
def Src (w : World) (A : Option Addr) (m sz : Nat) (news : List Value) : Prop :=
 news.length = m * sz ∧ (m = 0 ∨ ∃ b o, A = some ⟨b, o, none⟩ ∧ ∀ j u, news[j]? = some u → w.cell? ⟨b, o + j, none⟩ = some u)
theorem Jg (base : Nat) (t ty e : TypeId) (i : TypeInfo) (size : Nat) (ht : P.underlying t = some (.slice e)) (hi : P.info? e = some i)
  (v : Value) (n : Nat) (xs : List Value) (hown : w.ownsRow base e size v n xs) (c : Nat) : (Builtin.append_ #[t, t] ty #[v, .slice none 0 c]).run P w = .ok v w := by
 rcases hown.2 with ⟨rfl, rfl⟩ | ⟨g, cap, cur, rfl, _, _, hnc, _⟩
 ·simp [Builtin.append_, run_underlying ht, sizeOf, typeInfo, hi, Builtin.lenOf, Builtin.firstCells]
 ·simp [Builtin.append_, run_underlying ht, sizeOf, typeInfo, hi, Builtin.lenOf, Builtin.firstCells, hnc, storeCells]
theorem add_plain (b o j : Nat) : (⟨b, o, none⟩ : Addr).add j = ⟨b, o + j, none⟩ := by
 unfold Addr.add;split
 ·rename_i h; subst h; rfl
 ·rfl
theorem Ib (base : Nat) (t ty e : TypeId) (i : TypeInfo) (z : Value) (size bytes : Nat) (ht : P.underlying t = some (.slice e)) (hi : P.info? e = some i) (hz : i.zero = some z)
  (hsize : i.size = size) (hby : i.bytes = bytes) (hzs : z.cells.size = size) (hsz : 0 < size)
  (v : Value) (n : Nat) (xs : List Value) (hown : w.ownsRow base e size v n xs) (A : Option Addr) (m c : Nat) (news : List Value) (hs : Src w A m size news) (h1 : ∀ u ∈ news, u.oneCell' = true)
  (h63 : n + m ≤ maxLen) (hbytes : (n + m) * bytes ≤ 140737488355328) (hbase : base ≤ w.heap.size) :
  ∃ v' w', (Builtin.append_ #[t, t] ty #[v, .slice A m c]).run P w = .ok v' w' ∧ w'.ownsRow base e size v' (n + m) (xs ++ news) ∧ w.grownBy w' v.ownBlock ∧ (v'.ownBlock = v.ownBlock ∨ v'.ownBlock = some w.heap.size) := by
 obtain ⟨hl, hs⟩ := hs
 rcases A with _ | ad
 ·have hm : m = 0 := by
   rcases hs with h | ⟨b, o, h, _⟩
   ·exact h
   ·cases h
  subst hm;have hn : news = [] := AT (by simpa using hl)
  subst hn;exact ⟨v, w, Jg base t ty e i size ht hi v n xs hown c, by simpa using hown, World.grownBy.refl w _, .inl rfl⟩
 ·have hcells : ∀ j u, news[j]? = some u → w.cell? (ad.add j) = some u := by
   intro j u hu;rcases hs with h | ⟨b, o, h, hc⟩
   ·subst h
    have hn : news = [] := AT (by simpa using hl)
    subst hn;simp at hu
   ·injection h with h
    subst h;rw [add_plain]; exact hc j u hu
  obtain ⟨v', w', hrun, h2, h3, _, h5⟩ := run_append_own_at (P := P) w base t ty e i z size bytes ht hi hz hsize hby hzs hsz v n xs hown ad m c news hl hcells h1 h63 hbytes hbase
  exact ⟨v', w', hrun, h2, h3, h5⟩
theorem Aq {ops : Array Oper} {rest : List Oper} {o : Oper} {a : Act} {Q : Exit → Act → World → Prop} (hgd : o.guard = none) (s x : Operand) (t : TypeId)
  (ho : o.op = .call { callee := .builtin .append, args := #[s, x], argTypes := #[t, t] })
  (base : Nat) (e : TypeId) (i : TypeInfo) (z : Value) (size bytes : Nat) (ht : P.underlying t = some (.slice e)) (hi : P.info? e = some i) (hz : i.zero = some z)
  (hsize : i.size = size) (hby : i.bytes = bytes) (hzs : z.cells.size = size) (hsz : 0 < size)
  (v : Value) (n : Nat) (xs : List Value) (hs : a.eval s = v) (hown : w.ownsRow base e size v n xs)
  (A : Option Addr) (m c : Nat) (news : List Value) (hx : a.eval x = .slice A m c) (hsrc : Src w A m size news) (h1 : ∀ u ∈ news, u.oneCell' = true)
  (h63 : n + m ≤ maxLen) (hbytes : (n + m) * bytes ≤ 140737488355328) (hbase : base ≤ w.heap.size)
  (h : ∀ v' w', w'.ownsRow base e size v' (n + m) (xs ++ news) → w.grownBy w' v.ownBlock → (v'.ownBlock = v.ownBlock ∨ v'.ownBlock = some w.heap.size) → wpList P ops Q rest (a.put o.dst v') w') : wpList P ops Q (o :: rest) a w :=
 Bb hgd fun _ hK => by
  obtain ⟨v', w', hrun, h2, h3, h4⟩ := Ib (P := P) base t o.type e i z size bytes ht hi hz hsize hby hzs hsz v n xs hown A m c news hsrc h1 h63 hbytes hbase
  unfold Oper.wp execOp;simp only [ho, resolve, invoke, builtin, Sem.run_bind, Sem.run_pure, Result.andThen_ok, List.map_toArray, D7, List.map_nil, hs, hx, hrun]
  exact hK _ _ (h v' w' h2 h3 h4)
def byteCells (l : List UInt8) : List Value := l.map fun b => .int .u8 (b.toNat : Int)
theorem AI (l : List UInt8) : ∀ u ∈ byteCells l, u.oneCell' = true := by
 intro u hu;obtain ⟨b, _, rfl⟩ := List.mem_map.1 hu
 rfl
theorem A5 {S : Nat → Prop} {a : Option Addr} {n c : Nat} {l : List UInt8} (h : Ah.r S w [.slice a n c] l) : Src w a l.length 1 (byteCells l) := by
 refine ⟨zAp, ?_⟩
 rcases l with _ | ⟨x, l⟩
 ·exact .inl rfl
 ·right
  obtain ⟨b, o, e, _⟩ := CO h (i := 0) zO
  refine ⟨b, o, e, fun j u hu => ?_⟩
  have hj : j < (x :: l).length := by
   have := (List.getElem?_eq_some_iff.1 hu).1
   simpa [byteCells] using this
  obtain ⟨b', o', e', _, hc⟩ := CO h hj
  rw [e] at e'
  simp at e'
  obtain ⟨rfl, rfl⟩ := e'
  have : u = .int .u8 (((x :: l)[j]).toNat : Int) := by
   simp only [byteCells, JL, AR hj, Option.map_some, Bk] at hu
   exact hu.symm
  rw [this]; exact hc
theorem BJ {base : Nat} {e : TypeId} {v : Value} {l : List UInt8} {n : Nat} (hn : n = l.length) (h : w.ownsRow base e 1 v n (byteCells l)) : Ah.r (· < w.heap.size) w [v] l := by
 subst hn;rcases h.2 with ⟨rfl, h0⟩ | ⟨g, cap, cur, rfl, hbg, hg, hn, hc, hcur, hx⟩
 ·have : l = [] := AT h0
  subst this;exact Bh rfl (Ak _) (Aj _) (.inl rfl)
 ·refine Bh rfl hn hc (.inr ⟨g, 0, rfl, Blk.lt hg, fun i x hi => ⟨[.int .u8 (x.toNat : Int)], rfl, fun j v hj => ?_, rfl⟩⟩)
  have hj0 : j = 0 := by
   rcases j with _ | j
   ·rfl
   ·simp at hj
  subst hj0;simp at hj
  subst hj;have hi' : i < l.length := (List.getElem?_eq_some_iff.1 hi).1
  rw [A3, DA, BE, Blk.cell hg i]
  have e1 : cur[i]? = (cur.toList.take (l.length * 1))[i]? := by
   rw [CR, Am zC]; simp
  rw [e1, hx, byteCells, JL, hi]; rfl
end
end Go.Bs
namespace Go.Proofs.YtlbffbkbkajciaaGreat
open Go.RowKit Go.Bs
theorem Dz : (Tryz.prog.info? 5).map (fun i => (i.zero, i.size, i.bytes)) = some (some (.int .u8 0), 1, 1) := zG
theorem GD {α : Type} {sz : Nat} {A : Rp α} {S : Nat → Prop} {w : World} {xs : List α} {a : Option Addr} {n c k : Nat} (h : (rSl sz A).r S w [.slice a n c] xs) (hk : k ≤ xs.length) : (rSl sz A).r S w [.slice a k c] (xs.take k) := by
 obtain ⟨a', c', e, h1, h2, h3⟩ := h
 simp at e
 obtain ⟨rfl, rfl, rfl⟩ := e
 have hl : (xs.take k).length = k := zJ
 refine Bh (by rw [hl]) zC h2 ?_
 rcases h3 with rfl | ⟨b, off, rfl, hS, hr⟩
 ·exact .inl zO
 ·refine .inr ⟨b, off, rfl, hS, fun i x hi => hr i x ?_⟩
  rw [CR] at hi
  split at hi
  ·exact hi
  ·cases hi
end Go.Proofs.YtlbffbkbkajciaaGreat
namespace Go.Bs
def FM (b : List UInt8) (off : Nat) : Nat → Nat → Nat
 | 0, _ => 0
 | f + 1, p => if p < b.length ∧ b[p]? = b[p - off]? then FM b off f (p + 1) + 1 else 0
def CH (b : List UInt8) (p off : Nat) : Nat := if p < b.length ∧ 1 ≤ off ∧ off ≤ p then FM b off (b.length - p) p else 0
theorem MG (b : List UInt8) (off : Nat) : ∀ f p, FM b off f p ≤ f
 | 0, _ => Ak _
 | f + 1, p => by
  unfold FM;split
  ·have := MG b off f (p + 1); omega
  ·omega
theorem Iy (b : List UInt8) (p off : Nat) : CH b p off ≤ b.length - p := by
 unfold CH;split
 ·exact MG ..
 ·omega
theorem Kx (b : List UInt8) (off : Nat) : ∀ f p k, k < FM b off f p → p + k < b.length ∧ b[p + k]? = b[p + k - off]?
 | 0, _, k, h => by simp [FM] at h
 | f + 1, p, k, h => by
  unfold FM at h;split at h
  ·rename_i hc
   cases k with
   | zero => exact hc
   | succ k =>
    have := Kx b off f (p + 1) k zC
    rw [show p + (k + 1) = p + 1 + k by omega]
    exact this
  ·omega
theorem MH (b : List UInt8) (off : Nat) : ∀ f p k, k ≤ f → (∀ j, j < k → p + j < b.length ∧ b[p + j]? = b[p + j - off]?) → k ≤ FM b off f p
 | _, _, 0, _, _ => Aj _
 | 0, _, k + 1, h, _ => by omega
 | f + 1, p, k + 1, h, hs => by
  unfold FM;rw [Am (by simpa using hs 0 (by omega))]
  have := MH b off f (p + 1) k zC fun j hj => by
   have := hs (j + 1) zC
   rw [show p + (j + 1) = p + 1 + j by omega] at this
   exact this
  omega
theorem US {b : List UInt8} {p off k : Nat} (h1 : 1 ≤ off) (h2 : off ≤ p) (hp : p < b.length) (h : ∀ j, j < k → p + j < b.length ∧ b[p + j]? = b[p + j - off]?) : k ≤ CH b p off := by
 unfold CH;rw [Am ⟨hp, h1, h2⟩]
 refine MH _ _ _ _ _ ?_ h
 rcases Cz k with rfl | h0
 ·exact Aj _
 ·have := (h (k - 1) zC).1; omega
theorem J9 {b : List UInt8} {p off k : Nat} (h : k < CH b p off) : 1 ≤ off ∧ off ≤ p ∧ p + k < b.length ∧ b[p + k]? = b[p + k - off]? := by
 unfold CH at h;split at h
 ·rename_i hc
  exact ⟨hc.2.1, hc.2.2, Kx _ _ _ _ _ h⟩
 ·omega
def FO (b : List UInt8) (p : Nat) : Nat → Nat
 | 0 => 0
 | k + 1 => max (FO b p k) (CH b p (k + 1))
def firstM (b : List UInt8) (p m : Nat) : Nat → Nat → Nat
 | 0, _ => 0
 | f + 1, o => if CH b p o = m then o else firstM b p m f (o + 1)
theorem K8 (b : List UInt8) (p : Nat) : ∀ k o, 1 ≤ o → o ≤ k → CH b p o ≤ FO b p k
 | 0, o, h1, h2 => by omega
 | k + 1, o, h1, h2 => by
  simp only [FO]
  by_cases h : o = k + 1
  ·subst h; omega
  ·have := K8 b p k o h1 zC; omega
theorem Jr (b : List UInt8) (p : Nat) : ∀ k, FO b p k = 0 ∨ ∃ o, 1 ≤ o ∧ o ≤ k ∧ CH b p o = FO b p k
 | 0 => .inl rfl
 | k + 1 => by
  simp only [FO]
  rcases Nat.le_total (FO b p k) (CH b p (k + 1)) with h | h
  ·rw [Nat.max_eq_right h]
   exact .inr ⟨k + 1, zC, Ak _, rfl⟩
  ·rw [Nat.max_eq_left h]
   rcases Jr b p k with h0 | ⟨o, h1, h2, h3⟩
   ·exact .inl h0
   ·exact .inr ⟨o, h1, zC, h3⟩
theorem Kg (b : List UInt8) (p m : Nat) : ∀ f o o', o ≤ o' → o' < o + f → CH b p o' = m → (∀ j, o ≤ j → j < o' → CH b p j ≠ m) → firstM b p m f o = o'
 | 0, o, o', h1, h2, _, _ => by omega
 | f + 1, o, o', h1, h2, h3, h4 => by
  unfold firstM;by_cases h : o = o'
  ·subst h; rw [Am h3]
  ·rw [An (h4 o (Ak _) zC)]
   exact Kg b p m f (o + 1) o' zC zC h3 fun j h5 h6 => h4 j zC h6
def reach (p : Nat) : Nat := min p 65536
def BV (b : List UInt8) (p : Nat) : Nat × Nat :=
 if 4 ≤ FO b p (reach p) then (firstM b p (FO b p (reach p)) (reach p) 1, FO b p (reach p)) else (0, 0)
theorem O0 (b : List UInt8) (p m : Nat) : ∀ k, (∃ o, 1 ≤ o ∧ o ≤ k ∧ CH b p o = m) → ∃ o, 1 ≤ o ∧ o ≤ k ∧ CH b p o = m ∧ ∀ j, 1 ≤ j → j < o → CH b p j ≠ m
 | 0, ⟨o, h1, h2, _⟩ => by omega
 | k + 1, ⟨o, h1, h2, h3⟩ => by
  by_cases h : ∃ o, 1 ≤ o ∧ o ≤ k ∧ CH b p o = m
  ·obtain ⟨o, g1, g2, g3, g4⟩ := O0 b p m k h
   exact ⟨o, g1, zC, g3, g4⟩
  ·refine ⟨o, h1, h2, h3, fun j j1 j2 j3 => h ⟨j, j1, zC, j3⟩⟩
theorem Mh {b : List UInt8} {p o m : Nat} (h1 : 1 ≤ o) (h2 : o ≤ reach p) (h4 : 4 ≤ m) (hm : CH b p o = m) (hall : ∀ j, 1 ≤ j → j ≤ reach p → CH b p j ≤ m) (hlt : ∀ j, 1 ≤ j → j < o → CH b p j < m) : BV b p = (o, m) := by
 have e : FO b p (reach p) = m := by
  have := K8 b p (reach p) o h1 h2
  rcases Jr b p (reach p) with h | ⟨o', g1, g2, g3⟩
  ·omega
  ·have := hall o' g1 g2; omega
 unfold BV;rw [e, Am h4, Kg b p m (reach p) 1 o h1 zC hm fun j j1 j2 => by have := hlt j j1 j2; omega]
theorem Mg {b : List UInt8} {p : Nat} (h : ∀ j, 1 ≤ j → j ≤ reach p → CH b p j < 4) : BV b p = (0, 0) := by
 unfold BV;rw [An]
 rcases Jr b p (reach p) with h0 | ⟨o', g1, g2, g3⟩
 ·omega
 ·have := h o' g1 g2; omega
theorem EJ (b : List UInt8) (p : Nat) : BV b p = (0, 0) ∨ ∃ o m, BV b p = (o, m) ∧ 1 ≤ o ∧ o ≤ reach p ∧ 4 ≤ m ∧ CH b p o = m ∧ (∀ j, 1 ≤ j → j ≤ reach p → CH b p j ≤ m) ∧ ∀ j, 1 ≤ j → j < o → CH b p j < m := by
 by_cases h : 4 ≤ FO b p (reach p)
 ·right
  rcases Jr b p (reach p) with h0 | hx
  ·omega
  ·obtain ⟨o, g1, g2, g3, g4⟩ := O0 b p _ _ hx
   have hall := fun j (j1 : 1 ≤ j) (j2 : j ≤ reach p) => K8 b p _ j j1 j2
   have hlt : ∀ j, 1 ≤ j → j < o → CH b p j < FO b p (reach p) := fun j j1 j2 => by
    have := hall j j1 zC
    have := g4 j j1 j2
    omega
   exact ⟨o, _, Mh g1 g2 h g3 hall hlt, g1, g2, h, g3, hall, hlt⟩
 ·left
  unfold BV;rw [An h]
theorem Hn (b : List UInt8) (p : Nat) : (BV b p).2 ≤ b.length - p ∧ (BV b p).1 ≤ p := by
 rcases EJ b p with h | ⟨o, m, h, _, h2, _, h4, _⟩
 ·rw [h]; exact ⟨Aj _, Aj _⟩
 ·rw [h]
  have := Iy b p o
  simp only [reach] at h2
  exact ⟨zCf, zCf⟩
structure Tok where
 lit : List UInt8
 off : Int
 len : Int
 deriving DecidableEq
def Ei (b : List UInt8) (i j : Nat) : List Tok := if i < j then [⟨(b.drop i).take (j - i), 0, 0⟩] else []
def Eu (b : List UInt8) : Nat → Nat → Nat → List Tok
  | 0, _, i => Ei b i b.length
  | f + 1, p, i => if p < b.length then
      (if (BV b p).2 = 0 then Eu b f (p + 1) i
       else Ei b i p ++ ⟨[], (BV b p).1, (BV b p).2⟩ :: Eu b f (p + (BV b p).2) (p + (BV b p).2))
      else Ei b i b.length
def DV (b : List UInt8) : List Tok := Eu b b.length 0 0
theorem G6 (b : List UInt8) : ∀ f g p i, b.length ≤ p + f → b.length ≤ p + g → Eu b f p i = Eu b g p i
 | 0, 0, _, _, _, _ => rfl
 | 0, g + 1, p, i, h, _ => by
  simp only [Eu]
  rw [An zC]
 | f + 1, 0, p, i, _, h => by
  simp only [Eu]
  rw [An zC]
 | f + 1, g + 1, p, i, h1, h2 => by
  simp only [Eu]
  split
  ·split
   ·exact G6 b f g (p + 1) i zC zC
   ·rename_i hn
    rw [G6 b f g (p + (BV b p).2) (p + (BV b p).2) zC zC]
  ·rfl
def IF (b : List UInt8) (p i : Nat) : List Tok := Eu b (b.length - p) p i
theorem PJ {b : List UInt8} {p i : Nat} (hp : p < b.length) (h : (BV b p).2 = 0) : IF b p i = IF b (p + 1) i := by
 unfold IF;obtain ⟨f, hf⟩ : ∃ f, b.length - p = f + 1 := ⟨b.length - p - 1, zC⟩
 rw [hf]
 simp only [Eu]
 rw [Am hp, Am h]
 exact G6 b _ _ _ _ zC zC
theorem PI {b : List UInt8} {p i : Nat} (hp : p < b.length) (h : (BV b p).2 ≠ 0) : IF b p i = Ei b i p ++ ⟨[], (BV b p).1, (BV b p).2⟩ :: IF b (p + (BV b p).2) (p + (BV b p).2) := by
 unfold IF;obtain ⟨f, hf⟩ : ∃ f, b.length - p = f + 1 := ⟨b.length - p - 1, zC⟩
 rw [hf]
 simp only [Eu]
 rw [Am hp, An h]
 congr 2
 exact G6 b _ _ _ _ zC zC
theorem RY {b : List UInt8} {p i : Nat} (hp : b.length ≤ p) : IF b p i = Ei b i b.length := by
 unfold IF;rw [show b.length - p = 0 by omega]; rfl
def Dt (b : List UInt8) (p : Nat) : Option Nat :=
 match b[p]?, b[p + 1]?, b[p + 2]?, b[p + 3]? with
 | some a, some c, some d, some e => some (a.toNat + 256 * c.toNat + 65536 * d.toNat + 16777216 * e.toNat)
 | _, _, _, _ => none
def Eb (b : List UInt8) (k : Nat) : Nat → Nat
 | 0 => 0
 | j + 1 => if Dt b j = some k then j + 1 else Eb b k j
theorem Jy (b : List UInt8) (k : Nat) : ∀ j, Eb b k j ≤ j
 | 0 => Ak _
 | j + 1 => by
  unfold Eb;split
  ·omega
  ·have := Jy b k j; omega
theorem MV (b : List UInt8) (k : Nat) : ∀ j, Eb b k j ≠ 0 → Dt b (Eb b k j - 1) = some k
 | 0, h => absurd rfl h
 | j + 1, h => by
  unfold Eb at h ⊢;split
  ·rename_i hk; simpa using hk
  ·rename_i hk
   rw [An hk] at h
   exact MV b k j h
open Go.RowKit
section
variable {w w' : World} {α : Type}
def CP (lo : Nat) (A : Rp α) (base : Nat) (e : TypeId) (sz : Nat) (w : World) (v : Value) (xs : List α) (cells : List (List Value)) : Prop :=
 w.ownsRow base e sz v xs.length cells.flatten ∧ cells.length = xs.length ∧ (∀ c ∈ cells, c.length = sz) ∧
  ∀ (i : Nat) cs x, cells[i]? = some cs → xs[i]? = some x → A.r (fun b => lo ≤ b ∧ b < w.heap.size ∧ v.ownBlock ≠ some b) w cs x
def A6 (lo : Nat) (A : Rp α) (base : Nat) (e : TypeId) (sz : Nat) (w : World) (v : Value) (xs : List α) : Prop := ∃ cells, CP lo A base e sz w v xs cells
theorem Fj (sz : Nat) : ∀ (l : List (List Value)), (∀ c ∈ l, c.length = sz) → ∀ (i j : Nat) cs v, l[i]? = some cs → cs[j]? = some v → l.flatten[i * sz + j]? = some v
 | [], _, i, j, cs, v, h, _ => by simp at h
 | c :: l, hl, i, j, cs, v, h, hj => by
  have hc := hl c (List.mem_cons_self ..)
  rw [Dx]
  cases i with
  | zero =>
   simp at h
   subst h;have := (List.getElem?_eq_some_iff.1 hj).1
   rw [Hp, A3, Bq zC]
   exact hj
  | succ i =>
   simp at h
   rw [By (by rw [hc, Nat.succ_mul]; omega), hc, show (i + 1) * sz + j - sz = i * sz + j by rw [Nat.succ_mul]; omega]
   exact Fj sz l (fun c h => hl c (List.mem_cons_of_mem _ h)) i j cs v h hj
theorem A6.nil {lo : Nat} {A : Rp α} {base : Nat} {e : TypeId} {sz : Nat} : A6 lo A base e sz w (.slice none 0 0) [] :=
 ⟨[], ⟨zO, .inl ⟨rfl, rfl⟩⟩, rfl, zO, fun i cs x h => by simp at h⟩
theorem A6.slice {lo : Nat} {A : Rp α} {base : Nat} {e : TypeId} {sz : Nat} {v : Value} {xs : List α} (hlo : lo ≤ base) (h : A6 lo A base e sz w v xs) : (rSl sz A).r (fun b => lo ≤ b ∧ b < w.heap.size) w [v] xs := by
 obtain ⟨cells, hown, hlen, hsz, hA⟩ := h
 rcases hown.2 with ⟨rfl, h0⟩ | ⟨g, cap, cur, rfl, hbg, hg, hn, hc, hcur, hx⟩
 ·have : xs = [] := AT h0
  subst this;exact Bh rfl (Ak _) (Aj _) (.inl rfl)
 ·refine Bh rfl hn hc (.inr ⟨g, 0, rfl, ⟨A4 hlo hbg, (Array.getElem?_eq_some_iff.1 hg).1⟩, fun i x hi => ?_⟩)
  have hi' : i < xs.length := (List.getElem?_eq_some_iff.1 hi).1
  have hic : i < cells.length := zC
  have hcs : cells[i]? = some cells[i] := AR hic
  refine ⟨cells[i], hsz _ (Bl hic), fun j v hj => ?_, A.mono (hA i _ x hcs hi) fun b h => ⟨h.1, h.2.1⟩⟩
  have hj' : j < sz := ZM
  have hf := Fj sz cells hsz i j _ v hcs hj
  rw [A3, show (⟨g, i * sz + j, none⟩ : Addr) = ⟨g, i * sz + j, none⟩ from rfl, Blk.cell hg (i * sz + j)]
  have hb : i * sz + j < xs.length * sz := by
   have := CQ sz (show i + 1 ≤ xs.length from hi')
   rw [Nat.succ_mul] at this
   omega
  have e1 : cur[i * sz + j]? = (cur.toList.take (xs.length * sz))[i * sz + j]? := by
   rw [CR, Am hb]; simp
  rw [e1, hx]; exact hf
def Vt {α : Type} (sz : Nat) (A : Rp α) : Rp (List α) :=
  ⟨fun S w cs xs => ∃ a c, cs = [.slice a xs.length c] ∧ xs.length ≤ c ∧ c ≤ maxLen ∧ (xs = [] ∨ ∃ b off, a = some ⟨b, off, none⟩ ∧ S b ∧ ∀ (i : Nat) x, xs[i]? = some x → ∃ cs : List Value, cs.length = sz ∧
      (∀ (j : Nat) v, cs[j]? = some v → w.cell? ⟨b, off + i * sz + j, none⟩ = some v ∧ w.frozen? ⟨b, off + i * sz + j, none⟩ = false) ∧ A.r (fun q => S q ∧ q ≠ b) w cs x),
   fun ⟨a, c, h, h1, h2, h3⟩ hk => ⟨a, c, h, h1, h2, h3.imp id fun ⟨b, off, e, hb, hr⟩ => ⟨b, off, e, hb, fun i x hi =>
     let ⟨cs, hl, hc, hA⟩ := hr i x hi
     ⟨cs, hl, fun j v hj => ⟨(Bz (a := ⟨b, off + i * sz + j, none⟩) (hk b hb)).trans (hc j v hj).1, (Cy (a := ⟨b, off + i * sz + j, none⟩) (hk b hb)).trans (hc j v hj).2⟩, A.keep hA fun q hq => hk q hq.1⟩⟩⟩,
   fun ⟨a, c, h, h1, h2, h3⟩ hk => ⟨a, c, h, h1, h2, h3.imp id fun ⟨b, off, e, hb, hr⟩ => ⟨b, off, e, hk b hb, fun i x hi =>
     let ⟨cs, hl, hc, hA⟩ := hr i x hi
     ⟨cs, hl, hc, A.mono hA fun q hq => ⟨hk q hq.1, hq.2⟩⟩⟩⟩⟩
theorem Vp {sz : Nat} {A : Rp α} {S : Nat → Prop} {cs : List Value} {xs : List α} (h : (Vt sz A).r S w cs xs) : (rSl sz A).r S w cs xs := by
 obtain ⟨a, c, h1, h2, h3, h4⟩ := h
 refine ⟨a, c, h1, h2, h3, h4.imp id fun ⟨b, off, e, hb, hr⟩ => ⟨b, off, e, hb, fun i x hi => ?_⟩⟩
 obtain ⟨cs, h5, h6, h7⟩ := hr i x hi
 exact ⟨cs, h5, fun j v hj => (h6 j v hj).1, A.mono h7 fun q hq => hq.1⟩
def RA : Rp (List BM) := Vt 2 KI
theorem NL {S : Nat → Prop} {cs : List Value} {x : List BM} (h : RA.r S w cs x) : BU.r S w cs x := Vp h
theorem A6.Nw {lo : Nat} {A : Rp α} {base : Nat} {e : TypeId} {sz : Nat} {v : Value} {xs : List α} (hlo : lo ≤ base) (h : A6 lo A base e sz w v xs) : (Vt sz A).r (fun b => lo ≤ b ∧ b < w.heap.size) w [v] xs := by
 obtain ⟨cells, hown, hlen, hsz, hA⟩ := h
 rcases hown.2 with ⟨rfl, h0⟩ | ⟨g, cap, cur, rfl, hbg, hg, hn, hc, hcur, hx⟩
 ·have : xs = [] := AT h0
  subst this;exact ⟨none, 0, rfl, Ak _, Aj _, .inl rfl⟩
 ·refine ⟨_, cap, rfl, hn, hc, .inr ⟨g, 0, rfl, ⟨A4 hlo hbg, (Array.getElem?_eq_some_iff.1 hg).1⟩, fun i x hi => ?_⟩⟩
  have hi' : i < xs.length := (List.getElem?_eq_some_iff.1 hi).1
  have hic : i < cells.length := zC
  have hcs : cells[i]? = some cells[i] := AR hic
  refine ⟨cells[i], hsz _ (Bl hic), fun j v hj => ⟨?_, Blk.free hg _⟩, A.mono (hA i _ x hcs hi) fun b h => ⟨⟨h.1, h.2.1⟩, fun e => h.2.2 (by rw [e]; rfl)⟩⟩
  have hj' : j < sz := ZM
  have hf := Fj sz cells hsz i j _ v hcs hj
  rw [A3, show (⟨g, i * sz + j, none⟩ : Addr) = ⟨g, i * sz + j, none⟩ from rfl, Blk.cell hg (i * sz + j)]
  have hb : i * sz + j < xs.length * sz := by
   have := CQ sz (show i + 1 ≤ xs.length from hi')
   rw [Nat.succ_mul] at this
   omega
  have e1 : cur[i * sz + j]? = (cur.toList.take (xs.length * sz))[i * sz + j]? := by
   rw [CR, Am hb]; simp
  rw [e1, hx]; exact hf
theorem CP.push {lo : Nat} {A : Rp α} {base : Nat} {e : TypeId} {sz : Nat} {v v' : Value} {xs : List α} {news : List Value} {x : α} {cells : List (List Value)} (h : CP lo A base e sz w v xs cells)
  (hn : news.length = sz) (hx : A.r (fun b => lo ≤ b ∧ b < w.heap.size ∧ v.ownBlock ≠ some b) w news x)
  (hown : w'.ownsRow base e sz v' (xs.length + 1) (cells.flatten ++ news)) (hg : w.grownBy w' v.ownBlock) (hat : v'.ownBlock = v.ownBlock ∨ v'.ownBlock = some w.heap.size) (hsz' : w.heap.size ≤ w'.heap.size) : CP lo A base e sz w' v' (xs ++ [x]) (cells ++ [news]) := by
 obtain ⟨ho, hlen, hsz, hA⟩ := h
 have lift : ∀ cs y, A.r (fun b => lo ≤ b ∧ b < w.heap.size ∧ v.ownBlock ≠ some b) w cs y → A.r (fun b => lo ≤ b ∧ b < w'.heap.size ∧ v'.ownBlock ≠ some b) w' cs y := fun cs y hr =>
  A.mono (A.keep hr fun b hb => hg.block b hb.2.1 (fun e => hb.2.2 e.symm)) fun b hb => ⟨hb.1, Ai hb.2.1 hsz', fun e => by
   rcases hat with h | h
   ·exact hb.2.2 (h ▸ e)
   ·rw [h] at e; have := BH e; have := hb.2.1; omega⟩
 refine ⟨?_, by simp [hlen], ?_, ?_⟩
 ·rw [Dy, Ag]
  simpa using hown
 ·intro c hc
  rcases List.mem_append.1 hc with h | h
  ·exact hsz c h
  ·simp at h; subst h; exact hn
 ·intro i cs y hi hy
  by_cases hlt : i < xs.length
  ·rw [Bq zC] at hi
   rw [Bq hlt] at hy
   exact lift _ _ (hA i cs y hi hy)
  ·have hii : i = xs.length := by
    have := (List.getElem?_eq_some_iff.1 hy).1
    simp at this
    omega
   subst hii;rw [By zC] at hi
   rw [By (Ak _)] at hy
   simp [hlen] at hi
   simp at hy
   subst hi hy;exact lift _ _ hx
theorem A6.push {lo : Nat} {A : Rp α} {base : Nat} {e : TypeId} {sz : Nat} {v v' : Value} {xs : List α} {news : List Value} {x : α} {cells : List (List Value)} (h : CP lo A base e sz w v xs cells)
  (hn : news.length = sz) (hx : A.r (fun b => lo ≤ b ∧ b < w.heap.size ∧ v.ownBlock ≠ some b) w news x)
  (hown : w'.ownsRow base e sz v' (xs.length + 1) (cells.flatten ++ news)) (hg : w.grownBy w' v.ownBlock) (hat : v'.ownBlock = v.ownBlock ∨ v'.ownBlock = some w.heap.size) (hsz' : w.heap.size ≤ w'.heap.size) : A6 lo A base e sz w' v' (xs ++ [x]) :=
 ⟨_, CP.push h hn hx hown hg hat hsz'⟩
theorem A6.below {lo : Nat} {A : Rp α} {base : Nat} {e : TypeId} {sz : Nat} {v : Value} {xs : List α} (h : A6 lo A base e sz w v xs) (hb : Below w.heap.size w w') : A6 lo A base e sz w' v xs := by
 obtain ⟨cells, ho, hlen, hsz, hA⟩ := h
 refine ⟨cells, ⟨ho.1, ?_⟩, hlen, hsz, fun i cs x hi hx => A.mono (A.keep (hA i cs x hi hx) fun b h => hb.block b h.2.1) fun b h => ⟨h.1, Ai h.2.1 hb.size, h.2.2⟩⟩
 rcases ho.2 with h0 | ⟨g, cap, cur, h1, h2, h3, h4⟩
 ·exact .inl h0
 ·exact .inr ⟨g, cap, cur, h1, h2, zAd, h4⟩
theorem CP.below {lo : Nat} {A : Rp α} {base : Nat} {e : TypeId} {sz : Nat} {v : Value} {xs : List α} {cells : List (List Value)} (h : CP lo A base e sz w v xs cells) (hb : Below w.heap.size w w') : CP lo A base e sz w' v xs cells := by
 obtain ⟨ho, hlen, hsz, hA⟩ := h
 refine ⟨⟨ho.1, ?_⟩, hlen, hsz, fun i cs x hi hx => A.mono (A.keep (hA i cs x hi hx) fun b h => hb.block b h.2.1) fun b h => ⟨h.1, Ai h.2.1 hb.size, h.2.2⟩⟩
 rcases ho.2 with h0 | ⟨g, cap, cur, h1, h2, h3, h4⟩
 ·exact .inl h0
 ·exact .inr ⟨g, cap, cur, h1, h2, zAd, h4⟩
theorem EI {base : Nat} {e : TypeId} {size : Nat} (W : World) (hb : base ≤ W.heap.size) {g : Nat} (hg : g = W.heap.size) : (W.alloc (.cells #[] e)).ownsRow base e size (.slice (some ⟨g, 0, none⟩) 0 0) 0 [] := by
 subst hg;exact ⟨zO, .inr ⟨_, 0, #[], rfl, hb, (MapKept.heap_alloc W _).1, Ak _, Aj _, zO, zO⟩⟩
theorem AA {base : Nat} {e : TypeId} {size : Nat} {v : Value} {n : Nat} {xs : List Value} (h : w.ownsRow base e size v n xs) : ∃ a c, v = .slice a n c := by
 rcases h.2 with ⟨rfl, rfl⟩ | ⟨g, cap, cur, rfl, _⟩
 ·exact ⟨_, _, rfl⟩
 ·exact ⟨_, _, rfl⟩
theorem TM {base : Nat} {e : TypeId} {size : Nat} {v : Value} {n : Nat} {xs : List Value} (h : w.ownsRow base e size v (n + 1) xs) : ∃ g c, v = .slice (some ⟨g, 0, none⟩) (n + 1) c := by
 rcases h.2 with ⟨_, h0⟩ | ⟨g, cap, cur, rfl, _⟩
 ·cases h0
 ·exact ⟨_, _, rfl⟩
theorem RC {base : Nat} {e : TypeId} {v : Value} {A : Rp α} (f : α → Value) {l : List α} {n : Nat} (hf : ∀ (S : Nat → Prop) x, x ∈ l → A.r S w [f x] x) (hn : n = l.length) (h : w.ownsRow base e 1 v n (l.map f)) : (rSl 1 A).r (fun b => base ≤ b ∧ b < w.heap.size) w [v] l := by
 subst hn;rcases h.2 with ⟨rfl, h0⟩ | ⟨g, cap, cur, rfl, hbg, hg, hn, hc, hcur, hx⟩
 ·have : l = [] := AT h0
  subst this;exact Bh rfl (Ak _) (Aj _) (.inl rfl)
 ·refine Bh rfl hn hc (.inr ⟨g, 0, rfl, ⟨hbg, Blk.lt hg⟩, fun i x hi => ⟨[f x], rfl, fun j v hj => ?_, hf _ x (List.mem_of_getElem? hi)⟩⟩)
  have hj0 : j = 0 := by
   rcases j with _ | j
   ·rfl
   ·simp at hj
  subst hj0;simp at hj
  subst hj;have hi' : i < l.length := (List.getElem?_eq_some_iff.1 hi).1
  rw [A3, DA, BE, Blk.cell hg i]
  have e1 : cur[i]? = (cur.toList.take (l.length * 1))[i]? := by
   rw [CR, Am zC]; simp
  rw [e1, hx, JL, hi]; rfl
def BF (l : List Int) : List Value := l.map fun n => .int .u64 n
theorem EE {base : Nat} {e : TypeId} {v : Value} {l : List Int} {n : Nat} (hw : ∀ x ∈ l, 0 ≤ x ∧ x ≤ 18446744073709551615) (hn : n = l.length) (h : w.ownsRow base e 1 v n (BF l)) : AY.r (fun b => base ≤ b ∧ b < w.heap.size) w [v] l :=
 RC _ (fun _ x hx => ⟨rfl, H5 (hw x hx)⟩) hn h
theorem B9 {base : Nat} {e : TypeId} {v : Value} {l : List UInt8} {n : Nat} (hn : n = l.length) (h : w.ownsRow base e 1 v n (byteCells l)) : Ah.r (fun b => base ≤ b ∧ b < w.heap.size) w [v] l :=
 RC _ (fun _ x _ => rfl) hn h
theorem AD {base : Nat} {e : TypeId} {size : Nat} {v : Value} {n : Nat} {xs : List Value} (h : w.ownsRow base e size v n xs) (hb : Below w.heap.size w w') : w'.ownsRow base e size v n xs := by
 refine ⟨h.1, ?_⟩
 rcases h.2 with h0 | ⟨g, cap, cur, h1, h2, h3, h4⟩
 ·exact .inl h0
 ·exact .inr ⟨g, cap, cur, h1, h2, zAd, h4⟩
theorem BI {P : Program} {ops : Array Oper} {o : Oper} {a : Act} {K : Act → World → Prop} {Q : Exit → Act → World → Prop} {E : Prop} (hgd : o.guard = none) (s x : Operand) (t : TypeId)
  (ho : o.op = .call { callee := .builtin .append, args := #[s, x], argTypes := #[t, t] })
  (base : Nat) (e : TypeId) (i : TypeInfo) (z : Value) (size bytes : Nat) (ht : P.underlying t = some (.slice e)) (hi : P.info? e = some i) (hz : i.zero = some z)
  (hsize : i.size = size) (hby : i.bytes = bytes) (hzs : z.cells.size = size) (hsz : 0 < size)
  (v : Value) (n : Nat) (xs : List Value) (hs : a.eval s = v) (hown : w.ownsRow base e size v n xs)
  (A : Option Addr) (m c : Nat) (news : List Value) (hx : a.eval x = .slice A m c) (hsrc : Src w A m size news) (h1 : ∀ u ∈ news, u.oneCell' = true)
  (h63 : n + m ≤ maxLen) (hbytes : (n + m) * bytes ≤ 140737488355328) (hbase : base ≤ w.heap.size)
  (h : ∀ a' c' w', w'.ownsRow base e size (.slice a' (n + m) c') (n + m) (xs ++ news) → w.grownBy w' v.ownBlock → ((Value.slice a' (n + m) c').ownBlock = v.ownBlock ∨ (Value.slice a' (n + m) c').ownBlock = some w.heap.size) → K (a.put o.dst (.slice a' (n + m) c')) w') :
  if Region.wanted o (yielded ops a.tmps) = true then Oper.wp P o a w K Q else E := by
 have hw : Region.wanted o (yielded ops a.tmps) = true := by simp [Region.wanted, hgd]
 rw [Am hw]
 obtain ⟨v', w', hrun, h2, h3, h4⟩ := Ib (P := P) base t o.type e i z size bytes ht hi hz hsize hby hzs hsz v n xs hown A m c news hsrc h1 h63 hbytes hbase
 obtain ⟨a', c', rfl⟩ := AA h2
 unfold Oper.wp execOp;simp only [ho, resolve, invoke, builtin, Sem.run_bind, Sem.run_pure, Result.andThen_ok, List.map_toArray, D7, List.map_nil, hs, hx, hrun]
 exact h a' c' w' h2 h3 h4
end
end Go.Bs
namespace Go.Proofs.YtlbffbkbkajciaaGreat
open Go.RowKit Go.Bs
def Gh (b : List UInt8) (p q : Nat) : Bool := decide (p < b.length) && decide (b[p]? = b[q]?)
theorem Ol {b : List UInt8} {p q : Nat} (hp : p < b.length) (hq : q < b.length) : Gh b p q = ((b[p].toNat : Int) == (b[q].toNat : Int)) := by
 unfold Gh;rw [Ae hp, Ce, AR hp, AR hq, EM]
 simp only [Ar, Bk, beq_iff_eq]
 constructor
 ·intro h; rw [h]
 ·intro h; exact UInt8.toNat_inj.1 zC
theorem OH (b : List UInt8) (p q : Nat) (hq : q ≤ p) (a : Option Addr) (n c : Nat) (w : World) (hl : Ah.r (· < w.heap.size) w [.slice a n c] b) (hp : p ≤ 4611686018427387904) :
  Calls Tryz.prog 278 #[.slice a n c, .int .i64 p, .int .i64 q, .int .i64 1] w fun r w' => r = .returned (.bool (Gh b p q)) ∧ Below w.heap.size w w' := by
 obtain ⟨rfl, hm, _, _⟩ := AS hl
 by_cases hlt : p < b.length
 ·have hqt : q < b.length := by omega
  obtain ⟨g, o, hA, hg, hc⟩ := CO hl hlt
  obtain ⟨g', o', hA', hg', hc'⟩ := CO hl hqt
  rw [hA] at hA'
  simp only [Bk, Dd, AO] at hA'
  obtain ⟨rfl, rfl⟩ := hA'
  subst hA;have hff := hid (Ol hlt hqt)
  generalize b[p] = x at *
  generalize b[q] = y at *
  have HL := hid hl; clear hl
  have d1 : decide ((b.length : Int) < (p : Int) + 1) = false := zJ
  have d2 : decide ((b.length : Int) < (q : Int) + 1) = false := zJ
  go_enter Tryz.func278, Tryz.ntmps278
  go_wp2_with fail;refine wp_loop_rounds 2 ?_
  rw [rounds_succ]
  have C1 := fun s : A1 w => s.cell hc
  have C2 := fun s : A1 w => s.cell hc'
  cases he : ((x.toNat : Int) == (y.toNat : Int))
  ·have e1 : ((x.toNat : Int) != (y.toNat : Int)) = true := by simp only [bne, he, Bool.not_false]
   rw [he] at hff
   clear he;go_wp2_with fail;refine Ax zG zG ?_
   repeat (go_big_quiet_step (fail))
   refine AL ?_
   rintro W5 ⟨⟨W5', hb5⟩, rfl⟩;go_wp2;go_ret;exact ⟨zH, hb5⟩
  ·have e1 : ((x.toNat : Int) != (y.toNat : Int)) = false := by simp only [bne, he, Bool.not_true]
   rw [he] at hff
   clear he;go_wp2_with fail;refine Ax zG zG ?_
   repeat (go_big_quiet_step (fail))
   refine AL ?_
   rintro W5 ⟨⟨W5', hb5⟩, rfl⟩;go_wp2_with fail;rw [rounds_succ]
   go_wp2;go_ret;exact ⟨zH, hb5⟩
 ·have hff : Hid (Gh b p q = false) := hid (by simp [Gh, hlt])
  clear hl;go_enter Tryz.func278, Tryz.ntmps278
  go_wp2;go_ret;exact ⟨zH, zB⟩
theorem Qd (b : List UInt8) (p q : Int) (h0 : 0 ≤ q) (hq : q ≤ p) (a : Option Addr) (n c : Nat) (w : World) (hl : Ah.r (· < w.heap.size) w [.slice a n c] b) (hp : p ≤ 4611686018427387904) :
  Calls Tryz.prog 278 #[.slice a n c, .int .i64 p, .int .i64 q, .int .i64 1] w fun r w' => r = .returned (.bool (Gh b p.toNat q.toNat)) ∧ Below w.heap.size w w' := by
 obtain ⟨p', rfl⟩ := Ec (show 0 ≤ p by omega)
 obtain ⟨q', rfl⟩ := Ec h0
 exact OH b p' q' zC a n c w hl zC
def Hc (b : List UInt8) (p off k : Nat) : Nat := k + FM b off (b.length - p - k) (p + k)
theorem KL {b : List UInt8} {p off : Nat} (h : p < b.length ∧ 1 ≤ off ∧ off ≤ p) : CH b p off = Hc b p off 0 := by
 unfold CH Hc;rw [Am h]; simp
theorem LM {b : List UInt8} {p off k : Nat} (h : Gh b (p + k) (p + k - off) = true) : Hc b p off k = Hc b p off (k + 1) ∧ p + k < b.length := by
 simp only [Gh, Ao, Ar] at h
 refine ⟨?_, h.1⟩
 unfold Hc;obtain ⟨f, hf⟩ : ∃ f, b.length - p - k = f + 1 := ⟨b.length - p - k - 1, zC⟩
 rw [hf, show b.length - p - (k + 1) = f by omega]
 simp only [FM]
 rw [Am h, show p + (k + 1) = p + k + 1 by omega]
 omega
theorem Ka {b : List UInt8} {p off k : Nat} (h : Gh b (p + k) (p + k - off) = false) : Hc b p off k = k := by
 unfold Hc;rcases Cz (b.length - p - k) with h0 | h0
 ·rw [h0]; rfl
 ·obtain ⟨f, hf⟩ : ∃ f, b.length - p - k = f + 1 := ⟨b.length - p - k - 1, zC⟩
  rw [hf]
  simp only [FM]
  rw [An]
  ·omega
  ·rintro ⟨h1, h2⟩
   have : Gh b (p + k) (p + k - off) = true := by unfold Gh; rw [Ae h1, Ae h2]; rfl
   rw [this] at h; cases h
theorem Gc {b : List UInt8} {p off : Nat} (h : ¬ (p < b.length ∧ 1 ≤ off ∧ off ≤ p)) : CH b p off = 0 := by
 unfold CH; rw [An h]
theorem NB (b : List UInt8) (p off : Nat) (a : Option Addr) (n c : Nat) (w : World) (hl : Ah.r (· < w.heap.size) w [.slice a n c] b) (hlen : b.length ≤ 1048576) (hp : p ≤ 1048576) (ho : off ≤ 1048577) :
  Calls Tryz.prog 270 #[.slice a n c, .int .i64 p, .int .i64 off] w fun r w' => r = .returned (.int .i64 (CH b p off)) ∧ Below w.heap.size w w' := by
 obtain ⟨rfl, hm, _, _⟩ := AS hl
 have HL := hid hl; clear hl
 by_cases h1 : p < b.length
 ·have d0 : decide ((p : Int) < 0) = false := by simp
  have d1 : decide ((b.length : Int) ≤ (p : Int)) = false := zJ
  have d1' : decide (b.length ≤ p) = false := zJ
  by_cases h2 : 1 ≤ off
  ·have d2 : decide ((off : Int) < 1) = false := by simp; omega
   by_cases h3 : off ≤ p
   ·have d3 : decide ((p : Int) < (off : Int)) = false := by simp; omega
    have d3' : decide (p < off) = false := zJ
    have hff := hid (KL (off := off) ⟨h1, h2, h3⟩)
    go_enter Tryz.func270, Tryz.ntmps270
    go_wp2_with fail;go_loopw [7] (fun i wr => ∃ k : Nat, k ≤ b.length - p ∧ i = .int .i64 k ∧ Hid (CH b p off = Hc b p off k) ∧ Below w.heap.size w wr) (fun i _ => b.length - (intOf i).toNat)
    case atStart => exact ⟨0, Aj _, rfl, hff, Below.refl _ _⟩
    case round =>
     obtain ⟨k, hk, rfl, hf, hb⟩ := hrel
     clear hff;have d4 : decide ((k : Int) < 1048576) = true := zJ
     have hS := Qd b ((p : Int) + (k : Int)) ((p : Int) + (k : Int) - (off : Int)) zC zC a b.length c wr (lift HL.out hb) zC
     have e1 : ((p : Int) + (k : Int)).toNat = p + k := zC
     have e2 : ((p : Int) + (k : Int) - (off : Int)).toNat = p + k - off := zC
     rw [e1, e2] at hS
     clear e1 e2;cases hs : Gh b (p + k) (p + k - off)
     ·have hend := hid (Ka hs)
      rw [hs] at hS
      have HS := hid hS; clear hS hs
      go_wp2_with fail;refine HS.out.mono ?_
      rintro r w2 ⟨rfl, hb2⟩;go_wp2;go_ret;exact ⟨zB7, Af hb2 hb⟩
     ·obtain ⟨hn, hlt⟩ := LM hs
      have HN := hid hn
      rw [hs] at hS
      have HS := hid hS; clear hS hs hn
      go_wp2_with fail;refine HS.out.mono ?_
      rintro r w2 ⟨rfl, hb2⟩;go_wp2;go_roundw
      case rel => exact ⟨k + 1, zC, zV, hid (by rw [hf.out, HN.out]), Af hb2 hb⟩
      case measure => simp [intOf]; omega
   ·have d3 : decide ((p : Int) < (off : Int)) = true := by simp; omega
    have hff := hid (Gc (b := b) (p := p) (off := off) zC)
    go_enter Tryz.func270, Tryz.ntmps270
    go_wp2;go_ret;exact ⟨zH, zB⟩
  ·have d2 : decide ((off : Int) < 1) = true := by simp; omega
   have hff := hid (Gc (b := b) (p := p) (off := off) zC)
   go_enter Tryz.func270, Tryz.ntmps270
   go_wp2;go_ret;exact ⟨zH, zB⟩
 ·have d1 : decide ((b.length : Int) ≤ (p : Int)) = true := by simp; omega
  have hff := hid (Gc (b := b) (p := p) (off := off) zC)
  go_enter Tryz.func270, Tryz.ntmps270
  go_wp2;go_ret;exact ⟨zH, zB⟩
theorem KD (b : List UInt8) (p off : Int) (h0 : 0 ≤ p) (h1 : 0 ≤ off) (a : Option Addr) (n c : Nat) (w : World) (hl : Ah.r (· < w.heap.size) w [.slice a n c] b) (hlen : b.length ≤ 1048576) (hp : p ≤ 1048576) (ho : off ≤ 1048577) :
  Calls Tryz.prog 270 #[.slice a n c, .int .i64 p, .int .i64 off] w fun r w' => r = .returned (.int .i64 (CH b p.toNat off.toNat)) ∧ Below w.heap.size w w' := by
 obtain ⟨p', rfl⟩ := Ec h0
 obtain ⟨q', rfl⟩ := Ec h1
 exact NB b p' q' a n c w hl hlen zC zC
theorem Oj (b : List UInt8) (p off : Nat) (a : Option Addr) (n c : Nat) (w : World) (hl : Ah.r (· < w.heap.size) w [.slice a n c] b) (hlen : b.length ≤ 1048576) (hp : p ≤ 1048576) (ho : off ≤ 1048577) :
  Calls Tryz.prog 275 #[.slice a n c, .int .i64 p, .int .i64 off] w fun r w' => r = .returned (.int .i64 (CH b p off)) ∧ Below w.heap.size w w' := by
 obtain ⟨rfl, hm, _, _⟩ := AS hl
 by_cases h1 : p < b.length
 ·have d0 : decide ((p : Int) < 0) = false := by simp
  have d1 : decide ((b.length : Int) ≤ (p : Int)) = false := zJ
  have d1' : decide (b.length ≤ p) = false := zJ
  by_cases h2 : 1 ≤ off
  ·have d2 : decide ((off : Int) < 1) = false := by simp; omega
   by_cases h3 : off ≤ p
   ·have d3 : decide ((p : Int) < (off : Int)) = false := by simp; omega
    have d3' : decide (p < off) = false := zJ
    have hff := hid (KL (off := off) ⟨h1, h2, h3⟩)
    obtain ⟨g, o, hA, hg, _⟩ := CO hl h1
    subst hA;have HL := hid hl; clear hl
    go_enter Tryz.func275, Tryz.ntmps275
    go_wp2_with fail;go_loopw [7] (fun i wr => ∃ k : Nat, k ≤ b.length - p ∧ i = .int .i64 k ∧ Hid (CH b p off = Hc b p off k) ∧ Below w.heap.size w wr) (fun i _ => b.length - (intOf i).toNat)
    case atStart => exact ⟨0, Aj _, rfl, hff, Below.refl _ _⟩
    case round =>
     obtain ⟨k, hk, rfl, hf, hb⟩ := hrel
     clear hff;have d4 : decide ((k : Int) < 1048576) = true := zJ
     by_cases hlt : p + k < b.length
     ·have d5 : decide ((p : Int) + (k : Int) < (b.length : Int)) = true := by simp; omega
      have hlq : p + k - off < b.length := zC
      obtain ⟨g1, o1, hA1, _, hc⟩ := CO HL.out hlt
      obtain ⟨g2, o2, hA2, _, hc'⟩ := CO HL.out hlq
      simp only [Bk, Dd, AO] at hA1 hA2
      obtain ⟨rfl, rfl⟩ := hA1
      obtain ⟨rfl, rfl⟩ := hA2
      have C1 := fun s : A1 wr => s.cell ((hb.cell (p := ⟨g, o + (p + k), none⟩) hg).trans hc)
      have C2 := fun s : A1 wr => s.cell ((hb.cell (p := ⟨g, o + (p + k - off), none⟩) hg).trans hc')
      have hsa := Ol hlt hlq
      generalize b[p + k] = x at *
      generalize b[p + k - off] = y at *
      clear hc hc';have i1 : (0 : Int) ≤ (p : Int) + (k : Int) := zC
      have i2 : (0 : Int) ≤ (p : Int) + (k : Int) - (off : Int) := zC
      have i3 : (p : Int) + (k : Int) - (off : Int) < (b.length : Int) := zC
      have i4 : (p : Int) + (k : Int) < (b.length : Int) := zC
      have t1 : ((p : Int) + (k : Int)).toNat = p + k := zC
      have t2 : ((p : Int) + (k : Int) - (off : Int)).toNat = p + k - off := zC
      cases hs : Gh b (p + k) (p + k - off)
      ·have hend := hid (Ka hs)
       rw [hs] at hsa
       have e1 : ((x.toNat : Int) == (y.toNat : Int)) = false := hsa.symm
       clear hs hsa;go_wp2_with fail;refine Ax zG zG ?_
       repeat (go_big_quiet_step (fail))
       refine AL ?_
       rintro W5 ⟨⟨W5', hb5⟩, rfl⟩;go_wp2;go_ret;exact ⟨zB7, Af hb5 hb⟩
      ·obtain ⟨hn, _⟩ := LM hs
       have HN := hid hn
       rw [hs] at hsa
       have e1 : ((x.toNat : Int) == (y.toNat : Int)) = true := hsa.symm
       clear hs hsa hn;go_wp2_with fail;refine Ax zG zG ?_
       repeat (go_big_quiet_step (fail))
       refine AL ?_
       rintro W5 ⟨⟨W5', hb5⟩, rfl⟩;clear t1 t2;go_wp2;go_roundw
       case rel => exact ⟨k + 1, zC, zV, hid (by rw [hf.out, HN.out]), Af hb5 hb⟩
       case measure => simp [intOf]; omega
     ·have d5 : decide ((p : Int) + (k : Int) < (b.length : Int)) = false := by simp; omega
      have hs : Gh b (p + k) (p + k - off) = false := by simp [Gh, hlt]
      have hend := hid (Ka hs)
      clear hs;go_wp2_with fail;refine Ax zG zG ?_
      repeat (go_big_quiet_step (fail))
      refine AL ?_
      rintro W5 ⟨⟨W5', hb5⟩, rfl⟩;go_wp2;go_ret;exact ⟨zB7, Af hb5 hb⟩
   ·have d3 : decide ((p : Int) < (off : Int)) = true := by simp; omega
    have hff := hid (Gc (b := b) (p := p) (off := off) zC)
    go_enter Tryz.func275, Tryz.ntmps275
    go_wp2;go_ret;exact ⟨zH, zB⟩
  ·have d2 : decide ((off : Int) < 1) = true := by simp; omega
   have hff := hid (Gc (b := b) (p := p) (off := off) zC)
   go_enter Tryz.func275, Tryz.ntmps275
   go_wp2;go_ret;exact ⟨zH, zB⟩
 ·have d1 : decide ((b.length : Int) ≤ (p : Int)) = true := by simp; omega
  have hff := hid (Gc (b := b) (p := p) (off := off) zC)
  go_enter Tryz.func275, Tryz.ntmps275
  go_wp2;go_ret;exact ⟨zH, zB⟩
theorem PS (b : List UInt8) (p off : Int) (h0 : 0 ≤ p) (h1 : 0 ≤ off) (a : Option Addr) (n c : Nat) (w : World) (hl : Ah.r (· < w.heap.size) w [.slice a n c] b) (hlen : b.length ≤ 1048576) (hp : p ≤ 1048576) (ho : off ≤ 1048577) :
  Calls Tryz.prog 275 #[.slice a n c, .int .i64 p, .int .i64 off] w fun r w' => r = .returned (.int .i64 (CH b p.toNat off.toNat)) ∧ Below w.heap.size w w' := by
 obtain ⟨p', rfl⟩ := Ec h0
 obtain ⟨q', rfl⟩ := Ec h1
 exact Oj b p' q' a n c w hl hlen zC zC
theorem Ly (o n : Int) (w : World) : Calls Tryz.prog 276 #[.int .i64 o, .int .i64 n] w fun r w' => r = .returned (.tuple #[.int .i64 (if n < 4 then 0 else o), .int .i64 (if n < 4 then 0 else n)]) ∧ w = w' := by
 by_cases h : n < 4
 ·rw [Am h, Am h]
  have d1 : decide (n < 4) = true := ZS
  clear h;go_enter Tryz.func276, Tryz.ntmps276
  go_wp2;go_ret2
  exact ⟨rfl, rfl⟩
 ·rw [An h, An h]
  have d1 : decide (n < 4) = false := ZS
  clear h;go_enter Tryz.func276, Tryz.ntmps276
  go_wp2;go_ret2
  exact ⟨rfl, rfl⟩
end Go.Proofs.YtlbffbkbkajciaaGreat
