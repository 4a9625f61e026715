/- Mini: Needed by rpcOnce_walk, part 1: texts put together by shake.py; no condition. -/
import Derived.WalkKit
import Derived.WalkLawsBesides
import Derived.WalkSpells
import Derived.Outline
import Derived.BigQuiet
import Derived.Deep.QuietTactic
import Derived.ProofKit
import Derived.OpenShut
import Derived.Deep.Slices
import Derived.Lib.SmallJoins
import Derived.Test.YtlbffbkbkajciaaGreatRows
import Derived.Deep.AppendLies
import Derived.Laws.IdiomStrings
import Derived.Laws.BytesArg
import Derived.Maps.AppendAt
set_option linter.unusedVariables false
set_option linter.unusedSimpArgs false
set_option maxRecDepth 100000
set_option maxHeartbeats 6400000
namespace Go.Bs
theorem zBx{p:Prop}(h:p:=by rw [hff.out, Ak rfl, hst.out]; exact HV.out):p:=h
theorem zBw{p:Prop}(h:p:=by rw [hxs.out.2.2, Gy]; simp [Co]):p:=h
theorem zBv{p:Prop}(h:p:=by simp only [Cb]; rw [Ac hlt2]; rfl):p:=h
theorem zBt{p:Prop}(h:p:=by simp only; omega):p:=h
theorem zBk{p:Prop}(h:p:=by go_simp):p:=h
theorem zBj{p:Prop}(h:p:=by simp only [Cb]; rw [Ac (by omega)]; rfl):p:=h
theorem zBi{p:Prop}(h:p:=by simp only [Bl]; rw [Ac (by omega)]; rfl):p:=h
theorem zBe{p:Prop}(h:p:=by rw [hf.out, hdr.out, hlR, Ab (by omega)]; simp):p:=h
theorem zBb{p:Prop}(h:p:=by simp [Cb]; omega):p:=h
theorem zA4{p:Prop}(h:p:=by rw [hff.out]; exact A3 rfl (Al _) (Aj _) (.inl rfl)):p:=h
theorem zA2{p:Prop}(h:p:=by rw [hst.out]; simp [huv]):p:=h
theorem zA1{p:Prop}(h:p:=by simpa using h2):p:=h
theorem zAr{p:Prop}(h:p:=by simpa using h1):p:=h
theorem zAl{p:Prop}(h:p:=by simp at hA'; exact ⟨hA'.1.symm, hA'.2.symm⟩):p:=h
theorem zAj{p:Prop}(h:p:=by rw [hf.out, hst.out]; simp [huv]):p:=h
theorem zAd{p:Prop}(h:p:=by simp [byteCells]):p:=h
theorem zAa{p:Prop}(h:p:=by rw [hf.out, hst.out, Ab (by omega)]; rfl):p:=h
theorem Z3{p:Prop}(h:p:=by rw [hb.block g (Array.getElem?_eq_some_iff.1 h3).1]; exact h3):p:=h
theorem ZZ{p:Prop}(h:p:=by simpa using h):p:=h
theorem ZY{p:Prop}(h:p:=by rw [hf.out, hst'.out]):p:=h
theorem ZV{p:Prop}(h:p:=by rw [hst.out, Ac (by omega)]; rfl):p:=h
theorem ZL{p:Prop}(h:p:=by simp [Value.oneCell']):p:=h
theorem ZI{p:Prop}(h:p:=by have := (List.getElem?_eq_some_iff.1 hj).1; rw [hsz _ (BZ hic)] at this; exact this):p:=h
theorem zZ{p:Prop}(h:p:=by rw [hf.out, Gy, List.drop_of_length_le (by rw [HL.out]; exact Al _)]; rfl):p:=h
theorem zW{p:Prop}(h:p:=by go_num):p:=h
theorem zQ{p:Prop}(h:p:=by simp only [maxLen]; omega):p:=h
theorem zP{p:Prop}(h:p:=by decide):p:=h
theorem zO{p:Prop}(h:p:=by simp):p:=h
theorem zL{p:Prop}(h:p:=by simp; omega):p:=h
theorem zI{p:Prop}(h:p:=by rw [hff.out]; rfl):p:=h
theorem zH{p:Prop}(h:p:=by kernel_rfl):p:=h
theorem zD{p:Prop}(h:p:=by omega):p:=h
theorem zB{p:Prop}(h:p:=by (repeat (first | exact Below.refl _ _ | assumption | (refine Az ?_ _) | (refine Below.setCell ?_ (by first | omega | (simp; done) | (simp; omega)) _) | (refine Below.drew ?_) | (refine below_drewN ?_ _) | (refine Af (by assumption) ?_)))):p:=h
theorem Ab:type_of% @decide_eq_false:=@decide_eq_false
theorem Ac:type_of% @decide_eq_true:=@decide_eq_true
theorem Ah:type_of% @Nat.lt_of_lt_of_le:=@Nat.lt_of_lt_of_le
theorem Aj:type_of% @Nat.zero_le:=@Nat.zero_le
theorem Ak:type_of% @if_pos:=@if_pos
theorem Al:type_of% @Nat.le_refl:=@Nat.le_refl
theorem Am:type_of% @List.length_append:=@List.length_append
theorem An:type_of% @if_neg:=@if_neg
theorem Ap:type_of% @List.cons.injEq:=@List.cons.injEq
theorem As:type_of% @Bool.and_eq_true:=@Bool.and_eq_true
theorem Aw:type_of% @decide_eq_true_eq:=@decide_eq_true_eq
theorem AA:type_of% @wpQuiet_nil:=@wpQuiet_nil
theorem AD:type_of% @and_true:=@and_true
theorem AG:type_of% @RowKit.Below.heap_setCell:=@RowKit.Below.heap_setCell
theorem AI:type_of% @List.drop_eq_getElem_cons:=@List.drop_eq_getElem_cons
theorem AJ:type_of% @List.getElem?_eq_getElem:=@List.getElem?_eq_getElem
theorem AO:type_of% @List.eq_nil_of_length_eq_zero:=@List.eq_nil_of_length_eq_zero
theorem AU:type_of% @Proofs.Tryz.underlying25:=@Proofs.Tryz.underlying25
theorem AV:type_of% @wpList_plain:=@wpList_plain
theorem A5:type_of% @Nat.le_trans:=@Nat.le_trans
theorem A7:type_of% @List.length_cons:=@List.length_cons
theorem Bc:type_of% @Option.some.injEq:=@Option.some.injEq
theorem Bn:type_of% @Nat.zero_add:=@Nat.zero_add
theorem Bo:type_of% @Nat.lt_or_ge:=@Nat.lt_or_ge
theorem Bq:type_of% @info_parts:=@info_parts
theorem Bz:type_of% @World.cell?_of_block:=@World.cell?_of_block
theorem BD:type_of% @RowKit.Below.heap_alloc:=@RowKit.Below.heap_alloc
theorem BJ:type_of% @Bool.true_and:=@Bool.true_and
theorem BR:type_of% @Nat.add_zero:=@Nat.add_zero
theorem BZ:type_of% @List.getElem_mem:=@List.getElem_mem
theorem Cf:type_of% @Option.some.inj:=@Option.some.inj
theorem Ck:type_of% @World.block_lt_of_cell?:=@World.block_lt_of_cell?
theorem Cl:type_of% @Nat.mul_le_mul_right:=@Nat.mul_le_mul_right
theorem Ct:type_of% @World.frozen?_of_block:=@World.frozen?_of_block
theorem C7:type_of% @List.map_append:=@List.map_append
theorem C8:type_of% @List.getElem?_append_left:=@List.getElem?_append_left
theorem Dd:type_of% @List.mem_singleton:=@List.mem_singleton
theorem Dr:type_of% @Proofs.Tryz.underlying23:=@Proofs.Tryz.underlying23
theorem DA:type_of% @List.flatten_append:=@List.flatten_append
theorem DE:type_of% @Addr.mk.injEq:=@Addr.mk.injEq
theorem DN:type_of% @Nat.eq_zero_or_pos:=@Nat.eq_zero_or_pos
theorem DO:type_of% @List.getElem?_take:=@List.getElem?_take
theorem DP:type_of% @List.getElem?_append_right:=@List.getElem?_append_right
theorem DY:type_of% @List.mem_append:=@List.mem_append
theorem Eb:type_of% @Nat.mul_one:=@Nat.mul_one
theorem Fp:type_of% @Bool.eq_iff_iff:=@Bool.eq_iff_iff
theorem Gw:type_of% @Nat.mod_eq_of_lt:=@Nat.mod_eq_of_lt
theorem Gy:type_of% @List.drop_length:=@List.drop_length
theorem IG:type_of% @List.flatten_cons:=@List.flatten_cons
open Go.RowKit
theorem hid {p : Prop} (h : p) : Hid p := h
theorem Az {a W : World} (h : Below a.heap.size a W) (o : Obj) : Below a.heap.size a (W.alloc o) := h.alloc h.size _
theorem below_drewN {B : Nat} {a w : World} (h : Below B a w) (n : Nat) : Below B a (w.drewN n) := ⟨h.os, h.tape, h.output, h.size, h.block⟩
theorem Af {a W w' : World} (hb : Below W.heap.size W w') (h : Below a.heap.size a W) : Below a.heap.size a w' := h.trans (hb.mono h.size)
def Blk (w : World) (g : Nat) (t : TypeId) (cs : Array Value) : Prop := w.heap[g]? = some (.cells cs t (0, 0))
section
variable {w w' : World} {g : Nat} {t : TypeId} {cs : Array Value}
theorem Blk.lt (h : Blk w g t cs) : g < w.heap.size := by
 rcases Bo g w.heap.size with h' | h'
 ·exact h'
 ·unfold Blk at h; rw [Array.getElem?_eq_none h'] at h; cases h
theorem Blk.cell (h : Blk w g t cs) (i : Nat) : w.cell? ⟨g, i, none⟩ = cs[i]? := by unfold Blk at h; simp [World.cell?, h]
theorem Blk.free (h : Blk w g t cs) (i : Nat) : w.frozen? ⟨g, i, none⟩ = false := by unfold Blk at h; simp [World.frozen?, h]
theorem Blk.new (w : World) (t : TypeId) (cs : Array Value) : Blk (w.alloc (.cells cs t)) w.heap.size t cs := by
 unfold Blk; show (w.heap.push _)[w.heap.size]? = _; simp
theorem Blk.newAt (w : World) (t : TypeId) (cs : Array Value) {g : Nat} (h : g = w.heap.size) : Blk (w.alloc (.cells cs t)) g t cs := h ▸ Blk.new w t cs
theorem Blk.Uf (w : World) (o : Obj) (t : TypeId) (cs : Array Value) : Blk ((w.alloc o).alloc (.cells cs t)) (w.heap.size + 1) t cs := by
 have := Blk.new (w.alloc o) t cs
 simpa using this
theorem Blk.alloc (h : Blk w g t cs) (o : Obj) : Blk (w.alloc o) g t cs := (BD w o g h.lt).trans h
theorem Blk.drewN (h : Blk w g t cs) (n : Nat) : Blk (w.drewN n) g t cs := h
theorem Blk.drew (h : Blk w g t cs) : Blk w.drew g t cs := h
theorem Blk.set (h : Blk w g t cs) (i : Nat) (u : Value) : Blk (w.setCell ⟨g, i, none⟩ u) g t (cs.setIfInBounds i u) := by
 unfold Blk at h ⊢;simp [World.setCell, Array.getElem?_modify, h]
theorem Blk.far (h : Blk w g t cs) {p : Addr} (hp : g ≠ p.block) (u : Value) : Blk (w.setCell p u) g t cs := (AG w p u g hp).trans h
theorem Blk.below {B : Nat} (h : Blk w g t cs) (hb : Below B w w') (hg : g < B) : Blk w' g t cs := (hb.block g hg).trans h
theorem Blk.later (h : Blk w g t cs) (hb : Below w.heap.size w w') : Blk w' g t cs := h.below hb h.lt
theorem Blk.grown {row : Option Nat} (h : Blk w g t cs) (hb : w.grownBy w' row) (hg : some g ≠ row) : Blk w' g t cs := (hb.block g h.lt hg).trans h
end
structure AN (w : World) where
 at_ : World
 below : Below w.heap.size w at_
instance (w : World) : Inhabited (AN w) := ⟨⟨w, Below.refl _ _⟩⟩
theorem AN.cell {w : World} {b o : Nat} {v : Value} (h : w.cell? ⟨b, o, none⟩ = some v) (s : AN w) : s.at_.cell? ⟨b, o, none⟩ = some v := by
 have hlt := Ck w _ h
 rw [s.below.cell (p := ⟨b, o, none⟩) hlt]; exact h
section
variable {P : Program}
theorem FO {c : Code} {Q : Exit → Act → World → Prop} {a : Act} {w : World} (F : World → Prop) (hF : F w) (h : ∀ W, F W → c.wp P Q a W) : c.wp P Q a w := h w hF
theorem Ar {id : Nat} {Q : Exit → Act → World → Prop} {a : Act} {w : World} {l : List Oper} (hm : P.follows .mixedOrders = true) (hB : Region.lexB .any l.toArray = true)
  (h : wpQuiet P l.toArray (fun w' => ∃ s : AN w, w' = s.at_) (fun a' => ∀ w', (∃ s : AN w, w' = s.at_) → Q .normal a' w') l a) : (Code.region id l.toArray true).wp P Q a w :=
 wp_region_quiet (C := fun w' => ∃ s : AN w, w' = s.at_) hm hB ⟨⟨w.drew, (Below.refl _ _).drew⟩, rfl⟩ ZZ
theorem AW {f : FuncId} {args : Array Value} {w : World} {s : AN w} {v : Value}
  (h : Calls P f args s.at_ fun e w' => e = .returned v ∧ Below s.at_.heap.size s.at_ w') : Calls P f args s.at_ fun e w'' => e = .returned v ∧ ∃ s' : AN w, w'' = s'.at_ :=
 h.mono fun _ w' ⟨he, hb⟩ => ⟨he, ⟨w', s.below.trans (hb.mono s.below.size)⟩, rfl⟩
theorem Eo {f : FuncId} {args : Array Value} {w : World} {s : AN w} {v : Value}
  (h : Calls P f args s.at_ fun e w' => e = .returned v ∧ s.at_ = w') : Calls P f args s.at_ fun e w'' => e = .returned v ∧ ∃ s' : AN w, w'' = s'.at_ :=
 h.mono fun _ _ ⟨he, hb⟩ => ⟨he, s, hb.symm⟩
end
open Go.RowKit
structure Rp (α : Type) where
 r : (Nat → Prop) → World → List Value → α → Prop
 keep : ∀ {S : Nat → Prop} {w w' : World} {cs : List Value} {x : α}, r S w cs x → (∀ b, S b → w'.heap[b]? = w.heap[b]?) → r S w' cs x
 mono : ∀ {S S' : Nat → Prop} {w : World} {cs : List Value} {x : α}, r S w cs x → (∀ b, S b → S' b) → r S' w cs x
def Nf (k : IntKind) : Rp Int := ⟨fun _ _ cs n => cs = [.int k n] ∧ (Lit.int k n).wf = true, fun h _ => h, fun h _ => h⟩
def TA : Rp UInt8 := ⟨fun _ _ cs b => cs = [.int .u8 (b.toNat : Int)], fun h _ => h, fun h _ => h⟩
def Js {α β : Type} (A : Rp α) (B : Rp β) : Rp (α × β) :=
  ⟨fun S w cs x => ∃ c d, cs = c ++ d ∧ A.r S w c x.1 ∧ B.r S w d x.2,
   fun ⟨c, d, h, h1, h2⟩ hk => ⟨c, d, h, A.keep h1 hk, B.keep h2 hk⟩, fun ⟨c, d, h, h1, h2⟩ hk => ⟨c, d, h, A.mono h1 hk, B.mono h2 hk⟩⟩
def rBy {α β : Type} (f : α → β) (B : Rp β) : Rp α := ⟨fun S w cs x => B.r S w cs (f x), fun h hk => B.keep h hk, fun h hk => B.mono h hk⟩
def Ul {α : Type} (sz : Nat) (A : Rp α) (S : Nat → Prop) (w : World) (b off : Nat) (xs : List α) : Prop :=
 S b ∧ ∀ i x, xs[i]? = some x → ∃ cs : List Value, cs.length = sz ∧ (∀ j v, cs[j]? = some v → w.cell? ⟨b, off + i * sz + j, none⟩ = some v) ∧ A.r S w cs x
def rSl {α : Type} (sz : Nat) (A : Rp α) : Rp (List α) :=
  ⟨fun S w cs xs => ∃ a c, cs = [.slice a xs.length c] ∧ xs.length ≤ c ∧ c ≤ maxLen ∧ (xs = [] ∨ ∃ b off, a = some ⟨b, off, none⟩ ∧ Ul sz A S w b off xs),
   fun ⟨a, c, h, h1, h2, h3⟩ hk => ⟨a, c, h, h1, h2, h3.imp id fun ⟨b, off, e, hb, hr⟩ => ⟨b, off, e, hb, fun i x hi =>
     let ⟨cs, hl, hc, hA⟩ := hr i x hi
     ⟨cs, hl, fun j v hj => (Bz (a := ⟨b, off + i * sz + j, none⟩) (hk b hb)).trans (hc j v hj), A.keep hA hk⟩⟩⟩,
   fun ⟨a, c, h, h1, h2, h3⟩ hk => ⟨a, c, h, h1, h2, h3.imp id fun ⟨b, off, e, hb, hr⟩ => ⟨b, off, e, hk b hb, fun i x hi =>
     let ⟨cs, hl, hc, hA⟩ := hr i x hi
     ⟨cs, hl, hc, A.mono hA hk⟩⟩⟩⟩
theorem A3 {α : Type} {sz : Nat} {A : Rp α} {S : Nat → Prop} {w : World} {cs : List Value} {xs : List α} {a : Option Addr} {c : Nat} (h : cs = [.slice a xs.length c]) (h1 : xs.length ≤ c) (h2 : c ≤ maxLen)
  (h3 : xs = [] ∨ ∃ b off, a = some ⟨b, off, none⟩ ∧ Ul sz A S w b off xs) : (rSl sz A).r S w cs xs := ⟨a, c, h, h1, h2, h3⟩
theorem NH {α : Type} (n : Nat) (Q : Nat → α → Prop) (h : ∀ i, i < n → ∃ y, Q i y) : ∃ ys : List α, ys.length = n ∧ ∀ i y, ys[i]? = some y → Q i y := by
 induction n with
 | zero => exact ⟨[], rfl, fun i y h => by simp at h⟩
 | succ n ih =>
  obtain ⟨ys, h1, h2⟩ := ih fun i hi => h i zD
  obtain ⟨y, hy⟩ := h n zD
  refine ⟨ys ++ [y], by simp [h1], fun i z hz => ?_⟩
  rcases Bo i ys.length with hi | hi
  ·rw [C8 hi] at hz
   exact h2 i z hz
  ·rw [DP hi] at hz
   have h0 : i - ys.length = 0 := by
    rcases DN (i - ys.length) with h | h
    ·exact h
    ·rw [List.getElem?_eq_none zL] at hz; cases hz
   rw [h0] at hz
   simp at hz
   subst hz;have : i = n := zD
   subst this;exact hy
theorem Rp.below {α : Type} (A : Rp α) {w w' : World} {B : Nat} {cs : List Value} {x : α} (h : A.r (· < B) w cs x) (hb : Below B w w') : A.r (· < B) w' cs x := A.keep h hb.block
section
variable {P : Program}
def Qh (P : Program) (t : TypeId) {α : Type} (A : Rp α) : Prop :=
 ∀ {H : Type} (enc : TypeId × Value → H) (w : World) (fuel : Nat) (cs : List Value) (x : DataW H × List MemPlace), DataW.trod enc P w 0 (fun _ => true) true fuel t cs = some x → ∃ y, A.r (· < w.heap.size) w cs y
theorem OO {t : TypeId} (ht : P.underlying t = some (.int .u8)) : Qh P t TA := fun enc w fuel cs x h => by
 obtain ⟨n, rfl, _, hw⟩ := DataW.trod_int ht h
 have := bounds_u8 hw
 refine ⟨UInt8.ofNat n.toNat, ?_⟩
 show _ = _
 have e : ((UInt8.ofNat n.toNat).toNat : Int) = n := by
  simp [UInt8.toNat_ofNat']; omega
 rw [e]
theorem SZ {a : Addr} {b : Nat} {n : Nat} {v : Value} {w : World} (h : w.cell? (a.add n) = some v) : n = 0 → a.spot = none := by
 rintro rfl;unfold Addr.add at h;simp only [if_true] at h
 unfold World.cell? at h;cases hs : a.spot with
 | none => rfl
 | some s =>
  rw [hs] at h
  split at h <;> simp at h
theorem Nk {t e : TypeId} {sz : Nat} {α : Type} {A : Rp α} (ht : P.underlying t = some (.slice e)) (hs : P.cellsOf e = sz) (hsz : 0 < sz) (hA : Qh P e A) : Qh P t (rSl sz A) := fun enc w fuel cs x h => by
 rcases Deep.open_slice ht h with ⟨rfl, rfl⟩ | ⟨a, len, cap, m, n, D, Pl, rfl, hb, hl, hm, hmm, _, hel⟩
 ·exact ⟨[], A3 rfl (Al _) (Aj _) (.inl rfl)⟩
 ·have hlm : len ≤ m := by simp at hmm; omega
  rw [hs] at hel
  have hy : ∀ i, i < len → ∃ y, ∃ cs' : List Value, cs'.length = sz ∧ (∀ j v, cs'[j]? = some v → w.cell? ((a.add (i * sz)).add j) = some v) ∧ A.r (· < w.heap.size) w cs' y := by
   intro i hi;obtain ⟨cs', hc, ht'⟩ := hel i zD
   obtain ⟨y, hy⟩ := hA enc w n cs' _ ht'
   obtain ⟨_, h1, h2⟩ := World.cells?_some hc
   exact ⟨y, cs', h1, fun j v hj => by
    have hj' : j < sz := by rw [← h1]; exact (List.getElem?_eq_some_iff.1 hj).1
    rw [h2 j hj']; exact hj, hy⟩
  by_cases h0 : len = 0
  ·subst h0
   exact ⟨[], A3 rfl (Aj _) hm (.inl rfl)⟩
  have hspot : a.spot = none := by
   obtain ⟨y, cs', h1, h2, _⟩ := hy 0 zD
   obtain ⟨v, hv⟩ : ∃ v, cs'[0]? = some v := ⟨cs'[0], AJ zD⟩
   have := h2 0 v hv
   have e1 : (a.add (0 * sz)).add 0 = a.add 0 := by simp [Addr.add]
   rw [e1] at this
   exact SZ (b := 0) this rfl
  obtain ⟨ys, hys⟩ : ∃ ys : List α, ys.length = len ∧ ∀ i y, ys[i]? = some y → ∃ cs' : List Value, cs'.length = sz ∧ (∀ j v, cs'[j]? = some v → w.cell? ((a.add (i * sz)).add j) = some v) ∧ A.r (· < w.heap.size) w cs' y := by
   exact NH len _ hy
  obtain ⟨hlen, hys⟩ := hys
  refine ⟨ys, A3 (a := some a) (c := cap) (by rw [hlen]) zD hm (.inr ⟨a.block, a.off, by cases a; simp at hspot; rw [hspot], ?_, ?_⟩)⟩
  ·obtain ⟨y, cs', h1, h2, _⟩ := hy 0 zD
   obtain ⟨v, hv⟩ : ∃ v, cs'[0]? = some v := ⟨cs'[0], AJ zD⟩
   have := Ck w _ (h2 0 v hv)
   simpa [Addr.add] using this
  ·intro i y hiy
   obtain ⟨cs', h1, h2, h3⟩ := hys i y hiy
   refine ⟨cs', h1, fun j v hj => ?_, h3⟩
   rw [← h2 j v hj]
   congr 1
   cases a with
   | mk ab ao asp =>
    simp at hspot
    subst hspot;unfold Addr.add;split <;> split <;> simp_all
end
open Go.RowKit
structure BB where
 stream : Int
 backs : List Int
structure Entry where
 links : List BB
 data : List UInt8
structure Batch where
 epoch : Int
 base : Int
 entries : List Entry
structure Seg where
 epoch : Int
 batches : List Batch
def AQ : Rp (List Int) := rSl 1 (Nf .u64)
def Ag : Rp (List UInt8) := rSl 1 TA
def Kn : Rp BB := rBy (fun l => (l.stream, l.backs)) (Js (Nf .u64) AQ)
def BK : Rp (List BB) := rSl 2 Kn
def RY : Rp Entry := rBy (fun e => (e.links, e.data)) (Js BK Ag)
def RZ : Rp (List Entry) := rSl 2 RY
def Mi : Rp Batch := rBy (fun b => (b.epoch, b.base, b.entries)) (Js (Nf .u64) (Js (Nf .u64) RZ))
section
variable {S : Nat → Prop} {w : World} {cs : List Value}
theorem AE {α : Type} {sz : Nat} {A : Rp α} {xs : List α} (h : (rSl sz A).r S w cs xs) : ∃ a c, cs = [.slice a xs.length c] ∧ (rSl sz A).r S w [.slice a xs.length c] xs ∧ xs.length ≤ 9223372036854775807 := by
 obtain ⟨a, c, rfl, h1, h2, h3⟩ := h
 exact ⟨a, c, rfl, ⟨a, c, rfl, h1, h2, h3⟩, by unfold maxLen at h2; omega⟩
theorem AP {α : Type} {sz : Nat} {A : Rp α} {xs : List α} {a : Option Addr} {n c : Nat} (h : (rSl sz A).r S w [.slice a n c] xs) : n = xs.length ∧ xs.length ≤ 9223372036854775807 ∧ n ≤ c ∧ c ≤ 9223372036854775807 := by
 obtain ⟨a', c', e, h1, h2, h3⟩ := h
 simp at e
 obtain ⟨_, rfl, rfl⟩ := e
 exact ⟨rfl, by unfold maxLen at h2; omega, h1, h2⟩
theorem Ke {α : Type} {sz : Nat} {A : Rp α} {xs : List α} {a : Option Addr} {n c : Nat} (h : (rSl sz A).r S w [.slice a n c] xs) {i : Nat} (hi : i < xs.length) :
  ∃ b off, a = some ⟨b, off, none⟩ ∧ S b ∧ ∃ cs : List Value, cs.length = sz ∧ (∀ j v, cs[j]? = some v → w.cell? ⟨b, off + i * sz + j, none⟩ = some v) ∧ A.r S w cs xs[i] := by
 obtain ⟨a', c', e, h1, h2, h3⟩ := h
 simp at e
 obtain ⟨rfl, rfl, rfl⟩ := e
 rcases h3 with rfl | ⟨b, off, rfl, hS, hr⟩
 ·simp at hi
 ·obtain ⟨cs, hl, hc, hA⟩ := hr i xs[i] (AJ hi)
  exact ⟨b, off, rfl, hS, cs, hl, hc, hA⟩
theorem OX {x : BB} (h : Kn.r S w cs x) : ∃ a c, cs = [.int .u64 x.stream, .slice a x.backs.length c] ∧ (0 ≤ x.stream ∧ x.stream ≤ 18446744073709551615) ∧ AQ.r S w [.slice a x.backs.length c] x.backs := by
 obtain ⟨c1, c2, rfl, ⟨rfl, hw⟩, h2⟩ := h
 obtain ⟨a, c, rfl, h3, _⟩ := AE h2
 exact ⟨a, c, rfl, bounds_u64 hw, h3⟩
theorem IL {n : Int} (h : 0 ≤ n ∧ n ≤ 18446744073709551615) : (Lit.int .u64 n).wf = true := by
 simp [Lit.wf, IntKind.min, IntKind.max, IntKind.signed, IntKind.bits]; omega
theorem PU {x : BB} {a : Option Addr} {n c : Nat} (h0 : 0 ≤ x.stream ∧ x.stream ≤ 18446744073709551615) (h : AQ.r S w [.slice a n c] x.backs) : Kn.r S w [.int .u64 x.stream, .slice a n c] x := ⟨[_], [_], rfl, ⟨rfl, IL h0⟩, h⟩
theorem Cn {xs : List Int} {a : Option Addr} {n c : Nat} (h : AQ.r S w [.slice a n c] xs) {i : Nat} (hi : i < xs.length) : ∃ b off, a = some ⟨b, off, none⟩ ∧ S b ∧ w.cell? ⟨b, off + i, none⟩ = some (.int .u64 xs[i]) ∧ 0 ≤ xs[i] ∧ xs[i] ≤ 18446744073709551615 := by
 obtain ⟨b, off, e, hS, cs, _, hc, rfl, hw⟩ := Ke h hi
 have := hc 0 _ rfl
 rw [Eb, BR] at this
 exact ⟨b, off, e, hS, this, bounds_u64 hw⟩
theorem Cx {xs : List UInt8} {a : Option Addr} {n c : Nat} (h : Ag.r S w [.slice a n c] xs) {i : Nat} (hi : i < xs.length) : ∃ b off, a = some ⟨b, off, none⟩ ∧ S b ∧ w.cell? ⟨b, off + i, none⟩ = some (.int .u8 (xs[i].toNat : Int)) := by
 obtain ⟨b, off, e, hS, cs, _, hc, rfl⟩ := Ke h hi
 have := hc 0 _ rfl
 rw [Eb, BR] at this
 exact ⟨b, off, e, hS, this⟩
theorem DR {xs : List BB} {a : Option Addr} {n c : Nat} (h : BK.r S w [.slice a n c] xs) {i : Nat} (hi : i < xs.length) : ∃ b off, a = some ⟨b, off, none⟩ ∧ S b ∧ ∃ a' c', w.cell? ⟨b, off + i * 2, none⟩ = some (.int .u64 xs[i].stream) ∧ w.cell? ⟨b, off + i * 2 + 1, none⟩ = some (.slice a' xs[i].backs.length c') ∧
  (0 ≤ xs[i].stream ∧ xs[i].stream ≤ 18446744073709551615) ∧ AQ.r S w [.slice a' xs[i].backs.length c'] xs[i].backs := by
 obtain ⟨b, off, e, hS, cs, _, hc, hA⟩ := Ke h hi
 obtain ⟨a', c', rfl, h1, h2⟩ := OX hA
 exact ⟨b, off, e, hS, a', c', hc 0 _ rfl, hc 1 _ rfl, h1, h2⟩
end
theorem lift {α : Type} {A : Rp α} {w w' : World} {cs : List Value} {x : α} (h : A.r (· < w.heap.size) w cs x) (hb : Below w.heap.size w w') : A.r (· < w'.heap.size) w' cs x :=
 A.mono (A.below h hb) fun b hlt => Ah hlt hb.size
def epR (e : Int) : Bool := decide (1 ≤ e ∧ e < 4611686018427387904)
def poR (e : Int) : Bool := decide (e < 4611686018427387904)
def Cb : Int → List Int → Bool
 | _, [] => true
 | b, x :: l => decide (x < b) && Cb x l
def A1 : List Int → Bool
 | [] => true
 | [_] => true
 | x :: y :: l => decide (x < y) && A1 (y :: l)
def Cv (pos : Int) (x : BB) : Bool := decide (x.backs.length ≤ 4) && Cb pos x.backs
def Bl (pos : Int) (l : List BB) : Bool := decide (l.length ≤ 16) && (A1 (l.map BB.stream) && l.all (Cv pos))
end Go.Bs
namespace Go.Proofs.YtlbffbkbkajciaaGreat
open Go.RowKit Go.Bs
theorem Ey (e : Int) (w : World) : Calls Tryz.prog 113 #[.int .u64 e] w fun r w' => r = .returned (.bool (epR e)) ∧ w = w' := by
 by_cases h1 : 1 ≤ e
 ·by_cases h2 : e < 4611686018427387904
  ·have : epR e = true := by simp [epR, h1, h2]
   rw [this]
   have d1 : decide (1 ≤ e) = true := zAr
   have d2 : decide (e < 4611686018427387904) = true := zA1
   clear this h1 h2;go_enter Tryz.func113, Tryz.ntmps113
   go_wp2;go_ret;exact ⟨rfl, rfl⟩
  ·have : epR e = false := by simp [epR, h2]
   rw [this]
   have d1 : decide (1 ≤ e) = true := zAr
   have d2 : decide (e < 4611686018427387904) = false := zA1
   clear this h1 h2;go_enter Tryz.func113, Tryz.ntmps113
   go_wp2;go_ret;exact ⟨rfl, rfl⟩
 ·have : epR e = false := by simp [epR, h1]
  rw [this]
  have d1 : decide (1 ≤ e) = false := zAr
  clear this h1;go_enter Tryz.func113, Tryz.ntmps113
  go_wp2;go_ret;exact ⟨rfl, rfl⟩
theorem I7 (e : Int) (w : World) : Calls Tryz.prog 82 #[.int .u64 e] w fun r w' => r = .returned (.bool (poR e)) ∧ w = w' := by
 go_enter Tryz.func82, Tryz.ntmps82
 go_wp2;go_ret;exact ⟨rfl, rfl⟩
theorem GO (e : Int) (h0 : 0 ≤ e) (w : World) : Calls Tryz.prog 114 #[.int .u64 e] w fun r w' => r = .returned (.bool (epR e)) ∧ w = w' := by
 by_cases h1 : 0 < e
 ·by_cases h2 : e ≤ 4611686018427387903
  ·have : epR e = true := by simp [epR]; omega
   rw [this]
   have d1 : decide (0 < e) = true := zAr
   have d2 : decide (e ≤ 4611686018427387903) = true := zA1
   clear this h1 h2;go_enter Tryz.func114, Tryz.ntmps114
   go_wp2;go_ret;exact ⟨rfl, rfl⟩
  ·have : epR e = false := by simp [epR]; omega
   rw [this]
   have d1 : decide (0 < e) = true := zAr
   have d2 : decide (e ≤ 4611686018427387903) = false := zA1
   clear this h1 h2;go_enter Tryz.func114, Tryz.ntmps114
   go_wp2;go_ret;exact ⟨rfl, rfl⟩
 ·have : epR e = false := by simp [epR]; omega
  rw [this]
  have d1 : decide (0 < e) = false := zAr
  clear this h1;go_enter Tryz.func114, Tryz.ntmps114
  go_wp2;go_ret;exact ⟨rfl, rfl⟩
theorem QG (e : Int) (w : World) : Calls Tryz.prog 89 #[.int .u64 e] w fun r w' => r = .returned (.bool (poR e)) ∧ w = w' := by
 have : poR e = decide (e ≤ 4611686018427387903) := by simp only [poR, decide_eq_decide]; omega
 rw [this]
 clear this;go_enter Tryz.func89, Tryz.ntmps89
 go_wp2;go_ret;exact ⟨rfl, rfl⟩
theorem LF : (Tryz.prog.info? 22).map (fun i => (i.zero, i.size, i.bytes)) = some (some (.int .u64 0), 1, 8) := zH
def Co : Int → List Int → List Int
 | _, [] => []
 | b, x :: l => (b - x - 1) :: Co x l
def ahead (b : Int) (l : List Int) (k : Nat) : Int := if k = 0 then b else l.getD (k - 1) 0
theorem ahead_zero (b : Int) (l : List Int) : ahead b l 0 = b := rfl
theorem Gu (b : Int) (l : List Int) (k : Nat) (h : k < l.length) : ahead b l (k + 1) = l[k] := by
 unfold ahead; rw [An zD]; simp [h]
def S3 (below : Int) (l : List Int) (w : World) (e : Ending) (w' : World) : Prop :=
 ∃ v, e = .returned (.tuple #[v, .bool (Cb below l)]) ∧ AQ.r (· < w'.heap.size) w' [v] (if Cb below l then Co below l else []) ∧ Below w.heap.size w w'
theorem So {w : World} {base : Nat} {e : TypeId} {v : Value} {xs : List Int} (h : w.ownsRow base e 1 v xs.length (xs.map (Value.int .u64))) (hb : ∀ x ∈ xs, 0 ≤ x ∧ x ≤ 18446744073709551615) (hm : xs.length ≤ maxLen) : AQ.r (· < w.heap.size) w [v] xs := by
 rcases h.2 with ⟨rfl, h0⟩ | ⟨g, cap, cur, rfl, hbg, hg, hn, hc, hcur, hx⟩
 ·have : xs = [] := AO h0
  subst this;exact A3 rfl (Al _) (Aj _) (.inl rfl)
 ·refine A3 rfl hn hc (.inr ⟨g, 0, rfl, Blk.lt hg, fun i x hi => ⟨[.int .u64 x], rfl, fun j v hj => ?_, rfl, IL (hb x (List.mem_of_getElem? hi))⟩⟩)
  have hj0 : j = 0 := by
   rcases j with _ | j
   ·rfl
   ·simp at hj
  subst hj0;simp at hj
  subst hj;have hi' : i < xs.length := (List.getElem?_eq_some_iff.1 hi).1
  rw [Bn, Eb, BR, Blk.cell hg i]
  have e1 : cur[i]? = (cur.toList.take (xs.length * 1))[i]? := by
   rw [DO, Ak zD]; simp
  rw [e1, hx, List.getElem?_map, hi]; rfl
theorem Qw (below : Int) (l : List Int) (a : Option Addr) (n c : Nat) (w : World) (hb0 : 0 ≤ below ∧ below ≤ 18446744073709551615) (hl : AQ.r (· < w.heap.size) w [.slice a n c] l) (hlen : l.length ≤ 1000000000000) :
  Calls Tryz.prog 215 #[.int .u64 below, .slice a n c] w (S3 below l w) := by
 obtain ⟨rfl, hm, _, _⟩ := AP hl
 obtain ⟨i0, hi, hz0, hz1, hz2⟩ := Bq LF
 have HL := hid hl; clear hl
 go_enter Tryz.func215, Tryz.ntmps215
 go_wp2;go_loopw [0, 6, 11] (fun b v i wr => ∃ k : Nat, k ≤ l.length ∧ i = .int .i64 k ∧ b = .int .u64 (ahead below l k) ∧ 0 ≤ ahead below l k ∧ ahead below l k ≤ 18446744073709551615 ∧ Hid (Cb below l = Cb (ahead below l k) (l.drop k)) ∧
   (∃ xs : List Int, Hid (xs.length = k ∧ (∀ x ∈ xs, 0 ≤ x ∧ x ≤ 18446744073709551615) ∧ Co below l = xs ++ Co (ahead below l k) (l.drop k)) ∧ wr.ownsRow w.heap.size 22 1 v k (xs.map (Value.int .u64))) ∧ Below w.heap.size w wr) (fun _ _ i _ => l.length - (intOf i).toNat)
 case atStart => exact ⟨0, Aj _, rfl, rfl, hb0.1, hb0.2, hid rfl, ⟨[], hid ⟨rfl, zO, rfl⟩, ⟨rfl, .inl ⟨rfl, rfl⟩⟩⟩, Below.refl _ _⟩
 case round =>
  obtain ⟨k, hk, rfl, rfl, ha0, ha1, hf, ⟨xs, hxs, hown⟩, hb⟩ := hrel
  by_cases hlt : k < l.length
  ·obtain ⟨b, o, hA, hbb, hc, hx0, hx1⟩ := Cn HL.out hlt
   subst hA;have q := (hb.cell (p := ⟨b, o + k, none⟩) hbb).trans hc
   clear hc;have hd := hid (AI hlt)
   have hsu := hid (Gu below l k hlt)
   generalize hlk : l[k] = x at *
   clear hlk;generalize ahead below l k = p at *
   by_cases hge : p ≤ x
   ·have hff : Hid (Cb below l = false) := by
     rw [hf.out, hd.out]; exact hid zBb
    go_wp2;go_ret2
    exact ⟨.slice none 0 0, zI, zA4, hb⟩
   ·have hbs := hb.size
    have w1 : 0 ≤ p - x := zD
    have w2 : 0 ≤ p - x - 1 := zD
    go_wp2_with (at_builtin; refine wpList_append_lies _ rfl _ _ _ rfl w.heap.size 22 i0 (.int .u64 0) 1 8 Dr hi hz0 hz1 hz2 rfl zP _ k _ rfl (hown.alloc _) ⟨wr.heap.size, 0, none⟩ 1 1 [.int .u64 (p - x - 1)] rfl rfl (World.news_of_block (Blk.new _ _ _)) ZL zP zQ zD zL _ rfl ?_; intro g1 cap1 w1' hown1 hgrow1 hat1 hlt1)
    go_roundw
    case rel =>
     refine ⟨k + 1, zD, zW, by rw [hsu.out], by rw [hsu.out]; exact hx0, by rw [hsu.out]; exact hx1, ?_, ⟨xs ++ [p - x - 1], ?_, ?_⟩, ?_⟩
     ·rw [hf.out, hd.out, hsu.out]
      exact hid zBj
     ·refine hid ⟨by simp [hxs.out.1], ?_, ?_⟩
      ·intro y hy
       rw [DY, Dd] at hy
       rcases hy with hy | rfl
       ·exact hxs.out.2.1 y hy
       ·omega
      ·rw [hsu.out, hxs.out.2.2, hd.out]
       simp [Co]
     ·rw [C7]; exact hown1
     ·refine Below.grown ?_ hgrow1 zL (fun g e => (hown.lt g e).1)
      exact hb.alloc hbs _
    case measure => simp [intOf]; omega
  ·obtain rfl : k = l.length := by omega
   have hff : Hid (Cb below l = true) := by
    rw [hf.out, Gy]; exact hid rfl
   have hxl := hxs.out.1
   have hst : Hid (Co below l = xs) := hid zBw
   have hv : AQ.r (· < wr.heap.size) wr [u6] xs := So (by rw [hxl]; exact hown) hxs.out.2.1 (by unfold maxLen; omega)
   have HV := hid hv; clear hv hxl
   go_wp2;go_ret2
   exact ⟨u6, zI, zBx, hb⟩
theorem NG (below : Int) (l : List Int) (a : Option Addr) (n c : Nat) (w : World) (hb0 : 0 ≤ below ∧ below ≤ 18446744073709551615) (hl : AQ.r (· < w.heap.size) w [.slice a n c] l) (hlen : l.length ≤ 1000000000000) :
  Calls Tryz.prog 159 #[.int .u64 below, .slice a n c] w fun r w' => r = .returned (.bool (Cb below l)) ∧ Below w.heap.size w w' := by
 have HL := hid hl; clear hl
 go_enter Tryz.func159, Tryz.ntmps159
 go_wp2_with fail;refine (Qw below l a n c _ hb0 HL.out hlen).mono ?_
 rintro e w1 ⟨v, rfl, _, hb1⟩;go_wp2;go_ret;exact ⟨rfl, hb1⟩
theorem M6 (below : Int) (l : List Int) (a : Option Addr) (n c : Nat) (w : World) (hl : AQ.r (· < w.heap.size) w [.slice a n c] l) :
  Calls Tryz.prog 163 #[.int .u64 below, .slice a n c] w fun r w' => r = .returned (.bool (Cb below l)) ∧ Below w.heap.size w w' := by
 obtain ⟨rfl, hm, _, _⟩ := AP hl
 have HL := hid hl; clear hl
 go_enter Tryz.func163, Tryz.ntmps163
 go_wp2;go_loopw [5] (fun i wr => ∃ k : Nat, k ≤ l.length ∧ i = .int .i64 k ∧ Hid (Cb below l = Cb (ahead below l k) (l.drop k)) ∧ Below w.heap.size w wr) (fun i _ => l.length - (intOf i).toNat)
 case atStart => exact ⟨0, Aj _, rfl, hid rfl, Below.refl _ _⟩
 case round =>
  obtain ⟨k, hk, rfl, hf, hb⟩ := hrel
  by_cases hlt : k < l.length
  ·obtain ⟨b, o, hA, hbb, hc, hx0, hx1⟩ := Cn HL.out hlt
   have hd := hid (AI hlt)
   have hsu := hid (Gu below l k hlt)
   have hlt' : (k : Int) < (l.length : Int) := zD
   rcases k with _ | m
   ·subst hA
    have X0 := fun s : AN wr => s.cell ((hb.cell (p := ⟨b, o + 0, none⟩) hbb).trans hc)
    simp only [BR] at X0
    clear hc;generalize hlk : l[0] = x at *
    clear hlk;rw [ahead_zero] at hf
    by_cases hge : below ≤ x
    ·have d1 : decide (below ≤ x) = true := by simpa using hge
     have hff : Hid (Cb below l = false) := by
      rw [hf.out, hd.out]; exact hid zBb
     clear hge;go_wp2_with fail;refine Ar zH zH ?_
     repeat (go_big_quiet_step (fail))
     refine AA ?_
     rintro W5 ⟨⟨W5', hb5⟩, rfl⟩;go_wp2;go_ret;exact ⟨zI, Af hb5 hb⟩
    ·have d1 : decide (below ≤ x) = false := by simpa using hge
     clear hge;have hlt2 : x < below := by simpa using d1
     go_wp2_with fail;refine Ar zH zH ?_
     repeat (go_big_quiet_step (fail))
     refine AA ?_
     rintro W5 ⟨⟨W5', hb5⟩, rfl⟩;go_wp2;go_roundw
     case rel =>
      refine ⟨1, zD, rfl, ?_, Af hb5 hb⟩
      rw [hsu.out, hf.out, hd.out]
      exact hid zBv
     case measure => simp [intOf]; omega
   ·obtain ⟨b', o', hA', hbb', hc', _, _⟩ := Cn HL.out (show m < l.length by omega)
    have hp := hid (Gu below l m zD)
    subst hA;obtain ⟨rfl, rfl⟩ : b' = b ∧ o' = o := zAl
    clear hA';have X0 := fun s : AN wr => s.cell ((hb.cell (p := ⟨b', o' + (m + 1), none⟩) hbb).trans hc)
    have X1 := fun s : AN wr => s.cell ((hb.cell (p := ⟨b', o' + m, none⟩) hbb).trans hc')
    clear hc hc';generalize hlk : l[m + 1] = x at *
    generalize hlm : l[m] = y at *
    clear hlk hlm;rw [hp.out] at hf
    rw [show ((m + 1 : Nat) : Int) = (m : Int) + 1 from zD]
    have k0 : ((m : Int) + 1 == 0) = false := zL
    have k1 : (0 : Int) < (m : Int) + 1 := zD
    have k2 : (0 : Int) ≤ (m : Int) + 1 - 1 := zD
    have k3 : (m : Int) + 1 < (l.length : Int) := zD
    by_cases hge : y ≤ x
    ·have d1 : decide (y ≤ x) = true := by simpa using hge
     have hff : Hid (Cb below l = false) := by
      rw [hf.out, hd.out]; exact hid zBb
     clear hge;go_wp2_with fail;refine Ar zH zH ?_
     repeat (go_big_quiet_step (fail))
     refine AA ?_
     rintro W5 ⟨⟨W5', hb5⟩, rfl⟩;go_wp2;go_ret;exact ⟨zI, Af hb5 hb⟩
    ·have d1 : decide (y ≤ x) = false := by simpa using hge
     clear hge;have hlt2 : x < y := by simpa using d1
     go_wp2_with fail;refine Ar zH zH ?_
     repeat (go_big_quiet_step (fail))
     refine AA ?_
     rintro W5 ⟨⟨W5', hb5⟩, rfl⟩;go_wp2;go_roundw
     case rel =>
      refine ⟨m + 1 + 1, zD, zW, ?_, Af hb5 hb⟩
      rw [hsu.out, hf.out, hd.out]
      exact hid zBv
     case measure => simp [intOf]; omega
  ·obtain rfl : k = l.length := by omega
   have hff : Hid (Cb below l = true) := by
    rw [hf.out, Gy]; exact hid rfl
   go_wp2;go_ret;exact ⟨zI, hb⟩
end Go.Proofs.YtlbffbkbkajciaaGreat
namespace Go.Bs
open Go.RowKit
deriving instance DecidableEq for BB, Entry, Batch, Seg
theorem Ha {P : Program} {S : Nat → Prop} {w : World} {a : Option Addr} {n c : Nat} {l : List UInt8} (src dst e : TypeId) (hs : P.underlying src = some (.slice e)) (he : P.underlying e = some (.int .u8)) (hd : P.underlying dst = some .string)
  (h : Ag.r S w [.slice a n c] l) : (convert src dst (.slice a l.length c)).run P w = .ok (.string ⟨l.toArray⟩) w := by
 obtain ⟨rfl, _, _, _⟩ := AP h
 rcases a with _ | ad
 ·have h0 : l = [] := by
   rcases l with _ | ⟨x, l⟩
   ·rfl
   ·obtain ⟨b, off, e, _⟩ := Cx h (i := 0) zO
    cases e
  subst h0;exact run_convert_bytes_nil w src e hs he _ _ dst hd
 ·refine run_convert_bytes_back w src dst e ad c l hs he hd fun j hj => ?_
  obtain ⟨b, off, e, _, hc⟩ := Cx h hj
  simp at e
  subst e;rw [← hc]
  congr 1
  unfold Addr.add;split
  ·rename_i h0; subst h0; rfl
  ·rfl
end Go.Bs
namespace Go.Proofs.YtlbffbkbkajciaaGreat
open Go.RowKit Go.Bs
theorem Ht (x y : List UInt8) (a a' : Option Addr) (n c n' c' : Nat) (w : World) (hx : Ag.r (· < w.heap.size) w [.slice a n c] x) (hy : Ag.r (· < w.heap.size) w [.slice a' n' c'] y) :
  Calls Tryz.prog 18 #[.slice a n c, .slice a' n' c'] w fun r w' => r = .returned (.bool (decide (x = y))) ∧ w = w' := by
 obtain ⟨rfl, _, _, _⟩ := AP hx
 obtain ⟨rfl, _, _, _⟩ := AP hy
 have h1 := Ha (P := Tryz.prog) 25 9 5 AU Tryz.underlying5 Tryz.underlying9 hx
 have h2 := Ha (P := Tryz.prog) 25 9 5 AU Tryz.underlying5 Tryz.underlying9 hy
 have he : (x == y) = decide (x = y) := by
  by_cases h : x = y
  ·simp [h]
  ·simp [h]
 have HE := hid he; clear he hx hy
 go_enter Tryz.func18, Tryz.ntmps18
 go_wp2;go_ret;refine ⟨?_, rfl⟩
 rw [← HE.out]
 simp [go_sem]
theorem EN {α : Type} [DecidableEq α] (x y : List α) (k : Nat) (hx : k < x.length) (hy : k < y.length) : decide (x.drop k = y.drop k) = (decide (x[k] = y[k]) && decide (x.drop (k + 1) = y.drop (k + 1))) := by
 rw [AI hx, AI hy, Fp, decide_eq_true_iff, As, decide_eq_true_iff, decide_eq_true_iff, Ap]
theorem IP (x y : List Int) (a a' : Option Addr) (n c n' c' : Nat) (w : World) (hx : AQ.r (· < w.heap.size) w [.slice a n c] x) (hy : AQ.r (· < w.heap.size) w [.slice a' n' c'] y) :
  Calls Tryz.prog 99 #[.slice a n c, .slice a' n' c'] w fun r w' => r = .returned (.bool (decide (x = y))) ∧ Below w.heap.size w w' := by
 obtain ⟨rfl, hm, _, _⟩ := AP hx
 obtain ⟨rfl, hm', _, _⟩ := AP hy
 by_cases hl : x.length = y.length
 ·have HX := hid hx; clear hx
  have HY := hid hy; clear hy
  have HL := hid hl
  have e1 : ((x.length : Int) != (y.length : Int)) = false := by simp [hl]
  clear hl;go_enter Tryz.func99, Tryz.ntmps99
  go_wp2;go_loopw [5] (fun i wr => ∃ k : Nat, k ≤ x.length ∧ i = .int .i64 k ∧ Hid (decide (x = y) = decide (x.drop k = y.drop k)) ∧ Below w.heap.size w wr) (fun i _ => x.length - (intOf i).toNat)
  case atStart => exact ⟨0, Aj _, rfl, hid rfl, Below.refl _ _⟩
  case round =>
   obtain ⟨k, hk, rfl, hf, hb⟩ := hrel
   by_cases hlt : k < x.length
   ·have hlt' : k < y.length := by rw [← HL.out]; exact hlt
    obtain ⟨b, o, hA, hbb, hc, _, _⟩ := Cn HX.out hlt
    obtain ⟨b', o', hA', hbb', hc', _, _⟩ := Cn HY.out hlt'
    have hst := hid (EN x y k hlt hlt')
    subst hA hA';have X0 := fun s : AN wr => s.cell ((hb.cell (p := ⟨b, o + k, none⟩) hbb).trans hc)
    have X1 := fun s : AN wr => s.cell ((hb.cell (p := ⟨b', o' + k, none⟩) hbb').trans hc')
    clear hc hc';generalize hlk : x[k] = u at *
    generalize hlm : y[k] = v at *
    clear hlk hlm;have i0 : (0 : Int) ≤ (k : Int) := zD
    have i1 : (k : Int) < (x.length : Int) := zD
    have i2 : (k : Int) < (y.length : Int) := zD
    by_cases huv : u = v
    ·have d1 : (u != v) = false := by simp [huv]
     have hst' : Hid (decide (x.drop k = y.drop k) = decide (x.drop (k + 1) = y.drop (k + 1))) := hid zA2
     clear huv;go_wp2_with fail;refine Ar zH zH ?_
     repeat (go_big_quiet_step (fail))
     refine AA ?_
     rintro W5 ⟨⟨W5', hb5⟩, rfl⟩;go_wp2;go_roundw
     case rel => exact ⟨k + 1, zD, zW, hid ZY, Af hb5 hb⟩
     case measure => simp [intOf]; omega
    ·have d1 : (u != v) = true := by simp [huv]
     have hff : Hid (decide (x = y) = false) := hid zAj
     clear huv;go_wp2_with fail;refine Ar zH zH ?_
     repeat (go_big_quiet_step (fail))
     refine AA ?_
     rintro W5 ⟨⟨W5', hb5⟩, rfl⟩;go_wp2;go_ret;exact ⟨zI, Af hb5 hb⟩
   ·obtain rfl : k = x.length := by omega
    have hff : Hid (decide (x = y) = true) := hid zZ
    go_wp2;go_ret;exact ⟨zI, hb⟩
 ·have hff : Hid (decide (x = y) = false) := hid (by simp; rintro rfl; exact hl rfl)
  have e1 : ((x.length : Int) != (y.length : Int)) = true := zL
  clear hl hx hy;go_enter Tryz.func99, Tryz.ntmps99
  go_wp2;go_ret;exact ⟨zI, Below.refl _ _⟩
def Cs (l : List Int) (k : Nat) : Bool := if k = 0 then A1 l else A1 (l.drop (k - 1))
theorem Fv (l : List Int) : Cs l 1 = Cs l 0 := by simp [Cs]
theorem EH (l : List Int) (m : Nat) (h : m + 1 < l.length) : Cs l (m + 1) = (decide (l[m] < l[m + 1]) && Cs l (m + 2)) := by
 have e1 : l.drop m = l[m] :: l[m + 1] :: l.drop (m + 2) := by
  rw [AI (show m < l.length by omega), AI h]
 have e2 : l.drop (m + 1) = l[m + 1] :: l.drop (m + 2) := AI h
 show A1 (l.drop m) = (_ && A1 (l.drop (m + 1)))
 rw [e1, e2]; rfl
theorem Fw (l : List Int) : Cs l l.length = true := by
 unfold Cs;split
 ·rename_i h; rw [AO h]; rfl
 ·rename_i h
  have e : l.drop (l.length - 1) = [l[l.length - 1]] := by
   rw [AI (show l.length - 1 < l.length by omega), List.drop_of_length_le zD]
  rw [e]; rfl
theorem Jv (s : Int) (v : Value) (h1 : v.oneCell' = true) (w : World) : Calls Tryz.prog 157 #[.agg #[.int .u64 s, v]] w fun r w' => r = .returned (.int .u64 s) ∧ Below w.heap.size w w' := by
 go_enter Tryz.func157, Tryz.ntmps157
 go_wp2;go_ret;exact ⟨rfl, zB⟩
theorem OV (l : List BB) (a : Option Addr) (n c : Nat) (w : World) (hl : BK.r (· < w.heap.size) w [.slice a n c] l) :
  Calls Tryz.prog 156 #[.slice a n c, .func (.func 157) #[] #[]] w fun r w' => r = .returned (.bool (A1 (l.map BB.stream))) ∧ Below w.heap.size w w' := by
 obtain ⟨rfl, hm, _, _⟩ := AP hl
 have HL := hid hl; clear hl
 go_enter Tryz.func156, Tryz.ntmps156
 go_wp2;go_loopw [8] (fun i wr => ∃ k : Nat, k ≤ l.length ∧ i = .int .i64 k ∧ Hid (A1 (l.map BB.stream) = Cs (l.map BB.stream) k) ∧ Below w.heap.size w wr) (fun i _ => l.length - (intOf i).toNat)
 case atStart => exact ⟨0, Aj _, rfl, hid rfl, Below.refl _ _⟩
 case round =>
  obtain ⟨k, hk, rfl, hf, hb⟩ := hrel
  by_cases hlt : k < l.length
  ·obtain ⟨b, o, hA, hbb, a1, c1, hc0, hc1, _, _⟩ := DR HL.out hlt
   have hlt' : (k : Int) < (l.length : Int) := zD
   rcases k with _ | m
   ·have h1 := hid (Fv (l.map BB.stream))
    go_wp2_with fail;refine Ar zH zH ?_
    repeat (go_big_quiet_step (fail))
    refine AA ?_
    rintro W5 ⟨⟨W5', hb5⟩, rfl⟩;go_wp2;go_roundw
    case rel => exact ⟨1, zD, rfl, hid (by rw [hf.out, h1.out]), Af hb5 hb⟩
    case measure => simp [intOf]; omega
   ·obtain ⟨b', o', hA', hbb', a2, c2, hd0, hd1, _, _⟩ := DR HL.out (show m < l.length by omega)
    have hst := hid (EH (l.map BB.stream) m (by simpa using hlt))
    subst hA;obtain ⟨rfl, rfl⟩ : b' = b ∧ o' = o := zAl
    clear hA';have X0 := fun s : AN wr => s.cell ((hb.cell (p := ⟨b', o' + (m + 1) * 2, none⟩) hbb).trans hc0)
    have X1 := fun s : AN wr => s.cell ((hb.cell (p := ⟨b', o' + (m + 1) * 2 + 1, none⟩) hbb).trans hc1)
    have Y0 := fun s : AN wr => s.cell ((hb.cell (p := ⟨b', o' + m * 2, none⟩) hbb).trans hd0)
    have Y1 := fun s : AN wr => s.cell ((hb.cell (p := ⟨b', o' + m * 2 + 1, none⟩) hbb).trans hd1)
    clear hc0 hc1 hd0 hd1;simp only [List.getElem_map] at hst
    generalize l[m + 1].stream = x at *
    generalize l[m].stream = y at *
    generalize l[m + 1].backs.length = n1 at *
    generalize l[m].backs.length = n2 at *
    rw [show ((m + 1 : Nat) : Int) = (m : Int) + 1 from zD]
    have k1 : (0 : Int) < (m : Int) + 1 := zD
    have k2 : (0 : Int) ≤ (m : Int) + 1 - 1 := zD
    have k3 : (m : Int) + 1 < (l.length : Int) := zD
    have k4 : (m : Int) < (l.length : Int) := zD
    by_cases hge : x ≤ y
    ·have d1 : decide (x ≤ y) = true := by simpa using hge
     have hff : Hid (A1 (l.map BB.stream) = false) := hid (by rw [hf.out, hst.out]; simp; omega)
     clear hge;go_wp2_with fail;refine Ar zH zH ?_
     repeat (go_big_quiet_step (((go_at_call 157; exact AW (Jv _ _ rfl _)))))
     refine AA ?_
     rintro W5 ⟨⟨W5', hb5⟩, rfl⟩;go_wp2;go_ret;exact ⟨zI, Af hb5 hb⟩
    ·have d1 : decide (x ≤ y) = false := by simpa using hge
     have hst' : Hid (Cs (l.map BB.stream) (m + 1) = Cs (l.map BB.stream) (m + 2)) := hid ZV
     clear hge;go_wp2_with fail;refine Ar zH zH ?_
     repeat (go_big_quiet_step (((go_at_call 157; exact AW (Jv _ _ rfl _)))))
     refine AA ?_
     rintro W5 ⟨⟨W5', hb5⟩, rfl⟩;go_wp2;go_roundw
     case rel => exact ⟨m + 2, zD, zW, hid ZY, Af hb5 hb⟩
     case measure => simp [intOf]; omega
  ·obtain rfl : k = l.length := by omega
   have hff : Hid (A1 (l.map BB.stream) = true) := hid (by
    have := Fw (l.map BB.stream)
    rw [List.length_map] at this
    rw [hf.out, this])
   go_wp2;go_ret;exact ⟨zI, hb⟩
theorem OT (pos : Int) (x : BB) (a : Option Addr) (n c : Nat) (blk : Nat) (w : World) (hpos : 0 ≤ pos ∧ pos ≤ 18446744073709551615) (hx : AQ.r (· < w.heap.size) w [.slice a n c] x.backs) (hlen : x.backs.length ≤ 1000000000000)
  (hc : w.cell? ⟨blk, 0, none⟩ = some (.int .u64 pos)) :
  Calls Tryz.prog 158 #[.agg #[.int .u64 x.stream, .slice a n c], .pointer (some ⟨blk, 0, none⟩)] w fun r w' => r = .returned (.bool (!Cv pos x)) ∧ Below w.heap.size w w' := by
 obtain ⟨rfl, hm, _, _⟩ := AP hx
 have hlt := Ck w _ hc
 have X0 := (AN.mk _ ((Below.refl w.heap.size w).alloc (Al _) (.cells #[.int .u64 x.stream, .slice a x.backs.length c] 151))).cell hc
 by_cases h4 : 4 < x.backs.length
 ·have hff : Cv pos x = false := by simp [Cv]; omega
  rw [hff]
  clear hff hx hc;go_enter Tryz.func158, Tryz.ntmps158
  go_wp2;go_ret;exact ⟨rfl, zB⟩
 ·have hff : Cv pos x = Cb pos x.backs := by simp only [Cv]; rw [Ac zD]; rfl
  rw [hff]
  have d4 : decide (4 < (x.backs.length : Int)) = false := zL
  have HX := hid hx; clear hx hff
  go_enter Tryz.func158, Tryz.ntmps158
  go_wp2_with fail;refine (NG pos x.backs _ _ _ _ hpos (lift HX.out zB) hlen).mono ?_
  rintro e w1 ⟨rfl, hb1⟩;go_wp2;go_ret;exact ⟨rfl, zB⟩
theorem J8 {α : Type} (p : α → Bool) (l : List α) (k : Nat) (h : k < l.length) : (l.drop k).takeWhile p = if p l[k] then l[k] :: (l.drop (k + 1)).takeWhile p else [] := by
 rw [AI h, List.takeWhile_cons]
theorem KY {α : Type} (p : α → Bool) (l : List α) : decide ((l.takeWhile p).length = l.length) = l.all p := by
 induction l with
 | nil => rfl
 | cons x l ih =>
  rw [List.takeWhile_cons, List.all_cons]
  cases h : p x
  ·simp
  ·simp only [if_true, A7, Nat.add_right_cancel_iff, BJ]; exact ih
theorem OW (pos : Int) (l : List BB) (a : Option Addr) (n c : Nat) (blk : Nat) (w : World) (hpos : 0 ≤ pos ∧ pos ≤ 18446744073709551615) (hl : BK.r (· < w.heap.size) w [.slice a n c] l) (hbk : ∀ x ∈ l, x.backs.length ≤ 1000000000000)
  (hc : w.cell? ⟨blk, 0, none⟩ = some (.int .u64 pos)) :
  Calls Tryz.prog 160 #[.slice a n c, .func (.func 158) #[] #[.pointer (some ⟨blk, 0, none⟩)]] w fun r w' => r = .returned (.int .i64 ((l.takeWhile (Cv pos)).length : Nat)) ∧ Below w.heap.size w w' := by
 obtain ⟨rfl, hm, _, _⟩ := AP hl
 have HL := hid hl; clear hl
 have HB := hid hbk; clear hbk
 have hblk := Ck w _ hc
 have HC := hid hc; clear hc
 go_enter Tryz.func160, Tryz.ntmps160
 go_wp2;go_loopw [9] (fun i wr => ∃ k : Nat, k ≤ l.length ∧ i = .int .i64 k ∧ Hid ((l.takeWhile (Cv pos)).length = k + ((l.drop k).takeWhile (Cv pos)).length) ∧ Below w.heap.size w wr) (fun i _ => l.length - (intOf i).toNat)
 case atStart => exact ⟨0, Aj _, rfl, hid zO, Below.refl _ _⟩
 case round =>
  obtain ⟨k, hk, rfl, hf, hb⟩ := hrel
  by_cases hlt : k < l.length
  ·obtain ⟨b, o, hA, hbb, a1, c1, hc0, hc1, _, hbs⟩ := DR HL.out hlt
   subst hA;have X0 := (hb.cell (p := ⟨b, o + k * 2, none⟩) hbb).trans hc0
   have X1 := (hb.cell (p := ⟨b, o + k * 2 + 1, none⟩) hbb).trans hc1
   clear hc0 hc1;have hbl := HB.out _ (BZ hlt)
   have hst := hid (J8 (Cv pos) l k hlt)
   have HBS := hid hbs; clear hbs
   generalize hlk : l[k] = x at *
   clear hlk;have hzz := hb.size
   go_wp2_with fail;refine (OT pos x _ _ _ blk _ hpos (lift HBS.out zB) hbl ?_).mono ?_
   ·have := (AN.mk wr hb).cell HC.out
    exact (AN.mk _ ((Below.refl wr.heap.size wr).alloc (Al _) _)).cell this
   rintro e w1 ⟨rfl, hb1⟩;have hb2 : Below w.heap.size w w1 := zB
   cases hr : Cv pos x
   ·have hff : Hid ((l.takeWhile (Cv pos)).length = k) := hid (by rw [hf.out, hst.out, hr]; simp)
    clear hr;go_wp2;go_ret;exact ⟨zI, hb2⟩
   ·have hff : Hid ((l.takeWhile (Cv pos)).length = (k + 1) + ((l.drop (k + 1)).takeWhile (Cv pos)).length) := hid (by rw [hf.out, hst.out, hr]; simp; omega)
    clear hr;go_wp2;go_roundw
    case rel => exact ⟨k + 1, zD, zW, hff, hb2⟩
    case measure => simp [intOf]; omega
  ·obtain rfl : k = l.length := by omega
   have hff : Hid ((l.takeWhile (Cv pos)).length = l.length) := hid (by rw [hf.out, Gy]; simp)
   go_wp2;go_ret;exact ⟨zI, hb⟩
theorem Kw (pos : Int) (l : List BB) (a : Option Addr) (n c : Nat) (w : World) (hpos : 0 ≤ pos ∧ pos ≤ 18446744073709551615) (hl : BK.r (· < w.heap.size) w [.slice a n c] l) (hbk : ∀ x ∈ l, x.backs.length ≤ 1000000000000) :
  Calls Tryz.prog 85 #[.int .u64 pos, .slice a n c] w fun r w' => r = .returned (.bool (Bl pos l)) ∧ Below w.heap.size w w' := by
 obtain ⟨rfl, hm, _, _⟩ := AP hl
 have HL := hid hl; clear hl
 have HB := hid hbk; clear hbk
 by_cases h16 : 16 < l.length
 ·have hff : Hid (Bl pos l = false) := hid (by simp [Bl]; omega)
  go_enter Tryz.func85, Tryz.ntmps85
  go_wp2;go_ret;exact ⟨zI, zB⟩
 ·have hff : Hid (Bl pos l = (A1 (l.map BB.stream) && l.all (Cv pos))) := hid zBi
  have hta := hid (KY (Cv pos) l)
  go_enter Tryz.func85, Tryz.ntmps85
  go_wp2_with fail;refine (OV l _ _ _ _ (lift HL.out zB)).mono ?_
  rintro e w1 ⟨rfl, hb1⟩;have hb2 : Below w.heap.size w w1 := zB
  cases hr : A1 (l.map BB.stream)
  ·have hf2 : Hid (Bl pos l = false) := hid (by rw [hff.out, hr]; rfl)
   clear hr;go_wp2;go_ret;exact ⟨by rw [hf2.out]; rfl, hb2⟩
  ·have hf2 : Hid (Bl pos l = l.all (Cv pos)) := hid (by rw [hff.out, hr]; rfl)
   clear hr;go_wp2_with fail;refine (OW pos l _ _ _ w.heap.size _ hpos (lift HL.out hb2) HB.out ?_).mono ?_
   ·exact (AN.mk w1 hb1).cell zBk
   rintro e w3 ⟨rfl, hb3⟩;have hlt := (List.takeWhile_sublist (l := l) (Cv pos)).length_le
   generalize hg : (l.takeWhile (Cv pos)).length = t at *
   have hg' := hid hg; clear hg
   go_wp2;go_ret;refine ⟨?_, zB⟩
   rw [hf2.out, ← hta.out]
   by_cases h : t = l.length
   ·subst h; simp
   ·have : ¬ ((t : Int) = (l.length : Int)) := by omega
    simp [h, this]
theorem M5 (pos : Int) (l : List BB) (a : Option Addr) (n c : Nat) (w : World) (hl : BK.r (· < w.heap.size) w [.slice a n c] l) :
  Calls Tryz.prog 92 #[.int .u64 pos, .slice a n c] w fun r w' => r = .returned (.bool (Bl pos l)) ∧ Below w.heap.size w w' := by
 obtain ⟨rfl, hm, _, _⟩ := AP hl
 have HL := hid hl; clear hl
 by_cases h16 : 16 < l.length
 ·have hff : Hid (Bl pos l = false) := hid (by simp [Bl]; omega)
  go_enter Tryz.func92, Tryz.ntmps92
  go_wp2;go_ret;exact ⟨zI, zB⟩
 ·have hff : Hid (Bl pos l = (A1 (l.map BB.stream) && l.all (Cv pos))) := hid zBi
  go_enter Tryz.func92, Tryz.ntmps92
  go_wp2_with fail;go_loopw [5] (fun i wr => ∃ k : Nat, k ≤ l.length ∧ i = .int .i64 k ∧ Hid (Bl pos l = (Cs (l.map BB.stream) k && (l.drop k).all (Cv pos))) ∧ Below w.heap.size w wr) (fun i _ => l.length - (intOf i).toNat)
  case atStart => exact ⟨0, Aj _, rfl, hid zI, Below.refl _ _⟩
  case round =>
   obtain ⟨k, hk, rfl, hf, hb⟩ := hrel
   clear hff;by_cases hlt : k < l.length
   ·obtain ⟨b, o, hA, hbb, a1, c1, hc0, hc1, _, hbs⟩ := DR HL.out hlt
    have hlt' : (k : Int) < (l.length : Int) := zD
    have hlR : Cv pos l[k] = (decide (l[k].backs.length ≤ 4) && Cb pos l[k].backs) := rfl
    have hdr := hid (show (l.drop k).all (Cv pos) = (Cv pos l[k] && (l.drop (k + 1)).all (Cv pos)) by rw [AI hlt]; rfl)
    obtain ⟨z, hz⟩ : ∃ z, l[k] = z := ⟨_, rfl⟩
    rw [hz] at hc0 hc1 hbs hlR hdr
    have HZ := hid hz; clear hz
    have HBS := hid (lift hbs hb)
    have HFA := fun (s : AN wr) => M6 pos z.backs a1 _ c1 s.at_ (lift HBS.out s.below)
    have HF := hid HFA; clear HFA hbs
    rcases k with _ | m
    ·have h1 := hid (Fv (l.map BB.stream))
     have X1 := fun s : AN wr => s.cell ((hb.cell (p := ⟨b, o + 0 * 2 + 1, none⟩) hbb).trans hc1)
     subst hA;simp only [Nat.zero_mul, BR] at X1
     clear hc0 hc1;by_cases h4 : 4 < z.backs.length
     ·have hff : Hid (Bl pos l = false) := hid zBe
      have d4 : decide (4 < (z.backs.length : Int)) = true := zL
      clear hlR;go_wp2_with fail;refine Ar zH zH ?_
      repeat (go_big_quiet_step (fail))
      refine AA ?_
      rintro W5 ⟨⟨W5', hb5⟩, rfl⟩;go_wp2;go_ret;exact ⟨zI, Af hb5 hb⟩
     ·have d4 : decide (4 < (z.backs.length : Int)) = false := by simp; omega
      cases hfa : Cb pos z.backs
      ·have hff : Hid (Bl pos l = false) := hid (by rw [hf.out, hdr.out, hlR, hfa]; simp)
       rw [hfa] at HF
       clear hlR hfa;go_wp2_with fail;refine Ar zH zH ?_
       repeat (go_big_quiet_step (((go_at_call 163; exact AW (HF.out _)))))
       refine AA ?_
       rintro W5 ⟨⟨W5', hb5⟩, rfl⟩;go_wp2;go_ret;exact ⟨zI, Af hb5 hb⟩
      ·have hff : Hid (Bl pos l = (Cs (l.map BB.stream) (1) && (l.drop (1)).all (Cv pos))) := hid (by rw [hf.out, hdr.out, hlR, hfa, ← h1.out, Ac (by omega)]; simp)
       rw [hfa] at HF
       clear hlR hfa;go_wp2_with fail;refine Ar zH zH ?_
       repeat (go_big_quiet_step (((go_at_call 163; exact AW (HF.out _)))))
       refine AA ?_
       rintro W5 ⟨⟨W5', hb5⟩, rfl⟩;go_wp2;go_roundw
       case rel => exact ⟨1, zD, rfl, hff, Af hb5 hb⟩
       case measure => simp [intOf]; omega
    ·obtain ⟨b', o', hA', hbb', a2, c2, hd0, hd1, _, _⟩ := DR HL.out (show m < l.length by omega)
     have hst := hid (EH (l.map BB.stream) m (by simpa using hlt))
     subst hA;obtain ⟨rfl, rfl⟩ : b' = b ∧ o' = o := zAl
     clear hA';have X0 := fun s : AN wr => s.cell ((hb.cell (p := ⟨b', o' + (m + 1) * 2, none⟩) hbb).trans hc0)
     have X1 := fun s : AN wr => s.cell ((hb.cell (p := ⟨b', o' + (m + 1) * 2 + 1, none⟩) hbb).trans hc1)
     have Y0 := fun s : AN wr => s.cell ((hb.cell (p := ⟨b', o' + m * 2, none⟩) hbb).trans hd0)
     clear hc0 hc1 hd0 hd1;simp only [List.getElem_map] at hst
     rw [HZ.out] at hst
     generalize hy : l[m].stream = y at *
     clear hy;generalize hx : z.stream = x at *
     clear hx;rw [show ((m + 1 : Nat) : Int) = (m : Int) + 1 from zD]
     have k1 : (0 : Int) < (m : Int) + 1 := zD
     have k2 : (0 : Int) ≤ (m : Int) + 1 - 1 := zD
     have k3 : (m : Int) + 1 < (l.length : Int) := zD
     have k4 : (m : Int) < (l.length : Int) := zD
     by_cases hge : x ≤ y
     ·have d1 : decide (x ≤ y) = true := by simpa using hge
      have hff : Hid (Bl pos l = false) := hid zAa
      clear hge hlR;go_wp2_with fail;refine Ar zH zH ?_
      repeat (go_big_quiet_step (fail))
      refine AA ?_
      rintro W5 ⟨⟨W5', hb5⟩, rfl⟩;go_wp2;go_ret;exact ⟨zI, Af hb5 hb⟩
     ·have d1 : decide (x ≤ y) = false := by simpa using hge
      have hst' : Hid (Cs (l.map BB.stream) (m + 1) = Cs (l.map BB.stream) (m + 2)) := hid ZV
      clear hge;by_cases h4 : 4 < z.backs.length
      ·have hff : Hid (Bl pos l = false) := hid zBe
       have d4 : decide (4 < (z.backs.length : Int)) = true := zL
       clear hlR;go_wp2_with fail;refine Ar zH zH ?_
       repeat (go_big_quiet_step (fail))
       refine AA ?_
       rintro W5 ⟨⟨W5', hb5⟩, rfl⟩;go_wp2;go_ret;exact ⟨zI, Af hb5 hb⟩
      ·have d4 : decide (4 < (z.backs.length : Int)) = false := by simp; omega
       cases hfa : Cb pos z.backs
       ·have hff : Hid (Bl pos l = false) := hid (by rw [hf.out, hdr.out, hlR, hfa]; simp)
        rw [hfa] at HF
        clear hlR hfa;go_wp2_with fail;refine Ar zH zH ?_
        repeat (go_big_quiet_step (((go_at_call 163; exact AW (HF.out _)))))
        refine AA ?_
        rintro W5 ⟨⟨W5', hb5⟩, rfl⟩;go_wp2;go_ret;exact ⟨zI, Af hb5 hb⟩
       ·have hff : Hid (Bl pos l = (Cs (l.map BB.stream) (m + 2) && (l.drop (m + 2)).all (Cv pos))) := hid (by rw [hf.out, hdr.out, hlR, hfa, hst'.out, Ac (by omega)]; simp)
        rw [hfa] at HF
        clear hlR hfa;go_wp2_with fail;refine Ar zH zH ?_
        repeat (go_big_quiet_step (((go_at_call 163; exact AW (HF.out _)))))
        refine AA ?_
        rintro W5 ⟨⟨W5', hb5⟩, rfl⟩;go_wp2;go_roundw
        case rel => exact ⟨m + 2, zD, zW, hff, Af hb5 hb⟩
        case measure => simp [intOf]; omega
   ·obtain rfl : k = l.length := by omega
    have hff : Hid (Bl pos l = true) := hid (by
     have := Fw (l.map BB.stream)
     rw [List.length_map] at this
     rw [hf.out, this, Gy]; rfl)
    go_wp2;go_ret;exact ⟨zI, hb⟩
theorem QE (x y : BB) (a a' : Option Addr) (n c n' c' : Nat) (w : World) (hx : AQ.r (· < w.heap.size) w [.slice a n c] x.backs) (hy : AQ.r (· < w.heap.size) w [.slice a' n' c'] y.backs) :
  Calls Tryz.prog 169 #[.agg #[.int .u64 x.stream, .slice a n c], .agg #[.int .u64 y.stream, .slice a' n' c']] w fun r w' => r = .returned (.bool (decide (x = y))) ∧ Below w.heap.size w w' := by
 have he : decide (x = y) = (decide (x.stream = y.stream) && decide (x.backs = y.backs)) := by
  rw [Fp]; cases x; cases y; simp
 have HE := hid he; clear he
 have HX := hid hx; clear hx
 have HY := hid hy; clear hy
 by_cases h : x.stream = y.stream
 ·have e1 : (x.stream == y.stream) = true := by simp [h]
  have hff : Hid (decide (x = y) = decide (x.backs = y.backs)) := hid (by rw [HE.out]; simp [h])
  clear h;go_enter Tryz.func169, Tryz.ntmps169
  go_wp2_with fail;refine (IP x.backs y.backs _ _ _ _ _ _ _ (lift HX.out zB) (lift HY.out zB)).mono ?_
  rintro e w1 ⟨rfl, hb1⟩;go_wp2;go_ret;exact ⟨zI, zB⟩
 ·have e1 : (x.stream == y.stream) = false := by simp [h]
  have hff : Hid (decide (x = y) = false) := hid (by rw [HE.out]; simp [h])
  clear h;go_enter Tryz.func169, Tryz.ntmps169
  go_wp2;go_ret;exact ⟨zI, zB⟩
theorem OB (x y : List BB) (a a' : Option Addr) (n c n' c' : Nat) (w : World) (hx : BK.r (· < w.heap.size) w [.slice a n c] x) (hy : BK.r (· < w.heap.size) w [.slice a' n' c'] y) :
  Calls Tryz.prog 100 #[.slice a n c, .slice a' n' c'] w fun r w' => r = .returned (.bool (decide (x = y))) ∧ Below w.heap.size w w' := by
 obtain ⟨rfl, hm, _, _⟩ := AP hx
 obtain ⟨rfl, hm', _, _⟩ := AP hy
 by_cases hl : x.length = y.length
 ·have HX := hid hx; clear hx
  have HY := hid hy; clear hy
  have HL := hid hl
  have e1 : ((x.length : Int) != (y.length : Int)) = false := by simp [hl]
  clear hl;go_enter Tryz.func100, Tryz.ntmps100
  go_wp2;go_loopw [5] (fun i wr => ∃ k : Nat, k ≤ x.length ∧ i = .int .i64 k ∧ Hid (decide (x = y) = decide (x.drop k = y.drop k)) ∧ Below w.heap.size w wr) (fun i _ => x.length - (intOf i).toNat)
  case atStart => exact ⟨0, Aj _, rfl, hid rfl, Below.refl _ _⟩
  case round =>
   obtain ⟨k, hk, rfl, hf, hb⟩ := hrel
   by_cases hlt : k < x.length
   ·have hlt' : k < y.length := by rw [← HL.out]; exact hlt
    obtain ⟨b, o, hA, hbb, a1, c1, hc0, hc1, _, hr1⟩ := DR HX.out hlt
    obtain ⟨b', o', hA', hbb', a2, c2, hd0, hd1, _, hr2⟩ := DR HY.out hlt'
    have hst := hid (EN x y k hlt hlt')
    subst hA hA';have X0 := fun s : AN wr => s.cell ((hb.cell (p := ⟨b, o + k * 2, none⟩) hbb).trans hc0)
    have X1 := fun s : AN wr => s.cell ((hb.cell (p := ⟨b, o + k * 2 + 1, none⟩) hbb).trans hc1)
    have Y0 := fun s : AN wr => s.cell ((hb.cell (p := ⟨b', o' + k * 2, none⟩) hbb').trans hd0)
    have Y1 := fun s : AN wr => s.cell ((hb.cell (p := ⟨b', o' + k * 2 + 1, none⟩) hbb').trans hd1)
    clear hc0 hc1 hd0 hd1;generalize hlk : x[k] = u at *
    generalize hlm : y[k] = v at *
    clear hlk hlm;have hs1 := hid (lift hr1 hb)
    have hs2 := hid (lift hr2 hb)
    clear hr1 hr2;have hO := fun s : AN wr => QE u v a1 a2 _ c1 _ c2 s.at_ (lift hs1.out s.below) (lift hs2.out s.below)
    have i0 : (0 : Int) ≤ (k : Int) := zD
    have i1 : (k : Int) < (x.length : Int) := zD
    have i2 : (k : Int) < (y.length : Int) := zD
    by_cases huv : u = v
    ·rw [Ac huv] at hO
     have HO := hid hO; clear hO
     have hst' : Hid (decide (x.drop k = y.drop k) = decide (x.drop (k + 1) = y.drop (k + 1))) := hid zA2
     clear huv;go_wp2_with fail;refine Ar zH zH ?_
     repeat (go_big_quiet_step (((go_at_call 169; exact AW (HO.out _)))))
     refine AA ?_
     rintro W5 ⟨⟨W5', hb5⟩, rfl⟩;go_wp2;go_roundw
     case rel => exact ⟨k + 1, zD, zW, hid ZY, Af hb5 hb⟩
     case measure => simp [intOf]; omega
    ·rw [Ab huv] at hO
     have HO := hid hO; clear hO
     have hff : Hid (decide (x = y) = false) := hid zAj
     clear huv;go_wp2_with fail;refine Ar zH zH ?_
     repeat (go_big_quiet_step (((go_at_call 169; exact AW (HO.out _)))))
     refine AA ?_
     rintro W5 ⟨⟨W5', hb5⟩, rfl⟩;go_wp2;go_ret;exact ⟨zI, Af hb5 hb⟩
   ·obtain rfl : k = x.length := by omega
    have hff : Hid (decide (x = y) = true) := hid zZ
    go_wp2;go_ret;exact ⟨zI, hb⟩
 ·have hff : Hid (decide (x = y) = false) := hid (by simp; rintro rfl; exact hl rfl)
  have e1 : ((x.length : Int) != (y.length : Int)) = true := zL
  clear hl hx hy;go_enter Tryz.func100, Tryz.ntmps100
  go_wp2;go_ret;exact ⟨zI, Below.refl _ _⟩
end Go.Proofs.YtlbffbkbkajciaaGreat
namespace Go.Bs
open Go.RowKit
section
variable {P : Program} {w : World}
def Src (w : World) (A : Option Addr) (m sz : Nat) (news : List Value) : Prop :=
 news.length = m * sz ∧ (m = 0 ∨ ∃ b o, A = some ⟨b, o, none⟩ ∧ ∀ j u, news[j]? = some u → w.cell? ⟨b, o + j, none⟩ = some u)
theorem Iq (base : Nat) (t ty e : TypeId) (i : TypeInfo) (size : Nat) (ht : P.underlying t = some (.slice e)) (hi : P.info? e = some i)
  (v : Value) (n : Nat) (xs : List Value) (hown : w.ownsRow base e size v n xs) (c : Nat) : (Builtin.append_ #[t, t] ty #[v, .slice none 0 c]).run P w = .ok v w := by
 rcases hown.2 with ⟨rfl, rfl⟩ | ⟨g, cap, cur, rfl, _, _, hnc, _⟩
 ·simp [Builtin.append_, run_underlying ht, sizeOf, typeInfo, hi, Builtin.lenOf, Builtin.firstCells]
 ·simp [Builtin.append_, run_underlying ht, sizeOf, typeInfo, hi, Builtin.lenOf, Builtin.firstCells, hnc, storeCells]
theorem add_plain (b o j : Nat) : (⟨b, o, none⟩ : Addr).add j = ⟨b, o + j, none⟩ := by
 unfold Addr.add;split
 ·rename_i h; subst h; rfl
 ·rfl
theorem GL (base : Nat) (t ty e : TypeId) (i : TypeInfo) (z : Value) (size bytes : Nat) (ht : P.underlying t = some (.slice e)) (hi : P.info? e = some i) (hz : i.zero = some z)
  (hsize : i.size = size) (hby : i.bytes = bytes) (hzs : z.cells.size = size) (hsz : 0 < size)
  (v : Value) (n : Nat) (xs : List Value) (hown : w.ownsRow base e size v n xs) (A : Option Addr) (m c : Nat) (news : List Value) (hs : Src w A m size news) (h1 : ∀ u ∈ news, u.oneCell' = true)
  (h63 : n + m ≤ maxLen) (hbytes : (n + m) * bytes ≤ 140737488355328) (hbase : base ≤ w.heap.size) :
  ∃ v' w', (Builtin.append_ #[t, t] ty #[v, .slice A m c]).run P w = .ok v' w' ∧ w'.ownsRow base e size v' (n + m) (xs ++ news) ∧ w.grownBy w' v.ownBlock ∧ (v'.ownBlock = v.ownBlock ∨ v'.ownBlock = some w.heap.size) := by
 obtain ⟨hl, hs⟩ := hs
 rcases A with _ | ad
 ·have hm : m = 0 := by
   rcases hs with h | ⟨b, o, h, _⟩
   ·exact h
   ·cases h
  subst hm;have hn : news = [] := AO (by simpa using hl)
  subst hn;exact ⟨v, w, Iq base t ty e i size ht hi v n xs hown c, by simpa using hown, World.grownBy.refl w _, .inl rfl⟩
 ·have hcells : ∀ j u, news[j]? = some u → w.cell? (ad.add j) = some u := by
   intro j u hu;rcases hs with h | ⟨b, o, h, hc⟩
   ·subst h
    have hn : news = [] := AO (by simpa using hl)
    subst hn;simp at hu
   ·injection h with h
    subst h;rw [add_plain]; exact hc j u hu
  obtain ⟨v', w', hrun, h2, h3, _, h5⟩ := run_append_own_at (P := P) w base t ty e i z size bytes ht hi hz hsize hby hzs hsz v n xs hown ad m c news hl hcells h1 h63 hbytes hbase
  exact ⟨v', w', hrun, h2, h3, h5⟩
theorem AB {ops : Array Oper} {rest : List Oper} {o : Oper} {a : Act} {Q : Exit → Act → World → Prop} (hgd : o.guard = none) (s x : Operand) (t : TypeId)
  (ho : o.op = .call { callee := .builtin .append, args := #[s, x], argTypes := #[t, t] })
  (base : Nat) (e : TypeId) (i : TypeInfo) (z : Value) (size bytes : Nat) (ht : P.underlying t = some (.slice e)) (hi : P.info? e = some i) (hz : i.zero = some z)
  (hsize : i.size = size) (hby : i.bytes = bytes) (hzs : z.cells.size = size) (hsz : 0 < size)
  (v : Value) (n : Nat) (xs : List Value) (hs : a.eval s = v) (hown : w.ownsRow base e size v n xs)
  (A : Option Addr) (m c : Nat) (news : List Value) (hx : a.eval x = .slice A m c) (hsrc : Src w A m size news) (h1 : ∀ u ∈ news, u.oneCell' = true)
  (h63 : n + m ≤ maxLen) (hbytes : (n + m) * bytes ≤ 140737488355328) (hbase : base ≤ w.heap.size)
  (h : ∀ v' w', w'.ownsRow base e size v' (n + m) (xs ++ news) → w.grownBy w' v.ownBlock → (v'.ownBlock = v.ownBlock ∨ v'.ownBlock = some w.heap.size) → wpList P ops Q rest (a.put o.dst v') w') : wpList P ops Q (o :: rest) a w :=
 AV hgd fun _ hK => by
  obtain ⟨v', w', hrun, h2, h3, h4⟩ := GL (P := P) base t o.type e i z size bytes ht hi hz hsize hby hzs hsz v n xs hown A m c news hsrc h1 h63 hbytes hbase
  unfold Oper.wp execOp;simp only [ho, resolve, invoke, builtin, Sem.run_bind, Sem.run_pure, Result.andThen_ok, List.map_toArray, List.map_cons, List.map_nil, hs, hx, hrun]
  exact hK _ _ (h v' w' h2 h3 h4)
def byteCells (l : List UInt8) : List Value := l.map fun b => .int .u8 (b.toNat : Int)
theorem BV (l : List UInt8) : ∀ u ∈ byteCells l, u.oneCell' = true := by
 intro u hu;obtain ⟨b, _, rfl⟩ := List.mem_map.1 hu
 rfl
theorem CZ {S : Nat → Prop} {a : Option Addr} {n c : Nat} {l : List UInt8} (h : Ag.r S w [.slice a n c] l) : Src w a l.length 1 (byteCells l) := by
 refine ⟨zAd, ?_⟩
 rcases l with _ | ⟨x, l⟩
 ·exact .inl rfl
 ·right
  obtain ⟨b, o, e, _⟩ := Cx h (i := 0) zO
  refine ⟨b, o, e, fun j u hu => ?_⟩
  have hj : j < (x :: l).length := by
   have := (List.getElem?_eq_some_iff.1 hu).1
   simpa [byteCells] using this
  obtain ⟨b', o', e', _, hc⟩ := Cx h hj
  rw [e] at e'
  simp at e'
  obtain ⟨rfl, rfl⟩ := e'
  have : u = .int .u8 (((x :: l)[j]).toNat : Int) := by
   simp only [byteCells, List.getElem?_map, AJ hj, Option.map_some, Bc] at hu
   exact hu.symm
  rw [this]; exact hc
theorem G5 {base : Nat} {e : TypeId} {v : Value} {l : List UInt8} {n : Nat} (hn : n = l.length) (h : w.ownsRow base e 1 v n (byteCells l)) : Ag.r (· < w.heap.size) w [v] l := by
 subst hn;rcases h.2 with ⟨rfl, h0⟩ | ⟨g, cap, cur, rfl, hbg, hg, hn, hc, hcur, hx⟩
 ·have : l = [] := AO h0
  subst this;exact A3 rfl (Al _) (Aj _) (.inl rfl)
 ·refine A3 rfl hn hc (.inr ⟨g, 0, rfl, Blk.lt hg, fun i x hi => ⟨[.int .u8 (x.toNat : Int)], rfl, fun j v hj => ?_, rfl⟩⟩)
  have hj0 : j = 0 := by
   rcases j with _ | j
   ·rfl
   ·simp at hj
  subst hj0;simp at hj
  subst hj;have hi' : i < l.length := (List.getElem?_eq_some_iff.1 hi).1
  rw [Bn, Eb, BR, Blk.cell hg i]
  have e1 : cur[i]? = (cur.toList.take (l.length * 1))[i]? := by
   rw [DO, Ak zD]; simp
  rw [e1, hx, byteCells, List.getElem?_map, hi]; rfl
end
end Go.Bs
namespace Go.Proofs.YtlbffbkbkajciaaGreat
open Go.RowKit Go.Bs
theorem EF : (Tryz.prog.info? 5).map (fun i => (i.zero, i.size, i.bytes)) = some (some (.int .u8 0), 1, 1) := zH
theorem Ga {α : Type} {sz : Nat} {A : Rp α} {S : Nat → Prop} {w : World} {xs : List α} {a : Option Addr} {n c k : Nat} (h : (rSl sz A).r S w [.slice a n c] xs) (hk : k ≤ xs.length) : (rSl sz A).r S w [.slice a k c] (xs.take k) := by
 obtain ⟨a', c', e, h1, h2, h3⟩ := h
 simp at e
 obtain ⟨rfl, rfl, rfl⟩ := e
 have hl : (xs.take k).length = k := zL
 refine A3 (by rw [hl]) zD h2 ?_
 rcases h3 with rfl | ⟨b, off, rfl, hS, hr⟩
 ·exact .inl zO
 ·refine .inr ⟨b, off, rfl, hS, fun i x hi => hr i x ?_⟩
  rw [DO] at hi
  split at hi
  ·exact hi
  ·cases hi
end Go.Proofs.YtlbffbkbkajciaaGreat
namespace Go.Bs
def EC (b : List UInt8) (off : Nat) : Nat → Nat → Nat
 | 0, _ => 0
 | f + 1, p => if p < b.length ∧ b[p]? = b[p - off]? then EC b off f (p + 1) + 1 else 0
def CD (b : List UInt8) (p off : Nat) : Nat := if p < b.length ∧ 1 ≤ off ∧ off ≤ p then EC b off (b.length - p) p else 0
theorem Ln (b : List UInt8) (off : Nat) : ∀ f p, EC b off f p ≤ f
 | 0, _ => Al _
 | f + 1, p => by
  unfold EC;split
  ·have := Ln b off f (p + 1); omega
  ·omega
theorem JS (b : List UInt8) (p off : Nat) : CD b p off ≤ b.length - p := by
 unfold CD;split
 ·exact Ln ..
 ·omega
theorem Jo (b : List UInt8) (off : Nat) : ∀ f p k, k < EC b off f p → p + k < b.length ∧ b[p + k]? = b[p + k - off]?
 | 0, _, k, h => by simp [EC] at h
 | f + 1, p, k, h => by
  unfold EC at h;split at h
  ·rename_i hc
   cases k with
   | zero => exact hc
   | succ k =>
    have := Jo b off f (p + 1) k zD
    rw [show p + (k + 1) = p + 1 + k by omega]
    exact this
  ·omega
theorem Lo (b : List UInt8) (off : Nat) : ∀ f p k, k ≤ f → (∀ j, j < k → p + j < b.length ∧ b[p + j]? = b[p + j - off]?) → k ≤ EC b off f p
 | _, _, 0, _, _ => Aj _
 | 0, _, k + 1, h, _ => by omega
 | f + 1, p, k + 1, h, hs => by
  unfold EC;rw [Ak (by simpa using hs 0 (by omega))]
  have := Lo b off f (p + 1) k zD fun j hj => by
   have := hs (j + 1) zD
   rw [show p + (j + 1) = p + 1 + j by omega] at this
   exact this
  omega
theorem Tl {b : List UInt8} {p off k : Nat} (h1 : 1 ≤ off) (h2 : off ≤ p) (hp : p < b.length) (h : ∀ j, j < k → p + j < b.length ∧ b[p + j]? = b[p + j - off]?) : k ≤ CD b p off := by
 unfold CD;rw [Ak ⟨hp, h1, h2⟩]
 refine Lo _ _ _ _ _ ?_ h
 rcases DN k with rfl | h0
 ·exact Aj _
 ·have := (h (k - 1) zD).1; omega
theorem Lx {b : List UInt8} {p off k : Nat} (h : k < CD b p off) : 1 ≤ off ∧ off ≤ p ∧ p + k < b.length ∧ b[p + k]? = b[p + k - off]? := by
 unfold CD at h;split at h
 ·rename_i hc
  exact ⟨hc.2.1, hc.2.2, Jo _ _ _ _ _ h⟩
 ·omega
def IY (b : List UInt8) (p : Nat) : Nat → Nat
 | 0 => 0
 | k + 1 => max (IY b p k) (CD b p (k + 1))
def firstM (b : List UInt8) (p m : Nat) : Nat → Nat → Nat
 | 0, _ => 0
 | f + 1, o => if CD b p o = m then o else firstM b p m f (o + 1)
theorem Ms (b : List UInt8) (p : Nat) : ∀ k o, 1 ≤ o → o ≤ k → CD b p o ≤ IY b p k
 | 0, o, h1, h2 => by omega
 | k + 1, o, h1, h2 => by
  simp only [IY]
  by_cases h : o = k + 1
  ·subst h; omega
  ·have := Ms b p k o h1 zD; omega
theorem JT (b : List UInt8) (p : Nat) : ∀ k, IY b p k = 0 ∨ ∃ o, 1 ≤ o ∧ o ≤ k ∧ CD b p o = IY b p k
 | 0 => .inl rfl
 | k + 1 => by
  simp only [IY]
  rcases Nat.le_total (IY b p k) (CD b p (k + 1)) with h | h
  ·rw [Nat.max_eq_right h]
   exact .inr ⟨k + 1, zD, Al _, rfl⟩
  ·rw [Nat.max_eq_left h]
   rcases JT b p k with h0 | ⟨o, h1, h2, h3⟩
   ·exact .inl h0
   ·exact .inr ⟨o, h1, zD, h3⟩
theorem LL (b : List UInt8) (p m : Nat) : ∀ f o o', o ≤ o' → o' < o + f → CD b p o' = m → (∀ j, o ≤ j → j < o' → CD b p j ≠ m) → firstM b p m f o = o'
 | 0, o, o', h1, h2, _, _ => by omega
 | f + 1, o, o', h1, h2, h3, h4 => by
  unfold firstM;by_cases h : o = o'
  ·subst h; rw [Ak h3]
  ·rw [An (h4 o (Al _) zD)]
   exact LL b p m f (o + 1) o' zD zD h3 fun j h5 h6 => h4 j zD h6
def reach (p : Nat) : Nat := min p 65536
def BY (b : List UInt8) (p : Nat) : Nat × Nat :=
 if 4 ≤ IY b p (reach p) then (firstM b p (IY b p (reach p)) (reach p) 1, IY b p (reach p)) else (0, 0)
theorem Nr (b : List UInt8) (p m : Nat) : ∀ k, (∃ o, 1 ≤ o ∧ o ≤ k ∧ CD b p o = m) → ∃ o, 1 ≤ o ∧ o ≤ k ∧ CD b p o = m ∧ ∀ j, 1 ≤ j → j < o → CD b p j ≠ m
 | 0, ⟨o, h1, h2, _⟩ => by omega
 | k + 1, ⟨o, h1, h2, h3⟩ => by
  by_cases h : ∃ o, 1 ≤ o ∧ o ≤ k ∧ CD b p o = m
  ·obtain ⟨o, g1, g2, g3, g4⟩ := Nr b p m k h
   exact ⟨o, g1, zD, g3, g4⟩
  ·refine ⟨o, h1, h2, h3, fun j j1 j2 j3 => h ⟨j, j1, zD, j3⟩⟩
theorem KU {b : List UInt8} {p o m : Nat} (h1 : 1 ≤ o) (h2 : o ≤ reach p) (h4 : 4 ≤ m) (hm : CD b p o = m) (hall : ∀ j, 1 ≤ j → j ≤ reach p → CD b p j ≤ m) (hlt : ∀ j, 1 ≤ j → j < o → CD b p j < m) : BY b p = (o, m) := by
 have e : IY b p (reach p) = m := by
  have := Ms b p (reach p) o h1 h2
  rcases JT b p (reach p) with h | ⟨o', g1, g2, g3⟩
  ·omega
  ·have := hall o' g1 g2; omega
 unfold BY;rw [e, Ak h4, LL b p m (reach p) 1 o h1 zD hm fun j j1 j2 => by have := hlt j j1 j2; omega]
theorem PC {b : List UInt8} {p : Nat} (h : ∀ j, 1 ≤ j → j ≤ reach p → CD b p j < 4) : BY b p = (0, 0) := by
 unfold BY;rw [An]
 rcases JT b p (reach p) with h0 | ⟨o', g1, g2, g3⟩
 ·omega
 ·have := h o' g1 g2; omega
theorem GZ (b : List UInt8) (p : Nat) : BY b p = (0, 0) ∨ ∃ o m, BY b p = (o, m) ∧ 1 ≤ o ∧ o ≤ reach p ∧ 4 ≤ m ∧ CD b p o = m ∧ (∀ j, 1 ≤ j → j ≤ reach p → CD b p j ≤ m) ∧ ∀ j, 1 ≤ j → j < o → CD b p j < m := by
 by_cases h : 4 ≤ IY b p (reach p)
 ·right
  rcases JT b p (reach p) with h0 | hx
  ·omega
  ·obtain ⟨o, g1, g2, g3, g4⟩ := Nr b p _ _ hx
   have hall := fun j (j1 : 1 ≤ j) (j2 : j ≤ reach p) => Ms b p _ j j1 j2
   have hlt : ∀ j, 1 ≤ j → j < o → CD b p j < IY b p (reach p) := fun j j1 j2 => by
    have := hall j j1 zD
    have := g4 j j1 j2
    omega
   exact ⟨o, _, KU g1 g2 h g3 hall hlt, g1, g2, h, g3, hall, hlt⟩
 ·left
  unfold BY;rw [An h]
theorem Ie (b : List UInt8) (p : Nat) : (BY b p).2 ≤ b.length - p ∧ (BY b p).1 ≤ p := by
 rcases GZ b p with h | ⟨o, m, h, _, h2, _, h4, _⟩
 ·rw [h]; exact ⟨Aj _, Aj _⟩
 ·rw [h]
  have := JS b p o
  simp only [reach] at h2
  exact ⟨zBt, zBt⟩
structure Tok where
 lit : List UInt8
 off : Int
 len : Int
 deriving DecidableEq
def EM (b : List UInt8) (i j : Nat) : List Tok := if i < j then [⟨(b.drop i).take (j - i), 0, 0⟩] else []
def DJ (b : List UInt8) : Nat → Nat → Nat → List Tok
  | 0, _, i => EM b i b.length
  | f + 1, p, i => if p < b.length then
      (if (BY b p).2 = 0 then DJ b f (p + 1) i
       else EM b i p ++ ⟨[], (BY b p).1, (BY b p).2⟩ :: DJ b f (p + (BY b p).2) (p + (BY b p).2))
      else EM b i b.length
def DI (b : List UInt8) : List Tok := DJ b b.length 0 0
theorem F9 (b : List UInt8) : ∀ f g p i, b.length ≤ p + f → b.length ≤ p + g → DJ b f p i = DJ b g p i
 | 0, 0, _, _, _, _ => rfl
 | 0, g + 1, p, i, h, _ => by
  simp only [DJ]
  rw [An zD]
 | f + 1, 0, p, i, _, h => by
  simp only [DJ]
  rw [An zD]
 | f + 1, g + 1, p, i, h1, h2 => by
  simp only [DJ]
  split
  ·split
   ·exact F9 b f g (p + 1) i zD zD
   ·rename_i hn
    rw [F9 b f g (p + (BY b p).2) (p + (BY b p).2) zD zD]
  ·rfl
def Hf (b : List UInt8) (p i : Nat) : List Tok := DJ b (b.length - p) p i
theorem N9 {b : List UInt8} {p i : Nat} (hp : p < b.length) (h : (BY b p).2 = 0) : Hf b p i = Hf b (p + 1) i := by
 unfold Hf;obtain ⟨f, hf⟩ : ∃ f, b.length - p = f + 1 := ⟨b.length - p - 1, zD⟩
 rw [hf]
 simp only [DJ]
 rw [Ak hp, Ak h]
 exact F9 b _ _ _ _ zD zD
theorem N8 {b : List UInt8} {p i : Nat} (hp : p < b.length) (h : (BY b p).2 ≠ 0) : Hf b p i = EM b i p ++ ⟨[], (BY b p).1, (BY b p).2⟩ :: Hf b (p + (BY b p).2) (p + (BY b p).2) := by
 unfold Hf;obtain ⟨f, hf⟩ : ∃ f, b.length - p = f + 1 := ⟨b.length - p - 1, zD⟩
 rw [hf]
 simp only [DJ]
 rw [Ak hp, An h]
 congr 2
 exact F9 b _ _ _ _ zD zD
theorem Qq {b : List UInt8} {p i : Nat} (hp : b.length ≤ p) : Hf b p i = EM b i b.length := by
 unfold Hf;rw [show b.length - p = 0 by omega]; rfl
def CV (b : List UInt8) (p : Nat) : Option Nat :=
 match b[p]?, b[p + 1]?, b[p + 2]?, b[p + 3]? with
 | some a, some c, some d, some e => some (a.toNat + 256 * c.toNat + 65536 * d.toNat + 16777216 * e.toNat)
 | _, _, _, _ => none
def Dp (b : List UInt8) (k : Nat) : Nat → Nat
 | 0 => 0
 | j + 1 => if CV b j = some k then j + 1 else Dp b k j
theorem IB (b : List UInt8) (k : Nat) : ∀ j, Dp b k j ≤ j
 | 0 => Al _
 | j + 1 => by
  unfold Dp;split
  ·omega
  ·have := IB b k j; omega
theorem LD (b : List UInt8) (k : Nat) : ∀ j, Dp b k j ≠ 0 → CV b (Dp b k j - 1) = some k
 | 0, h => absurd rfl h
 | j + 1, h => by
  unfold Dp at h ⊢;split
  ·rename_i hk; simpa using hk
  ·rename_i hk
   rw [An hk] at h
   exact LD b k j h
open Go.RowKit
section
variable {w w' : World} {α : Type}
def Dz (lo : Nat) (A : Rp α) (base : Nat) (e : TypeId) (sz : Nat) (w : World) (v : Value) (xs : List α) (cells : List (List Value)) : Prop :=
 w.ownsRow base e sz v xs.length cells.flatten ∧ cells.length = xs.length ∧ (∀ c ∈ cells, c.length = sz) ∧
  ∀ (i : Nat) cs x, cells[i]? = some cs → xs[i]? = some x → A.r (fun b => lo ≤ b ∧ b < w.heap.size ∧ v.ownBlock ≠ some b) w cs x
def AY (lo : Nat) (A : Rp α) (base : Nat) (e : TypeId) (sz : Nat) (w : World) (v : Value) (xs : List α) : Prop := ∃ cells, Dz lo A base e sz w v xs cells
theorem Gp (sz : Nat) : ∀ (l : List (List Value)), (∀ c ∈ l, c.length = sz) → ∀ (i j : Nat) cs v, l[i]? = some cs → cs[j]? = some v → l.flatten[i * sz + j]? = some v
 | [], _, i, j, cs, v, h, _ => by simp at h
 | c :: l, hl, i, j, cs, v, h, hj => by
  have hc := hl c (List.mem_cons_self ..)
  rw [IG]
  cases i with
  | zero =>
   simp at h
   subst h;have := (List.getElem?_eq_some_iff.1 hj).1
   rw [Nat.zero_mul, Bn, C8 zD]
   exact hj
  | succ i =>
   simp at h
   rw [DP (by rw [hc, Nat.succ_mul]; omega), hc, show (i + 1) * sz + j - sz = i * sz + j by rw [Nat.succ_mul]; omega]
   exact Gp sz l (fun c h => hl c (List.mem_cons_of_mem _ h)) i j cs v h hj
theorem AY.nil {lo : Nat} {A : Rp α} {base : Nat} {e : TypeId} {sz : Nat} : AY lo A base e sz w (.slice none 0 0) [] :=
 ⟨[], ⟨zO, .inl ⟨rfl, rfl⟩⟩, rfl, zO, fun i cs x h => by simp at h⟩
theorem AY.slice {lo : Nat} {A : Rp α} {base : Nat} {e : TypeId} {sz : Nat} {v : Value} {xs : List α} (hlo : lo ≤ base) (h : AY lo A base e sz w v xs) : (rSl sz A).r (fun b => lo ≤ b ∧ b < w.heap.size) w [v] xs := by
 obtain ⟨cells, hown, hlen, hsz, hA⟩ := h
 rcases hown.2 with ⟨rfl, h0⟩ | ⟨g, cap, cur, rfl, hbg, hg, hn, hc, hcur, hx⟩
 ·have : xs = [] := AO h0
  subst this;exact A3 rfl (Al _) (Aj _) (.inl rfl)
 ·refine A3 rfl hn hc (.inr ⟨g, 0, rfl, ⟨A5 hlo hbg, (Array.getElem?_eq_some_iff.1 hg).1⟩, fun i x hi => ?_⟩)
  have hi' : i < xs.length := (List.getElem?_eq_some_iff.1 hi).1
  have hic : i < cells.length := zD
  have hcs : cells[i]? = some cells[i] := AJ hic
  refine ⟨cells[i], hsz _ (BZ hic), fun j v hj => ?_, A.mono (hA i _ x hcs hi) fun b h => ⟨h.1, h.2.1⟩⟩
  have hj' : j < sz := ZI
  have hf := Gp sz cells hsz i j _ v hcs hj
  rw [Bn, show (⟨g, i * sz + j, none⟩ : Addr) = ⟨g, i * sz + j, none⟩ from rfl, Blk.cell hg (i * sz + j)]
  have hb : i * sz + j < xs.length * sz := by
   have := Cl sz (show i + 1 ≤ xs.length from hi')
   rw [Nat.succ_mul] at this
   omega
  have e1 : cur[i * sz + j]? = (cur.toList.take (xs.length * sz))[i * sz + j]? := by
   rw [DO, Ak hb]; simp
  rw [e1, hx]; exact hf
def TO {α : Type} (sz : Nat) (A : Rp α) : Rp (List α) :=
  ⟨fun S w cs xs => ∃ a c, cs = [.slice a xs.length c] ∧ xs.length ≤ c ∧ c ≤ maxLen ∧ (xs = [] ∨ ∃ b off, a = some ⟨b, off, none⟩ ∧ S b ∧ ∀ (i : Nat) x, xs[i]? = some x → ∃ cs : List Value, cs.length = sz ∧
      (∀ (j : Nat) v, cs[j]? = some v → w.cell? ⟨b, off + i * sz + j, none⟩ = some v ∧ w.frozen? ⟨b, off + i * sz + j, none⟩ = false) ∧ A.r (fun q => S q ∧ q ≠ b) w cs x),
   fun ⟨a, c, h, h1, h2, h3⟩ hk => ⟨a, c, h, h1, h2, h3.imp id fun ⟨b, off, e, hb, hr⟩ => ⟨b, off, e, hb, fun i x hi =>
     let ⟨cs, hl, hc, hA⟩ := hr i x hi
     ⟨cs, hl, fun j v hj => ⟨(Bz (a := ⟨b, off + i * sz + j, none⟩) (hk b hb)).trans (hc j v hj).1, (Ct (a := ⟨b, off + i * sz + j, none⟩) (hk b hb)).trans (hc j v hj).2⟩, A.keep hA fun q hq => hk q hq.1⟩⟩⟩,
   fun ⟨a, c, h, h1, h2, h3⟩ hk => ⟨a, c, h, h1, h2, h3.imp id fun ⟨b, off, e, hb, hr⟩ => ⟨b, off, e, hk b hb, fun i x hi =>
     let ⟨cs, hl, hc, hA⟩ := hr i x hi
     ⟨cs, hl, hc, A.mono hA fun q hq => ⟨hk q hq.1, hq.2⟩⟩⟩⟩⟩
theorem TL {sz : Nat} {A : Rp α} {S : Nat → Prop} {cs : List Value} {xs : List α} (h : (TO sz A).r S w cs xs) : (rSl sz A).r S w cs xs := by
 obtain ⟨a, c, h1, h2, h3, h4⟩ := h
 refine ⟨a, c, h1, h2, h3, h4.imp id fun ⟨b, off, e, hb, hr⟩ => ⟨b, off, e, hb, fun i x hi => ?_⟩⟩
 obtain ⟨cs, h5, h6, h7⟩ := hr i x hi
 exact ⟨cs, h5, fun j v hj => (h6 j v hj).1, A.mono h7 fun q hq => hq.1⟩
def PQ : Rp (List BB) := TO 2 Kn
theorem Mu {S : Nat → Prop} {cs : List Value} {x : List BB} (h : PQ.r S w cs x) : BK.r S w cs x := TL h
theorem AY.Mf {lo : Nat} {A : Rp α} {base : Nat} {e : TypeId} {sz : Nat} {v : Value} {xs : List α} (hlo : lo ≤ base) (h : AY lo A base e sz w v xs) : (TO sz A).r (fun b => lo ≤ b ∧ b < w.heap.size) w [v] xs := by
 obtain ⟨cells, hown, hlen, hsz, hA⟩ := h
 rcases hown.2 with ⟨rfl, h0⟩ | ⟨g, cap, cur, rfl, hbg, hg, hn, hc, hcur, hx⟩
 ·have : xs = [] := AO h0
  subst this;exact ⟨none, 0, rfl, Al _, Aj _, .inl rfl⟩
 ·refine ⟨_, cap, rfl, hn, hc, .inr ⟨g, 0, rfl, ⟨A5 hlo hbg, (Array.getElem?_eq_some_iff.1 hg).1⟩, fun i x hi => ?_⟩⟩
  have hi' : i < xs.length := (List.getElem?_eq_some_iff.1 hi).1
  have hic : i < cells.length := zD
  have hcs : cells[i]? = some cells[i] := AJ hic
  refine ⟨cells[i], hsz _ (BZ hic), fun j v hj => ⟨?_, Blk.free hg _⟩, A.mono (hA i _ x hcs hi) fun b h => ⟨⟨h.1, h.2.1⟩, fun e => h.2.2 (by rw [e]; rfl)⟩⟩
  have hj' : j < sz := ZI
  have hf := Gp sz cells hsz i j _ v hcs hj
  rw [Bn, show (⟨g, i * sz + j, none⟩ : Addr) = ⟨g, i * sz + j, none⟩ from rfl, Blk.cell hg (i * sz + j)]
  have hb : i * sz + j < xs.length * sz := by
   have := Cl sz (show i + 1 ≤ xs.length from hi')
   rw [Nat.succ_mul] at this
   omega
  have e1 : cur[i * sz + j]? = (cur.toList.take (xs.length * sz))[i * sz + j]? := by
   rw [DO, Ak hb]; simp
  rw [e1, hx]; exact hf
theorem Dz.push {lo : Nat} {A : Rp α} {base : Nat} {e : TypeId} {sz : Nat} {v v' : Value} {xs : List α} {news : List Value} {x : α} {cells : List (List Value)} (h : Dz lo A base e sz w v xs cells)
  (hn : news.length = sz) (hx : A.r (fun b => lo ≤ b ∧ b < w.heap.size ∧ v.ownBlock ≠ some b) w news x)
  (hown : w'.ownsRow base e sz v' (xs.length + 1) (cells.flatten ++ news)) (hg : w.grownBy w' v.ownBlock) (hat : v'.ownBlock = v.ownBlock ∨ v'.ownBlock = some w.heap.size) (hsz' : w.heap.size ≤ w'.heap.size) : Dz lo A base e sz w' v' (xs ++ [x]) (cells ++ [news]) := by
 obtain ⟨ho, hlen, hsz, hA⟩ := h
 have lift : ∀ cs y, A.r (fun b => lo ≤ b ∧ b < w.heap.size ∧ v.ownBlock ≠ some b) w cs y → A.r (fun b => lo ≤ b ∧ b < w'.heap.size ∧ v'.ownBlock ≠ some b) w' cs y := fun cs y hr =>
  A.mono (A.keep hr fun b hb => hg.block b hb.2.1 (fun e => hb.2.2 e.symm)) fun b hb => ⟨hb.1, Ah hb.2.1 hsz', fun e => by
   rcases hat with h | h
   ·exact hb.2.2 (h ▸ e)
   ·rw [h] at e; have := Cf e; have := hb.2.1; omega⟩
 refine ⟨?_, by simp [hlen], ?_, ?_⟩
 ·rw [DA, Am]
  simpa using hown
 ·intro c hc
  rcases List.mem_append.1 hc with h | h
  ·exact hsz c h
  ·simp at h; subst h; exact hn
 ·intro i cs y hi hy
  by_cases hlt : i < xs.length
  ·rw [C8 zD] at hi
   rw [C8 hlt] at hy
   exact lift _ _ (hA i cs y hi hy)
  ·have hii : i = xs.length := by
    have := (List.getElem?_eq_some_iff.1 hy).1
    simp at this
    omega
   subst hii;rw [DP zD] at hi
   rw [DP (Al _)] at hy
   simp [hlen] at hi
   simp at hy
   subst hi hy;exact lift _ _ hx
theorem AY.push {lo : Nat} {A : Rp α} {base : Nat} {e : TypeId} {sz : Nat} {v v' : Value} {xs : List α} {news : List Value} {x : α} {cells : List (List Value)} (h : Dz lo A base e sz w v xs cells)
  (hn : news.length = sz) (hx : A.r (fun b => lo ≤ b ∧ b < w.heap.size ∧ v.ownBlock ≠ some b) w news x)
  (hown : w'.ownsRow base e sz v' (xs.length + 1) (cells.flatten ++ news)) (hg : w.grownBy w' v.ownBlock) (hat : v'.ownBlock = v.ownBlock ∨ v'.ownBlock = some w.heap.size) (hsz' : w.heap.size ≤ w'.heap.size) : AY lo A base e sz w' v' (xs ++ [x]) :=
 ⟨_, Dz.push h hn hx hown hg hat hsz'⟩
theorem AY.below {lo : Nat} {A : Rp α} {base : Nat} {e : TypeId} {sz : Nat} {v : Value} {xs : List α} (h : AY lo A base e sz w v xs) (hb : Below w.heap.size w w') : AY lo A base e sz w' v xs := by
 obtain ⟨cells, ho, hlen, hsz, hA⟩ := h
 refine ⟨cells, ⟨ho.1, ?_⟩, hlen, hsz, fun i cs x hi hx => A.mono (A.keep (hA i cs x hi hx) fun b h => hb.block b h.2.1) fun b h => ⟨h.1, Ah h.2.1 hb.size, h.2.2⟩⟩
 rcases ho.2 with h0 | ⟨g, cap, cur, h1, h2, h3, h4⟩
 ·exact .inl h0
 ·exact .inr ⟨g, cap, cur, h1, h2, Z3, h4⟩
theorem Dz.below {lo : Nat} {A : Rp α} {base : Nat} {e : TypeId} {sz : Nat} {v : Value} {xs : List α} {cells : List (List Value)} (h : Dz lo A base e sz w v xs cells) (hb : Below w.heap.size w w') : Dz lo A base e sz w' v xs cells := by
 obtain ⟨ho, hlen, hsz, hA⟩ := h
 refine ⟨⟨ho.1, ?_⟩, hlen, hsz, fun i cs x hi hx => A.mono (A.keep (hA i cs x hi hx) fun b h => hb.block b h.2.1) fun b h => ⟨h.1, Ah h.2.1 hb.size, h.2.2⟩⟩
 rcases ho.2 with h0 | ⟨g, cap, cur, h1, h2, h3, h4⟩
 ·exact .inl h0
 ·exact .inr ⟨g, cap, cur, h1, h2, Z3, h4⟩
theorem Em {base : Nat} {e : TypeId} {size : Nat} (W : World) (hb : base ≤ W.heap.size) {g : Nat} (hg : g = W.heap.size) : (W.alloc (.cells #[] e)).ownsRow base e size (.slice (some ⟨g, 0, none⟩) 0 0) 0 [] := by
 subst hg;exact ⟨zO, .inr ⟨_, 0, #[], rfl, hb, (MapKept.heap_alloc W _).1, Al _, Aj _, zO, zO⟩⟩
theorem Bh {base : Nat} {e : TypeId} {size : Nat} {v : Value} {n : Nat} {xs : List Value} (h : w.ownsRow base e size v n xs) : ∃ a c, v = .slice a n c := by
 rcases h.2 with ⟨rfl, rfl⟩ | ⟨g, cap, cur, rfl, _⟩
 ·exact ⟨_, _, rfl⟩
 ·exact ⟨_, _, rfl⟩
theorem PS {base : Nat} {e : TypeId} {v : Value} {A : Rp α} (f : α → Value) {l : List α} {n : Nat} (hf : ∀ (S : Nat → Prop) x, x ∈ l → A.r S w [f x] x) (hn : n = l.length) (h : w.ownsRow base e 1 v n (l.map f)) : (rSl 1 A).r (fun b => base ≤ b ∧ b < w.heap.size) w [v] l := by
 subst hn;rcases h.2 with ⟨rfl, h0⟩ | ⟨g, cap, cur, rfl, hbg, hg, hn, hc, hcur, hx⟩
 ·have : l = [] := AO h0
  subst this;exact A3 rfl (Al _) (Aj _) (.inl rfl)
 ·refine A3 rfl hn hc (.inr ⟨g, 0, rfl, ⟨hbg, Blk.lt hg⟩, fun i x hi => ⟨[f x], rfl, fun j v hj => ?_, hf _ x (List.mem_of_getElem? hi)⟩⟩)
  have hj0 : j = 0 := by
   rcases j with _ | j
   ·rfl
   ·simp at hj
  subst hj0;simp at hj
  subst hj;have hi' : i < l.length := (List.getElem?_eq_some_iff.1 hi).1
  rw [Bn, Eb, BR, Blk.cell hg i]
  have e1 : cur[i]? = (cur.toList.take (l.length * 1))[i]? := by
   rw [DO, Ak zD]; simp
  rw [e1, hx, List.getElem?_map, hi]; rfl
def Bx (l : List Int) : List Value := l.map fun n => .int .u64 n
theorem El {base : Nat} {e : TypeId} {v : Value} {l : List Int} {n : Nat} (hw : ∀ x ∈ l, 0 ≤ x ∧ x ≤ 18446744073709551615) (hn : n = l.length) (h : w.ownsRow base e 1 v n (Bx l)) : AQ.r (fun b => base ≤ b ∧ b < w.heap.size) w [v] l :=
 PS _ (fun _ x hx => ⟨rfl, IL (hw x hx)⟩) hn h
theorem Cp {base : Nat} {e : TypeId} {v : Value} {l : List UInt8} {n : Nat} (hn : n = l.length) (h : w.ownsRow base e 1 v n (byteCells l)) : Ag.r (fun b => base ≤ b ∧ b < w.heap.size) w [v] l :=
 PS _ (fun _ x _ => rfl) hn h
theorem By {base : Nat} {e : TypeId} {size : Nat} {v : Value} {n : Nat} {xs : List Value} (h : w.ownsRow base e size v n xs) (hb : Below w.heap.size w w') : w'.ownsRow base e size v n xs := by
 refine ⟨h.1, ?_⟩
 rcases h.2 with h0 | ⟨g, cap, cur, h1, h2, h3, h4⟩
 ·exact .inl h0
 ·exact .inr ⟨g, cap, cur, h1, h2, Z3, h4⟩
theorem Di {P : Program} {ops : Array Oper} {o : Oper} {a : Act} {K : Act → World → Prop} {Q : Exit → Act → World → Prop} {E : Prop} (hgd : o.guard = none) (s x : Operand) (t : TypeId)
  (ho : o.op = .call { callee := .builtin .append, args := #[s, x], argTypes := #[t, t] })
  (base : Nat) (e : TypeId) (i : TypeInfo) (z : Value) (size bytes : Nat) (ht : P.underlying t = some (.slice e)) (hi : P.info? e = some i) (hz : i.zero = some z)
  (hsize : i.size = size) (hby : i.bytes = bytes) (hzs : z.cells.size = size) (hsz : 0 < size)
  (v : Value) (n : Nat) (xs : List Value) (hs : a.eval s = v) (hown : w.ownsRow base e size v n xs)
  (A : Option Addr) (m c : Nat) (news : List Value) (hx : a.eval x = .slice A m c) (hsrc : Src w A m size news) (h1 : ∀ u ∈ news, u.oneCell' = true)
  (h63 : n + m ≤ maxLen) (hbytes : (n + m) * bytes ≤ 140737488355328) (hbase : base ≤ w.heap.size)
  (h : ∀ a' c' w', w'.ownsRow base e size (.slice a' (n + m) c') (n + m) (xs ++ news) → w.grownBy w' v.ownBlock → ((Value.slice a' (n + m) c').ownBlock = v.ownBlock ∨ (Value.slice a' (n + m) c').ownBlock = some w.heap.size) → K (a.put o.dst (.slice a' (n + m) c')) w') :
  if Region.wanted o (yielded ops a.tmps) = true then Oper.wp P o a w K Q else E := by
 have hw : Region.wanted o (yielded ops a.tmps) = true := by simp [Region.wanted, hgd]
 rw [Ak hw]
 obtain ⟨v', w', hrun, h2, h3, h4⟩ := GL (P := P) base t o.type e i z size bytes ht hi hz hsize hby hzs hsz v n xs hown A m c news hsrc h1 h63 hbytes hbase
 obtain ⟨a', c', rfl⟩ := Bh h2
 unfold Oper.wp execOp;simp only [ho, resolve, invoke, builtin, Sem.run_bind, Sem.run_pure, Result.andThen_ok, List.map_toArray, List.map_cons, List.map_nil, hs, hx, hrun]
 exact h a' c' w' h2 h3 h4
end
end Go.Bs
namespace Go.Proofs.YtlbffbkbkajciaaGreat
open Go.RowKit Go.Bs
def Hi (b : List UInt8) (p q : Nat) : Bool := decide (p < b.length) && decide (b[p]? = b[q]?)
theorem RU {b : List UInt8} {p q : Nat} (hp : p < b.length) (hq : q < b.length) : Hi b p q = ((b[p].toNat : Int) == (b[q].toNat : Int)) := by
 unfold Hi;rw [Ac hp, BJ, AJ hp, AJ hq, Fp]
 simp only [Aw, Bc, beq_iff_eq]
 constructor
 ·intro h; rw [h]
 ·intro h; exact UInt8.toNat_inj.1 zD
def GU (b : List UInt8) (p off k : Nat) : Nat := k + EC b off (b.length - p - k) (p + k)
theorem Nm {b : List UInt8} {p off : Nat} (h : p < b.length ∧ 1 ≤ off ∧ off ≤ p) : CD b p off = GU b p off 0 := by
 unfold CD GU;rw [Ak h]; simp
theorem OR {b : List UInt8} {p off k : Nat} (h : Hi b (p + k) (p + k - off) = true) : GU b p off k = GU b p off (k + 1) ∧ p + k < b.length := by
 simp only [Hi, As, Aw] at h
 refine ⟨?_, h.1⟩
 unfold GU;obtain ⟨f, hf⟩ : ∃ f, b.length - p - k = f + 1 := ⟨b.length - p - k - 1, zD⟩
 rw [hf, show b.length - p - (k + 1) = f by omega]
 simp only [EC]
 rw [Ak h, show p + (k + 1) = p + k + 1 by omega]
 omega
theorem Ly {b : List UInt8} {p off k : Nat} (h : Hi b (p + k) (p + k - off) = false) : GU b p off k = k := by
 unfold GU;rcases DN (b.length - p - k) with h0 | h0
 ·rw [h0]; rfl
 ·obtain ⟨f, hf⟩ : ∃ f, b.length - p - k = f + 1 := ⟨b.length - p - k - 1, zD⟩
  rw [hf]
  simp only [EC]
  rw [An]
  ·omega
  ·rintro ⟨h1, h2⟩
   have : Hi b (p + k) (p + k - off) = true := by unfold Hi; rw [Ac h1, Ac h2]; rfl
   rw [this] at h; cases h
theorem IX {b : List UInt8} {p off : Nat} (h : ¬ (p < b.length ∧ 1 ≤ off ∧ off ≤ p)) : CD b p off = 0 := by
 unfold CD; rw [An h]
theorem MZ (b : List UInt8) (p off : Nat) (a : Option Addr) (n c : Nat) (w : World) (hl : Ag.r (· < w.heap.size) w [.slice a n c] b) (hlen : b.length ≤ 1048576) (hp : p ≤ 1048576) (ho : off ≤ 1048577) :
  Calls Tryz.prog 275 #[.slice a n c, .int .i64 p, .int .i64 off] w fun r w' => r = .returned (.int .i64 (CD b p off)) ∧ Below w.heap.size w w' := by
 obtain ⟨rfl, hm, _, _⟩ := AP hl
 by_cases h1 : p < b.length
 ·have d0 : decide ((p : Int) < 0) = false := by simp
  have d1 : decide ((b.length : Int) ≤ (p : Int)) = false := zL
  have d1' : decide (b.length ≤ p) = false := zL
  by_cases h2 : 1 ≤ off
  ·have d2 : decide ((off : Int) < 1) = false := by simp; omega
   by_cases h3 : off ≤ p
   ·have d3 : decide ((p : Int) < (off : Int)) = false := by simp; omega
    have d3' : decide (p < off) = false := zL
    have hff := hid (Nm (off := off) ⟨h1, h2, h3⟩)
    obtain ⟨g, o, hA, hg, _⟩ := Cx hl h1
    subst hA;have HL := hid hl; clear hl
    go_enter Tryz.func275, Tryz.ntmps275
    go_wp2_with fail;go_loopw [7] (fun i wr => ∃ k : Nat, k ≤ b.length - p ∧ i = .int .i64 k ∧ Hid (CD b p off = GU b p off k) ∧ Below w.heap.size w wr) (fun i _ => b.length - (intOf i).toNat)
    case atStart => exact ⟨0, Aj _, rfl, hff, Below.refl _ _⟩
    case round =>
     obtain ⟨k, hk, rfl, hf, hb⟩ := hrel
     clear hff;have d4 : decide ((k : Int) < 1048576) = true := zL
     by_cases hlt : p + k < b.length
     ·have d5 : decide ((p : Int) + (k : Int) < (b.length : Int)) = true := by simp; omega
      have hlq : p + k - off < b.length := zD
      obtain ⟨g1, o1, hA1, _, hc⟩ := Cx HL.out hlt
      obtain ⟨g2, o2, hA2, _, hc'⟩ := Cx HL.out hlq
      simp only [Bc, DE, AD] at hA1 hA2
      obtain ⟨rfl, rfl⟩ := hA1
      obtain ⟨rfl, rfl⟩ := hA2
      have C1 := fun s : AN wr => s.cell ((hb.cell (p := ⟨g, o + (p + k), none⟩) hg).trans hc)
      have C2 := fun s : AN wr => s.cell ((hb.cell (p := ⟨g, o + (p + k - off), none⟩) hg).trans hc')
      have hsa := RU hlt hlq
      generalize b[p + k] = x at *
      generalize b[p + k - off] = y at *
      clear hc hc';have i1 : (0 : Int) ≤ (p : Int) + (k : Int) := zD
      have i2 : (0 : Int) ≤ (p : Int) + (k : Int) - (off : Int) := zD
      have i3 : (p : Int) + (k : Int) - (off : Int) < (b.length : Int) := zD
      have i4 : (p : Int) + (k : Int) < (b.length : Int) := zD
      have t1 : ((p : Int) + (k : Int)).toNat = p + k := zD
      have t2 : ((p : Int) + (k : Int) - (off : Int)).toNat = p + k - off := zD
      cases hs : Hi b (p + k) (p + k - off)
      ·have hend := hid (Ly hs)
       rw [hs] at hsa
       have e1 : ((x.toNat : Int) == (y.toNat : Int)) = false := hsa.symm
       clear hs hsa;go_wp2_with fail;refine Ar zH zH ?_
       repeat (go_big_quiet_step (fail))
       refine AA ?_
       rintro W5 ⟨⟨W5', hb5⟩, rfl⟩;go_wp2;go_ret;exact ⟨by rw [hf.out, hend.out]; rfl, Af hb5 hb⟩
      ·obtain ⟨hn, _⟩ := OR hs
       have HN := hid hn
       rw [hs] at hsa
       have e1 : ((x.toNat : Int) == (y.toNat : Int)) = true := hsa.symm
       clear hs hsa hn;go_wp2_with fail;refine Ar zH zH ?_
       repeat (go_big_quiet_step (fail))
       refine AA ?_
       rintro W5 ⟨⟨W5', hb5⟩, rfl⟩;clear t1 t2;go_wp2;go_roundw
       case rel => exact ⟨k + 1, zD, zW, hid (by rw [hf.out, HN.out]), Af hb5 hb⟩
       case measure => simp [intOf]; omega
     ·have d5 : decide ((p : Int) + (k : Int) < (b.length : Int)) = false := by simp; omega
      have hs : Hi b (p + k) (p + k - off) = false := by simp [Hi, hlt]
      have hend := hid (Ly hs)
      clear hs;go_wp2_with fail;refine Ar zH zH ?_
      repeat (go_big_quiet_step (fail))
      refine AA ?_
      rintro W5 ⟨⟨W5', hb5⟩, rfl⟩;go_wp2;go_ret;exact ⟨by rw [hf.out, hend.out]; rfl, Af hb5 hb⟩
   ·have d3 : decide ((p : Int) < (off : Int)) = true := by simp; omega
    have hff := hid (IX (b := b) (p := p) (off := off) zD)
    go_enter Tryz.func275, Tryz.ntmps275
    go_wp2;go_ret;exact ⟨zI, zB⟩
  ·have d2 : decide ((off : Int) < 1) = true := by simp; omega
   have hff := hid (IX (b := b) (p := p) (off := off) zD)
   go_enter Tryz.func275, Tryz.ntmps275
   go_wp2;go_ret;exact ⟨zI, zB⟩
 ·have d1 : decide ((b.length : Int) ≤ (p : Int)) = true := by simp; omega
  have hff := hid (IX (b := b) (p := p) (off := off) zD)
  go_enter Tryz.func275, Tryz.ntmps275
  go_wp2;go_ret;exact ⟨zI, zB⟩
theorem Oq (b : List UInt8) (p off : Int) (h0 : 0 ≤ p) (h1 : 0 ≤ off) (a : Option Addr) (n c : Nat) (w : World) (hl : Ag.r (· < w.heap.size) w [.slice a n c] b) (hlen : b.length ≤ 1048576) (hp : p ≤ 1048576) (ho : off ≤ 1048577) :
  Calls Tryz.prog 275 #[.slice a n c, .int .i64 p, .int .i64 off] w fun r w' => r = .returned (.int .i64 (CD b p.toNat off.toNat)) ∧ Below w.heap.size w w' := by
 obtain ⟨p', rfl⟩ := Int.eq_ofNat_of_zero_le h0
 obtain ⟨q', rfl⟩ := Int.eq_ofNat_of_zero_le h1
 exact MZ b p' q' a n c w hl hlen zD zD
theorem Ki (o n : Int) (w : World) : Calls Tryz.prog 276 #[.int .i64 o, .int .i64 n] w fun r w' => r = .returned (.tuple #[.int .i64 (if n < 4 then 0 else o), .int .i64 (if n < 4 then 0 else n)]) ∧ w = w' := by
 by_cases h : n < 4
 ·rw [Ak h, Ak h]
  have d1 : decide (n < 4) = true := ZZ
  clear h;go_enter Tryz.func276, Tryz.ntmps276
  go_wp2;go_ret2
  exact ⟨rfl, rfl⟩
 ·rw [An h, An h]
  have d1 : decide (n < 4) = false := ZZ
  clear h;go_enter Tryz.func276, Tryz.ntmps276
  go_wp2;go_ret2
  exact ⟨rfl, rfl⟩
theorem JM (a b : Nat) (ha : a < 4294967296) (hb : b < 4294967296) : bits .or .u32 (a : Int) (b : Int) = ((a ||| b : Nat) : Int) := by
 have hx : a ||| b < 2 ^ 32 := Nat.or_lt_two_pow zD zD
 have h1 : (BitVec.ofInt 32 (a : Int)).toNat = a := by
  rw [BitVec.ofInt_natCast, BitVec.toNat_ofNat]; exact Gw zD
 have h2 : (BitVec.ofInt 32 (b : Int)).toNat = b := by
  rw [BitVec.ofInt_natCast, BitVec.toNat_ofNat]; exact Gw zD
 show IntKind.u32.wrap ((BitVec.ofInt 32 (a : Int) ||| BitVec.ofInt 32 (b : Int)).toNat : Int) = _
 rw [BitVec.toNat_or, h1, h2, IntKind.wrap_u32]
 omega
theorem TT (a c k : Nat) (h : a < 2 ^ k) : a ||| (c * 2 ^ k) = a + c * 2 ^ k := by
 rw [Nat.or_comm, ← Nat.shiftLeft_eq, ← Nat.shiftLeft_add_eq_or_of_lt h, Nat.add_comm]
theorem Mo (a c k m : Nat) (hm : 2 ^ k = m) (h : a < m) (hc : c * m < 4294967296) (ha : a < 4294967296) : bits .or .u32 (a : Int) ((c : Int) * (m : Int)) = (a : Int) + c * m := by
 have e : ((c : Int) * (m : Int)) = ((c * m : Nat) : Int) := zO
 rw [e, JM a (c * m) ha hc, ← hm, TT a c k (by rw [hm]; exact h)]
 simp
theorem SC (x0 x1 x2 x3 : UInt8) : bits .or .u32 (bits .or .u32 (bits .or .u32 (bits .or .u32 0 ((x0.toNat : Int) % 4294967296)) ((x1.toNat : Int) % 4294967296 * 256 % 4294967296)) ((x2.toNat : Int) % 4294967296 * 65536 % 4294967296)) ((x3.toNat : Int) % 4294967296 * 16777216 % 4294967296) = ((x0.toNat + 256 * x1.toNat + 65536 * x2.toNat + 16777216 * x3.toNat : Nat) : Int) := by
 have h0 := x0.toNat_lt; have h1 := x1.toNat_lt; have h2 := x2.toNat_lt; have h3 := x3.toNat_lt
 have e0 : (x0.toNat : Int) % 4294967296 = ((x0.toNat : Nat) : Int) * ((1 : Nat) : Int) := zD
 have e1 : (x1.toNat : Int) % 4294967296 * 256 % 4294967296 = (x1.toNat : Int) * ((256 : Nat) : Int) := zD
 have e2 : (x2.toNat : Int) % 4294967296 * 65536 % 4294967296 = (x2.toNat : Int) * ((65536 : Nat) : Int) := zD
 have e3 : (x3.toNat : Int) % 4294967296 * 16777216 % 4294967296 = (x3.toNat : Int) * ((16777216 : Nat) : Int) := zD
 have ez : (0 : Int) = ((0 : Nat) : Int) := rfl
 rw [e0, e1, e2, e3, ez, Mo 0 x0.toNat 0 1 zP zD zD zD]
 have f0 : ((0 : Nat) : Int) + (x0.toNat : Int) * ((1 : Nat) : Int) = ((x0.toNat : Nat) : Int) := zD
 rw [f0, Mo x0.toNat x1.toNat 8 256 zP zD zD zD]
 have f1 : (x0.toNat : Int) + (x1.toNat : Int) * ((256 : Nat) : Int) = ((x0.toNat + 256 * x1.toNat : Nat) : Int) := zD
 rw [f1, Mo (x0.toNat + 256 * x1.toNat) x2.toNat 16 65536 zP zD zD zD]
 have f2 : ((x0.toNat + 256 * x1.toNat : Nat) : Int) + (x2.toNat : Int) * ((65536 : Nat) : Int) = ((x0.toNat + 256 * x1.toNat + 65536 * x2.toNat : Nat) : Int) := zD
 rw [f2, Mo (x0.toNat + 256 * x1.toNat + 65536 * x2.toNat) x3.toNat 24 16777216 zP zD zD zD]
 omega
def Hc (b : List UInt8) (p : Nat) : Int × Bool := match CV b p with | some k => (k, true) | none => (0, false)
theorem EV {b : List UInt8} {p : Nat} (hp : p + 4 ≤ b.length) : CV b p = some (b[p].toNat + 256 * b[p + 1].toNat + 65536 * b[p + 2].toNat + 16777216 * b[p + 3].toNat) := by
 unfold CV;rw [AJ (show p < b.length by omega), AJ (show p + 1 < b.length by omega), AJ (show p + 2 < b.length by omega), AJ (show p + 3 < b.length by omega)]
theorem I0 {b : List UInt8} {p : Nat} (hp : b.length < p + 4) : CV b p = none := by
 unfold CV;rw [List.getElem?_eq_none (show b.length ≤ p + 3 by omega)]
 split <;> simp_all
theorem Po (b : List UInt8) (p : Nat) (a : Option Addr) (n c : Nat) (w : World) (hl : Ag.r (· < w.heap.size) w [.slice a n c] b) (hlen : b.length ≤ 1048576) (hp : p + 4 ≤ b.length) :
  Calls Tryz.prog 282 #[.slice a n c, .int .i64 p] w fun r w' => r = .returned (.tuple #[.int .u32 (Hc b p).1, .bool (Hc b p).2]) ∧ w = w' := by
 have hff : Hid (Hc b p = (((b[p].toNat + 256 * b[p + 1].toNat + 65536 * b[p + 2].toNat + 16777216 * b[p + 3].toNat : Nat) : Int), true)) := hid (by unfold Hc; rw [EV hp])
 obtain ⟨rfl, hm, _, _⟩ := AP hl
 obtain ⟨g, o, hA, hg, c0⟩ := Cx hl (i := p) zD
 obtain ⟨g1, o1, hA1, _, c1⟩ := Cx hl (i := p + 1) zD
 obtain ⟨g2, o2, hA2, _, c2⟩ := Cx hl (i := p + 2) zD
 obtain ⟨g3, o3, hA3, _, c3⟩ := Cx hl (i := p + 3) zD
 subst hA;simp only [Bc, DE, AD] at hA1 hA2 hA3
 obtain ⟨rfl, rfl⟩ := hA1
 obtain ⟨rfl, rfl⟩ := hA2
 obtain ⟨rfl, rfl⟩ := hA3
 have HL := hid hl; clear hl
 have d0 : decide ((p : Int) < 0) = false := zO
 have d1 : decide ((b.length : Int) - 4 < (p : Int)) = false := zL
 generalize b[p] = x0 at *
 generalize b[p + 1] = x1 at *
 generalize b[p + 2] = x2 at *
 generalize b[p + 3] = x3 at *
 have i0 : (0 : Int) ≤ (p : Int) := zD
 have i1 : (p : Int) + 3 < (b.length : Int) := zD
 have i2 : (p : Int) + 2 < (b.length : Int) := zD
 have i3 : (p : Int) + 1 < (b.length : Int) := zD
 have i4 : (p : Int) < (b.length : Int) := zD
 go_enter Tryz.func282, Tryz.ntmps282
 go_wp2_with fail;refine wp_loop_rounds 5 ?_
 rw [rounds_succ]
 go_wp2_with fail;rw [rounds_succ]
 go_wp2_with fail;rw [rounds_succ]
 go_wp2_with fail;rw [rounds_succ]
 go_wp2_with fail;rw [rounds_succ]
 go_wp2_with fail;go_ret2
 exact ⟨by rw [hff.out, ← SC]; rfl, rfl⟩
theorem Pp (b : List UInt8) (p : Nat) (a : Option Addr) (n c : Nat) (w : World) (hl : Ag.r (· < w.heap.size) w [.slice a n c] b) (hlen : b.length ≤ 1048576) (hp : b.length < p + 4) (hp2 : p ≤ 1048576) :
  Calls Tryz.prog 282 #[.slice a n c, .int .i64 p] w fun r w' => r = .returned (.tuple #[.int .u32 (Hc b p).1, .bool (Hc b p).2]) ∧ w = w' := by
 have hff : Hid (Hc b p = (0, false)) := hid (by unfold Hc; rw [I0 hp])
 obtain ⟨rfl, hm, _, _⟩ := AP hl
 clear hl;have d0 : decide ((p : Int) < 0) = false := zO
 have d1 : decide ((b.length : Int) - 4 < (p : Int)) = true := zL
 go_enter Tryz.func282, Tryz.ntmps282
 go_wp2;go_ret2
 exact ⟨zI, rfl⟩
theorem LU (b : List UInt8) (p : Nat) (a : Option Addr) (n c : Nat) (w : World) (hl : Ag.r (· < w.heap.size) w [.slice a n c] b) (hlen : b.length ≤ 1048576) (hp : p ≤ 1048576) :
  Calls Tryz.prog 282 #[.slice a n c, .int .i64 p] w fun r w' => r = .returned (.tuple #[.int .u32 (Hc b p).1, .bool (Hc b p).2]) ∧ w = w' := by
 by_cases h : p + 4 ≤ b.length
 ·exact Po b p a n c w hl hlen h
 ·exact Pp b p a n c w hl hlen zD hp
end Go.Proofs.YtlbffbkbkajciaaGreat
namespace Go.Bs
open Go.RowKit
structure Tch (F : Nat → Prop) (w w' : World) : Prop where
 os : w'.os = w.os
 tape : w'.tape = w.tape
 output : w'.output = w.output
 size : w.heap.size ≤ w'.heap.size
 block : ∀ b, b < w.heap.size → ¬ F b → w'.heap[b]? = w.heap[b]?
section
variable {F G : Nat → Prop} {w w' w'' : World}
theorem Tch.refl (F : Nat → Prop) (w : World) : Tch F w w := ⟨rfl, rfl, rfl, Al _, fun _ _ _ => rfl⟩
theorem Tch.trans (h : Tch F w w') (k : Tch G w' w'') (hG : ∀ b, b < w.heap.size → G b → F b) : Tch F w w'' :=
 ⟨k.os.trans h.os, k.tape.trans h.tape, k.output.trans h.output, A5 h.size k.size, fun b hb hF => (k.block b (Ah hb h.size) (fun hg => hF (hG b hb hg))).trans (h.block b hb hF)⟩
theorem Tch.mono (h : Tch F w w') (hF : ∀ b, b < w.heap.size → F b → G b) : Tch G w w' := ⟨h.os, h.tape, h.output, h.size, fun b hb hg => h.block b hb (fun hf => hg (hF b hb hf))⟩
theorem Tch.Ff {B : Nat} (h : Below B w w') : Tch (fun b => B ≤ b) w w' := ⟨h.os, h.tape, h.output, h.size, fun b hb hf => h.block b zD⟩
theorem Tch.BQ (h : Below w.heap.size w w') : Tch F w w' := ⟨h.os, h.tape, h.output, h.size, fun b hb _ => h.block b hb⟩
theorem Tch.Sq {row : Option Nat} (h : w.grownBy w' row) : Tch (fun b => row = some b) w w' := ⟨h.os, h.tape, h.output, h.size, fun b hb hf => h.block b hb (fun e => hf e.symm)⟩
theorem Tch.alloc (h : Tch F w w') (o : Obj) : Tch F w (w'.alloc o) := h.trans (Tch.BQ (F := F) ((Below.refl _ _).alloc (Al _) o)) fun _ _ h => h
theorem Tch.drew (h : Tch F w w') : Tch F w w'.drew := ⟨h.os, h.tape, h.output, h.size, h.block⟩
theorem Tch.drewN (h : Tch F w w') (n : Nat) : Tch F w (w'.drewN n) := ⟨h.os, h.tape, h.output, h.size, h.block⟩
theorem Tch.setCell (h : Tch F w w') {p : Addr} (hp : p.block < w.heap.size → F p.block) (u : Value) : Tch F w (w'.setCell p u) :=
 ⟨h.os, h.tape, h.output, by simpa [World.setCell] using h.size, fun b hb hf => (AG w' p u b (fun e => hf (e ▸ hp (e ▸ hb)))).trans (h.block b hb hf)⟩
theorem Tch.below {B : Nat} (h : Tch F w w') (hF : ∀ b, b < w.heap.size → F b → B ≤ b) : Below B w w' ∨ w.heap.size < B := by
 by_cases hB : B ≤ w.heap.size
 ·exact .inl ⟨h.os, h.tape, h.output, h.size, fun b hb => h.block b zD (fun hf => by have := hF b (by omega) hf; omega)⟩
 ·exact .inr zD
theorem Tch.BE {B : Nat} (h : Tch F w w') (hB : B ≤ w.heap.size) (hF : ∀ b, b < w.heap.size → F b → B ≤ b) : Below B w w' := (h.below hF).resolve_right zD
theorem Tch.cell (h : Tch F w w') {p : Addr} (hb : p.block < w.heap.size) (hf : ¬ F p.block) : w'.cell? p = w.cell? p := Bz (h.block _ hb hf)
theorem Tch.frozen (h : Tch F w w') {p : Addr} (hb : p.block < w.heap.size) (hf : ¬ F p.block) : w'.frozen? p = w.frozen? p := Ct (h.block _ hb hf)
theorem Blk.tch {g : Nat} {t : TypeId} {cs : Array Value} (h : Blk w g t cs) (k : Tch F w w') (hf : ¬ F g) : Blk w' g t cs := (k.block g h.lt hf).trans h
theorem B9 {w : World} (W : World) (e : TypeId) (cs : List Value) (hB : w = W.alloc (.cells cs.toArray e)) {g : Nat} (hg : g = W.heap.size) {sz : Nat} (hs : cs.length = sz) : Src w (some ⟨g, 0, none⟩) 1 sz cs := by
 subst hB hg;refine ⟨zD, .inr ⟨_, 0, rfl, fun j u hu => ?_⟩⟩
 rw [Bn, Blk.cell (Blk.new W e cs.toArray)]
 simpa using hu
end
end Go.Bs
