/- A world in which but some blocks have turned: no program. -/
import Derived.Test.YtkipiefcnjfdjaaGreatElem
namespace Go.Bs
open Go.RowKit
set_option linter.unusedVariables false

/-- w' is w but for blocks of F, and new ones. -/
structure Tch (F : Nat → Prop) (w w' : World) : Prop where
  os : w'.os = w.os
  tape : w'.tape = w.tape
  output : w'.output = w.output
  size : w.heap.size ≤ w'.heap.size
  block : ∀ b, b < w.heap.size → ¬ F b → w'.heap[b]? = w.heap[b]?
section
variable {F G : Nat → Prop} {w w' w'' : World}
theorem Tch.refl (F : Nat → Prop) (w : World) : Tch F w w := ⟨rfl, rfl, rfl, Nat.le_refl _, fun _ _ _ => rfl⟩
theorem Tch.trans (h : Tch F w w') (k : Tch G w' w'') (hG : ∀ b, b < w.heap.size → G b → F b) : Tch F w w'' :=
  ⟨k.os.trans h.os, k.tape.trans h.tape, k.output.trans h.output, Nat.le_trans h.size k.size, fun b hb hF => (k.block b (Nat.lt_of_lt_of_le hb h.size) (fun hg => hF (hG b hb hg))).trans (h.block b hb hF)⟩
theorem Tch.mono (h : Tch F w w') (hF : ∀ b, b < w.heap.size → F b → G b) : Tch G w w' := ⟨h.os, h.tape, h.output, h.size, fun b hb hg => h.block b hb (fun hf => hg (hF b hb hf))⟩
theorem Tch.of_below {B : Nat} (h : Below B w w') : Tch (fun b => B ≤ b) w w' := ⟨h.os, h.tape, h.output, h.size, fun b hb hf => h.block b (by omega)⟩
theorem Tch.of_later (h : Below w.heap.size w w') : Tch F w w' := ⟨h.os, h.tape, h.output, h.size, fun b hb _ => h.block b hb⟩
theorem Tch.of_grown {row : Option Nat} (h : w.grownBy w' row) : Tch (fun b => row = some b) w w' := ⟨h.os, h.tape, h.output, h.size, fun b hb hf => h.block b hb (fun e => hf e.symm)⟩
theorem Tch.alloc (h : Tch F w w') (o : Obj) : Tch F w (w'.alloc o) := h.trans (Tch.of_later (F := F) ((Below.refl _ _).alloc (Nat.le_refl _) o)) fun _ _ h => h
theorem Tch.drew (h : Tch F w w') : Tch F w w'.drew := ⟨h.os, h.tape, h.output, h.size, h.block⟩
theorem Tch.drewN (h : Tch F w w') (n : Nat) : Tch F w (w'.drewN n) := ⟨h.os, h.tape, h.output, h.size, h.block⟩
theorem Tch.setCell (h : Tch F w w') {p : Addr} (hp : p.block < w.heap.size → F p.block) (u : Value) : Tch F w (w'.setCell p u) :=
  ⟨h.os, h.tape, h.output, by simpa [World.setCell] using h.size, fun b hb hf => (Below.heap_setCell w' p u b (fun e => hf (e ▸ hp (e ▸ hb)))).trans (h.block b hb hf)⟩
theorem Tch.below {B : Nat} (h : Tch F w w') (hF : ∀ b, b < w.heap.size → F b → B ≤ b) : Below B w w' ∨ w.heap.size < B := by
  by_cases hB : B ≤ w.heap.size
  · exact .inl ⟨h.os, h.tape, h.output, h.size, fun b hb => h.block b (by omega) (fun hf => by have := hF b (by omega) hf; omega)⟩
  · exact .inr (by omega)
theorem Tch.to_below {B : Nat} (h : Tch F w w') (hB : B ≤ w.heap.size) (hF : ∀ b, b < w.heap.size → F b → B ≤ b) : Below B w w' := (h.below hF).resolve_right (by omega)
theorem Tch.cell (h : Tch F w w') {p : Addr} (hb : p.block < w.heap.size) (hf : ¬ F p.block) : w'.cell? p = w.cell? p := World.cell?_of_block (h.block _ hb hf)
theorem Tch.frozen (h : Tch F w w') {p : Addr} (hb : p.block < w.heap.size) (hf : ¬ F p.block) : w'.frozen? p = w.frozen? p := World.frozen?_of_block (h.block _ hb hf)
theorem Blk.tch {g : Nat} {t : TypeId} {cs : Array Value} (h : Blk w g t cs) (k : Tch F w w') (hf : ¬ F g) : Blk w' g t cs := (k.block g h.lt hf).trans h
theorem src_new1 {w : World} (W : World) (e : TypeId) (cs : List Value) (hB : w = W.alloc (.cells cs.toArray e)) {g : Nat} (hg : g = W.heap.size) {sz : Nat} (hs : cs.length = sz) : Src w (some ⟨g, 0, none⟩) 1 sz cs := by
  subst hB hg
  refine ⟨by omega, .inr ⟨_, 0, rfl, fun j u hu => ?_⟩⟩
  rw [Nat.zero_add, Blk.cell (Blk.new W e cs.toArray)]
  simpa using hu
end
end Go.Bs
