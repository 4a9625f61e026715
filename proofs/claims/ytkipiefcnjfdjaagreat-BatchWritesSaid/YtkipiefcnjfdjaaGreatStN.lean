/- Copies of links. -/
import Derived.Test.YtkipiefcnjfdjaaGreatStM
import Derived.Test.YtkipiefcnjfdjaaGreatElem
namespace Go.Proofs.YtkipiefcnjfdjaaGreat
open Go.RowKit Go.Bs
set_option linter.unusedVariables false
set_option linter.unusedSimpArgs false
theorem info64 : (Tryz.prog.info? 22).map (fun i => (i.zero, i.size, i.bytes)) = some (some (.int .u64 0), 1, 8) := by kernel_rfl

/-- Blocks made since a world, in another. -/
def Fresh (w w' : World) (b : Nat) : Prop := w.heap.size ≤ b ∧ b < w'.heap.size

theorem u64s_bounds {S : Nat → Prop} {w : World} {a : Option Addr} {n c : Nat} {l : List Int} (h : rU64s.r S w [.slice a n c] l) : ∀ x ∈ l, 0 ≤ x ∧ x ≤ 18446744073709551615 := by
  intro x hx
  obtain ⟨i, hi, rfl⟩ := List.getElem_of_mem hx
  obtain ⟨b, o, _, _, _, h2⟩ := u64_at h hi
  exact h2

set_option maxHeartbeats 800000 in
theorem link_copied (x : Link) (a : Option Addr) (n c : Nat) (w : World) (hl : rU64s.r (· < w.heap.size) w [.slice a n c] x.backs) (hlen : x.backs.length ≤ 1000000000000) :
    Calls Tryz.prog 204 #[.agg #[.int .u64 x.stream, .slice a n c]] w fun r w' => ∃ v, r = .returned (.agg #[.int .u64 x.stream, v]) ∧ rU64s.r (Fresh w w') w' [v] x.backs ∧ Below w.heap.size w w' := by
  obtain ⟨rfl, hm, _, _⟩ := sl_len hl
  obtain ⟨i0, hi, hz0, hz1, hz2⟩ := info_parts info64
  have hw := hid (u64s_bounds hl)
  have HL := hid hl; clear hl
  have hone := u64Cells_one x.backs
  have HONE := hid hone; clear hone
  go_enter Tryz.func204, Tryz.ntmps204
  have hfree : ∀ (W : World), W.heap.size = w.heap.size + 1 + 1 → (W.alloc (.cells #[] 22)).ownsRow (w.heap.size + 1 + 1) 22 1 (.slice (some ⟨w.heap.size + 1 + 1, 0, none⟩) 0 0) 0 [] := fun W h => own_empty W (by omega) h.symm
  have HF := hid hfree; clear hfree
  have hbel : ∀ W : World, Below w.heap.size w W → Src W a x.backs.length 1 (u64Cells x.backs) := fun W h => src_u64s (lift HL.out h)
  have HB := hid hbel; clear hbel
  go_wp2_with (at_builtin; go_loud (refine wpList_append_src rfl _ _ _ rfl (w.heap.size + 1 + 1) 22 i0 (.int .u64 0) 1 8 Tryz.underlying207 hi hz0 hz1 hz2 rfl (by decide) (.slice (some ⟨w.heap.size + 1 + 1, 0, none⟩) 0 0) 0 [] rfl (HF.out _ (by simp)) a x.backs.length c (u64Cells x.backs) rfl (HB.out _ (by (repeat (first | exact Below.refl _ _ | assumption | (refine below_alloc ?_ _) | (refine Below.setCell ?_ (by first | omega | (simp; done) | (simp; omega)) _) | (refine Below.drew ?_) | (refine below_drewN ?_ _) | (refine below_then (by assumption) ?_))))) HONE.out (by simp only [maxLen]; omega) (by omega) (by first | (simp; done) | (simp; omega)) ?_; intro v1 w1 hown1 hgrow1 hat1; rw [Nat.zero_add, List.nil_append] at hown1; obtain ⟨av, cv, hv1⟩ := own_form hown1; subst hv1; have HG := hid hgrow1; have HO := hid hown1; have HA := hid hat1; clear hown1 hgrow1 hat1; have q0 : Blk w1 w.heap.size 209 #[.int .u64 x.stream, .slice a x.backs.length c] := (((Blk.new w _ _).alloc _).alloc _).grown HG.out (by simp only [Value.ownBlock, ne_eq, Option.some.injEq]; omega); have q1 : Blk w1 (w.heap.size + 1) 209 #[.int .u64 0, .slice none 0 0] := ((Blk.new1 w _ _ _).alloc _).grown HG.out (by simp only [Value.ownBlock, ne_eq, Option.some.injEq]; omega); have c00 : w1.cell? ⟨w.heap.size, 0, none⟩ = some (.int .u64 x.stream) := q0.cell 0; have c01 : w1.cell? ⟨w.heap.size, 1, none⟩ = some (.slice a x.backs.length c) := q0.cell 1; have c10 : w1.cell? ⟨w.heap.size + 1, 0, none⟩ = some (.int .u64 0) := q1.cell 0; have c11 : w1.cell? ⟨w.heap.size + 1, 1, none⟩ = some (.slice none 0 0) := q1.cell 1; have f00 := q0.free 0; have f01 := q0.free 1; have f10 := q1.free 0; have f11 := q1.free 1; have Q0 := hid q0; have Q1 := hid q1; clear q0 q1))
  have hb1 : Below w.heap.size w w1 := Below.grown (by (repeat (first | exact Below.refl _ _ | assumption | (refine below_alloc ?_ _) | (refine Below.setCell ?_ (by first | omega | (simp; done) | (simp; omega)) _) | (refine Below.drew ?_) | (refine below_drewN ?_ _) | (refine below_then (by assumption) ?_)))) HG.out (by first | (simp; done) | (simp; omega)) (fun g e => by simp only [Value.ownBlock, Option.some.injEq] at e; omega)
  have hr1 := own_ints64 hw.out rfl HO.out
  have hz1 : w.heap.size + 1 + 1 < w1.heap.size := by have := HG.out.size; simp at this; omega
  clear HG HO HA
  refine bodyPost_ret (v := .agg #[.int .u64 x.stream, .slice av x.backs.length cv]) (by simp [results, Tryz.results204, go_sem, c00, c01, c10, c11]) rfl ⟨.slice av x.backs.length cv, rfl, ?_, by (repeat (first | exact Below.refl _ _ | assumption | (refine below_alloc ?_ _) | (refine Below.setCell ?_ (by first | omega | (simp; done) | (simp; omega)) _) | (refine Below.drew ?_) | (refine below_drewN ?_ _) | (refine below_then (by assumption) ?_)))⟩
  refine rU64s.mono (rU64s.keep hr1 fun b hb => ?_) fun b hb => ⟨by omega, by simp; omega⟩
  repeat rw [Below.heap_setCell _ _ _ _ (by dsimp only; omega)]
end Go.Proofs.YtkipiefcnjfdjaaGreat
