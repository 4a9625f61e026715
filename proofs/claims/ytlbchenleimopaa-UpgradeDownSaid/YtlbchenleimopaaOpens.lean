/- How arguments that are links, entries, batches and segments are opened. -/
import Derived.Test.YtlbchenleimopaaRows
import Derived.Test.YtlbchenleimopaaUpp
namespace Go.Proofs.Ytlbchenleimopaa
open Go.RowKit Go.Bs
set_option linter.unusedVariables false
set_option linter.unusedSimpArgs false

theorem c_u64 : Try.prog.cellsOf 22 = 1 := by kernel_rfl
theorem c_bool : Try.prog.cellsOf 4 = 1 := by kernel_rfl
theorem c_bytes : Try.prog.cellsOf 39 = 1 := by kernel_rfl
theorem c_u64s : Try.prog.cellsOf 47 = 1 := by kernel_rfl
theorem c_links : Try.prog.cellsOf 38 = 1 := by kernel_rfl
theorem c_entries : Try.prog.cellsOf 56 = 1 := by kernel_rfl
theorem c_batches : Try.prog.cellsOf 28 = 1 := by kernel_rfl
theorem o_u64 : Opens Try.prog 22 (rInt .u64) := opens_int Try.underlying22
theorem o_bool : Opens Try.prog 4 rBool := opens_bool Try.underlying4
theorem o_bytes : Opens Try.prog 39 rBytes := opens_slice (sz := 1) Try.underlying39 (by kernel_rfl) (by decide) (opens_byte Try.underlying5)
theorem o_u64s : Opens Try.prog 47 rU64s := opens_slice (sz := 1) Try.underlying47 (by kernel_rfl) (by decide) o_u64

theorem field_at {H : Type} {enc : TypeId × Value → H} {P : Program} {w : World} {cs : List Value} {n : Nat} {fs : Array Field} (h : ∀ (i : Nat) (f : Field), fs[i]? = some f → ∃ y, DataW.trod enc P w 0 (fun _ => true) true n f.type ((cs.drop f.offset).take (P.cellsOf f.type)) = some y)
    {α : Type} {A : Rp α} {t : TypeId} (hA : Opens P t A) (i : Nat) (f : Field) (o : Nat) (hf : fs[i]? = some f) (ht : f.type = t) (ho : f.offset = o) (hs : P.cellsOf t = 1) : ∃ x, A.r (· < w.heap.size) w ((cs.drop o).take 1) x := by
  obtain ⟨y, hy⟩ := h i f hf
  rw [ht, ho, hs] at hy
  exact hA enc w n _ _ hy

theorem o_link : Opens Try.prog 49 rLink := fun enc w fuel cs x h => by
  obtain ⟨hl, n, hf⟩ := trod_fields Try.underlying49 h
  have hl2 : cs.length = 2 := hl.trans (by kernel_rfl)
  obtain ⟨x0, r0⟩ := field_at hf o_u64 0 _ 0 rfl rfl rfl c_u64
  obtain ⟨x1, r1⟩ := field_at hf o_u64s 1 _ 1 rfl rfl rfl c_u64s
  exact ⟨⟨x0, x1⟩, by have h := pair_step (o := 0) (s := 1) (o' := 1) rfl r0 (last_step (s := 1) hl2 r1); rw [List.drop_zero] at h; exact h⟩
theorem o_links : Opens Try.prog 38 rLinks := opens_slice (sz := 2) Try.underlying38 (by kernel_rfl) (by decide) o_link
theorem o_entry : Opens Try.prog 41 rEntry := fun enc w fuel cs x h => by
  obtain ⟨hl, n, hf⟩ := trod_fields Try.underlying41 h
  have hl2 : cs.length = 2 := hl.trans (by kernel_rfl)
  obtain ⟨x0, r0⟩ := field_at hf o_links 0 _ 0 rfl rfl rfl c_links
  obtain ⟨x1, r1⟩ := field_at hf o_bytes 1 _ 1 rfl rfl rfl c_bytes
  exact ⟨⟨x0, x1⟩, by have h := pair_step (o := 0) (s := 1) (o' := 1) rfl r0 (last_step (s := 1) hl2 r1); rw [List.drop_zero] at h; exact h⟩
theorem o_entries : Opens Try.prog 56 rEntries := opens_slice (sz := 2) Try.underlying56 (by kernel_rfl) (by decide) o_entry
theorem o_batch : Opens Try.prog 58 rBatch := fun enc w fuel cs x h => by
  obtain ⟨hl, n, hf⟩ := trod_fields Try.underlying58 h
  have hl2 : cs.length = 3 := hl.trans (by kernel_rfl)
  obtain ⟨x0, r0⟩ := field_at hf o_u64 0 _ 0 rfl rfl rfl c_u64
  obtain ⟨x1, r1⟩ := field_at hf o_u64 1 _ 1 rfl rfl rfl c_u64
  obtain ⟨x2, r2⟩ := field_at hf o_entries 2 _ 2 rfl rfl rfl c_entries
  exact ⟨⟨x0, x1, x2⟩, by have h := pair_step (o := 0) (s := 1) (o' := 1) rfl r0 (pair_step (o := 1) (s := 1) (o' := 2) rfl r1 (last_step (s := 1) hl2 r2)); rw [List.drop_zero] at h; exact h⟩
theorem o_batches : Opens Try.prog 28 rBatches := opens_slice (sz := 3) Try.underlying28 (by kernel_rfl) (by decide) o_batch
theorem o_seg : Opens Try.prog 30 rSeg := fun enc w fuel cs x h => by
  obtain ⟨hl, n, hf⟩ := trod_fields Try.underlying30 h
  have hl2 : cs.length = 2 := hl.trans (by kernel_rfl)
  obtain ⟨x0, r0⟩ := field_at hf o_u64 0 _ 0 rfl rfl rfl c_u64
  obtain ⟨x1, r1⟩ := field_at hf o_batches 1 _ 1 rfl rfl rfl c_batches
  exact ⟨⟨x0, x1⟩, by have h := pair_step (o := 0) (s := 1) (o' := 1) rfl r0 (last_step (s := 1) hl2 r1); rw [List.drop_zero] at h; exact h⟩
end Go.Proofs.Ytlbchenleimopaa
