/- How arguments that are links, entries, batches and segments are opened. -/
import Derived.Test.YtkipiefcnjfdjaaGreatRows
import Derived.Test.YtkipiefcnjfdjaaGreatUpp
namespace Go.Proofs.YtkipiefcnjfdjaaGreat
open Go.RowKit Go.Bs
set_option linter.unusedVariables false
set_option linter.unusedSimpArgs false

theorem c_u64 : Tryz.prog.cellsOf 22 = 1 := by kernel_rfl
theorem c_bool : Tryz.prog.cellsOf 4 = 1 := by kernel_rfl
theorem c_bytes : Tryz.prog.cellsOf 28 = 1 := by kernel_rfl
theorem c_u64s : Tryz.prog.cellsOf 207 = 1 := by kernel_rfl
theorem c_links : Tryz.prog.cellsOf 73 = 1 := by kernel_rfl
theorem c_entries : Tryz.prog.cellsOf 23 = 1 := by kernel_rfl
theorem c_batches : Tryz.prog.cellsOf 60 = 1 := by kernel_rfl
theorem o_u64 : Opens Tryz.prog 22 (rInt .u64) := opens_int Tryz.underlying22
theorem o_bool : Opens Tryz.prog 4 rBool := opens_bool Tryz.underlying4
theorem o_bytes : Opens Tryz.prog 28 rBytes := opens_slice (sz := 1) Tryz.underlying28 (by kernel_rfl) (by decide) (opens_byte Tryz.underlying5)
theorem o_u64s : Opens Tryz.prog 207 rU64s := opens_slice (sz := 1) Tryz.underlying207 (by kernel_rfl) (by decide) o_u64

theorem field_at {H : Type} {enc : TypeId × Value → H} {P : Program} {w : World} {cs : List Value} {n : Nat} {fs : Array Field} (h : ∀ (i : Nat) (f : Field), fs[i]? = some f → ∃ y, DataW.trod enc P w 0 (fun _ => true) true n f.type ((cs.drop f.offset).take (P.cellsOf f.type)) = some y)
    {α : Type} {A : Rp α} {t : TypeId} (hA : Opens P t A) (i : Nat) (f : Field) (o : Nat) (hf : fs[i]? = some f) (ht : f.type = t) (ho : f.offset = o) (hs : P.cellsOf t = 1) : ∃ x, A.r (· < w.heap.size) w ((cs.drop o).take 1) x := by
  obtain ⟨y, hy⟩ := h i f hf
  rw [ht, ho, hs] at hy
  exact hA enc w n _ _ hy

theorem o_link : Opens Tryz.prog 209 rLink := fun enc w fuel cs x h => by
  obtain ⟨hl, n, hf⟩ := trod_fields Tryz.underlying209 h
  have hl2 : cs.length = 2 := hl.trans (by kernel_rfl)
  obtain ⟨x0, r0⟩ := field_at hf o_u64 0 _ 0 rfl rfl rfl c_u64
  obtain ⟨x1, r1⟩ := field_at hf o_u64s 1 _ 1 rfl rfl rfl c_u64s
  exact ⟨⟨x0, x1⟩, by have h := pair_step (o := 0) (s := 1) (o' := 1) rfl r0 (last_step (s := 1) hl2 r1); rw [List.drop_zero] at h; exact h⟩
theorem o_links : Opens Tryz.prog 73 rLinks := opens_slice (sz := 2) Tryz.underlying73 (by kernel_rfl) (by decide) o_link
theorem o_entry : Opens Tryz.prog 75 rEntry := fun enc w fuel cs x h => by
  obtain ⟨hl, n, hf⟩ := trod_fields Tryz.underlying75 h
  have hl2 : cs.length = 2 := hl.trans (by kernel_rfl)
  obtain ⟨x0, r0⟩ := field_at hf o_links 0 _ 0 rfl rfl rfl c_links
  obtain ⟨x1, r1⟩ := field_at hf o_bytes 1 _ 1 rfl rfl rfl c_bytes
  exact ⟨⟨x0, x1⟩, by have h := pair_step (o := 0) (s := 1) (o' := 1) rfl r0 (last_step (s := 1) hl2 r1); rw [List.drop_zero] at h; exact h⟩
theorem o_entries : Opens Tryz.prog 23 rEntries := opens_slice (sz := 2) Tryz.underlying23 (by kernel_rfl) (by decide) o_entry
theorem o_batch : Opens Tryz.prog 25 rBatch := fun enc w fuel cs x h => by
  obtain ⟨hl, n, hf⟩ := trod_fields Tryz.underlying25 h
  have hl2 : cs.length = 3 := hl.trans (by kernel_rfl)
  obtain ⟨x0, r0⟩ := field_at hf o_u64 0 _ 0 rfl rfl rfl c_u64
  obtain ⟨x1, r1⟩ := field_at hf o_u64 1 _ 1 rfl rfl rfl c_u64
  obtain ⟨x2, r2⟩ := field_at hf o_entries 2 _ 2 rfl rfl rfl c_entries
  exact ⟨⟨x0, x1, x2⟩, by have h := pair_step (o := 0) (s := 1) (o' := 1) rfl r0 (pair_step (o := 1) (s := 1) (o' := 2) rfl r1 (last_step (s := 1) hl2 r2)); rw [List.drop_zero] at h; exact h⟩
theorem o_batches : Opens Tryz.prog 60 rBatches := opens_slice (sz := 3) Tryz.underlying60 (by kernel_rfl) (by decide) o_batch
theorem o_seg : Opens Tryz.prog 62 rSeg := fun enc w fuel cs x h => by
  obtain ⟨hl, n, hf⟩ := trod_fields Tryz.underlying62 h
  have hl2 : cs.length = 2 := hl.trans (by kernel_rfl)
  obtain ⟨x0, r0⟩ := field_at hf o_u64 0 _ 0 rfl rfl rfl c_u64
  obtain ⟨x1, r1⟩ := field_at hf o_batches 1 _ 1 rfl rfl rfl c_batches
  exact ⟨⟨x0, x1⟩, by have h := pair_step (o := 0) (s := 1) (o' := 1) rfl r0 (last_step (s := 1) hl2 r1); rw [List.drop_zero] at h; exact h⟩
end Go.Proofs.YtkipiefcnjfdjaaGreat
