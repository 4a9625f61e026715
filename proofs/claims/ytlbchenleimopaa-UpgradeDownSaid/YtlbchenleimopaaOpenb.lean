/- How arguments that are elder segments are opened. -/
import Derived.Test.YtlbchenleimopaaOpens
namespace Go.Proofs.Ytlbchenleimopaa
open Go.RowKit Go.Bs
set_option linter.unusedVariables false
set_option linter.unusedSimpArgs false
theorem c_olds : Try.prog.cellsOf 23 = 1 := by kernel_rfl
theorem o_old : Opens Try.prog 46 rOld := fun enc w fuel cs x h => by
  obtain ⟨hl, n, hf⟩ := trod_fields Try.underlying46 h
  have hl2 : cs.length = 4 := hl.trans (by kernel_rfl)
  obtain ⟨x0, r0⟩ := field_at hf o_u64 0 _ 0 rfl rfl rfl c_u64
  obtain ⟨x1, r1⟩ := field_at hf o_u64 1 _ 1 rfl rfl rfl c_u64
  obtain ⟨x2, r2⟩ := field_at hf o_bool 2 _ 2 rfl rfl rfl c_bool
  obtain ⟨x3, r3⟩ := field_at hf o_bytes 3 _ 3 rfl rfl rfl c_bytes
  exact ⟨⟨x0, x1, x2, x3⟩, by have h := pair_step (o := 0) (s := 1) (o' := 1) rfl r0 (pair_step (o := 1) (s := 1) (o' := 2) rfl r1 (pair_step (o := 2) (s := 1) (o' := 3) rfl r2 (last_step (s := 1) hl2 r3))); rw [List.drop_zero] at h; exact h⟩
theorem o_olds : Opens Try.prog 23 rOlds := opens_slice (sz := 4) Try.underlying23 (by kernel_rfl) (by decide) o_old
theorem o_seg1 : Opens Try.prog 25 rSeg1 := fun enc w fuel cs x h => by
  obtain ⟨hl, n, hf⟩ := trod_fields Try.underlying25 h
  have hl2 : cs.length = 3 := hl.trans (by kernel_rfl)
  obtain ⟨x0, r0⟩ := field_at hf o_u64 0 _ 0 rfl rfl rfl c_u64
  obtain ⟨x1, r1⟩ := field_at hf o_u64 1 _ 1 rfl rfl rfl c_u64
  obtain ⟨x2, r2⟩ := field_at hf o_olds 2 _ 2 rfl rfl rfl c_olds
  exact ⟨⟨x0, x1, x2⟩, by have h := pair_step (o := 0) (s := 1) (o' := 1) rfl r0 (pair_step (o := 1) (s := 1) (o' := 2) rfl r1 (last_step (s := 1) hl2 r2)); rw [List.drop_zero] at h; exact h⟩
theorem o_seg2 : Opens Try.prog 50 rSeg := fun enc w fuel cs x h => by
  obtain ⟨hl, n, hf⟩ := trod_fields Try.underlying50 h
  have hl2 : cs.length = 2 := hl.trans (by kernel_rfl)
  obtain ⟨x0, r0⟩ := field_at hf o_u64 0 _ 0 rfl rfl rfl c_u64
  obtain ⟨x1, r1⟩ := field_at hf o_batches 1 _ 1 rfl rfl rfl c_batches
  exact ⟨⟨x0, x1⟩, by have h := pair_step (o := 0) (s := 1) (o' := 1) rfl r0 (last_step (s := 1) hl2 r1); rw [List.drop_zero] at h; exact h⟩
end Go.Proofs.Ytlbchenleimopaa
