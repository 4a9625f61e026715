/- The document's text of faults; live (written by gen_fwd.py). -/
import Derived.Test.YtlkpnpbodbokkaaDoorProg
import Derived.WalkKit
import Derived.Deep.Cut
import Derived.BigQuiet
import Derived.Test.YtlkpnpbodbokkaaDoorFwC
namespace Go.Proofs.YtlkpnpbodbokkaaDoor
open Go.RowKit Go.Bs
set_option linter.unusedVariables false
set_option linter.unusedSimpArgs false

set_option maxRecDepth 100000 in
set_option maxHeartbeats 3200000 in
theorem ref01_text (c a : Int) (h0 : -9223372036854775808 ≤ a) (h1 : a ≤ 9223372036854775807) (w : World) : Calls Tryd.prog 12 #[.agg #[.int .i64 c, .int .i64 a]] w fun r w' => r = .returned (.string (textOf c a)) ∧ Below w.heap.size w w' := by
  have HW := hid (fun w => ref01_word c w)
  have HI := hid (fun w => ref01_digits a h0 h1 w)
  have hsz := wordOf_size c
  have HX : Hid (textOf c a = if c = 0 ∨ wordOf c = ⟨#[]⟩ then wordOf c else wordOf c ++ ⟨#[32]⟩ ++ ⟨(Lib.itoa a).toArray⟩) := hid rfl
  have HL := Lib.itoa_length_le a h0 h1
  generalize textOf c a = X at *
  generalize wordOf c = s at *
  generalize Lib.itoa a = L at *
  have lc0 : (w.alloc (.cells #[.int .i64 c, .int .i64 a] 24)).cell? ⟨w.heap.size, 0, none⟩ = some (.int .i64 c) := by simp
  have lc1 : (w.alloc (.cells #[.int .i64 c, .int .i64 a] 24)).cell? ⟨w.heap.size, 1, none⟩ = some (.int .i64 a) := by simp
  have HB := hid ((Below.refl w.heap.size w).alloc (Nat.le_refl _) (.cells #[.int .i64 c, .int .i64 a] 24))
  by_cases hc : c = 0
  · have HX' := hid (HX.out.trans (if_pos (.inl hc)))
    have d0 : (c == 0) = true := beq_iff_eq.2 hc
    clear HX hc hsz
    go_enter Tryd.func12, Tryd.ntmps12
    go_wp2_with fail
    refine (HW.out _).mono ?_
    rintro r w1 ⟨rfl, hb1⟩
    go_wp2_with fail
    go_ret
    exact ⟨by rw [HX'.out]; rfl, HB.out.trans (hb1.mono HB.out.size)⟩
  · have d0 : (c == 0) = false := beq_eq_false_iff_ne.2 hc
    by_cases hs : s = ⟨#[]⟩
    · have HX' := hid (HX.out.trans (if_pos (.inr hs)))
      subst hs
      clear HX hc hsz
      go_enter Tryd.func12, Tryd.ntmps12
      go_wp2_with fail
      refine (HW.out _).mono ?_
      rintro r w1 ⟨rfl, hb1⟩
      have lc2 : w1.cell? ⟨w.heap.size, 0, none⟩ = some (.int .i64 c) := (hb1.cell (World.block_lt_of_cell? _ _ lc0)).trans lc0
      go_wp2_with fail
      refine (HW.out _).mono ?_
      rintro r w2 ⟨rfl, hb2⟩
      go_wp2_with fail
      go_ret
      exact ⟨by rw [HX'.out]; rfl, (HB.out.trans (hb1.mono HB.out.size)).trans (hb2.mono (HB.out.trans (hb1.mono HB.out.size)).size)⟩
    · have HX' := hid (HX.out.trans (if_neg (by rintro (h | h); exact hc h; exact hs h)))
      have hd := not_ne s hs
      clear HX hc
      go_enter Tryd.func12, Tryd.ntmps12
      go_wp2_with fail
      refine (HW.out _).mono ?_
      rintro r w1 ⟨rfl, hb1⟩
      have lc2 : w1.cell? ⟨w.heap.size, 0, none⟩ = some (.int .i64 c) := (hb1.cell (World.block_lt_of_cell? _ _ lc0)).trans lc0
      have lc3 : w1.cell? ⟨w.heap.size, 1, none⟩ = some (.int .i64 a) := (hb1.cell (World.block_lt_of_cell? _ _ lc1)).trans lc1
      have X0 := fun s : Later w1 => s.cell lc2
      have X1 := fun s : Later w1 => s.cell lc3
      have HB2 := hid (HB.out.trans (hb1.mono HB.out.size))
      go_wp2_with fail
      refine wp_region_later (by kernel_rfl) (by kernel_rfl) ?_
      repeat (go_big_quiet_step ((first | (go_at_call 10; with_reducible exact later_of (HW.out _)) | (go_at_call 39; with_reducible exact later_of (HI.out _)))))
      refine wpQuiet_nil ?_
      rintro W5 ⟨⟨W5', hb5⟩, rfl⟩
      go_wp2_with fail
      go_ret
      exact ⟨by rw [HX'.out]; rfl, HB2.out.trans (hb5.mono HB2.out.size)⟩

set_option maxRecDepth 100000 in
set_option maxHeartbeats 3200000 in
theorem fault_first3 (w : World) (b : Nat) (hc : ∀ i : Nat, i < 6 → w.cell? ⟨b, i, none⟩ = some (.int .i64 (#[0, 0, 7, 3, 6, 1].getD i 0))) : Calls Tryd.prog 41 #[.slice (some ⟨b, 0, none⟩) 3 3] w fun r w' => r = .returned (.agg #[.int .i64 7, .int .i64 3]) ∧ Below w.heap.size w w' := by
  have HG := hid fault_good
  have x0 : w.cell? ⟨b, 0, none⟩ = some (.int .i64 0) := hc 0 (by decide)
  have x1 : w.cell? ⟨b, 1, none⟩ = some (.int .i64 0) := hc 1 (by decide)
  have x2 : w.cell? ⟨b, 2, none⟩ = some (.int .i64 7) := hc 2 (by decide)
  have x3 : w.cell? ⟨b, 3, none⟩ = some (.int .i64 3) := hc 3 (by decide)
  have hbb : b < w.heap.size := World.block_lt_of_cell? _ _ x0
  clear hc
  have HB0 := hid ((Below.refl w.heap.size w).alloc (Nat.le_refl _) (.cells #[.int .i64 0, .int .i64 0] 24))
  have z0 : (w.alloc (.cells #[.int .i64 0, .int .i64 0] 24)).cell? ⟨w.heap.size, 0, none⟩ = some (.int .i64 0) := by simp
  have z1 : (w.alloc (.cells #[.int .i64 0, .int .i64 0] 24)).cell? ⟨w.heap.size, 1, none⟩ = some (.int .i64 0) := by simp
  have v0 := (HB0.out.cell (p := ⟨b, 0, none⟩) hbb).trans x0
  have v1 := (HB0.out.cell (p := ⟨b, 1, none⟩) hbb).trans x1
  have v2 := (HB0.out.cell (p := ⟨b, 2, none⟩) hbb).trans x2
  have v3 := (HB0.out.cell (p := ⟨b, 3, none⟩) hbb).trans x3
  have f0 : (w.alloc (.cells #[.int .i64 0, .int .i64 0] 24)).frozen? ⟨w.heap.size, 0, none⟩ = false := by simp
  have f1 : (w.alloc (.cells #[.int .i64 0, .int .i64 0] 24)).frozen? ⟨w.heap.size, 1, none⟩ = false := by simp
  have q1 : w.heap.size < (w.alloc (.cells #[.int .i64 0, .int .i64 0] 24)).heap.size := by simp
  have q0 : b < (w.alloc (.cells #[.int .i64 0, .int .i64 0] 24)).heap.size := by simp; omega
  clear x0 x1 x2 x3
  go_enter Tryd.func41, Tryd.ntmps41
  go_wp2_with fail
  generalize w.alloc (.cells #[.int .i64 0, .int .i64 0] 24) = W0 at *
  go_loopw [7] (fun i wr => ∃ k : Nat, k < 2 ∧ i = .int .i64 k ∧ Below W0.heap.size W0 wr) (fun i _ => 2 - (intOf i).toNat)
  case atStart => exact ⟨0, by omega, rfl, Below.refl _ _⟩
  case round =>
    obtain ⟨k, hk, rfl, hb⟩ := hrel
    have y0 := (hb.cell (p := ⟨b, 0, none⟩) q0).trans v0
    have y1 := (hb.cell (p := ⟨b, 1, none⟩) q0).trans v1
    have y2 := (hb.cell (p := ⟨b, 2, none⟩) q0).trans v2
    have y3 := (hb.cell (p := ⟨b, 3, none⟩) q0).trans v3
    have u0' := (hb.cell (p := ⟨w.heap.size, 0, none⟩) q1).trans z0
    have u1' := (hb.cell (p := ⟨w.heap.size, 1, none⟩) q1).trans z1
    have g0 := (hb.frozen (p := ⟨w.heap.size, 0, none⟩) q1).trans f0
    have g1 := (hb.frozen (p := ⟨w.heap.size, 1, none⟩) q1).trans f1
    have hsz := hb.size
    have HBa := fun o => (Below.refl wr.heap.size wr).alloc (Nat.le_refl _) o
    rcases (by omega : k = 0 ∨ k = 1) with rfl | rfl
    · go_wp2_with fail
      refine (HG.out _ _ _).mono ?_
      rintro r w2 ⟨rfl, hb2⟩
      have HB' := (HBa _).trans (hb2.mono (by simp))
      go_wp2_with fail
      go_roundw
      case rel => exact ⟨1, by omega, rfl, hb.trans (HB'.mono hb.size)⟩
      case measure => simp [intOf]
    · go_wp2_with fail
      refine (HG.out _ _ _).mono ?_
      rintro r w2 ⟨rfl, hb2⟩
      have n0 := (hb2.cell (p := ⟨wr.heap.size, 0, none⟩) (by simp)).trans (by simp : _ = some (.int .i64 7))
      have n1 := (hb2.cell (p := ⟨wr.heap.size, 1, none⟩) (by simp)).trans (by simp : _ = some (.int .i64 3))
      have HB' := (HBa _).trans (hb2.mono (by simp))
      have q2 : w.heap.size < wr.heap.size := by omega
      have c0 := (HB'.cell (p := ⟨w.heap.size, 0, none⟩) q2).trans u0'
      have c1 := (HB'.cell (p := ⟨w.heap.size, 1, none⟩) q2).trans u1'
      have c2 := (HB'.frozen (p := ⟨w.heap.size, 0, none⟩) q2).trans g0
      have c3 := (HB'.frozen (p := ⟨w.heap.size, 1, none⟩) q2).trans g1
      have HZ := hid (HB0.out.trans ((hb.trans (HB'.mono hb.size)).mono HB0.out.size))
      go_wp2_with fail
      refine bodyPost_ret (v := .agg #[.int .i64 7, .int .i64 3]) (by simp [results, Tryd.results41, go_sem, c0, c1]) rfl ⟨rfl, ?_⟩
      exact (HZ.out.setCell (Nat.le_refl _) _).setCell (Nat.le_refl _) _
end Go.Proofs.YtlkpnpbodbokkaaDoor
