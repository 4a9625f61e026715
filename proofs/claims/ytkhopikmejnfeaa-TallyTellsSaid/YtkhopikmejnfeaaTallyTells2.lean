/- The walk of the law TallyTells, way by way (written by gen_tells.py). -/
import Derived.Test.YtkhopikmejnfeaaTallyTells
namespace Go.Proofs.Ytkhopikmejnfeaa
open Go.RowKit Fl Go.Bs
set_option linter.unusedVariables false
set_option linter.unusedSimpArgs false
attribute [local go_sem] unary_neg_float floatOfInt_fI

set_option maxHeartbeats 1600000 in
theorem tells_111 (n b p q x y : Int) (h1 : rt n b = true) (h2 : rt x y = true) (h3 : rt 1 b = true) (bx : x.natAbs < 2 ^ 53) (by_ : y.natAbs < 2 ^ 53)
    (hm : ∀ w, Calls Try.prog 12 #[.agg #[.int .i64 p, .int .i64 q]] w fun e w' => e = .returned (.tuple #[.complex .f64 (fI x) (fI y), .agg #[.int .i64 x, .int .i64 y, .bool false]]) ∧ Below w.heap.size w w') (w : World) :
    Calls Try.prog 4 #[.int .i64 n, .int .i64 b, .agg #[.int .i64 p, .int .i64 q]] w fun e w' => e = .returned (.bool true) ∧ Below w.heap.size w w' := by
  have H1 := hid h1; clear h1
  have hr := right_any x y bx by_
  have ht := things_any x y bx by_
  have hy := bytes_any x y bx by_
  simp only [h2, Bool.false_eq_true, if_true, if_false] at hr ht hy
  have HR := hid hr; clear hr
  have HT := hid ht; clear ht
  have HY := hid hy; clear hy
  have H2 := hid h2; clear h2
  have H3 := hid h3; clear h3
  have HM := hid hm; clear hm
  have hzz := zz
  go_enter Try.func4, Try.ntmps4
  go_wp2_with fail
  refine (of_yes n b H1.out _).mono ?_; rintro e w' ⟨rfl, rfl⟩
  go_wp2_with fail
  refine (rof_yes n b H1.out _).mono ?_; rintro e w1 ⟨rfl, hb1⟩
  obtain ⟨hc1, hf1⟩ := bcell hb1
  have hz1 : w.heap.size < w1.heap.size := by have := hb1.size; simp at this; omega
  go_wp2_with fail
  refine (as_yes n b H1.out _).mono ?_; rintro e w2 ⟨rfl, hb2⟩
  obtain ⟨hc2, hf2⟩ := bcell hb2
  have hz2 : w1.heap.size < w2.heap.size := by have := hb2.size; simp at this; omega
  go_wp2_with fail
  refine (HM.out _).mono ?_; rintro e w3 ⟨rfl, hb3⟩
  obtain ⟨hc3, hf3⟩ := bcell hb3
  go_wp2_with fail
  refine wp_world (fun W => Below w.heap.size w W ∧ w3.heap.size < W.heap.size ∧ W.cell? ⟨w3.heap.size, 0, none⟩ = some (.int .i64 x) ∧ W.cell? ⟨w3.heap.size, 1, none⟩ = some (.int .i64 y) ∧ W.cell? ⟨w3.heap.size, 2, none⟩ = some (.bool false)) ⟨?_, by simp, by go_simp, by go_simp, by go_simp⟩ ?_
  · have k1 := (((Below.refl w.heap.size w).alloc (Nat.le_refl _) (.cells #[.int .i64 p, .int .i64 q] 28)).trans (hb1.mono (by simp)))
    have k2 := k1.alloc (by omega) (.cells #[.int .i64 n, .int .i64 b, .bool false] 33)
    have k3 := k2.trans (hb2.mono (by first | omega | (simp; omega)))
    have k4 := k3.trans (hb3.mono (by first | omega | (simp; omega)))
    exact k4.alloc (by have := hb3.size; (try simp at this); omega) _
  clear hc1 hf1 hc3 hf3
  intro W ⟨hbW, hzW, d0, d1, d2⟩
  have c2 := fun s : Later W => s.cell d2
  have c0 := fun s : Later W => s.cell d0
  have c1 := fun s : Later W => s.cell d1
  refine wp_region_later (by kernel_rfl) (by kernel_rfl) ?_
  repeat (go_big_quiet_step ((first | (go_at_call 13; exact later_same (HR.out _)) | (go_at_call 14; exact later_same (HT.out _)) | (go_at_call 15; exact later_same (HY.out _)) | (go_at_call 11; exact later_of (as_yes x y H2.out _)))))
  refine wpQuiet_nil ?_
  rintro W5 ⟨⟨W5', hb5⟩, rfl⟩
  try dsimp only
  clear c0 c1 c2 d0 d1 d2
  go_wp2_with fail
  refine (rof_yes 1 b H3.out _).mono ?_; rintro e w6 ⟨rfl, hb6⟩
  have hb7 := (hbW.trans (hb5.mono hbW.size)).trans (hb6.mono (by have := hbW.size; have := hb5.size; omega))
  clear hb6 hb5 hbW
  go_wp2_with fail
  refine wp_world (fun W => Below w.heap.size w W ∧ W.cell? ⟨w6.heap.size, 0, none⟩ = some (.int .i64 1) ∧ W.cell? ⟨w6.heap.size, 1, none⟩ = some (.int .i64 b) ∧ W.cell? ⟨w6.heap.size, 2, none⟩ = some (.bool false)) ⟨hb7.alloc hb7.size _, by go_simp, by go_simp, by go_simp⟩ ?_
  intro W ⟨hbW, d0, d1, d2⟩
  have c2 := fun s : Later W => s.cell d2
  have c0 := fun s : Later W => s.cell d0
  have c1 := fun s : Later W => s.cell d1
  refine wp_region_later (by kernel_rfl) (by kernel_rfl) ?_
  repeat (go_big_quiet_step ((first | (go_at_call 16; exact later_same (one_yes b H3.out _)) | (go_at_call 8; exact later_of (live_any _)) | (go_at_call 11; exact later_of (as_yes 1 b H3.out _)))))
  refine wpQuiet_nil ?_
  rintro W9 ⟨⟨W9', hb9⟩, rfl⟩
  try dsimp only
  go_wp2
  go_ret
  exact ⟨rfl, hbW.trans (hb9.mono hbW.size)⟩

set_option maxHeartbeats 1600000 in
theorem tells_110 (n b p q x y : Int) (h1 : rt n b = true) (h2 : rt x y = true) (h3 : rt 1 b = false) (bx : x.natAbs < 2 ^ 53) (by_ : y.natAbs < 2 ^ 53)
    (hm : ∀ w, Calls Try.prog 12 #[.agg #[.int .i64 p, .int .i64 q]] w fun e w' => e = .returned (.tuple #[.complex .f64 (fI x) (fI y), .agg #[.int .i64 x, .int .i64 y, .bool false]]) ∧ Below w.heap.size w w') (w : World) :
    Calls Try.prog 4 #[.int .i64 n, .int .i64 b, .agg #[.int .i64 p, .int .i64 q]] w fun e w' => e = .returned (.bool true) ∧ Below w.heap.size w w' := by
  have H1 := hid h1; clear h1
  have hr := right_any x y bx by_
  have ht := things_any x y bx by_
  have hy := bytes_any x y bx by_
  simp only [h2, Bool.false_eq_true, if_true, if_false] at hr ht hy
  have HR := hid hr; clear hr
  have HT := hid ht; clear ht
  have HY := hid hy; clear hy
  have H2 := hid h2; clear h2
  have H3 := hid h3; clear h3
  have HM := hid hm; clear hm
  have hzz := zz
  go_enter Try.func4, Try.ntmps4
  go_wp2_with fail
  refine (of_yes n b H1.out _).mono ?_; rintro e w' ⟨rfl, rfl⟩
  go_wp2_with fail
  refine (rof_yes n b H1.out _).mono ?_; rintro e w1 ⟨rfl, hb1⟩
  obtain ⟨hc1, hf1⟩ := bcell hb1
  have hz1 : w.heap.size < w1.heap.size := by have := hb1.size; simp at this; omega
  go_wp2_with fail
  refine (as_yes n b H1.out _).mono ?_; rintro e w2 ⟨rfl, hb2⟩
  obtain ⟨hc2, hf2⟩ := bcell hb2
  have hz2 : w1.heap.size < w2.heap.size := by have := hb2.size; simp at this; omega
  go_wp2_with fail
  refine (HM.out _).mono ?_; rintro e w3 ⟨rfl, hb3⟩
  obtain ⟨hc3, hf3⟩ := bcell hb3
  go_wp2_with fail
  refine wp_world (fun W => Below w.heap.size w W ∧ w3.heap.size < W.heap.size ∧ W.cell? ⟨w3.heap.size, 0, none⟩ = some (.int .i64 x) ∧ W.cell? ⟨w3.heap.size, 1, none⟩ = some (.int .i64 y) ∧ W.cell? ⟨w3.heap.size, 2, none⟩ = some (.bool false)) ⟨?_, by simp, by go_simp, by go_simp, by go_simp⟩ ?_
  · have k1 := (((Below.refl w.heap.size w).alloc (Nat.le_refl _) (.cells #[.int .i64 p, .int .i64 q] 28)).trans (hb1.mono (by simp)))
    have k2 := k1.alloc (by omega) (.cells #[.int .i64 n, .int .i64 b, .bool false] 33)
    have k3 := k2.trans (hb2.mono (by first | omega | (simp; omega)))
    have k4 := k3.trans (hb3.mono (by first | omega | (simp; omega)))
    exact k4.alloc (by have := hb3.size; (try simp at this); omega) _
  clear hc1 hf1 hc3 hf3
  intro W ⟨hbW, hzW, d0, d1, d2⟩
  have c2 := fun s : Later W => s.cell d2
  have c0 := fun s : Later W => s.cell d0
  have c1 := fun s : Later W => s.cell d1
  refine wp_region_later (by kernel_rfl) (by kernel_rfl) ?_
  repeat (go_big_quiet_step ((first | (go_at_call 13; exact later_same (HR.out _)) | (go_at_call 14; exact later_same (HT.out _)) | (go_at_call 15; exact later_same (HY.out _)) | (go_at_call 11; exact later_of (as_yes x y H2.out _)))))
  refine wpQuiet_nil ?_
  rintro W5 ⟨⟨W5', hb5⟩, rfl⟩
  try dsimp only
  clear c0 c1 c2 d0 d1 d2
  go_wp2_with fail
  refine (rof_no 1 b H3.out _).mono ?_; rintro e w6 ⟨rfl, hb6⟩
  have hb7 := (hbW.trans (hb5.mono hbW.size)).trans (hb6.mono (by have := hbW.size; have := hb5.size; omega))
  clear hb6 hb5 hbW
  go_wp2_with fail
  refine (one_no b H3.out _).mono ?_; rintro e w' ⟨rfl, rfl⟩
  go_wp2_with fail
  refine (live_any _).mono ?_; rintro e w8 ⟨rfl, hb8⟩
  go_wp2
  go_ret
  exact ⟨rfl, (hb7.alloc hb7.size _).trans (hb8.mono (by simp; have := hb7.size; omega))⟩

set_option maxHeartbeats 1600000 in
theorem tells_101 (n b p q x y : Int) (h1 : rt n b = true) (h2 : rt x y = false) (h3 : rt 1 b = true) (bx : x.natAbs < 2 ^ 53) (by_ : y.natAbs < 2 ^ 53)
    (hm : ∀ w, Calls Try.prog 12 #[.agg #[.int .i64 p, .int .i64 q]] w fun e w' => e = .returned (.tuple #[.complex .f64 (fI x) (fI y), .agg #[.int .i64 0, .int .i64 0, .bool true]]) ∧ Below w.heap.size w w') (w : World) :
    Calls Try.prog 4 #[.int .i64 n, .int .i64 b, .agg #[.int .i64 p, .int .i64 q]] w fun e w' => e = .returned (.bool true) ∧ Below w.heap.size w w' := by
  have H1 := hid h1; clear h1
  have hr := right_any x y bx by_
  have ht := things_any x y bx by_
  have hy := bytes_any x y bx by_
  simp only [h2, Bool.false_eq_true, if_true, if_false] at hr ht hy
  have HR := hid hr; clear hr
  have HT := hid ht; clear ht
  have HY := hid hy; clear hy
  have H2 := hid h2; clear h2
  have H3 := hid h3; clear h3
  have HM := hid hm; clear hm
  have hzz := zz
  go_enter Try.func4, Try.ntmps4
  go_wp2_with fail
  refine (of_yes n b H1.out _).mono ?_; rintro e w' ⟨rfl, rfl⟩
  go_wp2_with fail
  refine (rof_yes n b H1.out _).mono ?_; rintro e w1 ⟨rfl, hb1⟩
  obtain ⟨hc1, hf1⟩ := bcell hb1
  have hz1 : w.heap.size < w1.heap.size := by have := hb1.size; simp at this; omega
  go_wp2_with fail
  refine (as_yes n b H1.out _).mono ?_; rintro e w2 ⟨rfl, hb2⟩
  obtain ⟨hc2, hf2⟩ := bcell hb2
  have hz2 : w1.heap.size < w2.heap.size := by have := hb2.size; simp at this; omega
  go_wp2_with fail
  refine (HM.out _).mono ?_; rintro e w3 ⟨rfl, hb3⟩
  obtain ⟨hc3, hf3⟩ := bcell hb3
  go_wp2_with fail
  refine wp_world (fun W => Below w.heap.size w W ∧ w3.heap.size < W.heap.size ∧ W.cell? ⟨w3.heap.size, 0, none⟩ = some (.int .i64 0) ∧ W.cell? ⟨w3.heap.size, 1, none⟩ = some (.int .i64 0) ∧ W.cell? ⟨w3.heap.size, 2, none⟩ = some (.bool true)) ⟨?_, by simp, by go_simp, by go_simp, by go_simp⟩ ?_
  · have k1 := (((Below.refl w.heap.size w).alloc (Nat.le_refl _) (.cells #[.int .i64 p, .int .i64 q] 28)).trans (hb1.mono (by simp)))
    have k2 := k1.alloc (by omega) (.cells #[.int .i64 n, .int .i64 b, .bool false] 33)
    have k3 := k2.trans (hb2.mono (by first | omega | (simp; omega)))
    have k4 := k3.trans (hb3.mono (by first | omega | (simp; omega)))
    exact k4.alloc (by have := hb3.size; (try simp at this); omega) _
  clear hc1 hf1 hc3 hf3
  intro W ⟨hbW, hzW, d0, d1, d2⟩
  have c2 := fun s : Later W => s.cell d2
  have c0 := fun s : Later W => s.cell d0
  have c1 := fun s : Later W => s.cell d1
  refine wp_region_later (by kernel_rfl) (by kernel_rfl) ?_
  repeat (go_big_quiet_step ((first | (go_at_call 13; exact later_same (HR.out _)) | (go_at_call 14; exact later_same (HT.out _)) | (go_at_call 15; exact later_same (HY.out _)) | (go_at_call 11; exact later_of (as_yes x y H2.out _)))))
  refine wpQuiet_nil ?_
  rintro W5 ⟨⟨W5', hb5⟩, rfl⟩
  try dsimp only
  clear c0 c1 c2 d0 d1 d2
  go_wp2_with fail
  refine (rof_yes 1 b H3.out _).mono ?_; rintro e w6 ⟨rfl, hb6⟩
  have hb7 := (hbW.trans (hb5.mono hbW.size)).trans (hb6.mono (by have := hbW.size; have := hb5.size; omega))
  clear hb6 hb5 hbW
  go_wp2_with fail
  refine wp_world (fun W => Below w.heap.size w W ∧ W.cell? ⟨w6.heap.size, 0, none⟩ = some (.int .i64 1) ∧ W.cell? ⟨w6.heap.size, 1, none⟩ = some (.int .i64 b) ∧ W.cell? ⟨w6.heap.size, 2, none⟩ = some (.bool false)) ⟨hb7.alloc hb7.size _, by go_simp, by go_simp, by go_simp⟩ ?_
  intro W ⟨hbW, d0, d1, d2⟩
  have c2 := fun s : Later W => s.cell d2
  have c0 := fun s : Later W => s.cell d0
  have c1 := fun s : Later W => s.cell d1
  refine wp_region_later (by kernel_rfl) (by kernel_rfl) ?_
  repeat (go_big_quiet_step ((first | (go_at_call 16; exact later_same (one_yes b H3.out _)) | (go_at_call 8; exact later_of (live_any _)) | (go_at_call 11; exact later_of (as_yes 1 b H3.out _)))))
  refine wpQuiet_nil ?_
  rintro W9 ⟨⟨W9', hb9⟩, rfl⟩
  try dsimp only
  go_wp2
  go_ret
  exact ⟨rfl, hbW.trans (hb9.mono hbW.size)⟩

set_option maxHeartbeats 1600000 in
theorem tells_100 (n b p q x y : Int) (h1 : rt n b = true) (h2 : rt x y = false) (h3 : rt 1 b = false) (bx : x.natAbs < 2 ^ 53) (by_ : y.natAbs < 2 ^ 53)
    (hm : ∀ w, Calls Try.prog 12 #[.agg #[.int .i64 p, .int .i64 q]] w fun e w' => e = .returned (.tuple #[.complex .f64 (fI x) (fI y), .agg #[.int .i64 0, .int .i64 0, .bool true]]) ∧ Below w.heap.size w w') (w : World) :
    Calls Try.prog 4 #[.int .i64 n, .int .i64 b, .agg #[.int .i64 p, .int .i64 q]] w fun e w' => e = .returned (.bool true) ∧ Below w.heap.size w w' := by
  have H1 := hid h1; clear h1
  have hr := right_any x y bx by_
  have ht := things_any x y bx by_
  have hy := bytes_any x y bx by_
  simp only [h2, Bool.false_eq_true, if_true, if_false] at hr ht hy
  have HR := hid hr; clear hr
  have HT := hid ht; clear ht
  have HY := hid hy; clear hy
  have H2 := hid h2; clear h2
  have H3 := hid h3; clear h3
  have HM := hid hm; clear hm
  have hzz := zz
  go_enter Try.func4, Try.ntmps4
  go_wp2_with fail
  refine (of_yes n b H1.out _).mono ?_; rintro e w' ⟨rfl, rfl⟩
  go_wp2_with fail
  refine (rof_yes n b H1.out _).mono ?_; rintro e w1 ⟨rfl, hb1⟩
  obtain ⟨hc1, hf1⟩ := bcell hb1
  have hz1 : w.heap.size < w1.heap.size := by have := hb1.size; simp at this; omega
  go_wp2_with fail
  refine (as_yes n b H1.out _).mono ?_; rintro e w2 ⟨rfl, hb2⟩
  obtain ⟨hc2, hf2⟩ := bcell hb2
  have hz2 : w1.heap.size < w2.heap.size := by have := hb2.size; simp at this; omega
  go_wp2_with fail
  refine (HM.out _).mono ?_; rintro e w3 ⟨rfl, hb3⟩
  obtain ⟨hc3, hf3⟩ := bcell hb3
  go_wp2_with fail
  refine wp_world (fun W => Below w.heap.size w W ∧ w3.heap.size < W.heap.size ∧ W.cell? ⟨w3.heap.size, 0, none⟩ = some (.int .i64 0) ∧ W.cell? ⟨w3.heap.size, 1, none⟩ = some (.int .i64 0) ∧ W.cell? ⟨w3.heap.size, 2, none⟩ = some (.bool true)) ⟨?_, by simp, by go_simp, by go_simp, by go_simp⟩ ?_
  · have k1 := (((Below.refl w.heap.size w).alloc (Nat.le_refl _) (.cells #[.int .i64 p, .int .i64 q] 28)).trans (hb1.mono (by simp)))
    have k2 := k1.alloc (by omega) (.cells #[.int .i64 n, .int .i64 b, .bool false] 33)
    have k3 := k2.trans (hb2.mono (by first | omega | (simp; omega)))
    have k4 := k3.trans (hb3.mono (by first | omega | (simp; omega)))
    exact k4.alloc (by have := hb3.size; (try simp at this); omega) _
  clear hc1 hf1 hc3 hf3
  intro W ⟨hbW, hzW, d0, d1, d2⟩
  have c2 := fun s : Later W => s.cell d2
  have c0 := fun s : Later W => s.cell d0
  have c1 := fun s : Later W => s.cell d1
  refine wp_region_later (by kernel_rfl) (by kernel_rfl) ?_
  repeat (go_big_quiet_step ((first | (go_at_call 13; exact later_same (HR.out _)) | (go_at_call 14; exact later_same (HT.out _)) | (go_at_call 15; exact later_same (HY.out _)) | (go_at_call 11; exact later_of (as_yes x y H2.out _)))))
  refine wpQuiet_nil ?_
  rintro W5 ⟨⟨W5', hb5⟩, rfl⟩
  try dsimp only
  clear c0 c1 c2 d0 d1 d2
  go_wp2_with fail
  refine (rof_no 1 b H3.out _).mono ?_; rintro e w6 ⟨rfl, hb6⟩
  have hb7 := (hbW.trans (hb5.mono hbW.size)).trans (hb6.mono (by have := hbW.size; have := hb5.size; omega))
  clear hb6 hb5 hbW
  go_wp2_with fail
  refine (one_no b H3.out _).mono ?_; rintro e w' ⟨rfl, rfl⟩
  go_wp2_with fail
  refine (live_any _).mono ?_; rintro e w8 ⟨rfl, hb8⟩
  go_wp2
  go_ret
  exact ⟨rfl, (hb7.alloc hb7.size _).trans (hb8.mono (by simp; have := hb7.size; omega))⟩

set_option maxHeartbeats 1600000 in
theorem tells_011 (n b p q x y : Int) (h1 : rt n b = false) (h2 : rt x y = true) (h3 : rt 1 b = true) (bx : x.natAbs < 2 ^ 53) (by_ : y.natAbs < 2 ^ 53)
    (hm : ∀ w, Calls Try.prog 12 #[.agg #[.int .i64 p, .int .i64 q]] w fun e w' => e = .returned (.tuple #[.complex .f64 (fI x) (fI y), .agg #[.int .i64 x, .int .i64 y, .bool false]]) ∧ Below w.heap.size w w') (w : World) :
    Calls Try.prog 4 #[.int .i64 n, .int .i64 b, .agg #[.int .i64 p, .int .i64 q]] w fun e w' => e = .returned (.bool true) ∧ Below w.heap.size w w' := by
  have H1 := hid h1; clear h1
  have hr := right_any x y bx by_
  have ht := things_any x y bx by_
  have hy := bytes_any x y bx by_
  simp only [h2, Bool.false_eq_true, if_true, if_false] at hr ht hy
  have HR := hid hr; clear hr
  have HT := hid ht; clear ht
  have HY := hid hy; clear hy
  have H2 := hid h2; clear h2
  have H3 := hid h3; clear h3
  have HM := hid hm; clear hm
  have hzz := zz
  go_enter Try.func4, Try.ntmps4
  go_wp2_with fail
  refine (of_no n b H1.out _).mono ?_; rintro e w' ⟨rfl, rfl⟩
  go_wp2_with fail
  refine (rof_no n b H1.out _).mono ?_; rintro e w1 ⟨rfl, hb1⟩
  obtain ⟨hc1, hf1⟩ := bcell hb1
  have hz1 : w.heap.size < w1.heap.size := by have := hb1.size; simp at this; omega
  go_wp2_with fail
  refine (HM.out _).mono ?_; rintro e w3 ⟨rfl, hb3⟩
  obtain ⟨hc3, hf3⟩ := bcell hb3
  go_wp2_with fail
  refine wp_world (fun W => Below w.heap.size w W ∧ w3.heap.size < W.heap.size ∧ W.cell? ⟨w3.heap.size, 0, none⟩ = some (.int .i64 x) ∧ W.cell? ⟨w3.heap.size, 1, none⟩ = some (.int .i64 y) ∧ W.cell? ⟨w3.heap.size, 2, none⟩ = some (.bool false)) ⟨?_, by simp, by go_simp, by go_simp, by go_simp⟩ ?_
  · have k1 := (((Below.refl w.heap.size w).alloc (Nat.le_refl _) (.cells #[.int .i64 p, .int .i64 q] 28)).trans (hb1.mono (by simp)))
    have k2 := k1.alloc (by omega) (.cells #[.int .i64 0, .int .i64 0, .bool true] 33)
    have k3 := k2
    have k4 := k3.trans (hb3.mono (by first | omega | (simp; omega)))
    exact k4.alloc (by have := hb3.size; (try simp at this); omega) _
  clear hc1 hf1 hc3 hf3
  intro W ⟨hbW, hzW, d0, d1, d2⟩
  have c2 := fun s : Later W => s.cell d2
  have c0 := fun s : Later W => s.cell d0
  have c1 := fun s : Later W => s.cell d1
  refine wp_region_later (by kernel_rfl) (by kernel_rfl) ?_
  repeat (go_big_quiet_step ((first | (go_at_call 13; exact later_same (HR.out _)) | (go_at_call 14; exact later_same (HT.out _)) | (go_at_call 15; exact later_same (HY.out _)) | (go_at_call 11; exact later_of (as_yes x y H2.out _)))))
  refine wpQuiet_nil ?_
  rintro W5 ⟨⟨W5', hb5⟩, rfl⟩
  try dsimp only
  clear c0 c1 c2 d0 d1 d2
  go_wp2_with fail
  refine (rof_yes 1 b H3.out _).mono ?_; rintro e w6 ⟨rfl, hb6⟩
  have hb7 := (hbW.trans (hb5.mono hbW.size)).trans (hb6.mono (by have := hbW.size; have := hb5.size; omega))
  clear hb6 hb5 hbW
  go_wp2_with fail
  refine wp_world (fun W => Below w.heap.size w W ∧ W.cell? ⟨w6.heap.size, 0, none⟩ = some (.int .i64 1) ∧ W.cell? ⟨w6.heap.size, 1, none⟩ = some (.int .i64 b) ∧ W.cell? ⟨w6.heap.size, 2, none⟩ = some (.bool false)) ⟨hb7.alloc hb7.size _, by go_simp, by go_simp, by go_simp⟩ ?_
  intro W ⟨hbW, d0, d1, d2⟩
  have c2 := fun s : Later W => s.cell d2
  have c0 := fun s : Later W => s.cell d0
  have c1 := fun s : Later W => s.cell d1
  refine wp_region_later (by kernel_rfl) (by kernel_rfl) ?_
  repeat (go_big_quiet_step ((first | (go_at_call 16; exact later_same (one_yes b H3.out _)) | (go_at_call 8; exact later_of (live_any _)) | (go_at_call 11; exact later_of (as_yes 1 b H3.out _)))))
  refine wpQuiet_nil ?_
  rintro W9 ⟨⟨W9', hb9⟩, rfl⟩
  try dsimp only
  go_wp2
  go_ret
  exact ⟨rfl, hbW.trans (hb9.mono hbW.size)⟩

set_option maxHeartbeats 1600000 in
theorem tells_010 (n b p q x y : Int) (h1 : rt n b = false) (h2 : rt x y = true) (h3 : rt 1 b = false) (bx : x.natAbs < 2 ^ 53) (by_ : y.natAbs < 2 ^ 53)
    (hm : ∀ w, Calls Try.prog 12 #[.agg #[.int .i64 p, .int .i64 q]] w fun e w' => e = .returned (.tuple #[.complex .f64 (fI x) (fI y), .agg #[.int .i64 x, .int .i64 y, .bool false]]) ∧ Below w.heap.size w w') (w : World) :
    Calls Try.prog 4 #[.int .i64 n, .int .i64 b, .agg #[.int .i64 p, .int .i64 q]] w fun e w' => e = .returned (.bool true) ∧ Below w.heap.size w w' := by
  have H1 := hid h1; clear h1
  have hr := right_any x y bx by_
  have ht := things_any x y bx by_
  have hy := bytes_any x y bx by_
  simp only [h2, Bool.false_eq_true, if_true, if_false] at hr ht hy
  have HR := hid hr; clear hr
  have HT := hid ht; clear ht
  have HY := hid hy; clear hy
  have H2 := hid h2; clear h2
  have H3 := hid h3; clear h3
  have HM := hid hm; clear hm
  have hzz := zz
  go_enter Try.func4, Try.ntmps4
  go_wp2_with fail
  refine (of_no n b H1.out _).mono ?_; rintro e w' ⟨rfl, rfl⟩
  go_wp2_with fail
  refine (rof_no n b H1.out _).mono ?_; rintro e w1 ⟨rfl, hb1⟩
  obtain ⟨hc1, hf1⟩ := bcell hb1
  have hz1 : w.heap.size < w1.heap.size := by have := hb1.size; simp at this; omega
  go_wp2_with fail
  refine (HM.out _).mono ?_; rintro e w3 ⟨rfl, hb3⟩
  obtain ⟨hc3, hf3⟩ := bcell hb3
  go_wp2_with fail
  refine wp_world (fun W => Below w.heap.size w W ∧ w3.heap.size < W.heap.size ∧ W.cell? ⟨w3.heap.size, 0, none⟩ = some (.int .i64 x) ∧ W.cell? ⟨w3.heap.size, 1, none⟩ = some (.int .i64 y) ∧ W.cell? ⟨w3.heap.size, 2, none⟩ = some (.bool false)) ⟨?_, by simp, by go_simp, by go_simp, by go_simp⟩ ?_
  · have k1 := (((Below.refl w.heap.size w).alloc (Nat.le_refl _) (.cells #[.int .i64 p, .int .i64 q] 28)).trans (hb1.mono (by simp)))
    have k2 := k1.alloc (by omega) (.cells #[.int .i64 0, .int .i64 0, .bool true] 33)
    have k3 := k2
    have k4 := k3.trans (hb3.mono (by first | omega | (simp; omega)))
    exact k4.alloc (by have := hb3.size; (try simp at this); omega) _
  clear hc1 hf1 hc3 hf3
  intro W ⟨hbW, hzW, d0, d1, d2⟩
  have c2 := fun s : Later W => s.cell d2
  have c0 := fun s : Later W => s.cell d0
  have c1 := fun s : Later W => s.cell d1
  refine wp_region_later (by kernel_rfl) (by kernel_rfl) ?_
  repeat (go_big_quiet_step ((first | (go_at_call 13; exact later_same (HR.out _)) | (go_at_call 14; exact later_same (HT.out _)) | (go_at_call 15; exact later_same (HY.out _)) | (go_at_call 11; exact later_of (as_yes x y H2.out _)))))
  refine wpQuiet_nil ?_
  rintro W5 ⟨⟨W5', hb5⟩, rfl⟩
  try dsimp only
  clear c0 c1 c2 d0 d1 d2
  go_wp2_with fail
  refine (rof_no 1 b H3.out _).mono ?_; rintro e w6 ⟨rfl, hb6⟩
  have hb7 := (hbW.trans (hb5.mono hbW.size)).trans (hb6.mono (by have := hbW.size; have := hb5.size; omega))
  clear hb6 hb5 hbW
  go_wp2_with fail
  refine (one_no b H3.out _).mono ?_; rintro e w' ⟨rfl, rfl⟩
  go_wp2_with fail
  refine (live_any _).mono ?_; rintro e w8 ⟨rfl, hb8⟩
  go_wp2
  go_ret
  exact ⟨rfl, (hb7.alloc hb7.size _).trans (hb8.mono (by simp; have := hb7.size; omega))⟩

set_option maxHeartbeats 1600000 in
theorem tells_001 (n b p q x y : Int) (h1 : rt n b = false) (h2 : rt x y = false) (h3 : rt 1 b = true) (bx : x.natAbs < 2 ^ 53) (by_ : y.natAbs < 2 ^ 53)
    (hm : ∀ w, Calls Try.prog 12 #[.agg #[.int .i64 p, .int .i64 q]] w fun e w' => e = .returned (.tuple #[.complex .f64 (fI x) (fI y), .agg #[.int .i64 0, .int .i64 0, .bool true]]) ∧ Below w.heap.size w w') (w : World) :
    Calls Try.prog 4 #[.int .i64 n, .int .i64 b, .agg #[.int .i64 p, .int .i64 q]] w fun e w' => e = .returned (.bool true) ∧ Below w.heap.size w w' := by
  have H1 := hid h1; clear h1
  have hr := right_any x y bx by_
  have ht := things_any x y bx by_
  have hy := bytes_any x y bx by_
  simp only [h2, Bool.false_eq_true, if_true, if_false] at hr ht hy
  have HR := hid hr; clear hr
  have HT := hid ht; clear ht
  have HY := hid hy; clear hy
  have H2 := hid h2; clear h2
  have H3 := hid h3; clear h3
  have HM := hid hm; clear hm
  have hzz := zz
  go_enter Try.func4, Try.ntmps4
  go_wp2_with fail
  refine (of_no n b H1.out _).mono ?_; rintro e w' ⟨rfl, rfl⟩
  go_wp2_with fail
  refine (rof_no n b H1.out _).mono ?_; rintro e w1 ⟨rfl, hb1⟩
  obtain ⟨hc1, hf1⟩ := bcell hb1
  have hz1 : w.heap.size < w1.heap.size := by have := hb1.size; simp at this; omega
  go_wp2_with fail
  refine (HM.out _).mono ?_; rintro e w3 ⟨rfl, hb3⟩
  obtain ⟨hc3, hf3⟩ := bcell hb3
  go_wp2_with fail
  refine wp_world (fun W => Below w.heap.size w W ∧ w3.heap.size < W.heap.size ∧ W.cell? ⟨w3.heap.size, 0, none⟩ = some (.int .i64 0) ∧ W.cell? ⟨w3.heap.size, 1, none⟩ = some (.int .i64 0) ∧ W.cell? ⟨w3.heap.size, 2, none⟩ = some (.bool true)) ⟨?_, by simp, by go_simp, by go_simp, by go_simp⟩ ?_
  · have k1 := (((Below.refl w.heap.size w).alloc (Nat.le_refl _) (.cells #[.int .i64 p, .int .i64 q] 28)).trans (hb1.mono (by simp)))
    have k2 := k1.alloc (by omega) (.cells #[.int .i64 0, .int .i64 0, .bool true] 33)
    have k3 := k2
    have k4 := k3.trans (hb3.mono (by first | omega | (simp; omega)))
    exact k4.alloc (by have := hb3.size; (try simp at this); omega) _
  clear hc1 hf1 hc3 hf3
  intro W ⟨hbW, hzW, d0, d1, d2⟩
  have c2 := fun s : Later W => s.cell d2
  have c0 := fun s : Later W => s.cell d0
  have c1 := fun s : Later W => s.cell d1
  refine wp_region_later (by kernel_rfl) (by kernel_rfl) ?_
  repeat (go_big_quiet_step ((first | (go_at_call 13; exact later_same (HR.out _)) | (go_at_call 14; exact later_same (HT.out _)) | (go_at_call 15; exact later_same (HY.out _)) | (go_at_call 11; exact later_of (as_yes x y H2.out _)))))
  refine wpQuiet_nil ?_
  rintro W5 ⟨⟨W5', hb5⟩, rfl⟩
  try dsimp only
  clear c0 c1 c2 d0 d1 d2
  go_wp2_with fail
  refine (rof_yes 1 b H3.out _).mono ?_; rintro e w6 ⟨rfl, hb6⟩
  have hb7 := (hbW.trans (hb5.mono hbW.size)).trans (hb6.mono (by have := hbW.size; have := hb5.size; omega))
  clear hb6 hb5 hbW
  go_wp2_with fail
  refine wp_world (fun W => Below w.heap.size w W ∧ W.cell? ⟨w6.heap.size, 0, none⟩ = some (.int .i64 1) ∧ W.cell? ⟨w6.heap.size, 1, none⟩ = some (.int .i64 b) ∧ W.cell? ⟨w6.heap.size, 2, none⟩ = some (.bool false)) ⟨hb7.alloc hb7.size _, by go_simp, by go_simp, by go_simp⟩ ?_
  intro W ⟨hbW, d0, d1, d2⟩
  have c2 := fun s : Later W => s.cell d2
  have c0 := fun s : Later W => s.cell d0
  have c1 := fun s : Later W => s.cell d1
  refine wp_region_later (by kernel_rfl) (by kernel_rfl) ?_
  repeat (go_big_quiet_step ((first | (go_at_call 16; exact later_same (one_yes b H3.out _)) | (go_at_call 8; exact later_of (live_any _)) | (go_at_call 11; exact later_of (as_yes 1 b H3.out _)))))
  refine wpQuiet_nil ?_
  rintro W9 ⟨⟨W9', hb9⟩, rfl⟩
  try dsimp only
  go_wp2
  go_ret
  exact ⟨rfl, hbW.trans (hb9.mono hbW.size)⟩

set_option maxHeartbeats 1600000 in
theorem tells_000 (n b p q x y : Int) (h1 : rt n b = false) (h2 : rt x y = false) (h3 : rt 1 b = false) (bx : x.natAbs < 2 ^ 53) (by_ : y.natAbs < 2 ^ 53)
    (hm : ∀ w, Calls Try.prog 12 #[.agg #[.int .i64 p, .int .i64 q]] w fun e w' => e = .returned (.tuple #[.complex .f64 (fI x) (fI y), .agg #[.int .i64 0, .int .i64 0, .bool true]]) ∧ Below w.heap.size w w') (w : World) :
    Calls Try.prog 4 #[.int .i64 n, .int .i64 b, .agg #[.int .i64 p, .int .i64 q]] w fun e w' => e = .returned (.bool true) ∧ Below w.heap.size w w' := by
  have H1 := hid h1; clear h1
  have hr := right_any x y bx by_
  have ht := things_any x y bx by_
  have hy := bytes_any x y bx by_
  simp only [h2, Bool.false_eq_true, if_true, if_false] at hr ht hy
  have HR := hid hr; clear hr
  have HT := hid ht; clear ht
  have HY := hid hy; clear hy
  have H2 := hid h2; clear h2
  have H3 := hid h3; clear h3
  have HM := hid hm; clear hm
  have hzz := zz
  go_enter Try.func4, Try.ntmps4
  go_wp2_with fail
  refine (of_no n b H1.out _).mono ?_; rintro e w' ⟨rfl, rfl⟩
  go_wp2_with fail
  refine (rof_no n b H1.out _).mono ?_; rintro e w1 ⟨rfl, hb1⟩
  obtain ⟨hc1, hf1⟩ := bcell hb1
  have hz1 : w.heap.size < w1.heap.size := by have := hb1.size; simp at this; omega
  go_wp2_with fail
  refine (HM.out _).mono ?_; rintro e w3 ⟨rfl, hb3⟩
  obtain ⟨hc3, hf3⟩ := bcell hb3
  go_wp2_with fail
  refine wp_world (fun W => Below w.heap.size w W ∧ w3.heap.size < W.heap.size ∧ W.cell? ⟨w3.heap.size, 0, none⟩ = some (.int .i64 0) ∧ W.cell? ⟨w3.heap.size, 1, none⟩ = some (.int .i64 0) ∧ W.cell? ⟨w3.heap.size, 2, none⟩ = some (.bool true)) ⟨?_, by simp, by go_simp, by go_simp, by go_simp⟩ ?_
  · have k1 := (((Below.refl w.heap.size w).alloc (Nat.le_refl _) (.cells #[.int .i64 p, .int .i64 q] 28)).trans (hb1.mono (by simp)))
    have k2 := k1.alloc (by omega) (.cells #[.int .i64 0, .int .i64 0, .bool true] 33)
    have k3 := k2
    have k4 := k3.trans (hb3.mono (by first | omega | (simp; omega)))
    exact k4.alloc (by have := hb3.size; (try simp at this); omega) _
  clear hc1 hf1 hc3 hf3
  intro W ⟨hbW, hzW, d0, d1, d2⟩
  have c2 := fun s : Later W => s.cell d2
  have c0 := fun s : Later W => s.cell d0
  have c1 := fun s : Later W => s.cell d1
  refine wp_region_later (by kernel_rfl) (by kernel_rfl) ?_
  repeat (go_big_quiet_step ((first | (go_at_call 13; exact later_same (HR.out _)) | (go_at_call 14; exact later_same (HT.out _)) | (go_at_call 15; exact later_same (HY.out _)) | (go_at_call 11; exact later_of (as_yes x y H2.out _)))))
  refine wpQuiet_nil ?_
  rintro W5 ⟨⟨W5', hb5⟩, rfl⟩
  try dsimp only
  clear c0 c1 c2 d0 d1 d2
  go_wp2_with fail
  refine (rof_no 1 b H3.out _).mono ?_; rintro e w6 ⟨rfl, hb6⟩
  have hb7 := (hbW.trans (hb5.mono hbW.size)).trans (hb6.mono (by have := hbW.size; have := hb5.size; omega))
  clear hb6 hb5 hbW
  go_wp2_with fail
  refine (one_no b H3.out _).mono ?_; rintro e w' ⟨rfl, rfl⟩
  go_wp2_with fail
  refine (live_any _).mono ?_; rintro e w8 ⟨rfl, hb8⟩
  go_wp2
  go_ret
  exact ⟨rfl, (hb7.alloc hb7.size _).trans (hb8.mono (by simp; have := hb7.size; omega))⟩

theorem tells_any (n b p q : Int) (w : World) :
    Calls Try.prog 4 #[.int .i64 n, .int .i64 b, .agg #[.int .i64 p, .int .i64 q]] w fun e w' => e = .returned (.bool true) ∧ Below w.heap.size w w' := by
  have hm := fun w => lmade_any p q w
  have bx := clampP_bd p
  have by_ := clampP_bd q
  have bx' : (clampP p).natAbs < 2 ^ 53 := by rw [p53]; omega
  have by' : (clampP q).natAbs < 2 ^ 53 := by rw [p53]; omega
  unfold tv at hm
  cases h1 : rt n b <;> cases h2 : rt (clampP p) (clampP q) <;> cases h3 : rt 1 b
  all_goals rw [h2] at hm
  · exact tells_000 n b p q _ _ h1 h2 h3 bx' by' hm w
  · exact tells_001 n b p q _ _ h1 h2 h3 bx' by' hm w
  · exact tells_010 n b p q _ _ h1 h2 h3 bx' by' hm w
  · exact tells_011 n b p q _ _ h1 h2 h3 bx' by' hm w
  · exact tells_100 n b p q _ _ h1 h2 h3 bx' by' hm w
  · exact tells_101 n b p q _ _ h1 h2 h3 bx' by' hm w
  · exact tells_110 n b p q _ _ h1 h2 h3 bx' by' hm w
  · exact tells_111 n b p q _ _ h1 h2 h3 bx' by' hm w

theorem tallyTells_walk {H : Type} (enc : TypeId × Value → H) (W : World) (base : Nat) (v0 v1 v2 : Value) (d0 d1 d2 : DataW H) (p0 p1 p2 : List MemPlace)
    (k0 : DataW.Trod enc Try.prog W 0 (fun _ => true) true 3 v0 d0 p0) (k1 : DataW.Trod enc Try.prog W 0 (fun _ => true) true 3 v1 d1 p1) (k2 : DataW.Trod enc Try.prog W 0 (fun _ => true) true 28 v2 d2 p2)
    (o0 : Value.okWide Try.prog W .any base 3 v0) (o1 : Value.okWide Try.prog W .any base 3 v1) (o2 : Value.okWide Try.prog W .any base 28 v2) :
    Calls Try.prog 4 #[v0, v1, v2] W fun e w' => e = .returned (.bool true) ∧ Below W.heap.size W w' := by
  obtain ⟨n, rfl⟩ := Go.WideShapes.okWide_int Try.underlying3 o0
  obtain ⟨b, rfl⟩ := Go.WideShapes.okWide_int Try.underlying3 o1
  obtain ⟨fuel, hf⟩ := k2
  obtain ⟨cs, rfl, hsz⟩ := okWide_array Try.underlying28 o2
  obtain ⟨y, h1, h2, h3⟩ := opens_array (A := rInt .i64) (sz := 1) Try.underlying28 (by kernel_rfl) (by kernel_rfl) (opens_int Try.underlying3) enc W fuel _ _ hf
  match y, h2 with
  | [p, q], _ =>
    obtain ⟨e0, wa⟩ := h3 0 p rfl
    obtain ⟨e1, wb⟩ := h3 1 q rfl
    obtain ⟨c0, c1, rfl⟩ := Joins.array2 (cs := cs) (by simpa [Value.cells] using h1)
    simp [Value.cells] at e0 e1
    subst e0 e1
    exact tells_any n b p q W
end Go.Proofs.Ytkhopikmejnfeaa
