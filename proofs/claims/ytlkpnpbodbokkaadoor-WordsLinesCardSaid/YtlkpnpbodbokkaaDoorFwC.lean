/- The texts of faults (written by gen_fwc.py). -/
import Derived.Test.YtlkpnpbodbokkaaDoorProg
import Derived.WalkKit
import Derived.Deep.Cut
import Derived.BigQuiet
import Derived.Lib.AppendIntMem
import Derived.Test.YtlkpnpbodbokkaaDoorSh
import Derived.Test.YtlkpnpbodbokkaaDoorFwB
namespace Go.Bs
open Go.RowKit
set_option linter.unusedVariables false
def textOf (c a : Int) : ByteArray := if c = 0 ∨ wordOf c = ⟨#[]⟩ then wordOf c else wordOf c ++ ⟨#[32]⟩ ++ ⟨(Lib.itoa a).toArray⟩
theorem wordOf_size (c : Int) : (wordOf c).size ≤ 13 := by
  unfold wordOf
  split
  · rename_i h
    have : ∀ k : Fin 21, (wordsL.getD k.val ⟨#[]⟩).size ≤ 13 := by decide
    exact this ⟨c.toNat, by omega⟩
  · decide
end Go.Bs
namespace Go.Proofs.YtlkpnpbodbokkaaDoor
open Go.RowKit Go.Bs
set_option linter.unusedVariables false
set_option linter.unusedSimpArgs false

theorem not_ne (s : ByteArray) (h : ¬ s = ⟨#[]⟩) : s.toList.isEmpty = false := by
  rw [List.isEmpty_eq_false_iff]
  exact fun e => h (str_inj (by rw [e, ByteArray.toList_eq]))

def Tab (w : World) : Prop := Lib.TabIs Tryd.prog w "internal/strconv.uint64pow10" .u64 Lib.pow10Tab
theorem Tab.below {w w' : World} (h : Tab w) (hb : Below w.heap.size w w') : Tab w' := by
  have hs : (Tryd.prog.globalNamed "internal/strconv.uint64pow10").isSome = true := by kernel_rfl
  obtain ⟨g, hg⟩ := Option.isSome_iff_exists.1 hs
  unfold Tab Lib.TabIs World.var? at h ⊢
  rw [hg] at h ⊢
  simp only [Option.bind_some] at h ⊢
  have hlt : g < w.heap.size := by
    rcases Nat.lt_or_ge g w.heap.size with h' | h'
    · exact h'
    · rw [Array.getElem?_eq_none h'] at h; cases h
  rw [hb.block g hlt]
  exact h

theorem fault_good (w : World) (k f : Int) : Calls Tryd.prog 37 #[.agg #[.int .i64 k, .int .i64 f]] w fun r w' => r = .returned (.bool (decide (k = 0))) ∧ Below w.heap.size w w' := by
  go_enter Tryd.func37, Tryd.ntmps37
  go_wp2
  go_ret
  exact ⟨rfl, by (repeat (first | exact Below.refl _ _ | assumption | (refine below_alloc ?_ _) | (refine Below.setCell ?_ (by first | omega | (simp; done) | (simp; omega)) _) | (refine Below.drew ?_) | (refine below_drewN ?_ _) | (refine below_then (by assumption) ?_)))⟩

theorem fault_at (w : World) (k f : Int) (hk : k ≠ 0) : Calls Tryd.prog 40 #[.int .i64 k, .int .i64 f] w fun r w' => r = .returned (.agg #[.int .i64 k, .int .i64 f]) ∧ Below w.heap.size w w' := by
  have d1 : (k == (0 : Int)) = false := by simp [hk]
  go_enter Tryd.func40, Tryd.ntmps40
  go_wp2
  refine bodyPost_ret (v := .agg #[.int .i64 k, .int .i64 f]) (by simp [results, Tryd.results40, go_sem]) rfl ⟨rfl, by (repeat (first | exact Below.refl _ _ | assumption | (refine below_alloc ?_ _) | (refine Below.setCell ?_ (by first | omega | (simp; done) | (simp; omega)) _) | (refine Below.drew ?_) | (refine below_drewN ?_ _) | (refine below_then (by assumption) ?_)))⟩

theorem itoa_c (n : Int) (h0 : -9223372036854775808 ≤ n) (h1 : n ≤ 9223372036854775807) (w : World) (ht : Tab w) : Calls Tryd.prog 38 #[.int .i64 n] w fun r w' => r = .returned (.string ⟨(Lib.itoa n).toArray⟩) ∧ Below w.heap.size w w' := by
  refine (Tryd.strconv_Itoa n h0 h1 w ht).mono ?_
  rintro r w' ⟨rfl, k, os, rfl⟩
  exact ⟨rfl, Lib.below_grow _ w (Nat.le_refl _) k os⟩

set_option maxRecDepth 100000 in
set_option maxHeartbeats 3200000 in
theorem fault_text (c a : Int) (h0 : -9223372036854775808 ≤ a) (h1 : a ≤ 9223372036854775807) (w : World) (ht : Tab w) : Calls Tryd.prog 11 #[.agg #[.int .i64 c, .int .i64 a]] w fun r w' => r = .returned (.string (textOf c a)) ∧ Below w.heap.size w w' := by
  have HW := hid (fun w => fault_word c w)
  have HG := hid (fun w => fault_good w c a)
  have HI := hid (fun w => itoa_c a h0 h1 w)
  have HT := hid ht
  have hsz := wordOf_size c
  have HX : Hid (textOf c a = if c = 0 ∨ wordOf c = ⟨#[]⟩ then wordOf c else wordOf c ++ ⟨#[32]⟩ ++ ⟨(Lib.itoa a).toArray⟩) := hid rfl
  have HL := Lib.itoa_length_le a h0 h1
  generalize textOf c a = X at *
  generalize wordOf c = s at *
  generalize Lib.itoa a = L at *
  by_cases hs : s = ⟨#[]⟩
  · subst hs
    have HX' := hid (HX.out.trans (if_pos (.inr rfl)))
    clear HX hsz
    go_enter Tryd.func11, Tryd.ntmps11
    go_wp2_with fail
    refine (HW.out _).mono ?_
    rintro r w1 ⟨rfl, hb1⟩
    go_wp2_with fail
    go_ret
    exact ⟨by rw [HX'.out]; rfl, by (repeat (first | exact Below.refl _ _ | assumption | (refine below_alloc ?_ _) | (refine Below.setCell ?_ (by first | omega | (simp; done) | (simp; omega)) _) | (refine Below.drew ?_) | (refine below_drewN ?_ _) | (refine below_then (by assumption) ?_)))⟩
  · have hd : s.toList.isEmpty = false := not_ne s hs
    go_enter Tryd.func11, Tryd.ntmps11
    go_wp2_with fail
    refine (HW.out _).mono ?_
    rintro r w1 ⟨rfl, hb1⟩
    have lc0 : w1.cell? ⟨w.heap.size, 0, none⟩ = some (.int .i64 c) := (hb1.cell (by simp)).trans (by simp)
    have lc1 : w1.cell? ⟨w.heap.size, 1, none⟩ = some (.int .i64 a) := (hb1.cell (by simp)).trans (by simp)
    have HB := hid (((Below.refl w.heap.size w).alloc (Nat.le_refl _) (.cells #[.int .i64 c, .int .i64 a] 24)).trans (hb1.mono (by simp)))
    by_cases hc : c = 0
    · have HX' := hid (HX.out.trans (if_pos (.inl hc)))
      have d0 : decide (c = 0) = true := decide_eq_true hc
      clear HX hc
      go_wp2_with fail
      refine (HG.out _).mono ?_
      rintro r w2 ⟨rfl, hb2⟩
      go_wp2_with fail
      go_ret
      exact ⟨by rw [HX'.out]; rfl, HB.out.trans (hb2.mono HB.out.size)⟩
    · have HX' := hid (HX.out.trans (if_neg (by rintro (h | h); exact hc h; exact hs h)))
      have d0 : decide (c = 0) = false := decide_eq_false hc
      clear HX hc
      go_wp2_with fail
      refine (HG.out _).mono ?_
      rintro r w2 ⟨rfl, hb2⟩
      have HB2 := hid (HB.out.trans (hb2.mono HB.out.size))
      have lc2 : w2.cell? ⟨w.heap.size, 1, none⟩ = some (.int .i64 a) := (hb2.cell (World.block_lt_of_cell? _ _ lc1)).trans lc1
      go_wp2_with fail
      refine (HI.out _ (HT.out.below HB2.out)).mono ?_
      rintro r w3 ⟨rfl, hb3⟩
      go_wp2_with fail
      go_ret
      exact ⟨by rw [HX'.out]; rfl, HB2.out.trans (hb3.mono HB2.out.size)⟩
end Go.Proofs.YtlkpnpbodbokkaaDoor
