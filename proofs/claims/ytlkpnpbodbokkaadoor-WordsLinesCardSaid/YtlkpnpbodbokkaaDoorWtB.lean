/- words.Num (written by gen_wtb.py). -/
import Derived.Test.YtlkpnpbodbokkaaDoorProg
import Derived.WalkKit
import Derived.Deep.Cut
import Derived.Lib.ItoaWalk
import Derived.Lib.ItoaMem
import Derived.Lib.AppendIntMem
import Derived.Laws.Slices
import Derived.Laws.IdiomStrings
import Derived.Test.YtlkpnpbodbokkaaDoorShc
import Derived.Test.YtlkpnpbodbokkaaDoorWtA
namespace Go.Proofs.YtlkpnpbodbokkaaDoor
open Go.RowKit Go.Bs Go.Sort
set_option linter.unusedVariables false
set_option linter.unusedSimpArgs false

set_option maxRecDepth 100000 in
set_option maxHeartbeats 3200000 in
theorem fmt_small (u : Nat) (h : u < 100) (w : World) : Calls Tryd.prog 60 #[.int .u64 (u : Int), .int .i64 10] w fun r w' => r = .returned (.string ⟨(Lib.decDigits u).toArray⟩) ∧ Below w.heap.size w w' := by
  have HS := hid (fun w => Tryd.internal_strconv_small u h w)
  generalize Lib.decDigits u = L at *
  have d2 : decide ((u : Int) < 100) = true := decide_eq_true (by omega)
  go_enter Tryd.func60, Tryd.ntmps60
  go_wp2_with fail
  refine (HS.out _).mono ?_
  rintro r w1 ⟨rfl, rfl⟩
  go_wp2_with fail
  go_ret
  exact ⟨rfl, Below.refl _ _⟩

set_option maxRecDepth 100000 in
set_option maxHeartbeats 3200000 in
theorem fmt_great (u : Nat) (h : 100 ≤ u) (hu : u < 18446744073709551616) (w : World) (ht : Tab w) : Calls Tryd.prog 60 #[.int .u64 (u : Int), .int .i64 10] w fun r w' => r = .returned (.string ⟨(Lib.decDigits u).toArray⟩) ∧ Below w.heap.size w w' := by
  have d2 : decide ((u : Int) < 100) = false := decide_eq_false (by omega)
  have HD := hid (fun w h => Tryd.internal_strconv_numDigits u (by omega) hu w h)
  have hnd20 : Lib.nDigits u ≤ 20 := Lib.nDigits_le20 u hu
  have hal : Tryd.prog.arrayLen 100 = 24 := by kernel_rfl
  have hsl : ∀ W, (Instr.sliceAt 100 (.pointer (some ⟨w.heap.size, 0, none⟩)) none (some (.int .i64 (Lib.nDigits u : Int))) none).run Tryd.prog W = .ok (.slice (some ⟨w.heap.size, 0, none⟩) (Lib.nDigits u) 24) W := fun W => by
    rw [run_sliceAt_array_h W 100 ⟨w.heap.size, 0, none⟩ (by simp [Program.arrayLen, Program.elem, Tryd.underlying100]) .i64 (Lib.nDigits u : Int) (by omega) (by rw [hal]; omega)]
    go_simp
  have hH0 := Lib.holds_zero0 w 100 (Lib.nDigits u) (by omega)
  have hfmt := Tryd.internal_strconv_formatBase10 w.heap.size 0 24 u (Array.replicate (Lib.nDigits u) 0) (w.alloc (.cells Lib.zeros24 100)) hH0 (by rw [Array.size_replicate]; exact Lib.lt_pow_nDigits u) hu (by rw [Array.size_replicate]; omega)
  rw [Array.size_replicate] at hfmt
  have HH0 := hid hH0
  have HFM := hid hfmt
  have HT := hid (ht.below ((Below.refl w.heap.size w).alloc (Nat.le_refl _) (.cells Lib.zeros24 100)))
  clear hH0 hal hfmt ht
  go_enter Tryd.func60, Tryd.ntmps60
  go_wp2_with fail
  refine (HD.out _ HT.out).mono ?_
  rintro r w1 ⟨rfl, rfl⟩
  go_wp2_with fail
  refine HFM.out.mono ?_
  rintro e w' ⟨rfl, k, v', dk, rfl, hF⟩
  have hcv : (convert 37 9 (.slice (some ⟨w.heap.size, 0, none⟩) (Lib.nDigits u) 24)).run Tryd.prog ((putRow (fun (b : UInt8) => Value.int .u8 (b.toNat : Int)) (w.alloc (.cells Lib.zeros24 100)) w.heap.size 0 dk).drewN k) = .ok (.string ⟨(Lib.decDigits u).toArray⟩) ((putRow (fun (b : UInt8) => Value.int .u8 (b.toNat : Int)) (w.alloc (.cells Lib.zeros24 100)) w.heap.size 0 dk).drewN k) := by
    have h := run_convert_bytes_back (P := Tryd.prog) ((putRow (fun (b : UInt8) => Value.int .u8 (b.toNat : Int)) (w.alloc (.cells Lib.zeros24 100)) w.heap.size 0 dk).drewN k) 37 9 5 ⟨w.heap.size, 0, none⟩ 24 (Lib.decDigits u) Tryd.underlying37 Tryd.underlying5 Tryd.underlying9 (fun j hj => by
      rw [Lib.row_is_numeral hF j hj, Lib.add_plain, World.cell?_drewN]
      exact cell?_putRow (fun (b : UInt8) => Value.int .u8 (b.toNat : Int)) _ w.heap.size 0 _ dk HH0.out (by rw [hF.size, Array.size_replicate]) j (by rw [hF.size]; rw [Lib.decDigits_length] at hj; exact hj))
    rw [Lib.decDigits_length] at h
    exact h
  have HB : Hid (Below w.heap.size w ((putRow (fun (b : UInt8) => Value.int .u8 (b.toNat : Int)) (w.alloc (.cells Lib.zeros24 100)) w.heap.size 0 dk).drewN k)) := hid (by
    rw [alloc_eq_grow]
    obtain ⟨os', _, e⟩ := putRow_grow_new (fun (b : UInt8) => Value.int .u8 (b.toNat : Int)) w #[.cells Lib.zeros24 100] w.heap.size 0 dk (Nat.le_refl _)
    rw [e]
    exact Lib.below_grow _ w (Nat.le_refl _) k os')
  generalize (putRow (fun (b : UInt8) => Value.int .u8 (b.toNat : Int)) (w.alloc (.cells Lib.zeros24 100)) w.heap.size 0 dk).drewN k = W2 at *
  obtain ⟨L, hL⟩ : ∃ L, Lib.decDigits u = L := ⟨_, rfl⟩
  rw [hL] at hcv
  have HL := hid hL
  clear hF hL
  go_wp2_with fail
  go_ret
  exact ⟨by rw [HL.out]; rfl, HB.out⟩

theorem num_c (u : Nat) (hu : u < 18446744073709551616) (w : World) (ht : Tab w) : Calls Tryd.prog 24 #[.int .u64 (u : Int)] w fun r w' => r = .returned (.string ⟨(Lib.decDigits u).toArray⟩) ∧ Below w.heap.size w w' := by
  have HS : Hid (Calls Tryd.prog 60 #[.int .u64 (u : Int), .int .i64 10] w fun r w' => r = .returned (.string ⟨(Lib.decDigits u).toArray⟩) ∧ Below w.heap.size w w') := hid (by
    by_cases h : u < 100
    · exact fmt_small u h w
    · exact fmt_great u (by omega) hu w ht)
  generalize Lib.decDigits u = L at *
  have HS2 : Hid (Calls Tryd.prog 47 #[.int .u64 (u : Int), .int .i64 10] w fun r w' => r = .returned (.string ⟨L.toArray⟩) ∧ Below w.heap.size w w') := hid (by
    go_enter Tryd.func47, Tryd.ntmps47
    go_wp2_with fail
    refine HS.out.mono ?_
    rintro r w1 ⟨rfl, hb⟩
    go_wp2_with fail
    go_ret
    exact ⟨rfl, hb⟩)
  go_enter Tryd.func24, Tryd.ntmps24
  go_wp2_with fail
  refine HS2.out.mono ?_
  rintro r w1 ⟨rfl, hb⟩
  go_wp2_with fail
  go_ret
  exact ⟨rfl, hb⟩
end Go.Proofs.YtlkpnpbodbokkaaDoor
