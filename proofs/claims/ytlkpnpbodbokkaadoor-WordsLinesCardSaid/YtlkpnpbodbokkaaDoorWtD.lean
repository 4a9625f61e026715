/- The document's bytes in hex (written by gen_wtd.py). -/
import Derived.Test.YtlkpnpbodbokkaaDoorProg
import Derived.WalkKit
import Derived.Deep.Cut
import Derived.BigQuiet
import Derived.Laws.Concat
import Derived.Test.YtlkpnpbodbokkaaDoorBase
import Derived.Test.YtlkpnpbodbokkaaDoorWpB
namespace Go.Proofs.YtlkpnpbodbokkaaDoor
open Go.RowKit Go.Bs
set_option linter.unusedVariables false
set_option linter.unusedSimpArgs false

theorem hex_cut (W : World) : ∀ h : Nat, h < 16 → (Instr.slice 9 (.string ⟨#[48, 49, 50, 51, 52, 53, 54, 55, 56, 57, 97, 98, 99, 100, 101, 102]⟩) (some (.int .i64 (h : Int))) (some (.int .i64 ((h : Int) + 1))) none).run Tryd.prog W = .ok (.string ⟨#[hexL.getD h 0]⟩) W
  | 0, _ => by kernel_rfl
  | 1, _ => by kernel_rfl
  | 2, _ => by kernel_rfl
  | 3, _ => by kernel_rfl
  | 4, _ => by kernel_rfl
  | 5, _ => by kernel_rfl
  | 6, _ => by kernel_rfl
  | 7, _ => by kernel_rfl
  | 8, _ => by kernel_rfl
  | 9, _ => by kernel_rfl
  | 10, _ => by kernel_rfl
  | 11, _ => by kernel_rfl
  | 12, _ => by kernel_rfl
  | 13, _ => by kernel_rfl
  | 14, _ => by kernel_rfl
  | 15, _ => by kernel_rfl
  | n + 16, h => absurd h (by omega)

set_option maxRecDepth 100000 in
set_option maxHeartbeats 3200000 in
theorem ref10_hex (l : List UInt8) (hn : l.length ≤ 100000) (b o c : Nat) (w : World) (hc : ∀ i : Nat, i < l.length → w.cell? ⟨b, o + i, none⟩ = some (.int .u8 (((l.getD i 0).toNat : Nat) : Int))) (hnl : 0 < l.length) :
    Calls Tryd.prog 22 #[.slice (some ⟨b, o, none⟩) l.length c] w fun r w' => r = .returned (.string ⟨(hexW l).toArray⟩) ∧ Below w.heap.size w w' := by
  have HC := hid hc
  have HL := hid (hx_len l)
  have HX := hid hex_cut
  have HE : Hid (hxTo l l.length = hexW l) := hid (by unfold hexW; rw [if_neg (by intro e; subst e; simp at hnl)])
  clear hc
  go_enter Tryd.func22, Tryd.ntmps22
  go_wp2_with fail
  go_loopw [3, 4] (fun s i wr => ∃ k : Nat, k ≤ l.length ∧ i = .int .i64 k ∧ s = .string ⟨(hxTo l k).toArray⟩ ∧ Below w.heap.size w wr) (fun _ i _ => l.length - (intOf i).toNat)
  case atStart => exact ⟨0, by omega, rfl, rfl, Below.refl _ _⟩
  case round =>
    obtain ⟨k, hk, rfl, rfl, hb⟩ := hrel
    by_cases hlt : k < l.length
    · have i1 : (k : Int) < (l.length : Int) := by omega
      have hx := HC.out k hlt
      have hx' := (hb.cell (p := ⟨b, o + k, none⟩) (World.block_lt_of_cell? _ _ hx)).trans hx
      have hst : Hid (hxTo l (k + 1) = hxTo l k ++ [hexL.getD ((l.getD k 0).toNat / 16) 0] ++ [hexL.getD ((l.getD k 0).toNat % 16) 0]) := hid rfl
      have h1 := HL.out k
      have hx3 : (l.getD k 0).toNat < 256 := (l.getD k 0).toNat_lt
      clear hx
      generalize hxTo l k = S at *
      generalize (l.getD k 0).toNat = x at *
      have cu := fun W => HX.out W (x / 16) (by omega)
      have cv := fun W => HX.out W (x % 16) (by omega)
      have ex : ((x / 16 : Nat) : Int) = (x : Int) / 16 := by omega
      have ey : ((x % 16 : Nat) : Int) = (x : Int) % 16 := by omega
      rw [ex] at cu
      rw [ey] at cv
      clear ex ey
      generalize hexL.getD (x / 16) 0 = u at *
      generalize hexL.getD (x % 16) 0 = v at *
      have ca : ∀ W : World, (Op.stringOp BinOp.add ⟨S.toArray⟩ ⟨#[u]⟩).run Tryd.prog W = .ok (.string ⟨(S ++ [u]).toArray⟩) W := fun W => by
        rw [run_string_add_sum _ _ _ (by simp [ByteArray.size]; omega)]; simp [ByteArray.mk_append_mk]
      have cb : ∀ W : World, (Op.stringOp BinOp.add ⟨(S ++ [u]).toArray⟩ ⟨#[v]⟩).run Tryd.prog W = .ok (.string ⟨(S ++ [u] ++ [v]).toArray⟩) W := fun W => by
        rw [run_string_add_sum _ _ _ (by simp [ByteArray.size]; omega)]; simp [ByteArray.mk_append_mk]
      clear h1
      generalize S ++ [u] ++ [v] = S2 at *
      generalize S ++ [u] = S1 at *
      have X0 := fun z : Later wr => z.cell hx'
      go_wp2_with fail
      refine wp_region_later (by kernel_rfl) (by kernel_rfl) ?_
      repeat (go_big_quiet_step (fail))
      refine wpQuiet_nil ?_
      rintro W5 ⟨⟨W5', hb5⟩, rfl⟩
      go_wp2_with fail
      refine wp_region_later (by kernel_rfl) (by kernel_rfl) ?_
      repeat (go_big_quiet_step (fail))
      refine wpQuiet_nil ?_
      rintro W6 ⟨⟨W6', hb6⟩, rfl⟩
      have HB := hid ((hb.trans (hb5.mono hb.size)).trans (hb6.mono (hb.trans (hb5.mono hb.size)).size))
      go_wp2_with fail
      go_roundw
      case rel => exact ⟨k + 1, by omega, by go_num, (by rw [hst.out]), HB.out⟩
      case measure => simp [intOf]; omega
    · obtain rfl : k = l.length := by omega
      have he : (hxTo l l.length).isEmpty = false := List.isEmpty_eq_false_iff.2 (by intro e; have := congrArg List.length e; rw [hx_len] at this; simp only [List.length_nil] at this; omega)
      rw [HE.out] at he
      generalize hJ : hxTo l l.length = J at *
      have HJ := hid HE.out
      rw [← HE.out] at he
      clear HL hJ
      go_wp2_with fail
      go_ret
      exact ⟨by rw [← HE.out]; rfl, hb⟩

set_option maxRecDepth 100000 in
theorem ref10_hex0 (a : Option Addr) (c : Nat) (w : World) : Calls Tryd.prog 22 #[.slice a 0 c] w fun r w' => r = .returned (.string ⟨(hexW []).toArray⟩) ∧ Below w.heap.size w w' := by
  go_enter Tryd.func22, Tryd.ntmps22
  go_wp2_with fail
  go_loopw [3, 4] (fun s i wr => s = .string ⟨#[]⟩ ∧ i = .int .i64 0 ∧ wr = w) (fun _ i _ => 0)
  case atStart => exact ⟨rfl, rfl, rfl⟩
  case round =>
    obtain ⟨rfl, rfl, rfl⟩ := hrel
    go_wp2_with fail
    go_ret
    exact ⟨rfl, Below.refl _ _⟩
end Go.Proofs.YtlkpnpbodbokkaaDoor
