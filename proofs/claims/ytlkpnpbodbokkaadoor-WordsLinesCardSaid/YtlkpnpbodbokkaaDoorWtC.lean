/- The document's list in words (written by gen_wtc.py). -/
import Derived.Test.YtlkpnpbodbokkaaDoorProg
import Derived.WalkKit
import Derived.Deep.Cut
import Derived.Test.YtlkpnpbodbokkaaDoorWtA
namespace Go.Bs
open Go.RowKit
/-- Numbers, with commas between. -/
def jnStep (s : List UInt8) (k : Nat) (x : Nat) : List UInt8 := (if 0 < k then s ++ [44] else s) ++ Lib.decDigits x
def jnTo (l : List Nat) : Nat → List UInt8
  | 0 => []
  | k + 1 => jnStep (jnTo l k) k (l.getD k 0)
def listW (l : List Nat) : List UInt8 := if l = [] then [45] else jnTo l l.length
theorem jn_len (l : List Nat) (hl : ∀ i, l.getD i 0 < 18446744073709551616) (k : Nat) : (jnTo l k).length ≤ 21 * k := by
  induction k with
  | zero => simp [jnTo]
  | succ k ih =>
    have := dec_len (l.getD k 0) (hl k)
    simp only [jnTo, jnStep]
    split <;> simp only [List.length_append, List.length_cons, List.length_nil] <;> omega
theorem jn_ne (l : List Nat) (k : Nat) : jnTo l (k + 1) ≠ [] := by
  simp only [jnTo, jnStep]
  intro e
  have h := congrArg List.length e
  rw [List.length_append, Lib.decDigits_length] at h
  have := Lib.nDigits_pos (l.getD k 0)
  simp only [List.length_nil] at h
  omega
end Go.Bs
namespace Go.Proofs.YtlkpnpbodbokkaaDoor
open Go.RowKit Go.Bs
set_option linter.unusedVariables false
set_option linter.unusedSimpArgs false

set_option maxRecDepth 100000 in
set_option maxHeartbeats 3200000 in
theorem ref10_list (l : List Nat) (hl : ∀ i, l.getD i 0 < 18446744073709551616) (hn : l.length ≤ 100000) (b o c : Nat) (w : World) (hc : ∀ i : Nat, i < l.length → w.cell? ⟨b, o + i, none⟩ = some (.int .u64 ((l.getD i 0 : Nat) : Int))) (hnl : 0 < l.length) :
    Calls Tryd.prog 23 #[.slice (some ⟨b, o, none⟩) l.length c] w fun r w' => r = .returned (.string ⟨(listW l).toArray⟩) ∧ Below w.heap.size w w' := by
  have HN := hid (fun k => ref10_num (l.getD k 0) (hl k))
  unfold NumSpec at HN
  have HC := hid hc
  have HL := hid (jn_len l hl)
  have HD := hid (fun k => dec_len (l.getD k 0) (hl k))
  have HE : Hid (jnTo l l.length = listW l) := hid (by unfold listW; rw [if_neg (by intro e; subst e; simp at hnl)])
  have HZ : Hid (jnTo l l.length ≠ []) := hid (by obtain ⟨k, hk⟩ : ∃ k, l.length = k + 1 := ⟨l.length - 1, by omega⟩; rw [hk]; exact jn_ne l k)
  clear hc hl
  go_enter Tryd.func23, Tryd.ntmps23
  go_wp2_with fail
  go_loopw [3, 4] (fun s i wr => ∃ k : Nat, k ≤ l.length ∧ i = .int .i64 k ∧ s = .string ⟨(jnTo l k).toArray⟩ ∧ Below w.heap.size w wr) (fun _ i _ => l.length - (intOf i).toNat)
  case atStart => exact ⟨0, by omega, rfl, rfl, Below.refl _ _⟩
  case round =>
    obtain ⟨k, hk, rfl, rfl, hb⟩ := hrel
    by_cases hlt : k < l.length
    · have i1 : (k : Int) < (l.length : Int) := by omega
      have hx := HC.out k hlt
      have hx' := (hb.cell (p := ⟨b, o + k, none⟩) (World.block_lt_of_cell? _ _ hx)).trans hx
      have hst : Hid (jnTo l (k + 1) = (if 0 < k then jnTo l k ++ [44] else jnTo l k) ++ Lib.decDigits (l.getD k 0)) := hid rfl
      have h1 := HL.out k
      have h2 := HD.out k
      have hq := hid (HN.out k)
      clear hx
      generalize jnTo l k = S at *
      generalize l.getD k 0 = x at *
      generalize Lib.decDigits x = D at *
      by_cases h0 : 0 < k
      · have d0 : decide ((0 : Int) < (k : Int)) = true := decide_eq_true (by omega)
        have hs1 : decide ((9223372036854775807 : Nat) < S.length + 1) = false := decide_eq_false (by omega)
        have hs2 : decide ((9223372036854775807 : Nat) < S.length + 1 + D.length) = false := decide_eq_false (by omega)
        go_wp2_with fail
        refine (hq.out _).mono ?_
        rintro r w1 ⟨rfl, hb1⟩
        go_wp2_with fail
        go_roundw
        case rel => exact ⟨k + 1, by omega, by go_num, (by rw [hst.out]; simp [h0, ByteArray.mk_append_mk]), hb.trans (hb1.mono hb.size)⟩
        case measure => simp [intOf]; omega
      · obtain rfl : k = 0 := by omega
        have hx2 : wr.cell? ⟨b, o, none⟩ = some (.int .u64 (x : Int)) := hx'
        have hs2 : decide ((9223372036854775807 : Nat) < S.length + D.length) = false := decide_eq_false (by omega)
        clear hx'
        go_wp2_with fail
        refine (hq.out _).mono ?_
        rintro r w1 ⟨rfl, hb1⟩
        go_wp2_with fail
        go_roundw
        case rel => exact ⟨0 + 1, by omega, by go_num, (by rw [hst.out]; simp [ByteArray.mk_append_mk]), hb.trans (hb1.mono hb.size)⟩
        case measure => simp [intOf]; omega
    · obtain rfl : k = l.length := by omega
      have he : (jnTo l l.length).isEmpty = false := List.isEmpty_eq_false_iff.2 HZ.out
      rw [HE.out] at he
      generalize hJ : jnTo l l.length = J at *
      have HJ := hid HE.out
      rw [← HE.out] at he
      clear HZ hJ
      go_wp2_with fail
      go_ret
      exact ⟨by rw [← HE.out]; rfl, hb⟩

set_option maxRecDepth 100000 in
theorem ref10_list0 (a : Option Addr) (c : Nat) (w : World) : Calls Tryd.prog 23 #[.slice a 0 c] w fun r w' => r = .returned (.string ⟨(listW []).toArray⟩) ∧ Below w.heap.size w w' := by
  go_enter Tryd.func23, Tryd.ntmps23
  go_wp2_with fail
  go_loopw [3, 4] (fun s i wr => s = .string ⟨#[]⟩ ∧ i = .int .i64 0 ∧ wr = w) (fun _ i _ => 0)
  case atStart => exact ⟨rfl, rfl, rfl⟩
  case round =>
    obtain ⟨rfl, rfl, rfl⟩ := hrel
    go_wp2_with fail
    go_ret
    exact ⟨rfl, Below.refl _ _⟩
end Go.Proofs.YtlkpnpbodbokkaaDoor
