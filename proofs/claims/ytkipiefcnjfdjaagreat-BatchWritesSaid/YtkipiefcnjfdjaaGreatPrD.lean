/- The key of a place: contract. -/
import Derived.Test.YtkipiefcnjfdjaaGreatPrC
namespace Go.Proofs.YtkipiefcnjfdjaaGreat
open Go.RowKit Go.Bs
set_option linter.unusedVariables false
set_option linter.unusedSimpArgs false

theorem bits_or_u32_nat (a b : Nat) (ha : a < 4294967296) (hb : b < 4294967296) : bits .or .u32 (a : Int) (b : Int) = ((a ||| b : Nat) : Int) := by
  have hx : a ||| b < 2 ^ 32 := Nat.or_lt_two_pow (by omega) (by omega)
  have h1 : (BitVec.ofInt 32 (a : Int)).toNat = a := by
    rw [BitVec.ofInt_natCast, BitVec.toNat_ofNat]; exact Nat.mod_eq_of_lt (by omega)
  have h2 : (BitVec.ofInt 32 (b : Int)).toNat = b := by
    rw [BitVec.ofInt_natCast, BitVec.toNat_ofNat]; exact Nat.mod_eq_of_lt (by omega)
  show IntKind.u32.wrap ((BitVec.ofInt 32 (a : Int) ||| BitVec.ofInt 32 (b : Int)).toNat : Int) = _
  rw [BitVec.toNat_or, h1, h2, IntKind.wrap_u32]
  omega
/-- Digits that do not meet are added. -/
theorem or_add (a c k : Nat) (h : a < 2 ^ k) : a ||| (c * 2 ^ k) = a + c * 2 ^ k := by
  rw [Nat.or_comm, ← Nat.shiftLeft_eq, ← Nat.shiftLeft_add_eq_or_of_lt h, Nat.add_comm]
theorem or_u32 (a c k m : Nat) (hm : 2 ^ k = m) (h : a < m) (hc : c * m < 4294967296) (ha : a < 4294967296) : bits .or .u32 (a : Int) ((c : Int) * (m : Int)) = (a : Int) + c * m := by
  have e : ((c : Int) * (m : Int)) = ((c * m : Nat) : Int) := by simp
  rw [e, bits_or_u32_nat a (c * m) ha hc, ← hm, or_add a c k (by rw [hm]; exact h)]
  simp
theorem key_bits (x0 x1 x2 x3 : UInt8) : bits .or .u32 (bits .or .u32 (bits .or .u32 (bits .or .u32 0 ((x0.toNat : Int) % 4294967296)) ((x1.toNat : Int) % 4294967296 * 256 % 4294967296)) ((x2.toNat : Int) % 4294967296 * 65536 % 4294967296)) ((x3.toNat : Int) % 4294967296 * 16777216 % 4294967296) = ((x0.toNat + 256 * x1.toNat + 65536 * x2.toNat + 16777216 * x3.toNat : Nat) : Int) := by
  have h0 := x0.toNat_lt; have h1 := x1.toNat_lt; have h2 := x2.toNat_lt; have h3 := x3.toNat_lt
  have e0 : (x0.toNat : Int) % 4294967296 = ((x0.toNat : Nat) : Int) * ((1 : Nat) : Int) := by omega
  have e1 : (x1.toNat : Int) % 4294967296 * 256 % 4294967296 = (x1.toNat : Int) * ((256 : Nat) : Int) := by omega
  have e2 : (x2.toNat : Int) % 4294967296 * 65536 % 4294967296 = (x2.toNat : Int) * ((65536 : Nat) : Int) := by omega
  have e3 : (x3.toNat : Int) % 4294967296 * 16777216 % 4294967296 = (x3.toNat : Int) * ((16777216 : Nat) : Int) := by omega
  have ez : (0 : Int) = ((0 : Nat) : Int) := rfl
  rw [e0, e1, e2, e3, ez, or_u32 0 x0.toNat 0 1 (by decide) (by omega) (by omega) (by omega)]
  have f0 : ((0 : Nat) : Int) + (x0.toNat : Int) * ((1 : Nat) : Int) = ((x0.toNat : Nat) : Int) := by omega
  rw [f0, or_u32 x0.toNat x1.toNat 8 256 (by decide) (by omega) (by omega) (by omega)]
  have f1 : (x0.toNat : Int) + (x1.toNat : Int) * ((256 : Nat) : Int) = ((x0.toNat + 256 * x1.toNat : Nat) : Int) := by omega
  rw [f1, or_u32 (x0.toNat + 256 * x1.toNat) x2.toNat 16 65536 (by decide) (by omega) (by omega) (by omega)]
  have f2 : ((x0.toNat + 256 * x1.toNat : Nat) : Int) + (x2.toNat : Int) * ((65536 : Nat) : Int) = ((x0.toNat + 256 * x1.toNat + 65536 * x2.toNat : Nat) : Int) := by omega
  rw [f2, or_u32 (x0.toNat + 256 * x1.toNat + 65536 * x2.toNat) x3.toNat 24 16777216 (by decide) (by omega) (by omega) (by omega)]
  omega
/-- What the key is. -/
def keyV (b : List UInt8) (p : Nat) : Int × Bool := match keyAt b p with | some k => (k, true) | none => (0, false)
theorem keyV_some {b : List UInt8} {p : Nat} (hp : p + 4 ≤ b.length) : keyAt b p = some (b[p].toNat + 256 * b[p + 1].toNat + 65536 * b[p + 2].toNat + 16777216 * b[p + 3].toNat) := by
  unfold keyAt
  rw [List.getElem?_eq_getElem (show p < b.length by omega), List.getElem?_eq_getElem (show p + 1 < b.length by omega), List.getElem?_eq_getElem (show p + 2 < b.length by omega), List.getElem?_eq_getElem (show p + 3 < b.length by omega)]
theorem keyV_none {b : List UInt8} {p : Nat} (hp : b.length < p + 4) : keyAt b p = none := by
  unfold keyAt
  rw [List.getElem?_eq_none (show b.length ≤ p + 3 by omega)]
  split <;> simp_all

set_option maxHeartbeats 1600000 in
theorem chain_key1 (b : List UInt8) (p : Nat) (a : Option Addr) (n c : Nat) (w : World) (hl : rBytes.r (· < w.heap.size) w [.slice a n c] b) (hlen : b.length ≤ 1048576) (hp : p + 4 ≤ b.length) :
    Calls Tryz.prog 298 #[.slice a n c, .int .i64 p] w fun r w' => r = .returned (.tuple #[.int .u32 (keyV b p).1, .bool (keyV b p).2]) ∧ w = w' := by
  have hff : Hid (keyV b p = (((b[p].toNat + 256 * b[p + 1].toNat + 65536 * b[p + 2].toNat + 16777216 * b[p + 3].toNat : Nat) : Int), true)) := hid (by unfold keyV; rw [keyV_some hp])
  obtain ⟨rfl, hm, _, _⟩ := sl_len hl
  obtain ⟨g, o, hA, hg, c0⟩ := byte_at hl (i := p) (by omega)
  obtain ⟨g1, o1, hA1, _, c1⟩ := byte_at hl (i := p + 1) (by omega)
  obtain ⟨g2, o2, hA2, _, c2⟩ := byte_at hl (i := p + 2) (by omega)
  obtain ⟨g3, o3, hA3, _, c3⟩ := byte_at hl (i := p + 3) (by omega)
  subst hA
  simp only [Option.some.injEq, Addr.mk.injEq, and_true] at hA1 hA2 hA3
  obtain ⟨rfl, rfl⟩ := hA1
  obtain ⟨rfl, rfl⟩ := hA2
  obtain ⟨rfl, rfl⟩ := hA3
  have HL := hid hl; clear hl
  have d0 : decide ((p : Int) < 0) = false := by simp
  have d1 : decide ((b.length : Int) - 4 < (p : Int)) = false := by simp; omega
  generalize b[p] = x0 at *
  generalize b[p + 1] = x1 at *
  generalize b[p + 2] = x2 at *
  generalize b[p + 3] = x3 at *
  have i0 : (0 : Int) ≤ (p : Int) := by omega
  have i1 : (p : Int) + 3 < (b.length : Int) := by omega
  have i2 : (p : Int) + 2 < (b.length : Int) := by omega
  have i3 : (p : Int) + 1 < (b.length : Int) := by omega
  have i4 : (p : Int) < (b.length : Int) := by omega
  go_enter Tryz.func298, Tryz.ntmps298
  go_wp2_with fail
  refine wp_loop_rounds 5 ?_
  rw [rounds_succ]
  go_wp2_with fail
  rw [rounds_succ]
  go_wp2_with fail
  rw [rounds_succ]
  go_wp2_with fail
  rw [rounds_succ]
  go_wp2_with fail
  rw [rounds_succ]
  go_wp2_with fail
  go_ret2
  exact ⟨by rw [hff.out, ← key_bits]; rfl, rfl⟩
theorem chain_key0 (b : List UInt8) (p : Nat) (a : Option Addr) (n c : Nat) (w : World) (hl : rBytes.r (· < w.heap.size) w [.slice a n c] b) (hlen : b.length ≤ 1048576) (hp : b.length < p + 4) (hp2 : p ≤ 1048576) :
    Calls Tryz.prog 298 #[.slice a n c, .int .i64 p] w fun r w' => r = .returned (.tuple #[.int .u32 (keyV b p).1, .bool (keyV b p).2]) ∧ w = w' := by
  have hff : Hid (keyV b p = (0, false)) := hid (by unfold keyV; rw [keyV_none hp])
  obtain ⟨rfl, hm, _, _⟩ := sl_len hl
  clear hl
  have d0 : decide ((p : Int) < 0) = false := by simp
  have d1 : decide ((b.length : Int) - 4 < (p : Int)) = true := by simp; omega
  go_enter Tryz.func298, Tryz.ntmps298
  go_wp2
  go_ret2
  exact ⟨by rw [hff.out]; rfl, rfl⟩
theorem chain_key (b : List UInt8) (p : Nat) (a : Option Addr) (n c : Nat) (w : World) (hl : rBytes.r (· < w.heap.size) w [.slice a n c] b) (hlen : b.length ≤ 1048576) (hp : p ≤ 1048576) :
    Calls Tryz.prog 298 #[.slice a n c, .int .i64 p] w fun r w' => r = .returned (.tuple #[.int .u32 (keyV b p).1, .bool (keyV b p).2]) ∧ w = w' := by
  by_cases h : p + 4 ≤ b.length
  · exact chain_key1 b p a n c w hl hlen h
  · exact chain_key0 b p a n c w hl hlen (by omega) hp
end Go.Proofs.YtkipiefcnjfdjaaGreat
