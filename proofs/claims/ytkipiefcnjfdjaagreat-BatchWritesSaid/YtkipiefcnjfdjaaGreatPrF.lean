/- The chain: places added up to one; a new chain, a new seeker. -/
import Derived.Test.YtkipiefcnjfdjaaGreatPrE
namespace Go.Proofs.YtkipiefcnjfdjaaGreat
open Go.RowKit Go.Bs Go.Maps
set_option linter.unusedVariables false
set_option linter.unusedSimpArgs false

theorem ChStep.trans {w w1 w2 : World} {g mb base : Nat} {b : List UInt8} {n m k : Nat} {ab : Option Addr} {cb : Nat} {ap a1 : Option Addr} {cp c1 : Nat} (h : Tch (fun q => q = g ∨ q = mb ∨ (Value.slice ap n cp).ownBlock = some q) w w1)
    (ho : (Value.slice a1 m c1).ownBlock = (Value.slice ap n cp).ownBlock ∨ ∃ q, (Value.slice a1 m c1).ownBlock = some q ∧ w.heap.size ≤ q) (k' : ChStep w1 g mb base b m k ab cb a1 c1 w2) : ChStep w g mb base b n k ab cb ap cp w2 := by
  obtain ⟨a2, c2, h1, h2, h3⟩ := k'
  refine ⟨a2, c2, h1, h.trans h2 fun q hq e => ?_, ?_⟩
  · rcases e with e | e | e
    · exact .inl e
    · exact .inr (.inl e)
    · rcases ho with ho | ⟨q', hq', hlt⟩
      · exact .inr (.inr (ho ▸ e))
      · rw [hq'] at e; have := Option.some.inj e; omega
  · rcases h3 with h3 | ⟨q', hq', hlt⟩
    · rcases ho with ho | ⟨q', hq', hlt⟩
      · exact .inl (h3.trans ho)
      · exact .inr ⟨q', h3.trans hq', hlt⟩
    · exact .inr ⟨q', hq', Nat.le_trans h.size hlt⟩
theorem ChStep.refl {w : World} {g mb base : Nat} {b : List UInt8} {n : Nat} {ab : Option Addr} {cb : Nat} {ap : Option Addr} {cp : Nat} (h : ChAt w g mb base b n ab cb ap cp) : ChStep w g mb base b n n ab cb ap cp w := ⟨ap, cp, h, Tch.refl _ _, .inl rfl⟩
def AddToPost (w : World) (g mb base : Nat) (b : List UInt8) (n m : Nat) (ab : Option Addr) (cb : Nat) (ap : Option Addr) (cp : Nat) (r : Ending) (w' : World) : Prop := r = .returned (.int .i64 ((m : Int) - n)) ∧ ChStep w g mb base b n m ab cb ap cp w'

set_option maxRecDepth 100000 in
set_option maxHeartbeats 1600000 in
theorem chain_addTo (w : World) {g mb base : Nat} {b : List UInt8} {n : Nat} {ab : Option Addr} {cb : Nat} {ap : Option Addr} {cp : Nat} (h : ChAt w g mb base b n ab cb ap cp) (m : Nat) (hn : n ≤ m) (hm : m ≤ b.length) :
    Calls Tryz.prog 288 #[.pointer (some ⟨g, 0, none⟩), .int .i64 m] w (AddToPost w g mb base b n m ab cb ap cp) := by
  have hlen := h.len
  have HS := hid (ChStep.refl h)
  clear h
  go_enter Tryz.func288, Tryz.ntmps288
  go_wp2_with fail
  go_loopw [5] (fun i wr => ∃ k : Nat, n + k ≤ m ∧ i = .int .i64 k ∧ Hid (ChStep w g mb base b n (n + k) ab cb ap cp wr)) (fun i _ => m - (intOf i).toNat)
  case atStart => exact ⟨0, hn, rfl, HS⟩
  case round =>
    obtain ⟨k, hk, rfl, hst⟩ := hrel
    clear HS
    obtain ⟨a1, c1, h1, h2, h3⟩ := hst.out
    have HA := hid (chain_added wr h1)
    have HT := hid h2; have HO := hid h3; have H1 := hid h1
    clear h1 h2 h3
    by_cases hlt : n + k < m
    · have hAdd := hid (chain_add wr H1.out (by omega))
      have d1 : decide (((n + k : Nat) : Int) < (m : Int)) = true := by simp; omega
      have d2 : decide ((n : Int) + (k : Int) < (m : Int)) = true := by simp; omega
      have d3 : decide (n + k < m) = true := by simp; omega
      go_wp2_with fail
      refine HA.out.mono ?_
      rintro r w1 ⟨rfl, rfl⟩
      go_wp2_with fail
      refine hAdd.out.mono ?_
      rintro r w1 ⟨rfl, hs1⟩
      have HS1 := hid (ChStep.trans HT.out HO.out hs1)
      clear hs1
      go_wp2
      go_roundw
      case rel => first | exact ⟨k + 1, by omega, by go_num, HS1⟩ | ((repeat apply Exists.intro); refine ⟨?_, ?_⟩; rotate_left; rfl; exact ⟨k + 1, by omega, by go_num, HS1⟩)
      case measure => simp [intOf]; omega
    · obtain rfl : m = n + k := by omega
      have d1 : decide (((n + k : Nat) : Int) < ((n + k : Nat) : Int)) = false := by simp
      have d2 : decide ((n : Int) + (k : Int) < (n : Int) + (k : Int)) = false := by simp
      have hff : Hid (((n + k : Nat) : Int) - (n : Int) = (k : Int)) := hid (by omega)
      go_wp2_with fail
      refine HA.out.mono ?_
      rintro r w1 ⟨rfl, rfl⟩
      go_wp2
      go_ret
      exact ⟨by rw [hff.out]; rfl, hst.out⟩
end Go.Proofs.YtkipiefcnjfdjaaGreat
