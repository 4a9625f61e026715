/- PressLongest: for every input the law returns true. -/
import Derived.Test.YtkipiefcnjfdjaaGreatPrN
import Derived.Lib.SlBytesConst
namespace Go.Proofs.YtkipiefcnjfdjaaGreat
open Go.RowKit Go.Bs Go.Maps
set_option linter.unusedVariables false
set_option linter.unusedSimpArgs false

/-- Tokens from place p on, as they must be; f: a run stands right ahead. -/
inductive Good (b : List UInt8) : Bool → Nat → List Tok → Prop where
  | nil {f : Bool} : Good b f b.length []
  | copy {f : Bool} {p o m : Nat} {rest : List Tok} : p < b.length → bestR b p = (o, m) → m ≠ 0 → Good b false (p + m) rest → Good b f p (⟨[], (o : Int), (m : Int)⟩ :: rest)
  | run {p q : Nat} {rest : List Tok} : p < q → q ≤ b.length → (∀ r, p ≤ r → r < q → (bestR b r).2 = 0) → Good b true q rest → Good b false p (⟨(b.drop p).take (q - p), 0, 0⟩ :: rest)
theorem good_lit {b : List UInt8} {i p : Nat} {rest : List Tok} (hip : i ≤ p) (hp : p ≤ b.length) (h : ∀ r, i ≤ r → r < p → (bestR b r).2 = 0) (hg : ∀ f, Good b f p rest) : Good b false i (litT b i p ++ rest) := by
  unfold litT
  by_cases hlt : i < p
  · rw [if_pos hlt]
    exact .run hlt hp h (hg true)
  · obtain rfl : i = p := by omega
    rw [if_neg hlt]
    exact hg false
theorem good_toks (b : List UInt8) : ∀ (f p i : Nat), b.length ≤ p + f → i ≤ p → p ≤ b.length → (∀ r, i ≤ r → r < p → (bestR b r).2 = 0) → Good b false i (toksF b f p i)
  | 0, p, i, h1, h2, h3, h4 => by
    obtain rfl : p = b.length := by omega
    have := good_lit (rest := []) h2 h3 h4 fun f => .nil
    simpa [toksF] using this
  | f + 1, p, i, h1, h2, h3, h4 => by
    simp only [toksF]
    by_cases hp : p < b.length
    · rw [if_pos hp]
      by_cases hm : (bestR b p).2 = 0
      · rw [if_pos hm]
        refine good_toks b f (p + 1) i (by omega) (by omega) (by omega) fun r hr1 hr2 => ?_
        by_cases hrp : r = p
        · rw [hrp]; exact hm
        · exact h4 r hr1 (by omega)
      · rw [if_neg hm]
        have hroom := (bestR_room b p).1
        refine good_lit h2 h3 h4 fun g => .copy hp rfl hm ?_
        exact good_toks b f _ _ (by omega) (Nat.le_refl _) (by omega) fun r h1 h2 => by omega
    · rw [if_neg hp]
      obtain rfl : p = b.length := by omega
      have := good_lit (rest := []) h2 h3 h4 fun f => .nil
      simpa using this
theorem good_toksR (b : List UInt8) : Good b false 0 (toksR b) := good_toks b b.length 0 0 (by omega) (Nat.le_refl _) (Nat.zero_le _) fun r h1 h2 => by omega

def liveB : List UInt8 := [97, 98, 99, 97, 98, 99, 97, 98, 99, 100]
theorem live_toks : toksR liveB = [⟨[97, 98, 99], 0, 0⟩, ⟨[], 3, 6⟩, ⟨[100], 0, 0⟩] := by decide +kernel
def liveVs : Array Value := #[.int .u8 97, .int .u8 98, .int .u8 99, .int .u8 97, .int .u8 98, .int .u8 99, .int .u8 97, .int .u8 98, .int .u8 99, .int .u8 100]
theorem liveVs_is : liveVs = (byteCells liveB).toArray := by rfl
theorem lit_bytes {w : World} {g : Nat} {t : TypeId} {fr : Nat × Nat} {l : List UInt8} {cs : Array Value} (hcs : cs = (byteCells l).toArray) (hl : l.length ≤ 1000000) (hb : w.heap[g]? = some (.cells cs t fr)) : rBytes.r (· < w.heap.size) w [.slice (some ⟨g, 0, none⟩) l.length l.length] l := by
  subst hcs
  refine rSl_mk (xs := l) rfl (Nat.le_refl _) (by simp [maxLen]; omega) (.inr ⟨g, 0, rfl, (Array.getElem?_eq_some_iff.1 hb).1, fun i x hi => ⟨[.int .u8 (x.toNat : Int)], rfl, fun j v hj => ?_, rfl⟩⟩)
  have hj0 : j = 0 := by
    rcases j with _ | j
    · rfl
    · simp at hj
  subst hj0
  simp at hj
  subst hj
  rw [Nat.zero_add, Nat.mul_one, Nat.add_zero]
  simp [World.cell?, hb, byteCells, hi]
end Go.Proofs.YtkipiefcnjfdjaaGreat
