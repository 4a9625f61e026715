/- Whether a payload's block is compressed. -/
import Derived.Test.YtgcdbnbdbjaijaaBlA
namespace Go.Proofs.Ytgcdbnbdbjaijaa
open Go.RowKit Go.Bs Go.Maps
set_option linter.unusedVariables false
set_option linter.unusedSimpArgs false

/-- A text, pressed. -/
def pressB (p : List UInt8) : List UInt8 := tokensB (toksR p)
def packR (p : List UInt8) : Bool := decide ((blobB (pressB p)).length < p.length)
def blockB (p : List UInt8) : List UInt8 := varB p.length ++ (if packR p then 1 :: blobB (pressB p) else 0 :: p)
theorem pressB_small {b : List UInt8} (hb : b.length ≤ 1048576) : (pressB b).length ≤ 10000000000000 := by
  have hL : ∀ t ∈ toksR b, t.lit.length ≤ 1048576 := fun t ht => by
    rcases right_forms (toks_right hb t ht) with ⟨D, rfl, h1, h2⟩ | ⟨o, m, rfl, _⟩
    · exact h2
    · simp
  have h1 := tokensB_len (toksR b)
  have h2 := roomT_le (toksR b) hL (toksR b).length (Nat.le_refl _)
  rw [List.take_length] at h2
  have h3 := toks_len b b.length 0 0
  unfold pressB
  unfold toksR at *
  omega

set_option maxRecDepth 100000 in
theorem ref16_packed (w : World) (p : List UInt8) (a : Option Addr) (n c : Nat) (hl : rBytes.r (· < w.heap.size) w [.slice a n c] p) (hlen : p.length ≤ 1048576) :
    Calls Try.prog 31 #[.slice a n c] w fun r w' => r = .returned (.bool (packR p)) ∧ Below w.heap.size w w' := by
  obtain ⟨rfl, hm, _, _⟩ := sl_len hl
  have HT := hid (ref15_bytes w p a _ c hl hlen)
  have hsm := pressB_small hlen
  have hpk : Hid (packR p = decide ((blobB (pressB p)).length < p.length)) := hid rfl
  have hpI : Hid (decide (((blobB (pressB p)).length : Int) < (p.length : Int)) = packR p) := hid (by rw [hpk.out]; by_cases h : (blobB (pressB p)).length < p.length <;> simp [h])
  clear hl
  rw [show tokensB (toksR p) = pressB p from rfl] at HT
  generalize pressB p = E at *
  generalize packR p = R at *
  have HB := hid (fun (W : World) (a1 : Option Addr) (c1 : Nat) (h : rBytes.r (· < W.heap.size) W [.slice a1 E.length c1] E) => ref06_own W E a1 _ c1 h hsm)
  generalize blobB E = G at *
  clear hpk
  go_enter Try.func31, Try.ntmps31
  go_wp2_with fail
  refine HT.out.mono ?_
  rintro r w1 ⟨v, rfl, hr, hb1⟩
  obtain ⟨a1, c1, hv, hr2, _⟩ := sl_form hr
  simp only [List.cons.injEq, and_true] at hv
  subst hv
  have HR := hid (rBytes.mono hr2 (S' := (· < w1.heap.size)) fun q hq => hq.2)
  clear hr hr2
  go_wp2_with fail
  refine (HB.out _ a1 c1 HR.out).mono ?_
  rintro r w2 ⟨v2, rfl, ho, hb2⟩
  obtain ⟨a2, c2, rfl⟩ := own_form ho
  have hbe := below_then hb2 hb1
  clear ho
  have hpI' := hpI.out
  clear hpI
  cases R
  · have d1 : decide ((G.length : Int) < (p.length : Int)) = false := hpI'
    have d1' : decide (G.length < p.length) = false := by simp at d1; simp; omega
    clear hpI'
    go_wp2
    go_ret
    exact ⟨rfl, hbe⟩
  · have d1 : decide ((G.length : Int) < (p.length : Int)) = true := hpI'
    have d1' : decide (G.length < p.length) = true := by simp at d1; simp; omega
    clear hpI'
    go_wp2
    go_ret
    exact ⟨rfl, hbe⟩

set_option maxRecDepth 100000 in
theorem block_packed (w : World) (p : List UInt8) (a : Option Addr) (n c : Nat) (hl : rBytes.r (· < w.heap.size) w [.slice a n c] p) (hlen : p.length ≤ 1048576) :
    Calls Try.prog 66 #[.slice a n c] w fun r w' => ∃ v, r = .returned (.tuple #[v, .bool (packR p)]) ∧ (packR p = true → rBytes.r (fun q => w.heap.size ≤ q ∧ q < w'.heap.size) w' [v] (pressB p)) ∧ (packR p = false → v = .slice none 0 0) ∧ Below w.heap.size w w' := by
  obtain ⟨rfl, hm, _, _⟩ := sl_len hl
  have HT := hid (press_bytes w p a _ c hl hlen)
  have hsm := pressB_small hlen
  have hbl := blobB_len (pressB p)
  have hpk : Hid (packR p = decide ((blobB (pressB p)).length < p.length)) := hid rfl
  clear hl
  rw [show tokensB (toksR p) = pressB p from rfl] at HT
  generalize pressB p = E at *
  rw [hbl] at hpk
  generalize packR p = R at *
  have HS := hid (fun (W : World) => blob_size E.length (by omega) W)
  have hvl := varB_len E.length
  clear hbl
  generalize (varB E.length).length = k at *
  go_enter Try.func66, Try.ntmps66
  go_wp2_with fail
  refine HT.out.mono ?_
  rintro r w1 ⟨v, rfl, hr, hb1⟩
  obtain ⟨a1, c1, hv, hr2, _⟩ := sl_form hr
  simp only [List.cons.injEq, and_true] at hv
  subst hv
  have HR := hid hr2
  have hs1 := hb1.size
  clear hr hr2
  go_wp2_with fail
  refine (HS.out _).mono ?_
  rintro r w2 ⟨rfl, hb2⟩
  have hbe := below_then hb2 hb1
  have hs2 := hb2.size
  have HR2 := hid (rBytes.mono (S' := fun q => w.heap.size ≤ q ∧ q < w2.heap.size) (rBytes.keep HR.out fun q hq => hb2.block q hq.2) fun q hq => ⟨hq.1, by omega⟩)
  have hpk' := hpk.out
  clear hpk
  cases R
  · have hle : ¬ k + E.length < p.length := of_decide_eq_false hpk'.symm
    have d1 : decide ((p.length : Int) ≤ (k : Int) + (E.length : Int)) = true := decide_eq_true (by omega)
    have d1' : decide ((p.length : Int) ≤ ((k + E.length : Nat) : Int)) = true := decide_eq_true (by omega)
    have d1'' : decide (p.length ≤ k + E.length) = true := decide_eq_true (by omega)
    clear hpk' hle
    go_wp2
    go_ret2
    exact ⟨_, rfl, rfl, hbe⟩
  · have hle : k + E.length < p.length := of_decide_eq_true hpk'.symm
    have d1 : decide ((p.length : Int) ≤ (k : Int) + (E.length : Int)) = false := decide_eq_false (by omega)
    have d1' : decide ((p.length : Int) ≤ ((k + E.length : Nat) : Int)) = false := decide_eq_false (by omega)
    have d1'' : decide (p.length ≤ k + E.length) = false := decide_eq_false (by omega)
    clear hpk' hle
    go_wp2
    go_ret2
    exact ⟨_, rfl, HR2.out, hbe⟩

set_option maxRecDepth 100000 in
theorem block_way (w : World) (p : List UInt8) (a : Option Addr) (n c : Nat) (hl : rBytes.r (· < w.heap.size) w [.slice a n c] p) (hlen : p.length ≤ 1048576) :
    Calls Try.prog 33 #[.slice a n c] w fun r w' => r = .returned (.int .i64 (if packR p then 1 else 0)) ∧ Below w.heap.size w w' := by
  have HP := hid (block_packed w p a n c hl hlen)
  clear hl
  generalize packR p = R at *
  cases R
  all_goals
    go_enter Try.func33, Try.ntmps33
    go_wp2_with fail
    refine HP.out.mono ?_
    rintro r w1 ⟨v, rfl, h1, h2, hb1⟩
    clear h1 h2
    go_wp2
    go_ret
    exact ⟨rfl, hb1⟩
end Go.Proofs.Ytgcdbnbdbjaijaa
