/- A payload's block. -/
import Derived.Test.YtgcdbnbdbjaijaaBlD
namespace Go.Proofs.Ytgcdbnbdbjaijaa
open Go.RowKit Go.Bs Go.Maps
set_option linter.unusedVariables false
set_option linter.unusedSimpArgs false

theorem blockB_len (p : List UInt8) : (blockB p).length ≤ (varB p.length).length + p.length + 1 := by
  unfold blockB
  by_cases h : packR p = true
  · have h2 := h
    unfold packR at h2
    have h3 := of_decide_eq_true h2
    rw [if_pos h]
    simp; omega
  · rw [if_neg h]
    simp; omega

set_option maxRecDepth 100000 in
set_option maxHeartbeats 1600000 in
theorem block_bytes (w : World) (p : List UInt8) (a : Option Addr) (n c : Nat) (hl : rBytes.r (· < w.heap.size) w [.slice a n c] p) (hp : p.length ≤ 1048576) :
    Calls Try.prog 25 #[.slice a n c] w fun r w' => ∃ v, r = .returned (.tuple #[v, .int .i64 0]) ∧ rBytes.r (fun q => w.heap.size ≤ q ∧ q < w'.heap.size) w' [v] (blockB p) ∧ Below w.heap.size w w' := by
  obtain ⟨rfl, hm, _, _⟩ := sl_len hl
  have HS := hid (blob_size p.length (by omega) w)
  have hbl := blockB_len p
  have hvl := varB_len p.length
  have HL := hid hl
  clear hl
  generalize (varB p.length).length = k at *
  have hbK := hid hbl
  clear hbl
  go_enter Try.func25, Try.ntmps25
  go_wp2_with fail
  refine HS.out.mono ?_
  rintro r w1 ⟨rfl, hb1⟩
  have HN := hid (pen_new w1 (k + p.length + 1) (by omega))
  rw [show ((k + p.length + 1 : Nat) : Int) = (k : Int) + (p.length : Int) + 1 by omega] at HN
  have hs1 := hb1.size
  go_wp2_with fail
  refine HN.out.mono ?_
  rintro r w2 ⟨rfl, hp2, hb2⟩
  have hs2 := hb2.size
  have hbw2 := below_then hb2 hb1
  have HQ := hid (block_put w2 hp2 p a _ c (rBytes.mono (rBytes.keep HL.out fun q hq => hbw2.block q hq) fun q hq => ⟨by omega, fun hf => by have := (hp2.own_lt hf).1; omega⟩) hp (by have := hbK.out; simp; omega) (by have := hbK.out; simp; omega))
  have HP2 := hid hp2
  clear hp2
  go_wp2_with fail
  refine HQ.out.mono ?_
  rintro r w3 ⟨rfl, hst⟩
  have hb3 : Below w1.heap.size w2 w3 := HP2.out.below (Nat.le_refl _) (by omega) hst
  obtain ⟨a3, c3, hp3, _, _⟩ := hst
  rw [List.nil_append] at hp3
  have hs3 := hb3.size
  have hbw3 : Below w.heap.size w w3 := hbw2.trans (hb3.mono (by omega))
  have HB := hid (pen_bytes w3 hp3)
  clear hp3
  go_wp2_with fail
  refine HB.out.mono ?_
  rintro r w4 ⟨v, rfl, hv, hb4⟩
  have hbe := below_then hb4 hbw3
  have HV := hid (rBytes.mono (S' := fun q => w.heap.size ≤ q ∧ q < w4.heap.size) hv fun q hq => ⟨by have := hq.1; omega, hq.2⟩)
  clear hv
  go_wp2
  go_ret2
  exact ⟨_, rfl, HV.out, hbe⟩
end Go.Proofs.Ytgcdbnbdbjaijaa
