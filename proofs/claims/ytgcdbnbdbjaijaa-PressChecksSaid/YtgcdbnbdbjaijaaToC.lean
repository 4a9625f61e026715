/- Tokens, written. -/
import Derived.Test.YtgcdbnbdbjaijaaToB
namespace Go.Proofs.Ytgcdbnbdbjaijaa
open Go.RowKit Go.Bs Go.Maps
set_option linter.unusedVariables false
set_option linter.unusedSimpArgs false

def roomT (xs : List Tok) : Nat := (xs.map fun t => t.lit.length + 20).sum
def tokensB (xs : List Tok) : List UInt8 := (xs.map tokB).flatten
theorem roomT_step (xs : List Tok) (k : Nat) (h : k < xs.length) : roomT (xs.take (k + 1)) = roomT (xs.take k) + (xs[k].lit.length + 20) := by
  unfold roomT
  rw [List.take_succ_eq_append_getElem h, List.map_append, List.sum_append]; simp
theorem tokensB_step (xs : List Tok) (k : Nat) (h : k < xs.length) : tokensB (xs.take (k + 1)) = tokensB (xs.take k) ++ tokB xs[k] := by
  unfold tokensB
  rw [List.take_succ_eq_append_getElem h, List.map_append, List.flatten_append]; simp
theorem roomT_le (xs : List Tok) (hL : ∀ t ∈ xs, t.lit.length ≤ 1048576) (k : Nat) (hk : k ≤ xs.length) : roomT (xs.take k) ≤ k * 1048596 := by
  induction k with
  | zero => simp [roomT]
  | succ k ih =>
    rw [roomT_step xs k (by omega)]
    have := ih (by omega)
    have := hL _ (List.getElem_mem (show k < xs.length by omega))
    omega
theorem roomT_mono (xs : List Tok) (k : Nat) : roomT (xs.take k) ≤ roomT xs := by
  have : roomT xs = roomT (xs.take k) + roomT (xs.drop k) := by
    unfold roomT
    conv => lhs; rw [← List.take_append_drop k xs]
    rw [List.map_append, List.sum_append]
  omega
theorem tokB_len (t : Tok) : (tokB t).length ≤ t.lit.length + 20 := by
  unfold tokB
  split
  · rw [List.length_append]; have := varB_len (2 * t.lit.length - 2); omega
  · rw [List.length_append]; have := varB_len (2 * t.len.toNat - 7); have := varB_len (t.off.toNat - 1); omega
theorem tokensB_len (xs : List Tok) : (tokensB xs).length ≤ roomT xs := by
  unfold tokensB roomT
  induction xs with
  | nil => simp
  | cons t xs ih => simp only [List.map_cons, List.flatten_cons, List.length_append, List.sum_cons]; have := tokB_len t; omega
theorem varB_most : (varB 18446744073709551615).length = 10 := by decide +kernel
theorem right_forms {t : Tok} (h : rightB t = true) : (∃ D, t = ⟨D, 0, 0⟩ ∧ 1 ≤ D.length ∧ D.length ≤ 1048576) ∨ ∃ o m : Nat, t = ⟨[], (o : Int), (m : Int)⟩ ∧ 1 ≤ o ∧ o ≤ 65536 ∧ 4 ≤ m ∧ m ≤ 1048576 := by
  obtain ⟨D, o, m⟩ := t
  simp only [rightB, runB, copyB, Bool.or_eq_true, Bool.and_eq_true, decide_eq_true_eq] at h
  rcases h with ⟨rfl, rfl, h1, h2⟩ | ⟨h0, h1, h2, h3, h4⟩
  · exact .inl ⟨D, rfl, h1, h2⟩
  · refine .inr ⟨o.toNat, m.toNat, ?_, by omega, by omega, by omega, by omega⟩
    rw [List.eq_nil_of_length_eq_zero h0, Int.toNat_of_nonneg (by omega), Int.toNat_of_nonneg (by omega)]

set_option maxRecDepth 100000 in
set_option maxHeartbeats 3200000 in
theorem token_room (xs : List Tok) (a : Option Addr) (n c : Nat) (w : World) (hl : rToks.r (· < w.heap.size) w [.slice a n c] xs) (hx : xs.length ≤ 10000000) (hL : ∀ t ∈ xs, t.lit.length ≤ 1048576) :
    Calls Try.prog 102 #[.slice a n c] w fun r w' => r = .returned (.int .i64 (roomT xs)) ∧ Below w.heap.size w w' := by
  obtain ⟨rfl, hm, _, _⟩ := sl_len hl
  have HL := hid hl; clear hl
  go_enter Try.func102, Try.ntmps102
  go_wp2_with fail
  go_loopw [3, 8] (fun s i wr => ∃ k : Nat, k ≤ xs.length ∧ i = .int .i64 k ∧ (∃ t : Nat, s = .int .i64 t ∧ Hid (t = roomT (xs.take k))) ∧ Below w.heap.size w wr) (fun _ i _ => xs.length - (intOf i).toNat)
  case atStart => exact ⟨0, Nat.zero_le _, rfl, ⟨0, rfl, hid (by simp [roomT])⟩, Below.refl _ _⟩
  case round =>
    obtain ⟨k, hk, rfl, ⟨t, rfl, ht⟩, hb⟩ := hrel
    rcases Nat.lt_or_ge k xs.length with hlt | hge
    · obtain ⟨b, o, hA, hbb, a2, c2, x0, x1, x2, _, _, _⟩ := tok_at HL.out hlt
      subst hA
      have X0 := (hb.cell (p := ⟨b, o + k * 3, none⟩) hbb).trans x0
      have X1 := (hb.cell (p := ⟨b, o + k * 3 + 1, none⟩) hbb).trans x1
      have X2 := (hb.cell (p := ⟨b, o + k * 3 + 2, none⟩) hbb).trans x2
      have hn := hid (roomT_step xs k hlt)
      have hle := roomT_le xs hL k (by omega)
      have hD := hL _ (List.getElem_mem hlt)
      rw [← ht.out] at hle
      clear x0 x1 x2
      generalize xs[k] = y at *
      obtain ⟨D, yo, ym⟩ := y
      dsimp only at *
      have hbs := hb.size
      have i1 : (k : Int) < (xs.length : Int) := by omega
      go_wp2_with fail
      refine wp_world (fun W => Below wr.heap.size wr W ∧ wr.heap.size < W.heap.size ∧ W.cell? ⟨wr.heap.size, 0, none⟩ = some (.slice a2 D.length c2)) ⟨by (repeat (first | exact Below.refl _ _ | assumption | (refine below_alloc ?_ _) | (refine Below.setCell ?_ (by first | omega | (simp; done) | (simp; omega)) _) | (refine Below.drew ?_) | (refine below_drewN ?_ _) | (refine below_then (by assumption) ?_))), by simp, by go_simp⟩ ?_
      intro W ⟨hbW, hzW, u0⟩
      have U0 := fun s : Later W => s.cell u0
      have HS := hid (fun s : Later W => varint_size 18446744073709551615 (by omega) s.at_)
      rw [varB_most] at HS
      have hbw := below_then hbW hb
      clear X0 X1 X2 u0
      refine wp_region_later (by kernel_rfl) (by kernel_rfl) ?_
      repeat (go_big_quiet_step (((go_at_call 104; exact later_of (HS.out _)))))
      refine wpQuiet_nil ?_
      rintro W5 ⟨⟨W5', hb5⟩, rfl⟩
      go_wp2
      go_roundw
      case rel => exact ⟨k + 1, by omega, by go_num, ⟨t + (D.length + 20), by go_num, hid (by rw [hn.out, ht.out])⟩, below_then hb5 hbw⟩
      case measure => simp [intOf]; omega
    · obtain rfl : k = xs.length := by omega
      rw [List.take_length] at ht
      go_wp2
      go_ret
      exact ⟨by rw [← ht.out]; rfl, hb⟩
end Go.Proofs.Ytgcdbnbdbjaijaa
