/- Links: in order, well-formed. -/
import Derived.Test.YtkipiefcnjfdjaaGreatStB
namespace Go.Proofs.YtkipiefcnjfdjaaGreat
open Go.RowKit Go.Bs
set_option linter.unusedVariables false
set_option linter.unusedSimpArgs false

def risesAt (l : List Int) (k : Nat) : Bool := if k = 0 then risesB l else risesB (l.drop (k - 1))
theorem risesAt_one (l : List Int) : risesAt l 1 = risesAt l 0 := by simp [risesAt]
theorem risesAt_step (l : List Int) (m : Nat) (h : m + 1 < l.length) : risesAt l (m + 1) = (decide (l[m] < l[m + 1]) && risesAt l (m + 2)) := by
  have e1 : l.drop m = l[m] :: l[m + 1] :: l.drop (m + 2) := by
    rw [List.drop_eq_getElem_cons (show m < l.length by omega), List.drop_eq_getElem_cons h]
  have e2 : l.drop (m + 1) = l[m + 1] :: l.drop (m + 2) := List.drop_eq_getElem_cons h
  show risesB (l.drop m) = (_ && risesB (l.drop (m + 1)))
  rw [e1, e2]; rfl
theorem risesAt_end (l : List Int) : risesAt l l.length = true := by
  unfold risesAt
  split
  · rename_i h; rw [List.eq_nil_of_length_eq_zero h]; rfl
  · rename_i h
    have e : l.drop (l.length - 1) = [l[l.length - 1]] := by
      rw [List.drop_eq_getElem_cons (show l.length - 1 < l.length by omega), List.drop_of_length_le (by omega)]
    rw [e]; rfl

set_option maxHeartbeats 400000 in
theorem link_stream (s : Int) (v : Value) (h1 : v.oneCell' = true) (w : World) : Calls Tryz.prog 198 #[.agg #[.int .u64 s, v]] w fun r w' => r = .returned (.int .u64 s) ∧ Below w.heap.size w w' := by
  go_enter Tryz.func198, Tryz.ntmps198
  go_wp2
  go_ret
  exact ⟨rfl, by (repeat (first | exact Below.refl _ _ | assumption | (refine below_alloc ?_ _) | (refine Below.setCell ?_ (by first | omega | (simp; done) | (simp; omega)) _) | (refine Below.drew ?_) | (refine below_drewN ?_ _) | (refine below_then (by assumption) ?_)))⟩

set_option maxHeartbeats 1600000 in
theorem link_rises (l : List Link) (a : Option Addr) (n c : Nat) (w : World) (hl : rLinks.r (· < w.heap.size) w [.slice a n c] l) :
    Calls Tryz.prog 197 #[.slice a n c, .func (.func 198) #[] #[]] w fun r w' => r = .returned (.bool (risesB (l.map Link.stream))) ∧ Below w.heap.size w w' := by
  obtain ⟨rfl, hm, _, _⟩ := sl_len hl
  have HL := hid hl; clear hl
  go_enter Tryz.func197, Tryz.ntmps197
  go_wp2
  go_loopw [8] (fun i wr => ∃ k : Nat, k ≤ l.length ∧ i = .int .i64 k ∧ Hid (risesB (l.map Link.stream) = risesAt (l.map Link.stream) k) ∧ Below w.heap.size w wr) (fun i _ => l.length - (intOf i).toNat)
  case atStart => exact ⟨0, Nat.zero_le _, rfl, hid rfl, Below.refl _ _⟩
  case round =>
    obtain ⟨k, hk, rfl, hf, hb⟩ := hrel
    by_cases hlt : k < l.length
    · obtain ⟨b, o, hA, hbb, a1, c1, hc0, hc1, _, _⟩ := link_at HL.out hlt
      have hlt' : (k : Int) < (l.length : Int) := by omega
      rcases k with _ | m
      · have h1 := hid (risesAt_one (l.map Link.stream))
        go_wp2_with fail
        refine wp_region_later (by kernel_rfl) (by kernel_rfl) ?_
        repeat (go_big_quiet_step (fail))
        refine wpQuiet_nil ?_
        rintro W5 ⟨⟨W5', hb5⟩, rfl⟩
        go_wp2
        go_roundw
        case rel => exact ⟨1, by omega, rfl, hid (by rw [hf.out, h1.out]), below_then hb5 hb⟩
        case measure => simp [intOf]; omega
      · obtain ⟨b', o', hA', hbb', a2, c2, hd0, hd1, _, _⟩ := link_at HL.out (show m < l.length by omega)
        have hst := hid (risesAt_step (l.map Link.stream) m (by simpa using hlt))
        subst hA
        obtain ⟨rfl, rfl⟩ : b' = b ∧ o' = o := by simp at hA'; exact ⟨hA'.1.symm, hA'.2.symm⟩
        clear hA'
        have X0 := fun s : Later wr => s.cell ((hb.cell (p := ⟨b', o' + (m + 1) * 2, none⟩) hbb).trans hc0)
        have X1 := fun s : Later wr => s.cell ((hb.cell (p := ⟨b', o' + (m + 1) * 2 + 1, none⟩) hbb).trans hc1)
        have Y0 := fun s : Later wr => s.cell ((hb.cell (p := ⟨b', o' + m * 2, none⟩) hbb).trans hd0)
        have Y1 := fun s : Later wr => s.cell ((hb.cell (p := ⟨b', o' + m * 2 + 1, none⟩) hbb).trans hd1)
        clear hc0 hc1 hd0 hd1
        simp only [List.getElem_map] at hst
        generalize l[m + 1].stream = x at *
        generalize l[m].stream = y at *
        generalize l[m + 1].backs.length = n1 at *
        generalize l[m].backs.length = n2 at *
        rw [show ((m + 1 : Nat) : Int) = (m : Int) + 1 from by omega]
        have k1 : (0 : Int) < (m : Int) + 1 := by omega
        have k2 : (0 : Int) ≤ (m : Int) + 1 - 1 := by omega
        have k3 : (m : Int) + 1 < (l.length : Int) := by omega
        have k4 : (m : Int) < (l.length : Int) := by omega
        by_cases hge : x ≤ y
        · have d1 : decide (x ≤ y) = true := by simpa using hge
          have hff : Hid (risesB (l.map Link.stream) = false) := hid (by rw [hf.out, hst.out]; simp; omega)
          clear hge
          go_wp2_with fail
          refine wp_region_later (by kernel_rfl) (by kernel_rfl) ?_
          repeat (go_big_quiet_step (((go_at_call 198; exact later_of (link_stream _ _ rfl _)))))
          refine wpQuiet_nil ?_
          rintro W5 ⟨⟨W5', hb5⟩, rfl⟩
          go_wp2
          go_ret
          exact ⟨by rw [hff.out]; rfl, below_then hb5 hb⟩
        · have d1 : decide (x ≤ y) = false := by simpa using hge
          have hst' : Hid (risesAt (l.map Link.stream) (m + 1) = risesAt (l.map Link.stream) (m + 2)) := hid (by rw [hst.out, decide_eq_true (by omega)]; rfl)
          clear hge
          go_wp2_with fail
          refine wp_region_later (by kernel_rfl) (by kernel_rfl) ?_
          repeat (go_big_quiet_step (((go_at_call 198; exact later_of (link_stream _ _ rfl _)))))
          refine wpQuiet_nil ?_
          rintro W5 ⟨⟨W5', hb5⟩, rfl⟩
          go_wp2
          go_roundw
          case rel => exact ⟨m + 2, by omega, by go_num, hid (by rw [hf.out, hst'.out]), below_then hb5 hb⟩
          case measure => simp [intOf]; omega
    · obtain rfl : k = l.length := by omega
      have hff : Hid (risesB (l.map Link.stream) = true) := hid (by
        have := risesAt_end (l.map Link.stream)
        rw [List.length_map] at this
        rw [hf.out, this])
      go_wp2
      go_ret
      exact ⟨by rw [hff.out]; rfl, hb⟩
end Go.Proofs.YtkipiefcnjfdjaaGreat
