/- Tokens, compared one by one. -/
import Derived.Test.YtgcdbnbdbjaijaaToE
namespace Go.Proofs.Ytgcdbnbdbjaijaa
open Go.RowKit Go.Bs Go.Maps
set_option linter.unusedVariables false
set_option linter.unusedSimpArgs false

theorem tok_take_eq {xs ys : List Tok} {k : Nat} (h : xs.take k = ys.take k) (h1 : k < xs.length) (h2 : k < ys.length) (he : xs[k] = ys[k]) : xs.take (k + 1) = ys.take (k + 1) := by
  rw [List.take_succ_eq_append_getElem h1, List.take_succ_eq_append_getElem h2, h, he]
theorem tok_ne {xs ys : List Tok} {k : Nat} (h1 : k < xs.length) (h2 : k < ys.length) (he : xs[k] ≠ ys[k]) : xs ≠ ys := fun e => he (by subst e; rfl)

set_option maxRecDepth 100000 in
set_option maxHeartbeats 3200000 in
theorem ref11_same (xs ys : List Tok) (a a' : Option Addr) (n c n' c' : Nat) (w : World) (hl : rToks.r (· < w.heap.size) w [.slice a n c] xs) (hl' : rToks.r (· < w.heap.size) w [.slice a' n' c'] ys) :
    Calls Try.prog 21 #[.slice a n c, .slice a' n' c'] w fun r w' => r = .returned (.bool (decide (xs = ys))) ∧ Below w.heap.size w w' := by
  obtain ⟨rfl, hm, _, _⟩ := sl_len hl
  obtain ⟨rfl, hm', _, _⟩ := sl_len hl'
  have HL := hid hl; have HL' := hid hl'; clear hl hl'
  by_cases hlen : xs.length = ys.length
  · have e0 : ((xs.length : Int) != (ys.length : Int)) = false := by rw [hlen]; simp
    have HLN := hid hlen; clear hlen
    go_enter Try.func21, Try.ntmps21
    go_wp2_with fail
    go_loopw [5] (fun i wr => ∃ k : Nat, k ≤ xs.length ∧ i = .int .i64 k ∧ Hid (xs.take k = ys.take k) ∧ Below w.heap.size w wr) (fun i _ => xs.length - (intOf i).toNat)
    case atStart => exact ⟨0, Nat.zero_le _, rfl, hid rfl, Below.refl _ _⟩
    case round =>
      obtain ⟨k, hk, rfl, heq, hb⟩ := hrel
      rcases Nat.lt_or_ge k xs.length with hlt | hge
      · have hlt' : k < ys.length := by rw [← HLN.out]; exact hlt
        obtain ⟨b, o, hA, hbb, a2, c2, x0, x1, x2, _, _, xl⟩ := tok_at HL.out hlt
        obtain ⟨b', o', hA', hbb', a3, c3, y0, y1, y2, _, _, yl⟩ := tok_at HL'.out hlt'
        subst hA
        subst hA'
        have X0 := fun s : Later wr => s.cell ((hb.cell (p := ⟨b, o + k * 3, none⟩) hbb).trans x0)
        have X1 := fun s : Later wr => s.cell ((hb.cell (p := ⟨b, o + k * 3 + 1, none⟩) hbb).trans x1)
        have X2 := fun s : Later wr => s.cell ((hb.cell (p := ⟨b, o + k * 3 + 2, none⟩) hbb).trans x2)
        have Y0 := fun s : Later wr => s.cell ((hb.cell (p := ⟨b', o' + k * 3, none⟩) hbb').trans y0)
        have Y1 := fun s : Later wr => s.cell ((hb.cell (p := ⟨b', o' + k * 3 + 1, none⟩) hbb').trans y1)
        have Y2 := fun s : Later wr => s.cell ((hb.cell (p := ⟨b', o' + k * 3 + 2, none⟩) hbb').trans y2)
        have hno := hid (tok_ne hlt hlt')
        have hyes := hid (tok_take_eq heq.out hlt hlt')
        have hS := fun s : Later wr => same_bytes xs[k].lit ys[k].lit a2 a3 _ c2 _ c3 s.at_ (lift xl (below_then s.below hb)) (lift yl (below_then s.below hb))
        clear x0 x1 x2 y0 y1 y2 xl yl
        generalize xs[k] = x at *
        generalize ys[k] = y at *
        obtain ⟨D, p, q⟩ := x
        obtain ⟨D', p', q'⟩ := y
        dsimp only at *
        have i1 : (k : Int) < (xs.length : Int) := by omega
        have i2 : (k : Int) < (ys.length : Int) := by omega
        have d1 : decide ((k : Int) < (xs.length : Int)) = true := decide_eq_true i1
        have d1' : decide (k < xs.length) = true := decide_eq_true hlt
        have HS := hid hS; clear hS
        by_cases hp : p = p'
        · subst hp
          have e1 : (p != p) = false := by simp
          by_cases hq : q = q'
          · subst hq
            have e2 : (q != q) = false := by simp
            by_cases hD : D = D'
            · have hdd : decide (D = D') = true := decide_eq_true hD
              rw [hdd] at HS
              have hnx : Hid (xs.take (k + 1) = ys.take (k + 1)) := hid (hyes.out (by rw [hD]))
              clear hno hyes hD hdd
              go_wp2_with fail
              refine wp_region_later (by kernel_rfl) (by kernel_rfl) ?_
              repeat (go_big_quiet_step (((go_at_call 20; exact later_same (HS.out _)))))
              refine wpQuiet_nil ?_
              rintro W5 ⟨⟨W5', hb5⟩, rfl⟩
              go_wp2
              go_roundw
              case rel => exact ⟨k + 1, by omega, by go_num, hnx, below_then hb5 hb⟩
              case measure => simp [intOf]; omega
            · have hdd : decide (D = D') = false := decide_eq_false hD
              rw [hdd] at HS
              have hfin : Hid (decide (xs = ys) = false) := hid (decide_eq_false (hno.out (by simp only [ne_eq, Tok.mk.injEq, not_and]; intro h; exact absurd h hD)))
              clear hno hyes
              go_wp2_with fail
              refine wp_region_later (by kernel_rfl) (by kernel_rfl) ?_
              repeat (go_big_quiet_step (((go_at_call 20; exact later_same (HS.out _)))))
              refine wpQuiet_nil ?_
              rintro W5 ⟨⟨W5', hb5⟩, rfl⟩
              go_wp2
              go_ret
              exact ⟨by rw [hfin.out]; rfl, below_then hb5 hb⟩
          · have e2 : (q != q') = true := by simpa using hq
            have hfin : Hid (decide (xs = ys) = false) := hid (decide_eq_false (hno.out (by simp only [ne_eq, Tok.mk.injEq, not_and]; intro _ _ h; exact absurd h hq)))
            clear hno hyes
            go_wp2_with fail
            refine wp_region_later (by kernel_rfl) (by kernel_rfl) ?_
            repeat (go_big_quiet_step (((go_at_call 20; exact later_same (HS.out _)))))
            refine wpQuiet_nil ?_
            rintro W5 ⟨⟨W5', hb5⟩, rfl⟩
            go_wp2
            go_ret
            exact ⟨by rw [hfin.out]; rfl, below_then hb5 hb⟩
        · have e1 : (p != p') = true := by simpa using hp
          have hfin : Hid (decide (xs = ys) = false) := hid (decide_eq_false (hno.out (by simp only [ne_eq, Tok.mk.injEq, not_and]; intro _ h; exact absurd h hp)))
          clear hno hyes
          go_wp2_with fail
          refine wp_region_later (by kernel_rfl) (by kernel_rfl) ?_
          repeat (go_big_quiet_step (((go_at_call 20; exact later_same (HS.out _)))))
          refine wpQuiet_nil ?_
          rintro W5 ⟨⟨W5', hb5⟩, rfl⟩
          go_wp2
          go_ret
          exact ⟨by rw [hfin.out]; rfl, below_then hb5 hb⟩
      · obtain rfl : k = xs.length := by omega
        have hfin : Hid (decide (xs = ys) = true) := hid (decide_eq_true (by have h := heq.out; rw [List.take_length, HLN.out, List.take_length] at h; exact h))
        go_wp2
        go_ret
        exact ⟨by rw [hfin.out]; rfl, hb⟩
  · have e0 : ((xs.length : Int) != (ys.length : Int)) = true := by simp; omega
    have hfin : Hid (decide (xs = ys) = false) := hid (decide_eq_false (fun e => hlen (by rw [e])))
    clear hlen
    go_enter Try.func21, Try.ntmps21
    go_wp2
    go_ret
    exact ⟨by rw [hfin.out]; rfl, by (repeat (first | exact Below.refl _ _ | assumption | (refine below_alloc ?_ _) | (refine Below.setCell ?_ (by first | omega | (simp; done) | (simp; omega)) _) | (refine Below.drew ?_) | (refine below_drewN ?_ _) | (refine below_then (by assumption) ?_)))⟩
end Go.Proofs.Ytgcdbnbdbjaijaa
