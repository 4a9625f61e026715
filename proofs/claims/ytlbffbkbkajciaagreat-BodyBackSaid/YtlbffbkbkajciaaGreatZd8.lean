/- Needed by bodyOnce_walk, part 8: texts put together by shake.py; no condition. -/
import Derived.Test.YtlbffbkbkajciaaGreatZd7
import Derived.Test.YtlbffbkbkajciaaGreatProg
import Derived.WalkKit
import Derived.Deep.Cut
import Derived.Deep.WholeRow
import Derived.BigQuiet
import Derived.Test.YtlbffbkbkajciaaGreatZd1
import Derived.Test.YtlbffbkbkajciaaGreatZd6
import Derived.Deep.CutRange
import Derived.Deep.RegionHeld3
import Derived.Test.YtlbffbkbkajciaaGreatZd5
import Derived.Test.YtlbffbkbkajciaaGreatZd3
import Derived.Test.YtlbffbkbkajciaaGreatZd2
import Derived.Test.YtlbffbkbkajciaaGreatZd4
namespace Go.Proofs.YtlbffbkbkajciaaGreat
open Go.RowKit Go.Bs Go.Maps
set_option linter.unusedVariables false
set_option linter.unusedSimpArgs false

set_option maxRecDepth 100000 in
set_option maxHeartbeats 6400000 in
theorem ref19_right (lo hi : Int) (L : List (List Int)) (a : Option Addr) (n c : Nat) (w : World) (hl : rSets.r (· < w.heap.size) w [.slice a n c] L) :
    Calls Tryz.prog 164 #[.agg #[.int .u64 lo, .int .u64 hi, .slice a n c]] w fun r w' => r = .returned (.bool (stripeR ⟨lo, hi, L⟩)) ∧ Below w.heap.size w w' := by
  obtain ⟨rfl, hm, hcc, hcm⟩ := sl_len hl
  have HL := hid hl
  clear hl
  by_cases hG : lo < hi ∧ hi ≤ 4611686018427387904 ∧ 1 ≤ L.length ∧ L.length ≤ 8
  · obtain ⟨g1, g2, g3, g4⟩ := hG
    have hS : stripeR ⟨lo, hi, L⟩ = setsR L L.length := by unfold stripeR; dsimp only; rw [decide_eq_true (⟨g1, g2, g3, g4⟩ : lo < hi ∧ hi ≤ 4611686018427387904 ∧ 1 ≤ L.length ∧ L.length ≤ 8), Bool.true_and]
    have HBAD := hid (fun (k : Nat) (h : k < L.length) (hb : setR L k = false) => (show stripeR ⟨lo, hi, L⟩ = false by
      rw [hS]
      rcases hh : setsR L L.length with _ | _
      · rfl
      · have := setsR_at L L.length k hh h
        rw [hb] at this; cases this))
    have HS := hid hS
    have d1 : decide (hi ≤ lo) = false := decide_eq_false (by omega)
    have d2 : decide ((4611686018427387904 : Int) < hi) = false := decide_eq_false (by omega)
    have d3 : decide ((L.length : Int) < 1) = false := decide_eq_false (by omega)
    have d4 : decide ((8 : Int) < (L.length : Int)) = false := decide_eq_false (by omega)
    have x0 : (w.alloc (.cells #[.int .u64 lo, .int .u64 hi, .slice a L.length c] 155)).cell? ⟨w.heap.size, 2, none⟩ = some (.slice a L.length c) := by simp
    have hb0 : Below w.heap.size w (w.alloc (.cells #[.int .u64 lo, .int .u64 hi, .slice a L.length c] 155)) := by (repeat (first | exact Below.refl _ _ | assumption | (refine below_alloc ?_ _) | (refine Below.setCell ?_ (by first | omega | (simp; done) | (simp; omega)) _) | (refine Below.drew ?_) | (refine below_drewN ?_ _) | (refine below_then (by assumption) ?_)))
    have hs0 : w.heap.size < (w.alloc (.cells #[.int .u64 lo, .int .u64 hi, .slice a L.length c] 155)).heap.size := by simp
    clear hS
    go_enter Tryz.func164, Tryz.ntmps164
    go_wp2_with fail
    generalize (w.alloc (.cells #[.int .u64 lo, .int .u64 hi, .slice a L.length c] 155)) = w0 at *
    have HB0 := hid hb0
    clear hb0
    go_loopw [3] (fun i wr => ∃ k : Nat, k ≤ L.length ∧ i = .int .i64 k ∧ Hid (setsR L k = true) ∧ Below w0.heap.size w0 wr) (fun i _ => L.length - (intOf i).toNat)
    case atStart => exact ⟨0, Nat.zero_le _, rfl, hid rfl, Below.refl _ _⟩
    case round =>
      obtain ⟨k, hk, rfl, hf, hb⟩ := hrel
      have HB := hid hb
      have HBW := hid (HB0.out.trans (hb.mono HB0.out.size))
      have hsz := hb.size
      have X0 := (hb.cell (p := ⟨w.heap.size, 2, none⟩) hs0).trans x0
      by_cases hlt : k < L.length
      · have i1 : (k : Int) < (L.length : Int) := by omega
        have e0 : decide ((k : Int) < (L.length : Int)) = true := decide_eq_true i1
        obtain ⟨b, o, hA, hbb, ak, ck, u0, xl⟩ := set_at (lift HL.out HBW.out) hlt
        subst hA
        obtain ⟨X, hX⟩ : ∃ X, L[k] = X := ⟨_, rfl⟩
        have hset : setR L k = (nodesR X && apartR X (L.take k)) := by unfold setR; rw [getD_at L k [] hlt, hX]
        rw [hX] at u0 xl
        clear hX
        have hbd := HBAD.out k hlt
        have hgd : setR L k = true → setsR L (k + 1) = true := fun h => by show (setsR L k && setR L k) = true; rw [hf.out, h]; rfl
        have hnr : nodesR X = (decide (1 ≤ X.length ∧ X.length ≤ 8) && (risesB X && decide (X.getLastD 0 ≤ 4294967295))) := rfl
        have HR := hid (ref05_rises X ak _ ck wr xl)
        have HT := hid (fun (W : World) (hW : Below wr.heap.size wr W) => ref19_twice L k X (some ⟨b, o, none⟩) _ c ak _ ck W (lift (lift HL.out HBW.out) hW) (lift xl hW) (by omega))
        have hla := last_at X
        have hu := fun (h : 1 ≤ X.length) => u64_at xl (i := X.length - 1) (by omega)
        clear hb xl
        generalize apartR X (L.take k) = ap at *
        by_cases hx1 : 1 ≤ X.length
        · have e1 : decide ((X.length : Int) < 1) = false := decide_eq_false (by omega)
          by_cases hx2 : X.length ≤ 8
          · have e2 : decide ((8 : Int) < (X.length : Int)) = false := decide_eq_false (by omega)
            rw [decide_eq_true (⟨hx1, hx2⟩ : 1 ≤ X.length ∧ X.length ≤ 8), Bool.true_and, hla hx1] at hnr
            obtain ⟨b2, o2, hA2, hbb2, y0, hy0, hy1⟩ := hu hx1
            subst hA2
            rw [hnr] at hset
            clear hu hla hnr
            obtain ⟨m, hm'⟩ : ∃ m, X.length = m + 1 := ⟨X.length - 1, by omega⟩
            simp only [hm', Nat.add_sub_cancel] at hset y0 hy0 hy1 HR HT u0 e1 e2
            have q1 : (0 : Int) ≤ (m : Int) + 1 - 1 := by omega
            have hmm : m ≤ 7 := by omega
            generalize X[m]'(by omega) = y at *
            generalize risesB X = R at *
            clear hx1 hx2 hm'
            cases R
            · have hff : Hid (stripeR ⟨lo, hi, L⟩ = false) := hid (hbd (by rw [hset]; rfl))
              clear hset hbd hgd
              go_wp2_with fail
              refine HR.out.mono ?_
              rintro r w3 ⟨rfl, hb3⟩
              have hbe := below_then hb3 HBW.out
              go_wp2_with fail
              go_ret
              exact ⟨by rw [hff.out]; rfl, hbe⟩
            · by_cases hy : 4294967296 ≤ y
              · have e3 : decide ((4294967296 : Int) ≤ y) = true := decide_eq_true hy
                have hff : Hid (stripeR ⟨lo, hi, L⟩ = false) := hid (hbd (by rw [hset, decide_eq_false (by omega : ¬ y ≤ 4294967295)]; rfl))
                clear hset hbd hgd hy
                go_wp2_with fail
                refine HR.out.mono ?_
                rintro r w3 ⟨rfl, hb3⟩
                have Y0 := (hb3.cell (p := ⟨b2, o2 + m, none⟩) hbb2).trans y0
                have hbe := below_then hb3 HBW.out
                go_wp2_with fail
                go_ret
                exact ⟨by rw [hff.out]; rfl, hbe⟩
              · have e3 : decide ((4294967296 : Int) ≤ y) = false := decide_eq_false hy
                rw [decide_eq_true (by omega : y ≤ 4294967295)] at hset
                have HSE := hid hset
                have HBD := hid hbd
                have HGD := hid hgd
                clear hset hbd hgd hy
                go_wp2_with fail
                refine HR.out.mono ?_
                rintro r w3 ⟨rfl, hb3⟩
                have Y0 := (hb3.cell (p := ⟨b2, o2 + m, none⟩) hbb2).trans y0
                have Z0 := (hb3.cell (p := ⟨w.heap.size, 2, none⟩) (by dsimp only; omega)).trans X0
                have hbe := below_then hb3 HBW.out
                have hbe2 := below_then hb3 HB.out
                have HTT := hid (HT.out w3 hb3)
                clear X0 y0
                cases ap
                · have hff : Hid (stripeR ⟨lo, hi, L⟩ = false) := hid (HBD.out (by rw [HSE.out]; rfl))
                  go_wp2_with fail
                  refine HTT.out.mono ?_
                  rintro r w4 ⟨rfl, hb4⟩
                  have hbf := below_then hb4 hbe
                  go_wp2_with fail
                  go_ret
                  exact ⟨by rw [hff.out]; rfl, hbf⟩
                · have hnx : Hid (setsR L (k + 1) = true) := hid (HGD.out (by rw [HSE.out]; rfl))
                  go_wp2_with fail
                  refine HTT.out.mono ?_
                  rintro r w4 ⟨rfl, hb4⟩
                  have hbf := below_then hb4 hbe2
                  go_wp2_with fail
                  go_roundw
                  case rel => exact ⟨k + 1, by omega, by go_num, hnx, hbf⟩
                  case measure => (simp [intOf]; try omega)
          · have e2 : decide ((8 : Int) < (X.length : Int)) = true := decide_eq_true (by omega)
            have hff : Hid (stripeR ⟨lo, hi, L⟩ = false) := hid (hbd (by rw [hset, hnr, decide_eq_false (fun h => hx2 h.2 : ¬ (1 ≤ X.length ∧ X.length ≤ 8))]; rfl))
            clear hset hbd hgd hnr hla hu hx1 hx2
            go_wp2_with fail
            go_ret
            exact ⟨by rw [hff.out]; rfl, HBW.out⟩
        · have e1 : decide ((X.length : Int) < 1) = true := decide_eq_true (by omega)
          have hff : Hid (stripeR ⟨lo, hi, L⟩ = false) := hid (hbd (by rw [hset, hnr, decide_eq_false (fun h => hx1 h.1 : ¬ (1 ≤ X.length ∧ X.length ≤ 8))]; rfl))
          clear hset hbd hgd hnr hla hu hx1
          go_wp2_with fail
          go_ret
          exact ⟨by rw [hff.out]; rfl, HBW.out⟩
      · obtain rfl : k = L.length := by omega
        have e0 : decide ((L.length : Int) < (L.length : Int)) = false := decide_eq_false (by omega)
        have hff : Hid (stripeR ⟨lo, hi, L⟩ = true) := hid (by rw [HS.out, hf.out])
        clear hb
        go_wp2_with fail
        go_ret
        exact ⟨by rw [hff.out]; rfl, HBW.out⟩
  · by_cases g1 : lo < hi
    · have d1 : decide (hi ≤ lo) = false := decide_eq_false (by omega)
      by_cases g2 : hi ≤ 4611686018427387904
      · have d2 : decide ((4611686018427387904 : Int) < hi) = false := decide_eq_false (by omega)
        by_cases g3 : 1 ≤ L.length
        · have d3 : decide ((L.length : Int) < 1) = false := decide_eq_false (by omega)
          have d4 : decide ((8 : Int) < (L.length : Int)) = true := decide_eq_true (by omega)
          have hff : Hid (stripeR ⟨lo, hi, L⟩ = false) := hid (by unfold stripeR; dsimp only; rw [decide_eq_false hG]; rfl)
          clear hG
          go_enter Tryz.func164, Tryz.ntmps164
          go_wp2_with fail
          go_ret
          exact ⟨by rw [hff.out]; rfl, by (repeat (first | exact Below.refl _ _ | assumption | (refine below_alloc ?_ _) | (refine Below.setCell ?_ (by first | omega | (simp; done) | (simp; omega)) _) | (refine Below.drew ?_) | (refine below_drewN ?_ _) | (refine below_then (by assumption) ?_)))⟩
        · have d3 : decide ((L.length : Int) < 1) = true := decide_eq_true (by omega)
          have hff : Hid (stripeR ⟨lo, hi, L⟩ = false) := hid (by unfold stripeR; dsimp only; rw [decide_eq_false hG]; rfl)
          clear hG
          go_enter Tryz.func164, Tryz.ntmps164
          go_wp2_with fail
          go_ret
          exact ⟨by rw [hff.out]; rfl, by (repeat (first | exact Below.refl _ _ | assumption | (refine below_alloc ?_ _) | (refine Below.setCell ?_ (by first | omega | (simp; done) | (simp; omega)) _) | (refine Below.drew ?_) | (refine below_drewN ?_ _) | (refine below_then (by assumption) ?_)))⟩
      · have d2 : decide ((4611686018427387904 : Int) < hi) = true := decide_eq_true (by omega)
        have hff : Hid (stripeR ⟨lo, hi, L⟩ = false) := hid (by unfold stripeR; dsimp only; rw [decide_eq_false hG]; rfl)
        clear hG
        go_enter Tryz.func164, Tryz.ntmps164
        go_wp2_with fail
        go_ret
        exact ⟨by rw [hff.out]; rfl, by (repeat (first | exact Below.refl _ _ | assumption | (refine below_alloc ?_ _) | (refine Below.setCell ?_ (by first | omega | (simp; done) | (simp; omega)) _) | (refine Below.drew ?_) | (refine below_drewN ?_ _) | (refine below_then (by assumption) ?_)))⟩
    · have d1 : decide (hi ≤ lo) = true := decide_eq_true (by omega)
      have hff : Hid (stripeR ⟨lo, hi, L⟩ = false) := hid (by unfold stripeR; dsimp only; rw [decide_eq_false hG]; rfl)
      clear hG
      go_enter Tryz.func164, Tryz.ntmps164
      go_wp2_with fail
      go_ret
      exact ⟨by rw [hff.out]; rfl, by (repeat (first | exact Below.refl _ _ | assumption | (refine below_alloc ?_ _) | (refine Below.setCell ?_ (by first | omega | (simp; done) | (simp; omega)) _) | (refine Below.drew ?_) | (refine below_drewN ?_ _) | (refine below_then (by assumption) ?_)))⟩
end Go.Proofs.YtlbffbkbkajciaaGreat
namespace Go.Proofs.YtlbffbkbkajciaaGreat
open Go.RowKit Go.Bs Go.Maps
set_option linter.unusedVariables false
set_option linter.unusedSimpArgs false

/-- Where the i-th stripe begins. -/
def startP : Int → List Stripe → Nat → Int
  | p, _, 0 => p
  | _, [], _ + 1 => 0
  | _, s :: l, n + 1 => startP s.hi l n
theorem startP_succ : ∀ (l : List Stripe) (p : Int) (i : Nat) (h : i < l.length), startP p l (i + 1) = l[i].hi
  | [], _, i, h => by simp at h
  | s :: l, p, 0, h => by cases l <;> rfl
  | s :: l, p, i + 1, h => by
    have := startP_succ l s.hi i (by simpa using h)
    simpa [startP] using this
theorem startP_zero (p : Int) (l : List Stripe) : startP p l 0 = p := by cases l <;> rfl
theorem chain_iff : ∀ (l : List Stripe) (p : Int), chainP p l = true ↔ (∀ i (h : i < l.length), stripeR l[i] = true ∧ l[i].lo = startP p l i) ∧ startP p l l.length = 4611686018427387904
  | [], p => by simp [chainP, startP]
  | s :: l, p => by
    simp only [chainP, Bool.and_eq_true, decide_eq_true_eq]
    rw [chain_iff l s.hi]
    constructor
    · rintro ⟨h1, h2, h3, h4⟩
      refine ⟨fun i h => ?_, by simpa [startP] using h4⟩
      rcases i with _ | i
      · exact ⟨h2, h1⟩
      · have := h3 i (by simpa using h)
        simpa [startP] using this
    · rintro ⟨h1, h2⟩
      refine ⟨(h1 0 (by simp)).2, (h1 0 (by simp)).1, fun i h => ?_, by simpa [startP] using h2⟩
      have := h1 (i + 1) (by simpa using h)
      simpa [startP] using this
theorem chain_step (l : List Stripe) (p : Int) (k : Nat) (h : k < l.length) : chainP p (l.drop k) = (decide (l[k].lo = p) && (stripeR l[k] && chainP l[k].hi (l.drop (k + 1)))) := by
  rw [List.drop_eq_getElem_cons h]; rfl
theorem chain_false {l : List Stripe} {p : Int} (k : Nat) (h : k < l.length) (hb : stripeR l[k] = false ∨ l[k].lo ≠ startP p l k) : chainP p l = false := by
  rcases hh : chainP p l with _ | _
  · rfl
  · have := ((chain_iff l p).1 hh).1 k h
    rcases hb with hb | hb
    · rw [this.1] at hb; cases hb
    · exact absurd this.2 hb

set_option maxRecDepth 100000 in
set_option maxHeartbeats 6400000 in
theorem proj_right (ep : Int) (l : List Stripe) (a : Option Addr) (n c : Nat) (w : World) (hl : rStripes.r (· < w.heap.size) w [.slice a n c] l) :
    Calls Tryz.prog 87 #[.agg #[.int .u64 ep, .slice a n c]] w fun r w' => r = .returned (.bool (projR ⟨ep, l⟩)) ∧ Below w.heap.size w w' := by
  obtain ⟨rfl, hm, hcc, hcm⟩ := sl_len hl
  have HL := hid hl
  have HE := hid (fun W : World => epoch_right ep W)
  have hP : projR ⟨ep, l⟩ = (epR ep && (decide (1 ≤ l.length ∧ l.length ≤ 64) && chainP 0 l)) := rfl
  generalize epR ep = E at *
  clear hl
  cases E
  · have hff : Hid (projR ⟨ep, l⟩ = false) := hid (by rw [hP]; rfl)
    clear hP
    go_enter Tryz.func87, Tryz.ntmps87
    go_wp2_with fail
    refine (HE.out _).mono ?_
    rintro r w1 ⟨rfl, rfl⟩
    go_wp2_with fail
    go_ret
    exact ⟨by rw [hff.out]; rfl, by (repeat (first | exact Below.refl _ _ | assumption | (refine below_alloc ?_ _) | (refine Below.setCell ?_ (by first | omega | (simp; done) | (simp; omega)) _) | (refine Below.drew ?_) | (refine below_drewN ?_ _) | (refine below_then (by assumption) ?_)))⟩
  · by_cases h1 : 1 ≤ l.length
    · have d1 : decide ((l.length : Int) < 1) = false := decide_eq_false (by omega)
      by_cases h2 : l.length ≤ 64
      · have d2 : decide ((64 : Int) < (l.length : Int)) = false := decide_eq_false (by omega)
        have hff0 : Hid (projR ⟨ep, l⟩ = chainP 0 (l.drop 0)) := hid (by rw [hP, decide_eq_true (⟨h1, h2⟩ : 1 ≤ l.length ∧ l.length ≤ 64)]; simp)
        have x1 : (w.alloc (.cells #[.int .u64 ep, .slice a l.length c] 30)).cell? ⟨w.heap.size, 1, none⟩ = some (.slice a l.length c) := by simp
        have hb0 : Below w.heap.size w (w.alloc (.cells #[.int .u64 ep, .slice a l.length c] 30)) := by (repeat (first | exact Below.refl _ _ | assumption | (refine below_alloc ?_ _) | (refine Below.setCell ?_ (by first | omega | (simp; done) | (simp; omega)) _) | (refine Below.drew ?_) | (refine below_drewN ?_ _) | (refine below_then (by assumption) ?_)))
        clear hP
        go_enter Tryz.func87, Tryz.ntmps87
        go_wp2_with fail
        refine (HE.out _).mono ?_
        rintro r w1 ⟨rfl, rfl⟩
        go_wp2_with fail
        generalize (w.alloc (.cells #[.int .u64 ep, .slice a l.length c] 30)) = w0 at *
        have HB0 := hid hb0
        clear hb0 x1
        go_loopw [3, 25] (fun f i wr => ∃ (k : Nat) (p : Int), k ≤ l.length ∧ i = .int .i64 k ∧ f = .int .u64 p ∧ Hid (projR ⟨ep, l⟩ = chainP p (l.drop k)) ∧ Below w0.heap.size w0 wr) (fun _ i _ => l.length - (intOf i).toNat)
        case atStart => exact ⟨0, 0, Nat.zero_le _, rfl, rfl, hff0, Below.refl _ _⟩
        case round =>
          obtain ⟨k, p, hk, rfl, rfl, hf, hb⟩ := hrel
          have HBW := hid (HB0.out.trans (hb.mono HB0.out.size))
          have HB := hid hb
          by_cases hlt : k < l.length
          · have i1 : (k : Int) < (l.length : Int) := by omega
            have e0 : decide ((k : Int) < (l.length : Int)) = true := decide_eq_true i1
            obtain ⟨b, o, hA, hbb, ak, ck, u0, u1, u2, ub0, ub1, xl⟩ := stripe_at (lift HL.out HBW.out) hlt
            subst hA
            have hst := hid (chain_step l p k hlt)
            have HR := hid (fun (W : World) (hW : Below wr.heap.size wr W) => stripe_right l[k].lo l[k].hi l[k].sets ak _ ck W (lift xl hW))
            have hbl : b < wr.heap.size := World.block_lt_of_cell? _ _ u0
            clear hb xl
            generalize l[k] = X at *
            have hX : (⟨X.lo, X.hi, X.sets⟩ : Stripe) = X := rfl
            simp only [hX] at HR
            by_cases hlo : X.lo = p
            · have e1 : (X.lo != p) = false := by simp [hlo]
              generalize stripeR X = R at *
              cases R
              · have hff : Hid (projR ⟨ep, l⟩ = false) := hid (by rw [hf.out, hst.out]; simp)
                clear hlo hX
                go_wp2_with fail
                refine (HR.out _ (by (repeat (first | with_reducible exact Below.refl _ _ | with_reducible assumption | (with_reducible refine below_alloc ?_ _) | (with_reducible refine Below.setCell ?_ (by first | omega | (simp; done) | (simp; omega)) _) | (with_reducible refine Below.drew ?_) | (with_reducible refine below_drewN ?_ _) | (refine below_then (by with_reducible assumption) ?_))))).mono ?_
                rintro r w3 ⟨rfl, hb3⟩
                have hbe : Below w0.heap.size w0 w3 := below_then hb3 (below_alloc HB.out _)
                have hbf : Below w.heap.size w w3 := HB0.out.trans (hbe.mono HB0.out.size)
                go_wp2_with fail
                go_ret
                exact ⟨by rw [hff.out]; rfl, hbf⟩
              · have hff : Hid (projR ⟨ep, l⟩ = chainP X.hi (l.drop (k + 1))) := hid (by rw [hf.out, hst.out, decide_eq_true hlo]; rfl)
                clear hlo hX
                go_wp2_with fail
                refine (HR.out _ (by (repeat (first | with_reducible exact Below.refl _ _ | with_reducible assumption | (with_reducible refine below_alloc ?_ _) | (with_reducible refine Below.setCell ?_ (by first | omega | (simp; done) | (simp; omega)) _) | (with_reducible refine Below.drew ?_) | (with_reducible refine below_drewN ?_ _) | (refine below_then (by with_reducible assumption) ?_))))).mono ?_
                rintro r w3 ⟨rfl, hb3⟩
                have z1 := hb3.cell (p := ⟨wr.heap.size, 1, none⟩) (by simp)
                simp at z1
                have hbe : Below w0.heap.size w0 w3 := below_then hb3 (below_alloc HB.out _)
                clear hb3
                go_wp2_with fail
                go_roundw
                case rel => exact ⟨k + 1, X.hi, by omega, by go_num, rfl, hff, hbe⟩
                case measure => (simp [intOf]; try omega)
            · have e1 : (X.lo != p) = true := by simpa using hlo
              have hff : Hid (projR ⟨ep, l⟩ = false) := hid (by rw [hf.out, hst.out, decide_eq_false hlo]; rfl)
              clear hlo hX
              go_wp2_with fail
              go_ret
              exact ⟨by rw [hff.out]; rfl, by have := HBW.out; (repeat (first | with_reducible exact Below.refl _ _ | with_reducible assumption | (with_reducible refine below_alloc ?_ _) | (with_reducible refine Below.setCell ?_ (by first | omega | (simp; done) | (simp; omega)) _) | (with_reducible refine Below.drew ?_) | (with_reducible refine below_drewN ?_ _) | (refine below_then (by with_reducible assumption) ?_)))⟩
          · obtain rfl : k = l.length := by omega
            have e0 : decide ((l.length : Int) < (l.length : Int)) = false := decide_eq_false (by omega)
            have hff : Hid (projR ⟨ep, l⟩ = decide (p = 4611686018427387904)) := hid (by rw [hf.out, List.drop_length]; rfl)
            have hbq : (p == 4611686018427387904) = decide (p = 4611686018427387904) := by
              by_cases h : p = 4611686018427387904
              · subst h; rfl
              · rw [decide_eq_false h]; simpa using h
            generalize decide (p = 4611686018427387904) = Q at *
            clear hb
            go_wp2_with fail
            go_ret
            exact ⟨by rw [hff.out]; first | rfl | (rw [← hbq]; rfl) | (simp only [hbq]; rfl), HBW.out⟩
      · have d2 : decide ((64 : Int) < (l.length : Int)) = true := decide_eq_true (by omega)
        have hff : Hid (projR ⟨ep, l⟩ = false) := hid (by rw [hP, decide_eq_false (fun h => h2 h.2 : ¬ (1 ≤ l.length ∧ l.length ≤ 64))]; rfl)
        clear hP h2
        go_enter Tryz.func87, Tryz.ntmps87
        go_wp2_with fail
        refine (HE.out _).mono ?_
        rintro r w1 ⟨rfl, rfl⟩
        go_wp2_with fail
        go_ret
        exact ⟨by rw [hff.out]; rfl, by (repeat (first | exact Below.refl _ _ | assumption | (refine below_alloc ?_ _) | (refine Below.setCell ?_ (by first | omega | (simp; done) | (simp; omega)) _) | (refine Below.drew ?_) | (refine below_drewN ?_ _) | (refine below_then (by assumption) ?_)))⟩
    · have d1 : decide ((l.length : Int) < 1) = true := decide_eq_true (by omega)
      have hff : Hid (projR ⟨ep, l⟩ = false) := hid (by rw [hP, decide_eq_false (fun h => h1 h.1 : ¬ (1 ≤ l.length ∧ l.length ≤ 64))]; rfl)
      clear hP h1
      go_enter Tryz.func87, Tryz.ntmps87
      go_wp2_with fail
      refine (HE.out _).mono ?_
      rintro r w1 ⟨rfl, rfl⟩
      go_wp2_with fail
      go_ret
      exact ⟨by rw [hff.out]; rfl, by (repeat (first | exact Below.refl _ _ | assumption | (refine below_alloc ?_ _) | (refine Below.setCell ?_ (by first | omega | (simp; done) | (simp; omega)) _) | (refine Below.drew ?_) | (refine below_drewN ?_ _) | (refine below_then (by assumption) ?_)))⟩

set_option maxRecDepth 100000 in
set_option maxHeartbeats 6400000 in
theorem ref20_right (ep : Int) (h0 : 0 ≤ ep) (l : List Stripe) (a : Option Addr) (n c : Nat) (w : World) (hl : rStripes.r (· < w.heap.size) w [.slice a n c] l) :
    Calls Tryz.prog 94 #[.agg #[.int .u64 ep, .slice a n c]] w fun r w' => r = .returned (.bool (projR ⟨ep, l⟩)) ∧ Below w.heap.size w w' := by
  obtain ⟨rfl, hm, hcc, hcm⟩ := sl_len hl
  have HL := hid hl
  have HE := hid (fun W : World => ref17_right ep h0 W)
  have hP : projR ⟨ep, l⟩ = (epR ep && (decide (1 ≤ l.length ∧ l.length ≤ 64) && chainP 0 l)) := rfl
  generalize epR ep = E at *
  clear hl
  cases E
  · have hff : Hid (projR ⟨ep, l⟩ = false) := hid (by rw [hP]; rfl)
    clear hP
    go_enter Tryz.func94, Tryz.ntmps94
    go_wp2_with fail
    refine (HE.out _).mono ?_
    rintro r w1 ⟨rfl, rfl⟩
    go_wp2_with fail
    go_ret
    exact ⟨by rw [hff.out]; rfl, by (repeat (first | exact Below.refl _ _ | assumption | (refine below_alloc ?_ _) | (refine Below.setCell ?_ (by first | omega | (simp; done) | (simp; omega)) _) | (refine Below.drew ?_) | (refine below_drewN ?_ _) | (refine below_then (by assumption) ?_)))⟩
  · by_cases h1 : 1 ≤ l.length
    · have d1 : decide ((l.length : Int) < 1) = false := decide_eq_false (by omega)
      by_cases h2 : l.length ≤ 64
      · have d2 : decide ((64 : Int) < (l.length : Int)) = false := decide_eq_false (by omega)
        have hff0 : projR ⟨ep, l⟩ = chainP 0 l := by rw [hP, decide_eq_true (⟨h1, h2⟩ : 1 ≤ l.length ∧ l.length ≤ 64)]; simp
        have hp0 : 0 < l.length := by omega
        obtain ⟨b, o, hA, hbb, _, _, p0, _, _, _, _, _⟩ := stripe_at HL.out hp0
        obtain ⟨m, hmm⟩ : ∃ m, l.length = m + 1 := ⟨l.length - 1, by omega⟩
        have hpm : m < l.length := by omega
        obtain ⟨b', o', hA', hbb', _, _, _, q1, _, _, _, _⟩ := stripe_at HL.out hpm
        rw [hA] at hA'
        simp only [Option.some.injEq, Addr.mk.injEq] at hA'
        obtain ⟨rfl, rfl, _⟩ := hA'
        have HA := hid hA
        have hc0 : chainP 0 l = true → (l[0]'hp0).lo = 0 := fun h => (((chain_iff l 0).1 h).1 0 hp0).2.trans (startP_zero 0 l)
        have hcm' : startP 0 l l.length = (l[m]'hpm).hi := (congrArg (startP 0 l) hmm).trans (startP_succ l 0 m hpm)
        have hcl : chainP 0 l = true → (l[m]'hpm).hi = 4611686018427387904 := fun h => by rw [← hcm']; exact ((chain_iff l 0).1 h).2
        have hok : (∀ i (h : i < l.length), stripeR l[i] = true ∧ l[i].lo = startP 0 l i) → (l[m]'hpm).hi = 4611686018427387904 → chainP 0 l = true := fun h h' => (chain_iff l 0).2 ⟨h, by rw [hcm']; exact h'⟩
        have HOK := hid hok
        have HBAD := hid (fun (k : Nat) (h : k < l.length) (hb : stripeR l[k] = false ∨ l[k].lo ≠ startP 0 l k) => chain_false (p := 0) k h hb)
        have HFF := hid hff0
        simp only [Nat.zero_mul, Nat.add_zero] at p0
        have hnot0 : (l[0]'hp0).lo ≠ 0 → Hid (projR ⟨ep, l⟩ = false) := fun h => hid (by rw [hff0]; exact eq_false_of_ne_true fun e => h (hc0 e))
        have hnotl : (l[m]'hpm).hi ≠ 4611686018427387904 → Hid (projR ⟨ep, l⟩ = false) := fun h => hid (by rw [hff0]; exact eq_false_of_ne_true fun e => h (hcl e))
        have x1 : (w.alloc (.cells #[.int .u64 ep, .slice a l.length c] 30)).cell? ⟨w.heap.size, 1, none⟩ = some (.slice a l.length c) := by simp
        have hb0 : Below w.heap.size w (w.alloc (.cells #[.int .u64 ep, .slice a l.length c] 30)) := by (repeat (first | exact Below.refl _ _ | assumption | (refine below_alloc ?_ _) | (refine Below.setCell ?_ (by first | omega | (simp; done) | (simp; omega)) _) | (refine Below.drew ?_) | (refine below_drewN ?_ _) | (refine below_then (by assumption) ?_)))
        have hs0 : w.heap.size < (w.alloc (.cells #[.int .u64 ep, .slice a l.length c] 30)).heap.size := by simp
        have P0 := (hb0.cell (p := ⟨b, o, none⟩) hbb).trans p0
        have Q1 := (hb0.cell (p := ⟨b, o + m * 3 + 1, none⟩) hbb).trans q1
        generalize hzz : l[0]'hp0 = Z at *
        generalize hyy : (l[m]'hpm).hi = hY at *
        have HM := hid hmm
        have HPP := hid (And.intro hp0 hpm)
        have HLM := hid hcm'
        have hm64 : m ≤ 63 := by omega
        have HZZ := hid hzz
        clear hP hff0 hc0 hcl hcm' hok p0 q1 hzz hyy h1 h2
        subst hA
        have j1 : (0 : Int) ≤ (m : Int) + 1 - 1 := by omega
        rw [hmm] at x1 hb0 hs0 P0 Q1 d1 d2 ⊢
        clear hmm
        by_cases hz0 : Z.lo = 0
        · have e0 : (Z.lo != 0) = false := by simp [hz0]
          by_cases hym : hY = 4611686018427387904
          · have e1 : (hY != 4611686018427387904) = false := by simp [hym]
            have HY := hid hym
            have HZ0 := hid hz0
            clear hz0 hym hnot0 hnotl
            go_enter Tryz.func94, Tryz.ntmps94
            go_wp2_with fail
            refine (HE.out _).mono ?_
            rintro r w1 ⟨rfl, rfl⟩
            go_wp2_with fail
            generalize (w.alloc (.cells #[.int .u64 ep, .slice (some ⟨b, o, none⟩) (m + 1) c] 30)) = w0 at *
            have HB0 := hid hb0
            clear hb0 P0 Q1
            go_loopw [4] (fun i wr => ∃ k : Nat, k ≤ m + 1 ∧ i = .int .i64 k ∧ Hid (∀ i, i < k → ∀ (h : i < l.length), stripeR l[i] = true ∧ l[i].lo = startP 0 l i) ∧ Below w0.heap.size w0 wr) (fun i _ => m + 1 - (intOf i).toNat)
            case atStart => exact ⟨0, Nat.zero_le _, rfl, hid (fun i hi => by omega), Below.refl _ _⟩
            case round =>
              obtain ⟨k, hk, rfl, hf, hb⟩ := hrel
              have HBW := hid (HB0.out.trans (hb.mono HB0.out.size))
              have HB := hid hb
              by_cases hlt : k < m + 1
              · have i1 : (k : Int) < (m : Int) + 1 := by omega
                have e3 : decide ((k : Int) < (m : Int) + 1) = true := decide_eq_true i1
                have hll : k < l.length := by rw [HM.out]; exact hlt
                obtain ⟨b2, o2, hA2, hbb2, ak, ck, u0, u1, u2, ub0, ub1, xl⟩ := stripe_at HL.out hll
                simp only [Option.some.injEq, Addr.mk.injEq, and_true] at hA2
                obtain ⟨rfl, rfl⟩ := hA2
                have hbd := HBAD.out k hll
                have hss : ∀ j, k = j + 1 → ∃ h : j < l.length, startP 0 l k = l[j].hi := fun j e => by subst e; exact ⟨by omega, startP_succ l 0 j (by omega)⟩
                have hs00 : k = 0 → startP 0 l k = 0 := fun e => by subst e; cases l <;> rfl
                have hnx : stripeR l[k] = true → l[k].lo = startP 0 l k → ∀ i, i < k + 1 → ∀ (h : i < l.length), stripeR l[i] = true ∧ l[i].lo = startP 0 l i := fun h1 h2 i hi h => by
                  rcases Nat.lt_or_ge i k with h3 | h3
                  · exact hf.out i h3 h
                  · obtain rfl : i = k := by omega
                    exact ⟨h1, h2⟩
                have HR := hid (fun (s : Later wr) => ref19_right l[k].lo l[k].hi l[k].sets ak _ ck s.at_ (lift (lift xl HBW.out) s.below))
                have W1 := (hb.cell (p := ⟨w.heap.size, 1, none⟩) hs0).trans x1
                have X1 := fun s : Later wr => s.cell W1
                have U0 := fun s : Later wr => s.cell ((HBW.out.cell (p := ⟨b, o + k * 3, none⟩) hbb2).trans u0)
                have U1 := fun s : Later wr => s.cell ((HBW.out.cell (p := ⟨b, o + k * 3 + 1, none⟩) hbb2).trans u1)
                have U2 := fun s : Later wr => s.cell ((HBW.out.cell (p := ⟨b, o + k * 3 + 2, none⟩) hbb2).trans u2)
                have hx0 : k = 0 → l[k].lo = 0 := fun e => by subst e; rw [HZZ.out]; exact HZ0.out
                have HX0 := hid hx0
                have HBD := hid hbd
                have HNX := hid hnx
                clear hb xl u0 u1 u2 ub0 ub1 hbd hnx hx0
                generalize l[k] = X at *
                simp only [show (⟨X.lo, X.hi, X.sets⟩ : Stripe) = X from rfl] at HR
                generalize stripeR X = R at *
                cases R
                · have hff : Hid (projR ⟨ep, l⟩ = false) := hid (by rw [HFF.out]; exact HBD.out (.inl rfl))
                  clear hss hs00
                  go_wp2_with fail
                  refine wp_region_later (by kernel_rfl) (by kernel_rfl) ?_
                  repeat (go_big_quiet_step (((go_at_call 164; exact later_of (HR.out _)))))
                  refine wpQuiet_nil ?_
                  rintro W5 ⟨⟨W5', hb5⟩, rfl⟩
                  go_wp2_with fail
                  go_ret
                  exact ⟨by rw [hff.out]; rfl, below_then hb5 HBW.out⟩
                · rcases k with _ | j
                  · have hff : Hid (∀ i, i < 0 + 1 → ∀ (h : i < l.length), stripeR l[i] = true ∧ l[i].lo = startP 0 l i) := hid (HNX.out rfl ((HX0.out rfl).trans (hs00 rfl).symm))
                    simp only [Nat.zero_mul, Nat.add_zero] at U0 U1 U2
                    clear hss hs00
                    go_wp2_with fail
                    refine wp_region_later (by kernel_rfl) (by kernel_rfl) ?_
                    repeat (go_big_quiet_step (((go_at_call 164; exact later_of (HR.out _)))))
                    refine wpQuiet_nil ?_
                    rintro W5 ⟨⟨W5', hb5⟩, rfl⟩
                    go_wp2_with fail
                    go_roundw
                    case rel => exact ⟨1, by omega, rfl, hff, below_then hb5 HB.out⟩
                    case measure => (simp [intOf]; try omega)
                  · obtain ⟨hj, hsj⟩ := hss j rfl
                    obtain ⟨b3, o3, hA3, hbb3, _, _, _, t1, _, _, _, _⟩ := stripe_at HL.out hj
                    simp only [Option.some.injEq, Addr.mk.injEq, and_true] at hA3
                    obtain ⟨rfl, rfl⟩ := hA3
                    have T1 := fun s : Later wr => s.cell ((HBW.out.cell (p := ⟨b, o + j * 3 + 1, none⟩) hbb3).trans t1)
                    have HSJ := hid hsj
                    clear hss hs00 hsj t1
                    generalize l[j].hi = y at *
                    rw [show ((j + 1 : Nat) : Int) = (j : Int) + 1 from by omega]
                    have k1 : decide ((0 : Int) < (j : Int) + 1) = true := decide_eq_true (by omega)
                    have k2 : (0 : Int) ≤ (j : Int) + 1 - 1 := by omega
                    have k3 : (j : Int) + 1 < (m : Int) + 1 := by omega
                    have k4 : (j : Int) < (m : Int) + 1 := by omega
                    have k5 : decide ((j : Int) + 1 < (m : Int) + 1) = true := decide_eq_true k3
                    by_cases hxy : X.lo = y
                    · have e5 : (X.lo != y) = false := by simp [hxy]
                      have hff : Hid (∀ i, i < j + 1 + 1 → ∀ (h : i < l.length), stripeR l[i] = true ∧ l[i].lo = startP 0 l i) := hid (HNX.out rfl (hxy.trans HSJ.out.symm))
                      clear hxy
                      go_wp2_with fail
                      refine wp_region_later (by kernel_rfl) (by kernel_rfl) ?_
                      repeat (go_big_quiet_step (((go_at_call 164; exact later_of (HR.out _)))))
                      refine wpQuiet_nil ?_
                      rintro W5 ⟨⟨W5', hb5⟩, rfl⟩
                      go_wp2_with fail
                      go_roundw
                      case rel => exact ⟨j + 1 + 1, by omega, by go_num, hff, below_then hb5 HB.out⟩
                      case measure => (simp [intOf]; try omega)
                    · have e5 : (X.lo != y) = true := by simpa using hxy
                      have hff : Hid (projR ⟨ep, l⟩ = false) := hid (by rw [HFF.out]; exact HBD.out (.inr (by rw [HSJ.out]; exact hxy)))
                      clear hxy
                      go_wp2_with fail
                      refine wp_region_later (by kernel_rfl) (by kernel_rfl) ?_
                      repeat (go_big_quiet_step (((go_at_call 164; exact later_of (HR.out _)))))
                      refine wpQuiet_nil ?_
                      rintro W5 ⟨⟨W5', hb5⟩, rfl⟩
                      go_wp2_with fail
                      go_ret
                      exact ⟨by rw [hff.out]; rfl, below_then hb5 HBW.out⟩
              · obtain rfl : k = m + 1 := by omega
                have e3 : decide ((m : Int) + 1 < (m : Int) + 1) = false := decide_eq_false (by omega)
                have hff : Hid (projR ⟨ep, l⟩ = true) := hid (by rw [HFF.out]; exact HOK.out (fun i h => hf.out i (by rw [← HM.out]; exact h) h) HY.out)
                clear hb
                go_wp2_with fail
                go_ret
                exact ⟨by rw [hff.out]; rfl, HBW.out⟩
          · have e1 : (hY != 4611686018427387904) = true := by simpa using hym
            have hff := hnotl hym
            clear hz0 hym hnot0 hnotl
            go_enter Tryz.func94, Tryz.ntmps94
            go_wp2_with fail
            refine (HE.out _).mono ?_
            rintro r w1 ⟨rfl, rfl⟩
            go_wp2_with fail
            go_ret
            exact ⟨by rw [hff.out]; rfl, hb0⟩
        · have e0 : (Z.lo != 0) = true := by simpa using hz0
          have hff := hnot0 hz0
          clear hz0 hnot0 hnotl
          go_enter Tryz.func94, Tryz.ntmps94
          go_wp2_with fail
          refine (HE.out _).mono ?_
          rintro r w1 ⟨rfl, rfl⟩
          go_wp2_with fail
          go_ret
          exact ⟨by rw [hff.out]; rfl, hb0⟩
      · have d2 : decide ((64 : Int) < (l.length : Int)) = true := decide_eq_true (by omega)
        have hff : Hid (projR ⟨ep, l⟩ = false) := hid (by rw [hP, decide_eq_false (fun h => h2 h.2 : ¬ (1 ≤ l.length ∧ l.length ≤ 64))]; rfl)
        clear hP h2
        go_enter Tryz.func94, Tryz.ntmps94
        go_wp2_with fail
        refine (HE.out _).mono ?_
        rintro r w1 ⟨rfl, rfl⟩
        go_wp2_with fail
        go_ret
        exact ⟨by rw [hff.out]; rfl, by (repeat (first | exact Below.refl _ _ | assumption | (refine below_alloc ?_ _) | (refine Below.setCell ?_ (by first | omega | (simp; done) | (simp; omega)) _) | (refine Below.drew ?_) | (refine below_drewN ?_ _) | (refine below_then (by assumption) ?_)))⟩
    · have d1 : decide ((l.length : Int) < 1) = true := decide_eq_true (by omega)
      have hff : Hid (projR ⟨ep, l⟩ = false) := hid (by rw [hP, decide_eq_false (fun h => h1 h.1 : ¬ (1 ≤ l.length ∧ l.length ≤ 64))]; rfl)
      clear hP h1
      go_enter Tryz.func94, Tryz.ntmps94
      go_wp2_with fail
      refine (HE.out _).mono ?_
      rintro r w1 ⟨rfl, rfl⟩
      go_wp2_with fail
      go_ret
      exact ⟨by rw [hff.out]; rfl, by (repeat (first | exact Below.refl _ _ | assumption | (refine below_alloc ?_ _) | (refine Below.setCell ?_ (by first | omega | (simp; done) | (simp; omega)) _) | (refine Below.drew ?_) | (refine below_drewN ?_ _) | (refine below_then (by assumption) ?_)))⟩
end Go.Proofs.YtlbffbkbkajciaaGreat
namespace Go.Proofs.YtlbffbkbkajciaaGreat
open Go.RowKit Go.Bs
set_option linter.unusedVariables false
set_option linter.unusedSimpArgs false

def kT : Array Value := #[.string ⟨#[]⟩, .int .i64 0, .int .i64 0, .string ⟨#[114, 101, 97, 100]⟩, .int .i64 1, .int .i64 9, .string ⟨#[119, 114, 105, 116, 101]⟩, .int .i64 33, .int .i64 10, .string ⟨#[115, 101, 97, 108]⟩, .int .i64 0, .int .i64 11, .string ⟨#[116, 114, 105, 109]⟩, .int .i64 1, .int .i64 10, .string ⟨#[102, 105, 108, 108]⟩, .int .i64 1, .int .i64 10, .string ⟨#[116, 97, 107, 101]⟩, .int .i64 10, .int .i64 12, .string ⟨#[103, 101, 116]⟩, .int .i64 0, .int .i64 13, .string ⟨#[112, 117, 116]⟩, .int .i64 128, .int .i64 10, .string ⟨#[118, 97, 108, 117, 101]⟩, .int .i64 36, .int .i64 0, .string ⟨#[100, 111, 110, 101]⟩, .int .i64 0, .int .i64 0, .string ⟨#[115, 101, 97, 108, 101, 100]⟩, .int .i64 64, .int .i64 0, .string ⟨#[116, 97, 107, 101, 110]⟩, .int .i64 17, .int .i64 0, .string ⟨#[112, 114, 111, 106]⟩, .int .i64 128, .int .i64 0, .string ⟨#[102, 97, 105, 108, 101, 100]⟩, .int .i64 4, .int .i64 0]
def kZ : Array Value := #[.string ⟨#[]⟩, .int .i64 0, .int .i64 0, .string ⟨#[]⟩, .int .i64 0, .int .i64 0, .string ⟨#[]⟩, .int .i64 0, .int .i64 0, .string ⟨#[]⟩, .int .i64 0, .int .i64 0, .string ⟨#[]⟩, .int .i64 0, .int .i64 0, .string ⟨#[]⟩, .int .i64 0, .int .i64 0, .string ⟨#[]⟩, .int .i64 0, .int .i64 0, .string ⟨#[]⟩, .int .i64 0, .int .i64 0, .string ⟨#[]⟩, .int .i64 0, .int .i64 0, .string ⟨#[]⟩, .int .i64 0, .int .i64 0, .string ⟨#[]⟩, .int .i64 0, .int .i64 0, .string ⟨#[]⟩, .int .i64 0, .int .i64 0, .string ⟨#[]⟩, .int .i64 0, .int .i64 0, .string ⟨#[]⟩, .int .i64 0, .int .i64 0, .string ⟨#[]⟩, .int .i64 0, .int .i64 0]
theorem uponk_val {P : Program} {o : Oper} {a : Act} {K : Act → World → Prop} {Q : Exit → Act → World → Prop} {r : Result Next} {v : Value} {w' : World} (h : r = .ok (.value v) w') (hk : K (a.put o.dst v) w') : o.upon P a K Q r := by rw [h]; exact hk
theorem uponk_skp {P : Program} {o : Oper} {a : Act} {K : Act → World → Prop} {Q : Exit → Act → World → Prop} {r : Result Next} {w' : World} (h : r = .ok .skip w') (hk : K (a.put o.dst undef) w') : o.upon P a K Q r := by rw [h]; exact hk

set_option maxRecDepth 100000 in
set_option maxHeartbeats 3200000 in
theorem kind_table (w : World) : Calls Tryz.prog 246 #[] w fun r w' => r = .returned (.agg kT) ∧ Below w.heap.size w w' := by
  go_enter Tryz.func246, Tryz.ntmps246
  go_upto_region 1 with (fail)
  refine wp_region_lit ?_
  generalize hW1 : w.alloc (.cells _ 230) = W1
  have hW2 : W1 = w.alloc (.cells kZ 230) := hW1.symm.trans rfl
  clear hW1
  refine wpList_plain rfl fun K hK => ?_
  unfold Oper.wp
  refine uponk_val (v := (.agg #[.string ⟨#[114, 101, 97, 100]⟩, .int .i64 1, .int .i64 9])) (w' := W1) (by kernel_rfl) ?_
  refine hK _ _ ?_
  clear hK K
  simp only [Act.put, List.setIfInBounds_toArray, List.set_cons_zero, List.set_cons_succ]
  refine wpList_plain rfl fun K hK => ?_
  unfold Oper.wp
  refine uponk_val (v := (.agg #[.string ⟨#[119, 114, 105, 116, 101]⟩, .int .i64 33, .int .i64 10])) (w' := W1) (by kernel_rfl) ?_
  refine hK _ _ ?_
  clear hK K
  simp only [Act.put, List.setIfInBounds_toArray, List.set_cons_zero, List.set_cons_succ]
  refine wpList_plain rfl fun K hK => ?_
  unfold Oper.wp
  refine uponk_val (v := (.agg #[.string ⟨#[115, 101, 97, 108]⟩, .int .i64 0, .int .i64 11])) (w' := W1) (by kernel_rfl) ?_
  refine hK _ _ ?_
  clear hK K
  simp only [Act.put, List.setIfInBounds_toArray, List.set_cons_zero, List.set_cons_succ]
  refine wpList_plain rfl fun K hK => ?_
  unfold Oper.wp
  refine uponk_val (v := (.agg #[.string ⟨#[116, 114, 105, 109]⟩, .int .i64 1, .int .i64 10])) (w' := W1) (by kernel_rfl) ?_
  refine hK _ _ ?_
  clear hK K
  simp only [Act.put, List.setIfInBounds_toArray, List.set_cons_zero, List.set_cons_succ]
  refine wpList_plain rfl fun K hK => ?_
  unfold Oper.wp
  refine uponk_val (v := (.agg #[.string ⟨#[102, 105, 108, 108]⟩, .int .i64 1, .int .i64 10])) (w' := W1) (by kernel_rfl) ?_
  refine hK _ _ ?_
  clear hK K
  simp only [Act.put, List.setIfInBounds_toArray, List.set_cons_zero, List.set_cons_succ]
  refine wpList_plain rfl fun K hK => ?_
  unfold Oper.wp
  refine uponk_val (v := (.agg #[.string ⟨#[116, 97, 107, 101]⟩, .int .i64 10, .int .i64 12])) (w' := W1) (by kernel_rfl) ?_
  refine hK _ _ ?_
  clear hK K
  simp only [Act.put, List.setIfInBounds_toArray, List.set_cons_zero, List.set_cons_succ]
  refine wpList_plain rfl fun K hK => ?_
  unfold Oper.wp
  refine uponk_val (v := (.agg #[.string ⟨#[103, 101, 116]⟩, .int .i64 0, .int .i64 13])) (w' := W1) (by kernel_rfl) ?_
  refine hK _ _ ?_
  clear hK K
  simp only [Act.put, List.setIfInBounds_toArray, List.set_cons_zero, List.set_cons_succ]
  refine wpList_plain rfl fun K hK => ?_
  unfold Oper.wp
  refine uponk_val (v := (.agg #[.string ⟨#[112, 117, 116]⟩, .int .i64 128, .int .i64 10])) (w' := W1) (by kernel_rfl) ?_
  refine hK _ _ ?_
  clear hK K
  simp only [Act.put, List.setIfInBounds_toArray, List.set_cons_zero, List.set_cons_succ]
  refine wpList_plain rfl fun K hK => ?_
  unfold Oper.wp
  refine uponk_val (v := (.agg #[.string ⟨#[118, 97, 108, 117, 101]⟩, .int .i64 36, .int .i64 0])) (w' := W1) (by kernel_rfl) ?_
  refine hK _ _ ?_
  clear hK K
  simp only [Act.put, List.setIfInBounds_toArray, List.set_cons_zero, List.set_cons_succ]
  refine wpList_plain rfl fun K hK => ?_
  unfold Oper.wp
  refine uponk_val (v := (.agg #[.string ⟨#[100, 111, 110, 101]⟩, .int .i64 0, .int .i64 0])) (w' := W1) (by kernel_rfl) ?_
  refine hK _ _ ?_
  clear hK K
  simp only [Act.put, List.setIfInBounds_toArray, List.set_cons_zero, List.set_cons_succ]
  refine wpList_plain rfl fun K hK => ?_
  unfold Oper.wp
  refine uponk_val (v := (.agg #[.string ⟨#[115, 101, 97, 108, 101, 100]⟩, .int .i64 64, .int .i64 0])) (w' := W1) (by kernel_rfl) ?_
  refine hK _ _ ?_
  clear hK K
  simp only [Act.put, List.setIfInBounds_toArray, List.set_cons_zero, List.set_cons_succ]
  refine wpList_plain rfl fun K hK => ?_
  unfold Oper.wp
  refine uponk_val (v := (.agg #[.string ⟨#[116, 97, 107, 101, 110]⟩, .int .i64 17, .int .i64 0])) (w' := W1) (by kernel_rfl) ?_
  refine hK _ _ ?_
  clear hK K
  simp only [Act.put, List.setIfInBounds_toArray, List.set_cons_zero, List.set_cons_succ]
  refine wpList_plain rfl fun K hK => ?_
  unfold Oper.wp
  refine uponk_val (v := (.agg #[.string ⟨#[112, 114, 111, 106]⟩, .int .i64 128, .int .i64 0])) (w' := W1) (by kernel_rfl) ?_
  refine hK _ _ ?_
  clear hK K
  simp only [Act.put, List.setIfInBounds_toArray, List.set_cons_zero, List.set_cons_succ]
  refine wpList_plain rfl fun K hK => ?_
  unfold Oper.wp
  refine uponk_val (v := (.agg #[.string ⟨#[102, 97, 105, 108, 101, 100]⟩, .int .i64 4, .int .i64 0])) (w' := W1) (by kernel_rfl) ?_
  refine hK _ _ ?_
  clear hK K
  simp only [Act.put, List.setIfInBounds_toArray, List.set_cons_zero, List.set_cons_succ]
  refine wpList_plain rfl fun K hK => ?_
  unfold Oper.wp
  refine uponk_val (v := .agg kT) (w' := W1) (by kernel_rfl) ?_
  subst hW2
  refine hK _ _ ?_
  clear hK K
  simp only [Act.put, List.setIfInBounds_toArray, List.set_cons_zero, List.set_cons_succ]
  have h := run_storeAt_new (P := Tryz.prog) w 230 kZ kT (by kernel_rfl) (by rfl) (by kernel_rfl)
  have hld := run_loadVar_new (P := Tryz.prog) w 230 kT 15 202 Tryz.underlying230 (by kernel_rfl)
  generalize hS : kT = S at *
  generalize kZ = Z at *
  have HS := hid hS
  clear hS
  refine wpList_plain rfl fun K hK => ?_
  unfold Oper.wp
  refine uponk_skp (w' := w.alloc (.cells S 230)) ?_ ?_
  · simp only [execOp, Act.eval, Act.put, Sem.run_bind]
    change (Sem.run Tryz.prog (Instr.storeAt 230 (.pointer (some ⟨w.heap.size, 0, none⟩)) (.agg S)) (w.alloc (.cells Z 230))).andThen _ = _
    rw [h]
    rfl
  refine hK _ _ ?_
  clear hK K
  (try simp only [Act.put, List.setIfInBounds_toArray, List.set_cons_zero, List.set_cons_succ])
  refine wpList_nil ?_
  go_wp2_with fail
  refine bodyPost_ret (v := .agg S) ?_ rfl ⟨by rw [HS.out], by (repeat (first | exact Below.refl _ _ | assumption | (refine below_alloc ?_ _) | (refine Below.setCell ?_ (by first | omega | (simp; done) | (simp; omega)) _) | (refine Below.drew ?_) | (refine below_drewN ?_ _) | (refine below_then (by assumption) ?_)))⟩
  simp [results, Tryz.results246, hld, Act.put, asAddr, Result.andThen]

/-- The row of a kind. -/
def kRow (c : Nat) : Value := match c with
  | 0 => .agg #[.string ⟨#[]⟩, .int .i64 0, .int .i64 0]
  | 1 => .agg #[.string ⟨#[114, 101, 97, 100]⟩, .int .i64 1, .int .i64 9]
  | 2 => .agg #[.string ⟨#[119, 114, 105, 116, 101]⟩, .int .i64 33, .int .i64 10]
  | 3 => .agg #[.string ⟨#[115, 101, 97, 108]⟩, .int .i64 0, .int .i64 11]
  | 4 => .agg #[.string ⟨#[116, 114, 105, 109]⟩, .int .i64 1, .int .i64 10]
  | 5 => .agg #[.string ⟨#[102, 105, 108, 108]⟩, .int .i64 1, .int .i64 10]
  | 6 => .agg #[.string ⟨#[116, 97, 107, 101]⟩, .int .i64 10, .int .i64 12]
  | 7 => .agg #[.string ⟨#[103, 101, 116]⟩, .int .i64 0, .int .i64 13]
  | 8 => .agg #[.string ⟨#[112, 117, 116]⟩, .int .i64 128, .int .i64 10]
  | 9 => .agg #[.string ⟨#[118, 97, 108, 117, 101]⟩, .int .i64 36, .int .i64 0]
  | 10 => .agg #[.string ⟨#[100, 111, 110, 101]⟩, .int .i64 0, .int .i64 0]
  | 11 => .agg #[.string ⟨#[115, 101, 97, 108, 101, 100]⟩, .int .i64 64, .int .i64 0]
  | 12 => .agg #[.string ⟨#[116, 97, 107, 101, 110]⟩, .int .i64 17, .int .i64 0]
  | 13 => .agg #[.string ⟨#[112, 114, 111, 106]⟩, .int .i64 128, .int .i64 0]
  | 14 => .agg #[.string ⟨#[102, 97, 105, 108, 101, 100]⟩, .int .i64 4, .int .i64 0]
  | _ => .nilFunc
theorem kRow_is : ∀ c : Nat, c < 15 → ∃ s a, kRow c = .agg #[.string s, .int .i64 ((partsK (c : Int) : Nat) : Int), .int .i64 a]
  | 0, _ => ⟨_, _, rfl⟩
  | 1, _ => ⟨_, _, rfl⟩
  | 2, _ => ⟨_, _, rfl⟩
  | 3, _ => ⟨_, _, rfl⟩
  | 4, _ => ⟨_, _, rfl⟩
  | 5, _ => ⟨_, _, rfl⟩
  | 6, _ => ⟨_, _, rfl⟩
  | 7, _ => ⟨_, _, rfl⟩
  | 8, _ => ⟨_, _, rfl⟩
  | 9, _ => ⟨_, _, rfl⟩
  | 10, _ => ⟨_, _, rfl⟩
  | 11, _ => ⟨_, _, rfl⟩
  | 12, _ => ⟨_, _, rfl⟩
  | 13, _ => ⟨_, _, rfl⟩
  | 14, _ => ⟨_, _, rfl⟩
  | n + 15, h => absurd h (by omega)
theorem kind_ix (W : World) : ∀ c : Nat, c < 15 → (Instr.index 230 (.agg kT) (.int .i64 (c : Int))).run Tryz.prog W = .ok (kRow c) W
  | 0, _ => by kernel_rfl
  | 1, _ => by kernel_rfl
  | 2, _ => by kernel_rfl
  | 3, _ => by kernel_rfl
  | 4, _ => by kernel_rfl
  | 5, _ => by kernel_rfl
  | 6, _ => by kernel_rfl
  | 7, _ => by kernel_rfl
  | 8, _ => by kernel_rfl
  | 9, _ => by kernel_rfl
  | 10, _ => by kernel_rfl
  | 11, _ => by kernel_rfl
  | 12, _ => by kernel_rfl
  | 13, _ => by kernel_rfl
  | 14, _ => by kernel_rfl
  | n + 15, h => absurd h (by omega)

set_option maxRecDepth 100000 in
set_option maxHeartbeats 1600000 in
theorem kind_right (k : Int) (w : World) : Calls Tryz.prog 80 #[.int .i64 k] w fun r w' => r = .returned (.bool (decide (1 ≤ k ∧ k ≤ 14))) ∧ w = w' := by
  by_cases h0 : 1 ≤ k
  · by_cases h1 : k ≤ 14
    · have d1 : decide ((1 : Int) ≤ k) = true := decide_eq_true h0
      have d2 : decide (k ≤ 14) = true := decide_eq_true h1
      rw [decide_eq_true (⟨h0, h1⟩ : 1 ≤ k ∧ k ≤ 14)]
      go_enter Tryz.func80, Tryz.ntmps80
      go_wp2
      go_ret
      exact ⟨rfl, rfl⟩
    · have d1 : decide ((1 : Int) ≤ k) = true := decide_eq_true h0
      have d2 : decide (k ≤ 14) = false := decide_eq_false h1
      rw [decide_eq_false (fun h => h1 h.2 : ¬ (1 ≤ k ∧ k ≤ 14))]
      go_enter Tryz.func80, Tryz.ntmps80
      go_wp2
      go_ret
      exact ⟨rfl, rfl⟩
  · have d1 : decide ((1 : Int) ≤ k) = false := decide_eq_false h0
    rw [decide_eq_false (fun h => h0 h.1 : ¬ (1 ≤ k ∧ k ≤ 14))]
    go_enter Tryz.func80, Tryz.ntmps80
    go_wp2
    go_ret
    exact ⟨rfl, rfl⟩

set_option maxRecDepth 100000 in
set_option maxHeartbeats 1600000 in
theorem kind_of (k : Int) (w : World) : Calls Tryz.prog 214 #[.int .i64 k] w fun r w' => (∃ s a, r = .returned (.agg #[.string s, .int .i64 ((partsK k : Nat) : Int), .int .i64 a])) ∧ Below w.heap.size w w' := by
  have HR := hid (fun (W : World) => kind_right k W)
  have HW := hid kind_table
  by_cases h : 1 ≤ k ∧ k ≤ 14
  · obtain ⟨c, rfl⟩ : ∃ c : Nat, k = c := ⟨k.toNat, by omega⟩
    rw [decide_eq_true h] at HR
    have hix := fun W => kind_ix W c (by omega)
    obtain ⟨s, a, hrow⟩ := kRow_is c (by omega)
    simp only [hrow] at hix
    generalize partsK (c : Int) = q at *
    generalize kT = S at *
    clear h hrow
    go_enter Tryz.func214, Tryz.ntmps214
    go_wp2_with fail
    refine (HR.out _).mono ?_
    rintro r w1 ⟨rfl, rfl⟩
    go_wp2_with fail
    refine (HW.out _).mono ?_
    rintro r w1 ⟨rfl, hb1⟩
    have hs1 := hb1.size
    have lt1 : w.heap.size < w1.heap.size := by simp at hs1; omega
    have x0 := hb1.cell (p := ⟨w.heap.size, 0, none⟩) (by simp)
    have x1 := hb1.cell (p := ⟨w.heap.size, 1, none⟩) (by simp)
    have x2 := hb1.cell (p := ⟨w.heap.size, 2, none⟩) (by simp)
    have f0 := hb1.frozen (p := ⟨w.heap.size, 0, none⟩) (by simp)
    have f1 := hb1.frozen (p := ⟨w.heap.size, 1, none⟩) (by simp)
    have f2 := hb1.frozen (p := ⟨w.heap.size, 2, none⟩) (by simp)
    simp at x0 x1 x2 f0 f1 f2
    have HB1 := hid hb1
    clear hb1 hs1
    go_wp2_with fail
    refine bodyPost_ret (v := .agg #[.string s, .int .i64 ((q : Nat) : Int), .int .i64 a]) (by simp [results, Tryz.results214, go_sem, lt1, x0, x1, x2]) rfl ⟨⟨s, a, rfl⟩, ?_⟩
    have := HB1.out.mono (show w.heap.size ≤ _ from by simp)
    exact (((((Below.refl w.heap.size w).alloc (Nat.le_refl _) _).trans this).setCell (Nat.le_refl _) _).setCell (Nat.le_refl _) _).setCell (Nat.le_refl _) _
  · rw [decide_eq_false h] at HR
    have hq : Hid (partsK k = 0) := hid (by unfold partsK; rw [if_pos (by omega)])
    clear h
    go_enter Tryz.func214, Tryz.ntmps214
    go_wp2_with fail
    refine (HR.out _).mono ?_
    rintro r w1 ⟨rfl, rfl⟩
    go_wp2_with fail
    refine bodyPost_ret (v := .agg #[.string (⟨#[]⟩ : ByteArray), .int .i64 0, .int .i64 0]) (by simp [results, Tryz.results214, go_sem]) rfl ⟨⟨(⟨#[]⟩ : ByteArray), 0, by rw [hq.out]; rfl⟩, by (repeat (first | exact Below.refl _ _ | assumption | (refine below_alloc ?_ _) | (refine Below.setCell ?_ (by first | omega | (simp; done) | (simp; omega)) _) | (refine Below.drew ?_) | (refine below_drewN ?_ _) | (refine below_then (by assumption) ?_)))⟩

theorem kind_fld (W : World) (s : ByteArray) (q a : Int) : (Instr.field 202 (.agg #[.string s, .int .i64 q, .int .i64 a]) 1).run Tryz.prog W = .ok (.int .i64 q) W := by kernel_rfl
theorem line_fld (W : World) (s : ByteArray) (q a : Int) : (Instr.field 208 (.agg #[.string s, .int .i64 q, .int .i64 a]) 1).run Tryz.prog W = .ok (.int .i64 q) W := by kernel_rfl
set_option maxRecDepth 100000 in
set_option maxHeartbeats 1600000 in
theorem kind_parts (k : Int) (w : World) : Calls Tryz.prog 145 #[.int .i64 k] w fun r w' => r = .returned (.int .i64 ((partsK k : Nat) : Int)) ∧ Below w.heap.size w w' := by
  have HO := hid (fun (W : World) => kind_of k W)
  generalize partsK k = q at *
  go_enter Tryz.func145, Tryz.ntmps145
  go_wp2_with fail
  refine (HO.out _).mono ?_
  rintro r w1 ⟨⟨s, a, rfl⟩, hb1⟩
  have hfd := fun (W : World) => kind_fld W s ((q : Nat) : Int) a
  go_wp2_with fail
  go_ret
  exact ⟨rfl, hb1⟩

theorem partsK_small (k : Int) : partsK k ≤ 128 := by
  have := partsK_mem k
  simp at this
  omega
/-- A part's bit. -/
def isPart (p : Nat) : Prop := p ∈ [1, 2, 4, 8, 16, 32, 64, 128]
theorem part_bit : ∀ q ∈ [0, 1, 33, 10, 128, 36, 64, 17, 4], ∀ p ∈ [1, 2, 4, 8, 16, 32, 64, 128], (bits .and .i64 ((q : Nat) : Int) ((p : Nat) : Int) != 0) = (q / p % 2 == 1) ∧ bits .and .i64 ((p : Nat) : Int) ((p : Nat) - 1 : Int) = 0 := by decide +kernel
theorem part_in {p : Nat} (h : isPart p) : 0 < p ∧ p ≤ 128 := by
  simp [isPart] at h; omega

set_option maxRecDepth 100000 in
set_option maxHeartbeats 1600000 in
theorem kind_has (k : Int) (p : Nat) (hp : isPart p) (w : World) : Calls Tryz.prog 62 #[.int .i64 k, .int .i64 (p : Int)] w fun r w' => r = .returned (.bool (hasK k p)) ∧ Below w.heap.size w w' := by
  have HP := hid (fun (W : World) => kind_parts k W)
  obtain ⟨hb1, hb2⟩ := part_bit _ (partsK_mem k) _ hp
  have hpi := part_in hp
  have d1 : decide ((0 : Int) < (p : Int)) = true := decide_eq_true (by omega)
  have d2 : decide ((p : Int) ≤ 128) = true := decide_eq_true (by omega)
  have w1 : 0 ≤ (p : Int) - 1 := by omega
  have HH : Hid (hasK k p = (bits .and .i64 ((partsK k : Nat) : Int) (p : Int) != 0)) := hid hb1.symm
  generalize hasK k p = hh at *
  generalize partsK k = q at *
  obtain ⟨x, hx⟩ : ∃ x, bits .and .i64 ((q : Nat) : Int) (p : Int) = x := ⟨_, rfl⟩
  rw [hx] at HH
  have d3 : (bits .and .i64 (p : Int) ((p : Int) - 1) == 0) = true := by rw [hb2]; rfl
  clear hb1 hp
  go_enter Tryz.func62, Tryz.ntmps62
  go_wp2_with fail
  refine (HP.out _).mono ?_
  rintro r w1 ⟨rfl, hb1⟩
  go_wp2_with fail
  go_ret
  exact ⟨by rw [HH.out]; rfl, hb1⟩


def lT : Array Value := #[.string ⟨#[114, 101, 97, 100]⟩, .int .i64 1, .int .i64 9, .string ⟨#[119, 114, 105, 116, 101]⟩, .int .i64 33, .int .i64 10, .string ⟨#[115, 101, 97, 108]⟩, .int .i64 0, .int .i64 11, .string ⟨#[116, 114, 105, 109]⟩, .int .i64 1, .int .i64 10, .string ⟨#[102, 105, 108, 108]⟩, .int .i64 1, .int .i64 10, .string ⟨#[116, 97, 107, 101]⟩, .int .i64 10, .int .i64 12, .string ⟨#[103, 101, 116]⟩, .int .i64 0, .int .i64 13, .string ⟨#[112, 117, 116]⟩, .int .i64 128, .int .i64 10, .string ⟨#[118, 97, 108, 117, 101]⟩, .int .i64 36, .int .i64 0, .string ⟨#[100, 111, 110, 101]⟩, .int .i64 0, .int .i64 0, .string ⟨#[115, 101, 97, 108, 101, 100]⟩, .int .i64 64, .int .i64 0, .string ⟨#[116, 97, 107, 101, 110]⟩, .int .i64 17, .int .i64 0, .string ⟨#[112, 114, 111, 106]⟩, .int .i64 128, .int .i64 0, .string ⟨#[102, 97, 105, 108, 101, 100]⟩, .int .i64 4, .int .i64 0]
theorem lT_get : ∀ c : Nat, c < 14 → ∃ s a, lT[c * 3]? = some (.string s) ∧ lT[c * 3 + 1]? = some (.int .i64 ((partsK ((c : Int) + 1) : Nat) : Int)) ∧ lT[c * 3 + 2]? = some (.int .i64 a)
  | 0, _ => ⟨_, _, rfl, rfl, rfl⟩
  | 1, _ => ⟨_, _, rfl, rfl, rfl⟩
  | 2, _ => ⟨_, _, rfl, rfl, rfl⟩
  | 3, _ => ⟨_, _, rfl, rfl, rfl⟩
  | 4, _ => ⟨_, _, rfl, rfl, rfl⟩
  | 5, _ => ⟨_, _, rfl, rfl, rfl⟩
  | 6, _ => ⟨_, _, rfl, rfl, rfl⟩
  | 7, _ => ⟨_, _, rfl, rfl, rfl⟩
  | 8, _ => ⟨_, _, rfl, rfl, rfl⟩
  | 9, _ => ⟨_, _, rfl, rfl, rfl⟩
  | 10, _ => ⟨_, _, rfl, rfl, rfl⟩
  | 11, _ => ⟨_, _, rfl, rfl, rfl⟩
  | 12, _ => ⟨_, _, rfl, rfl, rfl⟩
  | 13, _ => ⟨_, _, rfl, rfl, rfl⟩
  | n + 14, h => absurd h (by omega)

set_option maxRecDepth 100000 in
set_option maxHeartbeats 1600000 in
theorem ref27_of (k : Int) (w : World) : Calls Tryz.prog 220 #[.int .i64 k] w fun r w' => (∃ s a, r = .returned (.agg #[.string s, .int .i64 ((partsK k : Nat) : Int), .int .i64 a])) ∧ Below w.heap.size w w' := by
  go_enter Tryz.func220, Tryz.ntmps220
  go_upto_region 1 with (fail)
  refine wp_region_lit ?_
  generalize hW1 : w.alloc (.cells _ 208) = W1
  have HW1 := hid hW1
  clear hW1
  refine wpList_plain rfl fun K hK => ?_
  unfold Oper.wp
  refine uponk_val (v := (.agg #[.string ⟨#[114, 101, 97, 100]⟩, .int .i64 1, .int .i64 9])) (w' := W1) (by kernel_rfl) ?_
  refine hK _ _ ?_
  clear hK K
  simp only [Act.put, List.setIfInBounds_toArray, List.set_cons_zero, List.set_cons_succ]
  refine wpList_plain rfl fun K hK => ?_
  unfold Oper.wp
  refine uponk_val (v := (.agg #[.string ⟨#[119, 114, 105, 116, 101]⟩, .int .i64 33, .int .i64 10])) (w' := W1) (by kernel_rfl) ?_
  refine hK _ _ ?_
  clear hK K
  simp only [Act.put, List.setIfInBounds_toArray, List.set_cons_zero, List.set_cons_succ]
  refine wpList_plain rfl fun K hK => ?_
  unfold Oper.wp
  refine uponk_val (v := (.agg #[.string ⟨#[115, 101, 97, 108]⟩, .int .i64 0, .int .i64 11])) (w' := W1) (by kernel_rfl) ?_
  refine hK _ _ ?_
  clear hK K
  simp only [Act.put, List.setIfInBounds_toArray, List.set_cons_zero, List.set_cons_succ]
  refine wpList_plain rfl fun K hK => ?_
  unfold Oper.wp
  refine uponk_val (v := (.agg #[.string ⟨#[116, 114, 105, 109]⟩, .int .i64 1, .int .i64 10])) (w' := W1) (by kernel_rfl) ?_
  refine hK _ _ ?_
  clear hK K
  simp only [Act.put, List.setIfInBounds_toArray, List.set_cons_zero, List.set_cons_succ]
  refine wpList_plain rfl fun K hK => ?_
  unfold Oper.wp
  refine uponk_val (v := (.agg #[.string ⟨#[102, 105, 108, 108]⟩, .int .i64 1, .int .i64 10])) (w' := W1) (by kernel_rfl) ?_
  refine hK _ _ ?_
  clear hK K
  simp only [Act.put, List.setIfInBounds_toArray, List.set_cons_zero, List.set_cons_succ]
  refine wpList_plain rfl fun K hK => ?_
  unfold Oper.wp
  refine uponk_val (v := (.agg #[.string ⟨#[116, 97, 107, 101]⟩, .int .i64 10, .int .i64 12])) (w' := W1) (by kernel_rfl) ?_
  refine hK _ _ ?_
  clear hK K
  simp only [Act.put, List.setIfInBounds_toArray, List.set_cons_zero, List.set_cons_succ]
  refine wpList_plain rfl fun K hK => ?_
  unfold Oper.wp
  refine uponk_val (v := (.agg #[.string ⟨#[103, 101, 116]⟩, .int .i64 0, .int .i64 13])) (w' := W1) (by kernel_rfl) ?_
  refine hK _ _ ?_
  clear hK K
  simp only [Act.put, List.setIfInBounds_toArray, List.set_cons_zero, List.set_cons_succ]
  refine wpList_plain rfl fun K hK => ?_
  unfold Oper.wp
  refine uponk_val (v := (.agg #[.string ⟨#[112, 117, 116]⟩, .int .i64 128, .int .i64 10])) (w' := W1) (by kernel_rfl) ?_
  refine hK _ _ ?_
  clear hK K
  simp only [Act.put, List.setIfInBounds_toArray, List.set_cons_zero, List.set_cons_succ]
  refine wpList_plain rfl fun K hK => ?_
  unfold Oper.wp
  refine uponk_val (v := (.agg #[.string ⟨#[118, 97, 108, 117, 101]⟩, .int .i64 36, .int .i64 0])) (w' := W1) (by kernel_rfl) ?_
  refine hK _ _ ?_
  clear hK K
  simp only [Act.put, List.setIfInBounds_toArray, List.set_cons_zero, List.set_cons_succ]
  refine wpList_plain rfl fun K hK => ?_
  unfold Oper.wp
  refine uponk_val (v := (.agg #[.string ⟨#[100, 111, 110, 101]⟩, .int .i64 0, .int .i64 0])) (w' := W1) (by kernel_rfl) ?_
  refine hK _ _ ?_
  clear hK K
  simp only [Act.put, List.setIfInBounds_toArray, List.set_cons_zero, List.set_cons_succ]
  refine wpList_plain rfl fun K hK => ?_
  unfold Oper.wp
  refine uponk_val (v := (.agg #[.string ⟨#[115, 101, 97, 108, 101, 100]⟩, .int .i64 64, .int .i64 0])) (w' := W1) (by kernel_rfl) ?_
  refine hK _ _ ?_
  clear hK K
  simp only [Act.put, List.setIfInBounds_toArray, List.set_cons_zero, List.set_cons_succ]
  refine wpList_plain rfl fun K hK => ?_
  unfold Oper.wp
  refine uponk_val (v := (.agg #[.string ⟨#[116, 97, 107, 101, 110]⟩, .int .i64 17, .int .i64 0])) (w' := W1) (by kernel_rfl) ?_
  refine hK _ _ ?_
  clear hK K
  simp only [Act.put, List.setIfInBounds_toArray, List.set_cons_zero, List.set_cons_succ]
  refine wpList_plain rfl fun K hK => ?_
  unfold Oper.wp
  refine uponk_val (v := (.agg #[.string ⟨#[112, 114, 111, 106]⟩, .int .i64 128, .int .i64 0])) (w' := W1) (by kernel_rfl) ?_
  refine hK _ _ ?_
  clear hK K
  simp only [Act.put, List.setIfInBounds_toArray, List.set_cons_zero, List.set_cons_succ]
  refine wpList_plain rfl fun K hK => ?_
  unfold Oper.wp
  refine uponk_val (v := (.agg #[.string ⟨#[102, 97, 105, 108, 101, 100]⟩, .int .i64 4, .int .i64 0])) (w' := W1) (by kernel_rfl) ?_
  refine hK _ _ ?_
  clear hK K
  simp only [Act.put, List.setIfInBounds_toArray, List.set_cons_zero, List.set_cons_succ]
  refine wpList_plain rfl fun K hK => ?_
  unfold Oper.wp
  refine uponk_val (v := .slice (some ⟨W1.heap.size, 0, none⟩) 14 14) (w' := W1.alloc (.cells lT 208)) (by kernel_rfl) ?_
  refine hK _ _ ?_
  clear hK K
  simp only [Act.put, List.setIfInBounds_toArray, List.set_cons_zero, List.set_cons_succ]
  refine wpList_plain rfl fun K hK => ?_
  unfold Oper.wp
  refine uponk_val (v := .slice (some ⟨W1.heap.size, 0, none⟩) 14 14) (w' := W1.alloc (.cells lT 208)) (by kernel_rfl) ?_
  refine hK _ _ ?_
  clear hK K
  simp only [Act.put, List.setIfInBounds_toArray, List.set_cons_zero, List.set_cons_succ]
  refine wpList_nil ?_
  have hbl : Blk (W1.alloc (.cells lT 208)) W1.heap.size 208 lT := Blk.new _ _ _
  have hs : W1.heap.size = w.heap.size + 1 := by rw [← HW1.out]; simp
  have z0 : W1.cell? ⟨w.heap.size, 0, none⟩ = some (.string ⟨#[]⟩) := by rw [← HW1.out]; simp
  have z1 : W1.cell? ⟨w.heap.size, 1, none⟩ = some (.int .i64 0) := by rw [← HW1.out]; simp
  have z2 : W1.cell? ⟨w.heap.size, 2, none⟩ = some (.int .i64 0) := by rw [← HW1.out]; simp
  have y0 : W1.frozen? ⟨w.heap.size, 0, none⟩ = false := by rw [← HW1.out]; simp
  have y1 : W1.frozen? ⟨w.heap.size, 1, none⟩ = false := by rw [← HW1.out]; simp
  have y2 : W1.frozen? ⟨w.heap.size, 2, none⟩ = false := by rw [← HW1.out]; simp
  have hbw : Below w.heap.size w W1 := by rw [← HW1.out]; (repeat (first | exact Below.refl _ _ | assumption | (refine below_alloc ?_ _) | (refine Below.setCell ?_ (by first | omega | (simp; done) | (simp; omega)) _) | (refine Below.drew ?_) | (refine below_drewN ?_ _) | (refine below_then (by assumption) ?_)))
  have hba : Below W1.heap.size W1 (W1.alloc (.cells lT 208)) := by (repeat (first | exact Below.refl _ _ | assumption | (refine below_alloc ?_ _) | (refine Below.setCell ?_ (by first | omega | (simp; done) | (simp; omega)) _) | (refine Below.drew ?_) | (refine below_drewN ?_ _) | (refine below_then (by assumption) ?_)))
  have x0 := (hba.cell (p := ⟨w.heap.size, 0, none⟩) (by dsimp only; omega)).trans z0
  have x1 := (hba.cell (p := ⟨w.heap.size, 1, none⟩) (by dsimp only; omega)).trans z1
  have x2 := (hba.cell (p := ⟨w.heap.size, 2, none⟩) (by dsimp only; omega)).trans z2
  have f0 := (hba.frozen (p := ⟨w.heap.size, 0, none⟩) (by dsimp only; omega)).trans y0
  have f1 := (hba.frozen (p := ⟨w.heap.size, 1, none⟩) (by dsimp only; omega)).trans y1
  have f2 := (hba.frozen (p := ⟨w.heap.size, 2, none⟩) (by dsimp only; omega)).trans y2
  have HB := hid (hbw.trans (hba.mono (by omega)))
  have hcell := fun c (h : c < 14) => (by
    obtain ⟨s, a, g0, g1, g2⟩ := lT_get c h
    exact ⟨s, a, (hbl.cell _).trans g0, (hbl.cell _).trans g1, (hbl.cell _).trans g2⟩ : ∃ s a, (W1.alloc (.cells lT 208)).cell? ⟨W1.heap.size, c * 3, none⟩ = some (.string s) ∧ (W1.alloc (.cells lT 208)).cell? ⟨W1.heap.size, c * 3 + 1, none⟩ = some (.int .i64 ((partsK ((c : Int) + 1) : Nat) : Int)) ∧ (W1.alloc (.cells lT 208)).cell? ⟨W1.heap.size, c * 3 + 2, none⟩ = some (.int .i64 a))
  have HC := hid hcell
  have hsz : W1.heap.size < (W1.alloc (.cells lT 208)).heap.size := by simp
  generalize W1.alloc (.cells lT 208) = W2 at *
  generalize W1.heap.size = g at *
  clear hcell hbl z0 z1 z2 y0 y1 y2 hbw hba HW1 W1
  have lt2 : w.heap.size < W2.heap.size := by omega
  have gne : g ≠ w.heap.size := by omega
  clear hs
  by_cases h : 1 ≤ k ∧ k ≤ 14
  · obtain ⟨c, rfl⟩ : ∃ c : Nat, k = (c : Int) + 1 := ⟨(k - 1).toNat, by omega⟩
    obtain ⟨s, a, g0, g1, g2⟩ := HC.out c (by omega)
    obtain ⟨q, hq⟩ : ∃ q, partsK ((c : Int) + 1) = q := ⟨_, rfl⟩
    rw [hq] at g1
    have HQ := hid hq
    clear hq
    have d1 : decide ((c : Int) + 1 < 1) = false := decide_eq_false (by omega)
    have d2 : decide ((14 : Int) < (c : Int) + 1) = false := decide_eq_false (by omega)
    have w1 : 0 ≤ (c : Int) + 1 - 1 := by omega
    have i1 : (c : Int) < 14 := by omega
    clear h
    go_wp2_with fail
    refine bodyPost_ret (v := .agg #[.string s, .int .i64 ((q : Nat) : Int), .int .i64 a]) (by simp [results, Tryz.results220, go_sem, lt2, x0, x1, x2]) rfl ⟨⟨s, a, by rw [HQ.out]⟩, ?_⟩
    exact ((HB.out.setCell (Nat.le_refl _) _).setCell (Nat.le_refl _) _).setCell (Nat.le_refl _) _
  · have hq : Hid (partsK k = 0) := hid (by unfold partsK; rw [if_pos (by omega)])
    by_cases h1 : k < 1
    · have d1 : decide (k < 1) = true := decide_eq_true h1
      clear h h1
      go_wp2_with fail
      refine bodyPost_ret (v := .agg #[.string (⟨#[]⟩ : ByteArray), .int .i64 0, .int .i64 0]) (by simp [results, Tryz.results220, go_sem, lt2, x0, x1, x2]) rfl ⟨⟨(⟨#[]⟩ : ByteArray), 0, by rw [hq.out]; rfl⟩, ?_⟩
      exact ((HB.out.setCell (Nat.le_refl _) _).setCell (Nat.le_refl _) _).setCell (Nat.le_refl _) _
    · have d1 : decide (k < 1) = false := decide_eq_false h1
      have d2 : decide ((14 : Int) < k) = true := decide_eq_true (by omega)
      clear h h1
      go_wp2_with fail
      refine bodyPost_ret (v := .agg #[.string (⟨#[]⟩ : ByteArray), .int .i64 0, .int .i64 0]) (by simp [results, Tryz.results220, go_sem, lt2, x0, x1, x2]) rfl ⟨⟨(⟨#[]⟩ : ByteArray), 0, by rw [hq.out]; rfl⟩, ?_⟩
      exact ((HB.out.setCell (Nat.le_refl _) _).setCell (Nat.le_refl _) _).setCell (Nat.le_refl _) _

set_option maxRecDepth 100000 in
set_option maxHeartbeats 1600000 in
theorem ref27_has (k : Int) (p : Nat) (hp : isPart p) (w : World) : Calls Tryz.prog 162 #[.int .i64 k, .int .i64 (p : Int)] w fun r w' => r = .returned (.bool (hasK k p)) ∧ Below w.heap.size w w' := by
  have HO := hid (fun (W : World) => ref27_of k W)
  have hkk : hasK k p = (partsK k / p % 2 == 1) := rfl
  have hqs := partsK_small k
  have hpi := part_in hp
  have hpp : p = 1 ∨ p = 2 ∨ p = 4 ∨ p = 8 ∨ p = 16 ∨ p = 32 ∨ p = 64 ∨ p = 128 := by simpa [isPart] using hp
  generalize partsK k = q at *
  generalize hasK k p = hh at *
  have HK := hid hkk
  clear hkk hp
  go_enter Tryz.func162, Tryz.ntmps162
  go_wp2_with fail
  go_loopw [5] (fun v wr => ∃ m : Nat, (m = 1 ∨ m = 2 ∨ m = 4 ∨ m = 8 ∨ m = 16 ∨ m = 32 ∨ m = 64 ∨ m = 128 ∨ m = 256) ∧ v = .int .i64 (m : Int) ∧ Hid (m ≤ p ∨ hh = false) ∧ Below w.heap.size w wr) (fun v _ => 256 - (intOf v).toNat)
  case atStart => exact ⟨1, .inl rfl, rfl, hid (.inl (by omega)), Below.refl _ _⟩
  case round =>
    obtain ⟨m, hm, rfl, hrel, hb⟩ := hrel
    by_cases hle : m ≤ 128
    · have d1 : decide ((m : Int) ≤ 128) = true := decide_eq_true (by omega)
      by_cases hmp : m = p
      · subst hmp
        have d2 : ((m : Int) == (m : Int)) = true := by simp
        have dv : 0 ≤ (q : Int) / (m : Int) ∧ (q : Int) / (m : Int) ≤ 128 := by
          have h1 := Nat.div_le_self q m
          have h2 : (q : Int) / (m : Int) = ((q / m : Nat) : Int) := by simp
          rw [h2]
          exact ⟨Int.natCast_nonneg _, by exact_mod_cast Nat.le_trans h1 hqs⟩
        by_cases hb1 : (q / m % 2 == 1) = true
        · have hh1 : Hid (hh = true) := hid (HK.out.trans hb1)
          clear hpp
          go_wp2_with fail
          refine (HO.out _).mono ?_
          rintro r w1 ⟨⟨s, a, rfl⟩, hb2⟩
          have hfd := fun (W : World) => line_fld W s ((q : Nat) : Int) a
          have hbf := below_then hb2 hb
          go_wp2_with fail
          go_ret
          exact ⟨by rw [hh1.out]; rfl, hbf⟩
        · have hh1 : Hid (hh = false) := hid (HK.out.trans (eq_false_of_ne_true hb1))
          have hb3 : (q / m % 2 == 1) = false := eq_false_of_ne_true hb1
          clear hpp hb1
          go_wp2_with fail
          refine (HO.out _).mono ?_
          rintro r w1 ⟨⟨s, a, rfl⟩, hb2⟩
          have hfd := fun (W : World) => line_fld W s ((q : Nat) : Int) a
          have hbf := below_then hb2 hb
          go_wp2_with fail
          go_roundw
          case rel => exact ⟨2 * m, by omega, by go_num, hid (.inr hh1.out), hbf⟩
          case measure => (simp [intOf]; try omega)
      · have d2 : ((m : Int) == (p : Int)) = false := beq_eq_false_iff_ne.2 (by omega)
        have hn : Hid (2 * m ≤ p ∨ hh = false) := hid (by rcases hrel.out with h | h; · exact .inl (by omega)
                                                          · exact .inr h)
        clear hpp
        go_wp2_with fail
        go_roundw
        case rel => exact ⟨2 * m, by omega, by go_num, hn, hb⟩
        case measure => (simp [intOf]; try omega)
    · have d1 : decide ((m : Int) ≤ 128) = false := decide_eq_false (by omega)
      have hf : Hid (hh = false) := hid (by rcases hrel.out with h | h; · omega
                                            · exact h)
      clear hpp
      go_wp2_with fail
      go_ret
      exact ⟨by rw [hf.out]; rfl, hb⟩

end Go.Proofs.YtlbffbkbkajciaaGreat
namespace Go.Proofs.YtlbffbkbkajciaaGreat
open Go.RowKit Go.Bs
set_option linter.unusedVariables false
set_option linter.unusedSimpArgs false

set_option maxRecDepth 100000 in
set_option maxHeartbeats 1600000 in
theorem ref28_has (k : Int) (p : Nat) (hp : isPart p) (w : World) : Calls Tryz.prog 88 #[.int .i64 k, .int .i64 (p : Int)] w fun r w' => r = .returned (.bool (hasK k p)) ∧ Below w.heap.size w w' := by
  have HP := hid (fun (W : World) => ref27_has k p hp W)
  go_enter Tryz.func88, Tryz.ntmps88
  go_wp2_with fail
  refine (HP.out _).mono ?_
  rintro r w1 ⟨rfl, hb1⟩
  go_wp2_with fail
  go_ret
  exact ⟨rfl, hb1⟩

set_option maxRecDepth 100000 in
set_option maxHeartbeats 1600000 in
theorem ref28_block (k st : Int) (w : World) : Calls Tryz.prog 36 #[.int .i64 k, .int .i64 st] w fun r w' => r = .returned (.bool (blockK k st)) ∧ w = w' := by
  by_cases h1 : k = 2
  · have d1 : (k == 2) = true := beq_iff_eq.2 h1
    have hb : Hid (blockK k st = true) := hid (by unfold blockK; rw [decide_eq_true h1]; rfl)
    clear h1
    go_enter Tryz.func36, Tryz.ntmps36
    go_wp2
    go_ret
    exact ⟨by rw [hb.out]; rfl, rfl⟩
  · have d1 : (k == 2) = false := beq_eq_false_iff_ne.2 h1
    by_cases h2 : k = 9
    · have d2 : (k == 9) = true := beq_iff_eq.2 h2
      have hb : Hid (blockK k st = (st == 1)) := hid (by unfold blockK; rw [decide_eq_false h1, decide_eq_true h2, Bool.false_or, Bool.true_and]; by_cases h : st = 1 <;> simp [h])
      generalize blockK k st = bb at *
      clear h1 h2
      go_enter Tryz.func36, Tryz.ntmps36
      go_wp2
      go_ret
      exact ⟨by rw [hb.out]; rfl, rfl⟩
    · have d2 : (k == 9) = false := beq_eq_false_iff_ne.2 h2
      have hb : Hid (blockK k st = false) := hid (by unfold blockK; rw [decide_eq_false h1, decide_eq_false h2]; rfl)
      clear h1 h2
      go_enter Tryz.func36, Tryz.ntmps36
      go_wp2
      go_ret
      exact ⟨by rw [hb.out]; rfl, rfl⟩

set_option maxRecDepth 100000 in
set_option maxHeartbeats 1600000 in
theorem body_most (k : Int) (w : World) : Calls Tryz.prog 83 #[.int .i64 k] w fun r w' => r = .returned (.int .i64 (mostK k)) ∧ w = w' := by
  by_cases h2 : k = 9
  · have d2 : (k == 9) = true := beq_iff_eq.2 h2
    have hb : Hid (mostK k = 4) := hid (by unfold mostK; rw [if_pos h2])
    clear h2
    go_enter Tryz.func83, Tryz.ntmps83
    go_wp2
    go_ret
    exact ⟨by rw [hb.out]; rfl, rfl⟩
  · have d2 : (k == 9) = false := beq_eq_false_iff_ne.2 h2
    have hb : Hid (mostK k = 20) := hid (by unfold mostK; rw [if_neg h2])
    clear h2
    go_enter Tryz.func83, Tryz.ntmps83
    go_wp2
    go_ret
    exact ⟨by rw [hb.out]; rfl, rfl⟩
set_option maxRecDepth 100000 in
set_option maxHeartbeats 1600000 in
theorem ref28_most (k : Int) (w : World) : Calls Tryz.prog 90 #[.int .i64 k] w fun r w' => r = .returned (.int .i64 (mostK k)) ∧ w = w' := by
  by_cases h2 : k = 9
  · have d2 : (k == 9) = true := beq_iff_eq.2 h2
    have hb : Hid (mostK k = 4) := hid (by unfold mostK; rw [if_pos h2])
    clear h2
    go_enter Tryz.func90, Tryz.ntmps90
    go_wp2
    go_ret
    exact ⟨by rw [hb.out]; rfl, rfl⟩
  · have d2 : (k == 9) = false := beq_eq_false_iff_ne.2 h2
    have hb : Hid (mostK k = 20) := hid (by unfold mostK; rw [if_neg h2])
    clear h2
    go_enter Tryz.func90, Tryz.ntmps90
    go_wp2
    go_ret
    exact ⟨by rw [hb.out]; rfl, rfl⟩

set_option maxRecDepth 100000 in
set_option maxHeartbeats 1600000 in
theorem body_within (k : Int) (p : Nat) (hp : isPart p) (r z : Bool) (w : World) : Calls Tryz.prog 81 #[.int .i64 k, .int .i64 (p : Int), .bool r, .bool z] w fun e w' => e = .returned (.bool (withinR (hasK k p) r z)) ∧ Below w.heap.size w w' := by
  have HP := hid (fun (W : World) => kind_has k p hp W)
  generalize hasK k p = hh at *
  go_enter Tryz.func81, Tryz.ntmps81
  go_wp2_with fail
  refine (HP.out _).mono ?_
  rintro e w1 ⟨rfl, hb1⟩
  cases hh
  · go_wp2_with fail
    go_ret
    exact ⟨rfl, hb1⟩
  · go_wp2_with fail
    go_ret
    exact ⟨rfl, hb1⟩
end Go.Proofs.YtlbffbkbkajciaaGreat
namespace Go.Proofs.YtlbffbkbkajciaaGreat
open Go.RowKit Go.Bs Go.Maps
set_option linter.unusedVariables false
set_option linter.unusedSimpArgs false

theorem MsgIn.lift {w w' : World} {m : Msg} {a1 c1 a2 c2 a3 c3 a4 c4} (h : MsgIn (· < w.heap.size) w m a1 c1 a2 c2 a3 c3 a4 c4) (hb : Below w.heap.size w w') : MsgIn (· < w'.heap.size) w' m a1 c1 a2 c2 a3 c3 a4 c4 :=
  ⟨h.kind, h.epoch, h.seq, h.pos, h.count, h.state, h.sealE, h.sealN, h.sealT, h.projE, Go.Bs.lift h.streams hb, Go.Bs.lift h.links hb, Go.Bs.lift h.data hb, Go.Bs.lift h.stripes hb⟩

set_option maxRecDepth 100000 in
set_option maxHeartbeats 6400000 in
theorem body_hasdata (m : Msg) (a1 : Option Addr) (c1 : Nat) (a2 : Option Addr) (c2 : Nat) (a3 : Option Addr) (c3 : Nat) (a4 : Option Addr) (c4 : Nat) (w : World) :
    Calls Tryz.prog 73 #[.agg #[.int .i64 m.kind, .int .u64 m.epoch, .int .u64 m.seq, .int .u64 m.pos, .int .i64 m.count, .int .i64 m.state, .slice a1 m.streams.length c1, .slice a2 m.links.length c2, .slice a3 m.data.length c3, .int .u64 m.sea.epoch, .int .u64 m.sea.node, .int .u64 m.sea.tail, .int .u64 m.proj.epoch, .slice a4 m.proj.stripes.length c4]] w fun r w' => r = .returned (.bool (blockK m.kind m.state)) ∧ Below w.heap.size w w' := by
  have hd : blockK m.kind m.state = (hasK m.kind 32 && ((m.kind != 9) || (m.state == 1))) := by
    rw [hasK_data]; unfold blockK
    by_cases h2 : m.kind = 2
    · simp [h2]
    · by_cases h9 : m.kind = 9
      · rw [h9]; simp; rfl
      · simp [h2, h9]
  have HH := hid (fun W : World => kind_has m.kind 32 (by unfold isPart; decide) W)
  obtain ⟨kk, ep, sq, po, cn, st, SS, LS, DD, ⟨se, sn, tl⟩, ⟨pe, PL⟩⟩ := m
  dsimp only at *
  generalize hasK kk 32 = H at *
  generalize blockK kk st = R at *
  have HD := hid hd
  clear hd
  cases H
  · have hff : Hid (R = false) := hid (by rw [HD.out]; rfl)
    go_enter Tryz.func73, Tryz.ntmps73
    go_wp2_with fail
    refine (HH.out _).mono ?_
    rintro r w1 ⟨rfl, hb1⟩
    go_wp2_with fail
    go_ret
    exact ⟨by rw [hff.out]; rfl, by (repeat (first | with_reducible exact Below.refl _ _ | with_reducible assumption | (with_reducible refine below_alloc ?_ _) | (with_reducible refine Below.setCell ?_ (by first | omega | (simp; done) | (simp; omega)) _) | (with_reducible refine Below.drew ?_) | (with_reducible refine below_drewN ?_ _) | (refine below_then (by with_reducible assumption) ?_)))⟩
  · by_cases h9 : kk = 9
    · have e1 : (kk != 9) = false := by simp [h9]
      have hff : Hid (R = (st == 1)) := hid (by rw [HD.out, e1]; rfl)
      clear h9
      go_enter Tryz.func73, Tryz.ntmps73
      go_wp2_with fail
      refine (HH.out _).mono ?_
      rintro r w1 ⟨rfl, hb1⟩
      have y0 := hb1.cell (p := ⟨w.heap.size, 0, none⟩) (by simp)
      have y5 := hb1.cell (p := ⟨w.heap.size, 5, none⟩) (by simp)
      simp at y0 y5
      go_wp2_with fail
      go_ret
      exact ⟨by rw [hff.out]; rfl, by (repeat (first | with_reducible exact Below.refl _ _ | with_reducible assumption | (with_reducible refine below_alloc ?_ _) | (with_reducible refine Below.setCell ?_ (by first | omega | (simp; done) | (simp; omega)) _) | (with_reducible refine Below.drew ?_) | (with_reducible refine below_drewN ?_ _) | (refine below_then (by with_reducible assumption) ?_)))⟩
    · have e1 : (kk != 9) = true := by simpa using h9
      have hff : Hid (R = true) := hid (by rw [HD.out, e1]; rfl)
      clear h9
      go_enter Tryz.func73, Tryz.ntmps73
      go_wp2_with fail
      refine (HH.out _).mono ?_
      rintro r w1 ⟨rfl, hb1⟩
      have y0 := hb1.cell (p := ⟨w.heap.size, 0, none⟩) (by simp)
      simp at y0
      go_wp2_with fail
      go_ret
      exact ⟨by rw [hff.out]; rfl, by (repeat (first | with_reducible exact Below.refl _ _ | with_reducible assumption | (with_reducible refine below_alloc ?_ _) | (with_reducible refine Below.setCell ?_ (by first | omega | (simp; done) | (simp; omega)) _) | (with_reducible refine Below.drew ?_) | (with_reducible refine below_drewN ?_ _) | (refine below_then (by with_reducible assumption) ?_)))⟩

set_option maxRecDepth 100000 in
set_option maxHeartbeats 6400000 in
theorem body_streams (l : List Int) (a : Option Addr) (n c : Nat) (w : World) (hl : rU64s.r (· < w.heap.size) w [.slice a n c] l) :
    Calls Tryz.prog 84 #[.slice a n c] w fun r w' => r = .returned (.bool (decide (l.length ≤ 16) && risesB l)) ∧ Below w.heap.size w w' := by
  obtain ⟨rfl, hm, _, _⟩ := sl_len hl
  have HZ := hid (zig_rises l a _ c w hl)
  generalize risesB l = R at *
  clear hl
  by_cases h : l.length ≤ 16
  · have d1 : decide ((l.length : Int) ≤ 16) = true := decide_eq_true (by omega)
    rw [decide_eq_true h, Bool.true_and]
    clear h
    go_enter Tryz.func84, Tryz.ntmps84
    go_wp2_with fail
    refine HZ.out.mono ?_
    rintro r w1 ⟨rfl, hb1⟩
    go_wp2_with fail
    go_ret
    exact ⟨rfl, hb1⟩
  · have d1 : decide ((l.length : Int) ≤ 16) = false := decide_eq_false (by omega)
    rw [decide_eq_false h, Bool.false_and]
    clear h
    go_enter Tryz.func84, Tryz.ntmps84
    go_wp2_with fail
    go_ret
    exact ⟨rfl, Below.refl _ _⟩

theorem len_zero {α : Type} (l : List α) : ((l.length : Int) == 0) = decide (l.length = 0) := by
  rw [Bool.eq_iff_iff]; simp
theorem seal_zero (se sn tl : Int) : (se == 0 && (sn == 0 && tl == 0)) = decide ((⟨se, sn, tl⟩ : Seal) = noSeal) := by
  rw [Bool.eq_iff_iff]; simp [noSeal]

set_option maxRecDepth 100000 in
set_option maxHeartbeats 6400000 in
theorem body_right (m : Msg) (a1 : Option Addr) (c1 : Nat) (a2 : Option Addr) (c2 : Nat) (a3 : Option Addr) (c3 : Nat) (a4 : Option Addr) (c4 : Nat) (w : World) (h : MsgIn (· < w.heap.size) w m a1 c1 a2 c2 a3 c3 a4 c4) (hbk : ∀ x ∈ m.links, x.backs.length ≤ 1000000000000) :
    Calls Tryz.prog 19 #[.agg #[.int .i64 m.kind, .int .u64 m.epoch, .int .u64 m.seq, .int .u64 m.pos, .int .i64 m.count, .int .i64 m.state, .slice a1 m.streams.length c1, .slice a2 m.links.length c2, .slice a3 m.data.length c3, .int .u64 m.sea.epoch, .int .u64 m.sea.node, .int .u64 m.sea.tail, .int .u64 m.proj.epoch, .slice a4 m.proj.stripes.length c4]] w fun r w' => r = .returned (.bool (msgR m)) ∧ Below w.heap.size w w' := by
  have hM : msgR m = (decide (1 ≤ m.kind ∧ m.kind ≤ 14) && (withinR (hasK m.kind 1) (poR m.pos) (m.pos == 0) && (withinR (hasK m.kind 2) (decide (1 ≤ m.count) && decide (m.count ≤ 65536)) (m.count == 0) &&
      (withinR (hasK m.kind 4) (decide (1 ≤ m.state) && decide (m.state ≤ mostK m.kind)) (m.state == 0) && (withinR (hasK m.kind 8) (decide (m.streams.length ≤ 16) && risesB m.streams) ((m.streams.length : Int) == 0) &&
      (withinR (hasK m.kind 16) (linksR m.pos m.links) ((m.links.length : Int) == 0) && (withinR (hasK m.kind 64) (sealR m.sea) (m.sea.epoch == 0 && (m.sea.node == 0 && m.sea.tail == 0)) &&
      (withinR (hasK m.kind 128) (projR m.proj) (m.proj.epoch == 0 && (m.proj.stripes.length : Int) == 0) && (((m.data.length : Int) == 0) || (blockK m.kind m.state && decide (m.data.length ≤ 1048576))))))))))) := by
    unfold msgR
    rw [len_zero, len_zero, len_zero, len_zero, seal_zero, Bool.decide_and, Bool.decide_and, Bool.decide_and]
    rfl
  have HPO := hid (fun W : World => epoch_pos m.pos W)
  have HMO := hid (fun W : World => body_most m.kind W)
  have HST := hid (fun (W : World) (hW : Below w.heap.size w W) => body_streams m.streams a1 _ c1 W (lift h.streams hW))
  have HLK := hid (fun (W : World) (hW : Below w.heap.size w W) => link_right m.pos m.links a2 _ c2 W h.pos (lift h.links hW) hbk)
  have HSE := hid (fun (W : World) => seal_right m.sea h.sealE W)
  have HPR := hid (fun (W : World) (hW : Below w.heap.size w W) => proj_right m.proj.epoch m.proj.stripes a4 _ c4 W (lift h.stripes hW))
  have HHD := hid (fun (W : World) => body_hasdata m a1 c1 a2 c2 a3 c3 a4 c4 W)
  obtain ⟨kk, ep, sq, po, cn, st, SS, LS, DD, ⟨se, sn, tl⟩, ⟨pe, PL⟩⟩ := m
  dsimp only at *
  have HW1 : Hid (∀ W : World, Calls Tryz.prog 81 #[.int .i64 kk, .int .i64 1, .bool (poR po), .bool (po == 0)] W fun e w' => e = .returned (.bool (withinR (hasK kk 1) (poR po) (po == 0))) ∧ Below W.heap.size W w') := hid (fun W => body_within kk 1 (by unfold isPart; decide) (poR po) (po == 0) W)
  have HW2 : Hid (∀ W : World, Calls Tryz.prog 81 #[.int .i64 kk, .int .i64 2, .bool (decide (1 ≤ cn) && decide (cn ≤ 65536)), .bool (cn == 0)] W fun e w' => e = .returned (.bool (withinR (hasK kk 2) (decide (1 ≤ cn) && decide (cn ≤ 65536)) (cn == 0))) ∧ Below W.heap.size W w') := hid (fun W => body_within kk 2 (by unfold isPart; decide) (decide (1 ≤ cn) && decide (cn ≤ 65536)) (cn == 0) W)
  have HW4 : Hid (∀ W : World, Calls Tryz.prog 81 #[.int .i64 kk, .int .i64 4, .bool (decide (1 ≤ st) && decide (st ≤ mostK kk)), .bool (st == 0)] W fun e w' => e = .returned (.bool (withinR (hasK kk 4) (decide (1 ≤ st) && decide (st ≤ mostK kk)) (st == 0))) ∧ Below W.heap.size W w') := hid (fun W => body_within kk 4 (by unfold isPart; decide) (decide (1 ≤ st) && decide (st ≤ mostK kk)) (st == 0) W)
  have HW8 : Hid (∀ W : World, Calls Tryz.prog 81 #[.int .i64 kk, .int .i64 8, .bool (decide (SS.length ≤ 16) && risesB SS), .bool ((SS.length : Int) == 0)] W fun e w' => e = .returned (.bool (withinR (hasK kk 8) (decide (SS.length ≤ 16) && risesB SS) ((SS.length : Int) == 0))) ∧ Below W.heap.size W w') := hid (fun W => body_within kk 8 (by unfold isPart; decide) (decide (SS.length ≤ 16) && risesB SS) ((SS.length : Int) == 0) W)
  have HW16 : Hid (∀ W : World, Calls Tryz.prog 81 #[.int .i64 kk, .int .i64 16, .bool (linksR po LS), .bool ((LS.length : Int) == 0)] W fun e w' => e = .returned (.bool (withinR (hasK kk 16) (linksR po LS) ((LS.length : Int) == 0))) ∧ Below W.heap.size W w') := hid (fun W => body_within kk 16 (by unfold isPart; decide) (linksR po LS) ((LS.length : Int) == 0) W)
  have HW64 : Hid (∀ W : World, Calls Tryz.prog 81 #[.int .i64 kk, .int .i64 64, .bool (sealR ⟨se, sn, tl⟩), .bool (se == 0 && (sn == 0 && tl == 0))] W fun e w' => e = .returned (.bool (withinR (hasK kk 64) (sealR ⟨se, sn, tl⟩) (se == 0 && (sn == 0 && tl == 0)))) ∧ Below W.heap.size W w') := hid (fun W => body_within kk 64 (by unfold isPart; decide) (sealR ⟨se, sn, tl⟩) (se == 0 && (sn == 0 && tl == 0)) W)
  have HW128 : Hid (∀ W : World, Calls Tryz.prog 81 #[.int .i64 kk, .int .i64 128, .bool (projR ⟨pe, PL⟩), .bool (pe == 0 && (PL.length : Int) == 0)] W fun e w' => e = .returned (.bool (withinR (hasK kk 128) (projR ⟨pe, PL⟩) (pe == 0 && (PL.length : Int) == 0))) ∧ Below W.heap.size W w') := hid (fun W => body_within kk 128 (by unfold isPart; decide) (projR ⟨pe, PL⟩) (pe == 0 && (PL.length : Int) == 0) W)
  generalize withinR (hasK kk 1) (poR po) (po == 0) = B1 at *
  generalize withinR (hasK kk 2) (decide (1 ≤ cn) && decide (cn ≤ 65536)) (cn == 0) = B2 at *
  generalize withinR (hasK kk 4) (decide (1 ≤ st) && decide (st ≤ mostK kk)) (st == 0) = B4 at *
  generalize withinR (hasK kk 8) (decide (SS.length ≤ 16) && risesB SS) ((SS.length : Int) == 0) = B8 at *
  generalize withinR (hasK kk 16) (linksR po LS) ((LS.length : Int) == 0) = B16 at *
  generalize withinR (hasK kk 64) (sealR ⟨se, sn, tl⟩) (se == 0 && (sn == 0 && tl == 0)) = B64 at *
  generalize withinR (hasK kk 128) (projR ⟨pe, PL⟩) (pe == 0 && (PL.length : Int) == 0) = B128 at *
  generalize poR po = R1 at *
  generalize linksR po LS = R16 at *
  generalize sealR ⟨se, sn, tl⟩ = R64 at *
  generalize projR ⟨pe, PL⟩ = R128 at *
  generalize (decide (SS.length ≤ 16) && risesB SS) = R8 at *
  generalize mostK kk = MK at *
  generalize hK : decide (1 ≤ kk ∧ kk ≤ 14) = K at *
  have HKR := hid (fun W : World => kind_right kk W)
  rw [hK] at HKR
  have HM := hid hM
  generalize msgR ⟨kk, ep, sq, po, cn, st, SS, LS, DD, ⟨se, sn, tl⟩, ⟨pe, PL⟩⟩ = MM at *
  have hb0 : Below w.heap.size w (w.alloc (.cells #[.int .i64 kk, .int .u64 ep, .int .u64 sq, .int .u64 po, .int .i64 cn, .int .i64 st, .slice a1 SS.length c1, .slice a2 LS.length c2, .slice a3 DD.length c3, .int .u64 se, .int .u64 sn, .int .u64 tl, .int .u64 pe, .slice a4 PL.length c4] 32)) := by (repeat (first | exact Below.refl _ _ | assumption | (refine below_alloc ?_ _) | (refine Below.setCell ?_ (by first | omega | (simp; done) | (simp; omega)) _) | (refine Below.drew ?_) | (refine below_drewN ?_ _) | (refine below_then (by assumption) ?_)))
  have HBX : Hid (Blk (w.alloc (.cells #[.int .i64 kk, .int .u64 ep, .int .u64 sq, .int .u64 po, .int .i64 cn, .int .i64 st, .slice a1 SS.length c1, .slice a2 LS.length c2, .slice a3 DD.length c3, .int .u64 se, .int .u64 sn, .int .u64 tl, .int .u64 pe, .slice a4 PL.length c4] 32)) w.heap.size 32 #[.int .i64 kk, .int .u64 ep, .int .u64 sq, .int .u64 po, .int .i64 cn, .int .i64 st, .slice a1 SS.length c1, .slice a2 LS.length c2, .slice a3 DD.length c3, .int .u64 se, .int .u64 sn, .int .u64 tl, .int .u64 pe, .slice a4 PL.length c4]) := hid (Blk.new w _ _)
  clear hM hK h hbk
  go_enter Tryz.func19, Tryz.ntmps19
  go_wp2_with fail
  generalize (w.alloc (.cells #[.int .i64 kk, .int .u64 ep, .int .u64 sq, .int .u64 po, .int .i64 cn, .int .i64 st, .slice a1 SS.length c1, .slice a2 LS.length c2, .slice a3 DD.length c3, .int .u64 se, .int .u64 sn, .int .u64 tl, .int .u64 pe, .slice a4 PL.length c4] 32)) = w0 at *
  have HB0 := hid hb0
  clear hb0
  refine (HKR.out _).mono ?_
  rintro r w0' ⟨rfl, rfl⟩
  have HB1 : Hid (Below w0.heap.size w0 w0) := hid (Below.refl _ _)
  cases K
  · have hff : Hid (MM = false) := hid (by rw [HM.out]; rfl)
    go_wp2_with fail
    go_ret
    exact ⟨by rw [hff.out]; rfl, HB0.out.trans (HB1.out.mono HB0.out.size)⟩
  · go_upto_region 4 with (fail)
    go_cut [24] from 25 to 33 (fun v V => v = .bool (!B1) ∧ Below w0.heap.size w0 V)
    case first =>
      have HX := hid (HBX.out.later HB1.out)
      have Y3 := fun s : Later w0 => s.cell (HX.out.cell 3 : w0.cell? ⟨w.heap.size, 3, none⟩ = some (.int .u64 po))
      refine wp_region_later (by kernel_rfl) (by kernel_rfl) ?_
      repeat (go_big_quiet_step ((first | (go_at_call 82; with_reducible exact later_same (HPO.out _)) | (go_at_call 81; with_reducible exact later_of (HW1.out _)))))
      refine wpQuiet_nil ?_
      rintro W5 ⟨⟨W5', hb5⟩, rfl⟩
      go_wp2_with fail
      go_meet
      case rel => exact ⟨rfl, below_then hb5 HB1.out⟩
    case rest =>
      obtain ⟨rfl, hbc⟩ := hcut
      have HB2 := hid hbc
      clear hbc
      obtain ⟨w1, hwn⟩ : ∃ W : World, W = wc := ⟨_, rfl⟩
      subst hwn
      cases B1
      · have hff : Hid (MM = false) := hid (by rw [HM.out]; simp)
        go_wp2_with fail
        go_ret
        exact ⟨by rw [hff.out]; rfl, HB0.out.trans (HB2.out.mono HB0.out.size)⟩
      · go_upto_region 5 with (fail)
        go_cut [34] from 35 to 48 (fun v V => v = .bool (!B2) ∧ Below w0.heap.size w0 V)
        case first =>
          have HX := hid (HBX.out.later HB2.out)
          have y4 : w1.cell? ⟨w.heap.size, 4, none⟩ = some (.int .i64 cn) := HX.out.cell 4
          have HBW := hid (HB0.out.trans (HB2.out.mono HB0.out.size))
          cases hc : decide (1 ≤ cn)
          · have HWc := HW2.out
            rw [hc, Bool.false_and] at HWc
            have HWd := hid HWc
            clear HWc
            go_wp2_with fail
            refine (HWd.out _).mono ?_
            rintro r w5 ⟨rfl, hb5⟩
            go_wp2_with fail
            go_meet
            case rel => exact ⟨rfl, below_then hb5 HB2.out⟩
          · have HWc := HW2.out
            rw [hc, Bool.true_and] at HWc
            have HWd := hid HWc
            clear HWc
            go_wp2_with fail
            refine (HWd.out _).mono ?_
            rintro r w5 ⟨rfl, hb5⟩
            go_wp2_with fail
            go_meet
            case rel => exact ⟨rfl, below_then hb5 HB2.out⟩
        case rest =>
          obtain ⟨rfl, hbc⟩ := hcut
          have HB3 := hid hbc
          clear hbc
          obtain ⟨w2, hwn⟩ : ∃ W : World, W = wc := ⟨_, rfl⟩
          subst hwn
          cases B2
          · have hff : Hid (MM = false) := hid (by rw [HM.out]; simp)
            go_wp2_with fail
            go_ret
            exact ⟨by rw [hff.out]; rfl, HB0.out.trans (HB3.out.mono HB0.out.size)⟩
          · go_upto_region 6 with (fail)
            go_cut [49] from 50 to 65 (fun v V => v = .bool (!B4) ∧ Below w0.heap.size w0 V)
            case first =>
              have HX := hid (HBX.out.later HB3.out)
              have Y5 := fun s : Later w2 => s.cell (HX.out.cell 5 : w2.cell? ⟨w.heap.size, 5, none⟩ = some (.int .i64 st))
              cases hc : decide (1 ≤ st)
              · have HWc := HW4.out
                rw [hc, Bool.false_and] at HWc
                have HWd := hid HWc
                clear HWc
                refine wp_region_later (by kernel_rfl) (by kernel_rfl) ?_
                repeat (go_big_quiet_step ((first | (go_at_call 81; with_reducible exact later_of (HWd.out _)))))
                refine wpQuiet_nil ?_
                rintro W5 ⟨⟨W5', hb5⟩, rfl⟩
                go_wp2_with fail
                go_meet
                case rel => exact ⟨rfl, below_then hb5 HB3.out⟩
              · have HWc := HW4.out
                rw [hc, Bool.true_and] at HWc
                have HWd := hid HWc
                clear HWc
                refine wp_region_later (by kernel_rfl) (by kernel_rfl) ?_
                repeat (go_big_quiet_step ((first | (go_at_call 83; with_reducible exact later_same (HMO.out _)) | (go_at_call 81; with_reducible exact later_of (HWd.out _)))))
                refine wpQuiet_nil ?_
                rintro W5 ⟨⟨W5', hb5⟩, rfl⟩
                go_wp2_with fail
                go_meet
                case rel => exact ⟨rfl, below_then hb5 HB3.out⟩
            case rest =>
              obtain ⟨rfl, hbc⟩ := hcut
              have HB4 := hid hbc
              clear hbc
              obtain ⟨w3, hwn⟩ : ∃ W : World, W = wc := ⟨_, rfl⟩
              subst hwn
              cases B4
              · have hff : Hid (MM = false) := hid (by rw [HM.out]; simp)
                go_wp2_with fail
                go_ret
                exact ⟨by rw [hff.out]; rfl, HB0.out.trans (HB4.out.mono HB0.out.size)⟩
              · go_upto_region 7 with (fail)
                go_cut [66] from 67 to 76 (fun v V => v = .bool (!B8) ∧ Below w0.heap.size w0 V)
                case first =>
                  have HX := hid (HBX.out.later HB4.out)
                  have Y6 := fun s : Later w3 => s.cell (HX.out.cell 6 : w3.cell? ⟨w.heap.size, 6, none⟩ = some (.slice a1 SS.length c1))
                  have HS := hid (fun s : Later w3 => HST.out s.at_ (below_then s.below (HB0.out.trans (HB4.out.mono HB0.out.size))))
                  refine wp_region_later (by kernel_rfl) (by kernel_rfl) ?_
                  repeat (go_big_quiet_step ((first | (go_at_call 84; with_reducible exact later_of (HS.out _)) | (go_at_call 81; with_reducible exact later_of (HW8.out _)))))
                  refine wpQuiet_nil ?_
                  rintro W5 ⟨⟨W5', hb5⟩, rfl⟩
                  go_wp2_with fail
                  go_meet
                  case rel => exact ⟨rfl, below_then hb5 HB4.out⟩
                case rest =>
                  obtain ⟨rfl, hbc⟩ := hcut
                  have HB5 := hid hbc
                  clear hbc
                  obtain ⟨w4, hwn⟩ : ∃ W : World, W = wc := ⟨_, rfl⟩
                  subst hwn
                  cases B8
                  · have hff : Hid (MM = false) := hid (by rw [HM.out]; simp)
                    go_wp2_with fail
                    go_ret
                    exact ⟨by rw [hff.out]; rfl, HB0.out.trans (HB5.out.mono HB0.out.size)⟩
                  · go_upto_region 8 with (fail)
                    go_cut [77] from 78 to 89 (fun v V => v = .bool (!B16) ∧ Below w0.heap.size w0 V)
                    case first =>
                      have HX := hid (HBX.out.later HB5.out)
                      have Y3 := fun s : Later w4 => s.cell (HX.out.cell 3 : w4.cell? ⟨w.heap.size, 3, none⟩ = some (.int .u64 po))
                      have Y7 := fun s : Later w4 => s.cell (HX.out.cell 7 : w4.cell? ⟨w.heap.size, 7, none⟩ = some (.slice a2 LS.length c2))
                      have HS := hid (fun s : Later w4 => HLK.out s.at_ (below_then s.below (HB0.out.trans (HB5.out.mono HB0.out.size))))
                      refine wp_region_later (by kernel_rfl) (by kernel_rfl) ?_
                      repeat (go_big_quiet_step ((first | (go_at_call 85; with_reducible exact later_of (HS.out _)) | (go_at_call 81; with_reducible exact later_of (HW16.out _)))))
                      refine wpQuiet_nil ?_
                      rintro W5 ⟨⟨W5', hb5⟩, rfl⟩
                      go_wp2_with fail
                      go_meet
                      case rel => exact ⟨rfl, below_then hb5 HB5.out⟩
                    case rest =>
                      obtain ⟨rfl, hbc⟩ := hcut
                      have HB6 := hid hbc
                      clear hbc
                      obtain ⟨w5, hwn⟩ : ∃ W : World, W = wc := ⟨_, rfl⟩
                      subst hwn
                      cases B16
                      · have hff : Hid (MM = false) := hid (by rw [HM.out]; simp)
                        go_wp2_with fail
                        go_ret
                        exact ⟨by rw [hff.out]; rfl, HB0.out.trans (HB6.out.mono HB0.out.size)⟩
                      · go_upto_region 9 with (fail)
                        go_cut [90] from 91 to 100 (fun v V => v = .bool (!B64) ∧ Below w0.heap.size w0 V)
                        case first =>
                          have HX := hid (HBX.out.later HB6.out)
                          have Y9 := fun s : Later w5 => s.cell (HX.out.cell 9 : w5.cell? ⟨w.heap.size, 9, none⟩ = some (.int .u64 se))
                          have Y10 := fun s : Later w5 => s.cell (HX.out.cell 10 : w5.cell? ⟨w.heap.size, 10, none⟩ = some (.int .u64 sn))
                          have Y11 := fun s : Later w5 => s.cell (HX.out.cell 11 : w5.cell? ⟨w.heap.size, 11, none⟩ = some (.int .u64 tl))
                          cases hc : (se == 0)
                          · have HWc := HW64.out
                            rw [hc, Bool.false_and] at HWc
                            have HWd := hid HWc
                            clear HWc
                            refine wp_region_later (by kernel_rfl) (by kernel_rfl) ?_
                            repeat (go_big_quiet_step ((first | (go_at_call 86; with_reducible exact later_of (HSE.out _)) | (go_at_call 81; with_reducible exact later_of (HWd.out _)))))
                            refine wpQuiet_nil ?_
                            rintro W5 ⟨⟨W5', hb5⟩, rfl⟩
                            go_wp2_with fail
                            go_meet
                            case rel => exact ⟨rfl, below_then hb5 HB6.out⟩
                          · cases hd : (sn == 0)
                            · have HWc := HW64.out
                              rw [hc, hd, Bool.true_and, Bool.false_and] at HWc
                              have HWd := hid HWc
                              clear HWc
                              refine wp_region_later (by kernel_rfl) (by kernel_rfl) ?_
                              repeat (go_big_quiet_step ((first | (go_at_call 86; with_reducible exact later_of (HSE.out _)) | (go_at_call 81; with_reducible exact later_of (HWd.out _)))))
                              refine wpQuiet_nil ?_
                              rintro W5 ⟨⟨W5', hb5⟩, rfl⟩
                              go_wp2_with fail
                              go_meet
                              case rel => exact ⟨rfl, below_then hb5 HB6.out⟩
                            · cases he : (tl == 0)
                              · have HWc := HW64.out
                                rw [hc, hd, he, Bool.true_and, Bool.true_and] at HWc
                                have HWd := hid HWc
                                clear HWc
                                refine wp_region_later (by kernel_rfl) (by kernel_rfl) ?_
                                repeat (go_big_quiet_step ((first | (go_at_call 86; with_reducible exact later_of (HSE.out _)) | (go_at_call 81; with_reducible exact later_of (HWd.out _)))))
                                refine wpQuiet_nil ?_
                                rintro W5 ⟨⟨W5', hb5⟩, rfl⟩
                                go_wp2_with fail
                                go_meet
                                case rel => exact ⟨rfl, below_then hb5 HB6.out⟩
                              · have HWc := HW64.out
                                rw [hc, hd, he, Bool.true_and, Bool.true_and] at HWc
                                have HWd := hid HWc
                                clear HWc
                                refine wp_region_later (by kernel_rfl) (by kernel_rfl) ?_
                                repeat (go_big_quiet_step ((first | (go_at_call 86; with_reducible exact later_of (HSE.out _)) | (go_at_call 81; with_reducible exact later_of (HWd.out _)))))
                                refine wpQuiet_nil ?_
                                rintro W5 ⟨⟨W5', hb5⟩, rfl⟩
                                go_wp2_with fail
                                go_meet
                                case rel => exact ⟨rfl, below_then hb5 HB6.out⟩
                        case rest =>
                          obtain ⟨rfl, hbc⟩ := hcut
                          have HB7 := hid hbc
                          clear hbc
                          obtain ⟨w6, hwn⟩ : ∃ W : World, W = wc := ⟨_, rfl⟩
                          subst hwn
                          cases B64
                          · have hff : Hid (MM = false) := hid (by rw [HM.out]; simp)
                            go_wp2_with fail
                            go_ret
                            exact ⟨by rw [hff.out]; rfl, HB0.out.trans (HB7.out.mono HB0.out.size)⟩
                          · go_upto_region 10 with (fail)
                            go_cut [101] from 102 to 118 (fun v V => v = .bool (!B128) ∧ Below w0.heap.size w0 V)
                            case first =>
                              have HX := hid (HBX.out.later HB7.out)
                              have Y12 := fun s : Later w6 => s.cell (HX.out.cell 12 : w6.cell? ⟨w.heap.size, 12, none⟩ = some (.int .u64 pe))
                              have Y13 := fun s : Later w6 => s.cell (HX.out.cell 13 : w6.cell? ⟨w.heap.size, 13, none⟩ = some (.slice a4 PL.length c4))
                              have HS := hid (fun s : Later w6 => HPR.out s.at_ (below_then s.below (HB0.out.trans (HB7.out.mono HB0.out.size))))
                              cases hc : (pe == 0)
                              · have HWc := HW128.out
                                rw [hc, Bool.false_and] at HWc
                                have HWd := hid HWc
                                clear HWc
                                refine wp_region_later (by kernel_rfl) (by kernel_rfl) ?_
                                repeat (go_big_quiet_step ((first | (go_at_call 87; with_reducible exact later_of (HS.out _)) | (go_at_call 81; with_reducible exact later_of (HWd.out _)))))
                                refine wpQuiet_nil ?_
                                rintro W5 ⟨⟨W5', hb5⟩, rfl⟩
                                go_wp2_with fail
                                go_meet
                                case rel => exact ⟨rfl, below_then hb5 HB7.out⟩
                              · have HWc := HW128.out
                                rw [hc, Bool.true_and] at HWc
                                have HWd := hid HWc
                                clear HWc
                                refine wp_region_later (by kernel_rfl) (by kernel_rfl) ?_
                                repeat (go_big_quiet_step ((first | (go_at_call 87; with_reducible exact later_of (HS.out _)) | (go_at_call 81; with_reducible exact later_of (HWd.out _)))))
                                refine wpQuiet_nil ?_
                                rintro W5 ⟨⟨W5', hb5⟩, rfl⟩
                                go_wp2_with fail
                                go_meet
                                case rel => exact ⟨rfl, below_then hb5 HB7.out⟩
                            case rest =>
                              obtain ⟨rfl, hbc⟩ := hcut
                              have HB8 := hid hbc
                              clear hbc
                              obtain ⟨w7, hwn⟩ : ∃ W : World, W = wc := ⟨_, rfl⟩
                              subst hwn
                              cases B128
                              · have hff : Hid (MM = false) := hid (by rw [HM.out]; simp)
                                go_wp2_with fail
                                go_ret
                                exact ⟨by rw [hff.out]; rfl, HB0.out.trans (HB8.out.mono HB0.out.size)⟩
                              · go_upto_region 2 with (fail)
                                have HX := hid (HBX.out.later HB8.out)
                                have y0 : w7.cell? ⟨w.heap.size, 0, none⟩ = some (.int .i64 kk) := HX.out.cell 0
                                have y1 : w7.cell? ⟨w.heap.size, 1, none⟩ = some (.int .u64 ep) := HX.out.cell 1
                                have y2 : w7.cell? ⟨w.heap.size, 2, none⟩ = some (.int .u64 sq) := HX.out.cell 2
                                have y3 : w7.cell? ⟨w.heap.size, 3, none⟩ = some (.int .u64 po) := HX.out.cell 3
                                have y4 : w7.cell? ⟨w.heap.size, 4, none⟩ = some (.int .i64 cn) := HX.out.cell 4
                                have y5 : w7.cell? ⟨w.heap.size, 5, none⟩ = some (.int .i64 st) := HX.out.cell 5
                                have y6 : w7.cell? ⟨w.heap.size, 6, none⟩ = some (.slice a1 SS.length c1) := HX.out.cell 6
                                have y7 : w7.cell? ⟨w.heap.size, 7, none⟩ = some (.slice a2 LS.length c2) := HX.out.cell 7
                                have y8 : w7.cell? ⟨w.heap.size, 8, none⟩ = some (.slice a3 DD.length c3) := HX.out.cell 8
                                have y9 : w7.cell? ⟨w.heap.size, 9, none⟩ = some (.int .u64 se) := HX.out.cell 9
                                have y10 : w7.cell? ⟨w.heap.size, 10, none⟩ = some (.int .u64 sn) := HX.out.cell 10
                                have y11 : w7.cell? ⟨w.heap.size, 11, none⟩ = some (.int .u64 tl) := HX.out.cell 11
                                have y12 : w7.cell? ⟨w.heap.size, 12, none⟩ = some (.int .u64 pe) := HX.out.cell 12
                                have y13 : w7.cell? ⟨w.heap.size, 13, none⟩ = some (.slice a4 PL.length c4) := HX.out.cell 13
                                have HBW := hid (HB0.out.trans (HB8.out.mono HB0.out.size))
                                have hfm : MM = (((DD.length : Int) == 0) || (blockK kk st && decide (DD.length ≤ 1048576))) := by rw [HM.out]; simp only [Bool.true_and]
                                clear HX
                                generalize blockK kk st = BL at *
                                cases hc : ((DD.length : Int) == 0)
                                · cases BL
                                  · have hff : Hid (MM = false) := hid (by rw [hfm, hc]; rfl)
                                    clear hfm
                                    go_wp2_with fail
                                    refine (HHD.out _).mono ?_
                                    rintro r w5 ⟨rfl, hb5⟩
                                    have hbe := below_then hb5 HBW.out
                                    go_wp2_with fail
                                    go_ret
                                    exact ⟨by rw [hff.out]; rfl, hbe⟩
                                  · have hff : Hid (MM = decide (DD.length ≤ 1048576)) := hid (by rw [hfm, hc]; rfl)
                                    have hdd : decide ((DD.length : Int) ≤ 1048576) = decide (DD.length ≤ 1048576) := by
                                      rw [Bool.eq_iff_iff]; simp; omega
                                    generalize decide (DD.length ≤ 1048576) = DM at *
                                    clear hfm
                                    go_wp2_with fail
                                    refine (HHD.out _).mono ?_
                                    rintro r w5 ⟨rfl, hb5⟩
                                    have hbe := below_then hb5 HBW.out
                                    have z8 := (hb5.cell (p := ⟨w.heap.size, 8, none⟩) (World.block_lt_of_cell? _ _ y8)).trans y8
                                    go_wp2_with fail
                                    go_ret
                                    exact ⟨by rw [hff.out]; first | rfl | (rw [← hdd]; rfl), hbe⟩
                                · have hff : Hid (MM = true) := hid (by rw [hfm, hc]; rfl)
                                  clear hfm
                                  go_wp2_with fail
                                  go_ret
                                  exact ⟨by rw [hff.out]; rfl, HBW.out⟩
end Go.Proofs.YtlbffbkbkajciaaGreat
namespace Go.Proofs.YtlbffbkbkajciaaGreat
open Go.RowKit Go.Bs Go.Maps
set_option linter.unusedVariables false
set_option linter.unusedSimpArgs false

set_option maxRecDepth 100000 in
set_option maxHeartbeats 1600000 in
theorem ref19_same (x y : Stripe) (a a' : Option Addr) (n c n' c' : Nat) (w : World) (hx : rSets.r (· < w.heap.size) w [.slice a n c] x.sets) (hy : rSets.r (· < w.heap.size) w [.slice a' n' c'] y.sets) :
    Calls Tryz.prog 170 #[.agg #[.int .u64 x.lo, .int .u64 x.hi, .slice a n c], .agg #[.int .u64 y.lo, .int .u64 y.hi, .slice a' n' c']] w fun r w' => r = .returned (.bool (decide (x = y))) ∧ Below w.heap.size w w' := by
  obtain ⟨rfl, hm, _, _⟩ := sl_len hx
  obtain ⟨rfl, hm', _, _⟩ := sl_len hy
  obtain ⟨p0, p1, D⟩ := x
  obtain ⟨q0, q1, D'⟩ := y
  dsimp only at *
  by_cases h0 : p0 = q0
  · have e0 : (p0 != q0) = false := by simp [h0]
    by_cases h1 : p1 = q1
    · have e1 : (p1 != q1) = false := by simp [h1]
      by_cases hlen : D.length = D'.length
      · have HX := hid hx; clear hx
        have HY := hid hy; clear hy
        have HL := hid hlen
        have el : ((D.length : Int) != (D'.length : Int)) = false := by simp [hlen]
        have hst0 : Hid (decide ((⟨p0, p1, D⟩ : Stripe) = ⟨q0, q1, D'⟩) = decide (D.drop 0 = D'.drop 0)) := hid (by simp [h0, h1])
        clear hlen h0 h1
        go_enter Tryz.func170, Tryz.ntmps170
        go_wp2_with fail
        refine wp_world (fun W => Below w.heap.size w W ∧ w.heap.size + 1 < W.heap.size ∧ W.cell? ⟨w.heap.size, 2, none⟩ = some (.slice a D.length c) ∧ W.cell? ⟨w.heap.size + 1, 2, none⟩ = some (.slice a' D'.length c')) ⟨by (repeat (first | exact Below.refl _ _ | assumption | (refine below_alloc ?_ _) | (refine Below.setCell ?_ (by first | omega | (simp; done) | (simp; omega)) _) | (refine Below.drew ?_) | (refine below_drewN ?_ _) | (refine below_then (by assumption) ?_))), by simp, by go_simp, by go_simp⟩ ?_
        intro w1 ⟨hb2, hzb, s0, s1⟩
        go_loopw [5] (fun i wr => ∃ k : Nat, k ≤ D.length ∧ i = .int .i64 k ∧ Hid (decide ((⟨p0, p1, D⟩ : Stripe) = ⟨q0, q1, D'⟩) = decide (D.drop k = D'.drop k)) ∧ Below w1.heap.size w1 wr) (fun i _ => D.length - (intOf i).toNat)
        case atStart => exact ⟨0, Nat.zero_le _, rfl, hst0, Below.refl _ _⟩
        case round =>
          obtain ⟨k, hk, rfl, hf, hb7⟩ := hrel
          have hb := below_then hb7 hb2
          have t0 : wr.cell? ⟨w.heap.size, 2, none⟩ = some (.slice a D.length c) := (Later.mk wr hb7).cell s0
          have t1 : wr.cell? ⟨w.heap.size + 1, 2, none⟩ = some (.slice a' D'.length c') := (Later.mk wr hb7).cell s1
          have hz3 : w.heap.size + 1 < wr.heap.size := by have := hb7.size; omega
          by_cases hlt : k < D.length
          · have hlt' : k < D'.length := by rw [← HL.out]; exact hlt
            obtain ⟨b, o, hA, hbb, ax, cx, x0, xl⟩ := set_at HX.out hlt
            obtain ⟨b', o', hA', hbb', ay, cy, y0, yl⟩ := set_at HY.out hlt'
            have hst := hid (drop_eq_step D D' k hlt hlt')
            subst hA hA'
            have T0 := fun s : Later wr => s.cell t0
            have T1 := fun s : Later wr => s.cell t1
            have X0 := fun s : Later wr => s.cell ((hb.cell (p := ⟨b, o + k, none⟩) hbb).trans x0)
            have Y0 := fun s : Later wr => s.cell ((hb.cell (p := ⟨b', o' + k, none⟩) hbb').trans y0)
            clear x0 y0 
            generalize hlk : D[k] = u at *
            generalize hlm : D'[k] = v at *
            clear hlk hlm
            have hs1 := hid (lift xl hb)
            have hs2 := hid (lift yl hb)
            clear xl yl
            have hO := fun s : Later wr => same_u64s u v ax ay _ cx _ cy s.at_ (lift hs1.out s.below) (lift hs2.out s.below)
            have i0 : (0 : Int) ≤ (k : Int) := by omega
            have i1 : (k : Int) < (D.length : Int) := by omega
            have i2 : (k : Int) < (D'.length : Int) := by omega
            have d1 : decide ((k : Int) < (D.length : Int)) = true := decide_eq_true i1
            by_cases huv : u = v
            · rw [decide_eq_true huv] at hO
              have HO := hid hO; clear hO
              have hst' : Hid (decide (D.drop k = D'.drop k) = decide (D.drop (k + 1) = D'.drop (k + 1))) := hid (by rw [hst.out]; simp [huv])
              clear huv
              go_wp2_with fail
              refine wp_region_later (by kernel_rfl) (by kernel_rfl) ?_
              repeat (go_big_quiet_step (((go_at_call 99; exact later_of (HO.out _)))))
              refine wpQuiet_nil ?_
              rintro W5 ⟨⟨W5', hb5⟩, rfl⟩
              go_wp2_with fail
              go_roundw
              case rel => exact ⟨k + 1, by omega, by go_num, hid (by rw [hf.out, hst'.out]), below_then hb5 hb7⟩
              case measure => (simp [intOf]; try omega)
            · rw [decide_eq_false huv] at hO
              have HO := hid hO; clear hO
              have hff : Hid (decide ((⟨p0, p1, D⟩ : Stripe) = ⟨q0, q1, D'⟩) = false) := hid (by rw [hf.out, hst.out]; simp [huv])
              clear huv
              go_wp2_with fail
              refine wp_region_later (by kernel_rfl) (by kernel_rfl) ?_
              repeat (go_big_quiet_step (((go_at_call 99; exact later_of (HO.out _)))))
              refine wpQuiet_nil ?_
              rintro W5 ⟨⟨W5', hb5⟩, rfl⟩
              go_wp2_with fail
              go_ret
              exact ⟨by rw [hff.out]; rfl, below_then hb5 hb⟩
          · obtain rfl : k = D.length := by omega
            have d1 : decide ((D.length : Int) < (D.length : Int)) = false := decide_eq_false (by omega)
            have hff : Hid (decide ((⟨p0, p1, D⟩ : Stripe) = ⟨q0, q1, D'⟩) = true) := hid (by rw [hf.out, List.drop_length, List.drop_of_length_le (by rw [HL.out]; exact Nat.le_refl _)]; rfl)
            go_wp2_with fail
            go_ret
            exact ⟨by rw [hff.out]; rfl, hb⟩
      · have hff : Hid (decide ((⟨p0, p1, D⟩ : Stripe) = ⟨q0, q1, D'⟩) = false) := hid (by simp [h0, h1]; rintro rfl; exact hlen rfl)
        have el : ((D.length : Int) != (D'.length : Int)) = true := by simp; omega
        clear hlen hx hy
        go_enter Tryz.func170, Tryz.ntmps170
        go_wp2_with fail
        go_ret
        exact ⟨by rw [hff.out]; rfl, by (repeat (first | exact Below.refl _ _ | assumption | (refine below_alloc ?_ _) | (refine Below.setCell ?_ (by first | omega | (simp; done) | (simp; omega)) _) | (refine Below.drew ?_) | (refine below_drewN ?_ _) | (refine below_then (by assumption) ?_)))⟩
    · have e1 : (p1 != q1) = true := by simpa using h1
      have hfin : Hid (decide ((⟨p0, p1, D⟩ : Stripe) = ⟨q0, q1, D'⟩) = false) := hid (by simp [h0, h1])
      clear hx hy
      go_enter Tryz.func170, Tryz.ntmps170
      go_wp2_with fail
      go_ret
      exact ⟨by rw [hfin.out]; rfl, by (repeat (first | with_reducible exact Below.refl _ _ | with_reducible assumption | (with_reducible refine below_alloc ?_ _) | (with_reducible refine Below.setCell ?_ (by first | omega | (simp; done) | (simp; omega)) _) | (with_reducible refine Below.drew ?_) | (with_reducible refine below_drewN ?_ _) | (refine below_then (by with_reducible assumption) ?_)))⟩
  · have e0 : (p0 != q0) = true := by simpa using h0
    have hfin : Hid (decide ((⟨p0, p1, D⟩ : Stripe) = ⟨q0, q1, D'⟩) = false) := hid (by simp [h0])
    clear hx hy
    go_enter Tryz.func170, Tryz.ntmps170
    go_wp2_with fail
    go_ret
    exact ⟨by rw [hfin.out]; rfl, by (repeat (first | with_reducible exact Below.refl _ _ | with_reducible assumption | (with_reducible refine below_alloc ?_ _) | (with_reducible refine Below.setCell ?_ (by first | omega | (simp; done) | (simp; omega)) _) | (with_reducible refine Below.drew ?_) | (with_reducible refine below_drewN ?_ _) | (refine below_then (by with_reducible assumption) ?_)))⟩

set_option maxRecDepth 100000 in
set_option maxHeartbeats 1600000 in
theorem ref20_same (x y : Projn) (a a' : Option Addr) (n c n' c' : Nat) (w : World) (hx : rStripes.r (· < w.heap.size) w [.slice a n c] x.stripes) (hy : rStripes.r (· < w.heap.size) w [.slice a' n' c'] y.stripes) :
    Calls Tryz.prog 101 #[.agg #[.int .u64 x.epoch, .slice a n c], .agg #[.int .u64 y.epoch, .slice a' n' c']] w fun r w' => r = .returned (.bool (decide (x = y))) ∧ Below w.heap.size w w' := by
  obtain ⟨rfl, hm, _, _⟩ := sl_len hx
  obtain ⟨rfl, hm', _, _⟩ := sl_len hy
  obtain ⟨p0, D⟩ := x
  obtain ⟨q0, D'⟩ := y
  dsimp only at *
  by_cases h0 : p0 = q0
  · have e0 : (p0 != q0) = false := by simp [h0]
    by_cases hlen : D.length = D'.length
    · have HX := hid hx; clear hx
      have HY := hid hy; clear hy
      have HL := hid hlen
      have el : ((D.length : Int) != (D'.length : Int)) = false := by simp [hlen]
      have hst0 : Hid (decide ((⟨p0, D⟩ : Projn) = ⟨q0, D'⟩) = decide (D.drop 0 = D'.drop 0)) := hid (by simp [h0])
      clear hlen h0
      go_enter Tryz.func101, Tryz.ntmps101
      go_wp2_with fail
      refine wp_world (fun W => Below w.heap.size w W ∧ w.heap.size + 1 < W.heap.size ∧ W.cell? ⟨w.heap.size, 1, none⟩ = some (.slice a D.length c) ∧ W.cell? ⟨w.heap.size + 1, 1, none⟩ = some (.slice a' D'.length c')) ⟨by (repeat (first | exact Below.refl _ _ | assumption | (refine below_alloc ?_ _) | (refine Below.setCell ?_ (by first | omega | (simp; done) | (simp; omega)) _) | (refine Below.drew ?_) | (refine below_drewN ?_ _) | (refine below_then (by assumption) ?_))), by simp, by go_simp, by go_simp⟩ ?_
      intro w1 ⟨hb2, hzb, s0, s1⟩
      go_loopw [5] (fun i wr => ∃ k : Nat, k ≤ D.length ∧ i = .int .i64 k ∧ Hid (decide ((⟨p0, D⟩ : Projn) = ⟨q0, D'⟩) = decide (D.drop k = D'.drop k)) ∧ Below w1.heap.size w1 wr) (fun i _ => D.length - (intOf i).toNat)
      case atStart => exact ⟨0, Nat.zero_le _, rfl, hst0, Below.refl _ _⟩
      case round =>
        obtain ⟨k, hk, rfl, hf, hb7⟩ := hrel
        have hb := below_then hb7 hb2
        have t0 : wr.cell? ⟨w.heap.size, 1, none⟩ = some (.slice a D.length c) := (Later.mk wr hb7).cell s0
        have t1 : wr.cell? ⟨w.heap.size + 1, 1, none⟩ = some (.slice a' D'.length c') := (Later.mk wr hb7).cell s1
        have hz3 : w.heap.size + 1 < wr.heap.size := by have := hb7.size; omega
        by_cases hlt : k < D.length
        · have hlt' : k < D'.length := by rw [← HL.out]; exact hlt
          obtain ⟨b, o, hA, hbb, ax, cx, x0, x1, x2, xb0, xb1, xl⟩ := stripe_at HX.out hlt
          obtain ⟨b', o', hA', hbb', ay, cy, y0, y1, y2, yb0, yb1, yl⟩ := stripe_at HY.out hlt'
          have hst := hid (drop_eq_step D D' k hlt hlt')
          subst hA hA'
          have T0 := fun s : Later wr => s.cell t0
          have T1 := fun s : Later wr => s.cell t1
          have X0 := fun s : Later wr => s.cell ((hb.cell (p := ⟨b, o + k * 3, none⟩) hbb).trans x0)
          have X1 := fun s : Later wr => s.cell ((hb.cell (p := ⟨b, o + k * 3 + 1, none⟩) hbb).trans x1)
          have X2 := fun s : Later wr => s.cell ((hb.cell (p := ⟨b, o + k * 3 + 2, none⟩) hbb).trans x2)
          have Y0 := fun s : Later wr => s.cell ((hb.cell (p := ⟨b', o' + k * 3, none⟩) hbb').trans y0)
          have Y1 := fun s : Later wr => s.cell ((hb.cell (p := ⟨b', o' + k * 3 + 1, none⟩) hbb').trans y1)
          have Y2 := fun s : Later wr => s.cell ((hb.cell (p := ⟨b', o' + k * 3 + 2, none⟩) hbb').trans y2)
          clear x0 x1 x2 y0 y1 y2 xb0 xb1 yb0 yb1
          generalize hlk : D[k] = u at *
          generalize hlm : D'[k] = v at *
          clear hlk hlm
          have hs1 := hid (lift xl hb)
          have hs2 := hid (lift yl hb)
          clear xl yl
          have hO := fun s : Later wr => ref19_same u v ax ay _ cx _ cy s.at_ (lift hs1.out s.below) (lift hs2.out s.below)
          have i0 : (0 : Int) ≤ (k : Int) := by omega
          have i1 : (k : Int) < (D.length : Int) := by omega
          have i2 : (k : Int) < (D'.length : Int) := by omega
          have d1 : decide ((k : Int) < (D.length : Int)) = true := decide_eq_true i1
          by_cases huv : u = v
          · rw [decide_eq_true huv] at hO
            have HO := hid hO; clear hO
            have hst' : Hid (decide (D.drop k = D'.drop k) = decide (D.drop (k + 1) = D'.drop (k + 1))) := hid (by rw [hst.out]; simp [huv])
            clear huv
            go_wp2_with fail
            refine wp_region_later (by kernel_rfl) (by kernel_rfl) ?_
            repeat (go_big_quiet_step (((go_at_call 170; exact later_of (HO.out _)))))
            refine wpQuiet_nil ?_
            rintro W5 ⟨⟨W5', hb5⟩, rfl⟩
            go_wp2_with fail
            go_roundw
            case rel => exact ⟨k + 1, by omega, by go_num, hid (by rw [hf.out, hst'.out]), below_then hb5 hb7⟩
            case measure => (simp [intOf]; try omega)
          · rw [decide_eq_false huv] at hO
            have HO := hid hO; clear hO
            have hff : Hid (decide ((⟨p0, D⟩ : Projn) = ⟨q0, D'⟩) = false) := hid (by rw [hf.out, hst.out]; simp [huv])
            clear huv
            go_wp2_with fail
            refine wp_region_later (by kernel_rfl) (by kernel_rfl) ?_
            repeat (go_big_quiet_step (((go_at_call 170; exact later_of (HO.out _)))))
            refine wpQuiet_nil ?_
            rintro W5 ⟨⟨W5', hb5⟩, rfl⟩
            go_wp2_with fail
            go_ret
            exact ⟨by rw [hff.out]; rfl, below_then hb5 hb⟩
        · obtain rfl : k = D.length := by omega
          have d1 : decide ((D.length : Int) < (D.length : Int)) = false := decide_eq_false (by omega)
          have hff : Hid (decide ((⟨p0, D⟩ : Projn) = ⟨q0, D'⟩) = true) := hid (by rw [hf.out, List.drop_length, List.drop_of_length_le (by rw [HL.out]; exact Nat.le_refl _)]; rfl)
          go_wp2_with fail
          go_ret
          exact ⟨by rw [hff.out]; rfl, hb⟩
    · have hff : Hid (decide ((⟨p0, D⟩ : Projn) = ⟨q0, D'⟩) = false) := hid (by simp [h0]; rintro rfl; exact hlen rfl)
      have el : ((D.length : Int) != (D'.length : Int)) = true := by simp; omega
      clear hlen hx hy
      go_enter Tryz.func101, Tryz.ntmps101
      go_wp2_with fail
      go_ret
      exact ⟨by rw [hff.out]; rfl, by (repeat (first | exact Below.refl _ _ | assumption | (refine below_alloc ?_ _) | (refine Below.setCell ?_ (by first | omega | (simp; done) | (simp; omega)) _) | (refine Below.drew ?_) | (refine below_drewN ?_ _) | (refine below_then (by assumption) ?_)))⟩
  · have e0 : (p0 != q0) = true := by simpa using h0
    have hfin : Hid (decide ((⟨p0, D⟩ : Projn) = ⟨q0, D'⟩) = false) := hid (by simp [h0])
    clear hx hy
    go_enter Tryz.func101, Tryz.ntmps101
    go_wp2_with fail
    go_ret
    exact ⟨by rw [hfin.out]; rfl, by (repeat (first | with_reducible exact Below.refl _ _ | with_reducible assumption | (with_reducible refine below_alloc ?_ _) | (with_reducible refine Below.setCell ?_ (by first | omega | (simp; done) | (simp; omega)) _) | (with_reducible refine Below.drew ?_) | (with_reducible refine below_drewN ?_ _) | (refine below_then (by with_reducible assumption) ?_)))⟩
end Go.Proofs.YtlbffbkbkajciaaGreat
