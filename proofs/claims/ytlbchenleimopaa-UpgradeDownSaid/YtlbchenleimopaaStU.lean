/- Segments of the version 1: well-formed, by both; how long they are. -/
import Derived.Test.YtlbchenleimopaaStT
namespace Go.Proofs.Ytlbchenleimopaa
open Go.RowKit Go.Bs
set_option linter.unusedVariables false
set_option linter.unusedSimpArgs false

set_option maxHeartbeats 1600000 in
theorem legacy_right1 (u : Seg1) (a : Option Addr) (n c : Nat) (w : World) (h0 : 0 ≤ u.epoch ∧ u.epoch ≤ 18446744073709551615) (h1 : 0 ≤ u.base ∧ u.base ≤ 18446744073709551615) (hl : rOlds.r (· < w.heap.size) w [.slice a n c] u.entries) (ht : totalO u.entries ≤ 1000000000000) :
    Calls Try.prog 23 #[.agg #[.int .u64 u.epoch, .int .u64 u.base, .slice a n c]] w fun r w' => r = .returned (.bool (seg1R u)) ∧ Below w.heap.size w w' := by
  obtain ⟨rfl, hm, _, _⟩ := sl_len hl
  obtain ⟨e, bs, l⟩ := u
  dsimp only at *
  have HL := hid hl; clear hl
  go_enter Try.func23, Try.ntmps23
  go_wp2_with fail
  refine (epoch_right e _).mono ?_
  rintro e' w' ⟨rfl, rfl⟩
  cases he : epR e
  · have hff : Hid (seg1R ⟨e, bs, l⟩ = false) := hid (by simp [seg1R, he])
    clear he
    go_wp2
    go_ret
    exact ⟨by rw [hff.out]; rfl, by (repeat (first | exact Below.refl _ _ | assumption | (refine below_alloc ?_ _) | (refine Below.setCell ?_ (by first | omega | (simp; done) | (simp; omega)) _) | (refine Below.drew ?_) | (refine below_drewN ?_ _) | (refine below_then (by assumption) ?_)))⟩
  · by_cases hn : l.length ≤ 400
    · have d1 : decide ((400 : Int) < (l.length : Int)) = false := by simp; omega
      have hf1 : Hid (seg1R ⟨e, bs, l⟩ = (numR bs l.length && (decide (totalO l ≤ 1048576) && allI (fun i => oldR (bs + i)) 0 l))) := hid (by simp [seg1R, he, hn])
      clear he
      go_wp2_with fail
      refine (legacy_numbered bs l.length _ h1 (by omega)).mono ?_
      rintro e' w' ⟨rfl, rfl⟩
      have hnr : Hid (numR bs l.length = (poR bs && decide (bs + (l.length : Int) ≤ 4611686018427387904))) := hid rfl
      cases hnu : (poR bs && decide (bs + (l.length : Int) ≤ 4611686018427387904))
      · have hff : Hid (seg1R ⟨e, bs, l⟩ = false) := hid (by rw [hf1.out, hnr.out, hnu]; rfl)
        clear hnu
        go_wp2
        go_ret
        exact ⟨by rw [hff.out]; rfl, by (repeat (first | exact Below.refl _ _ | assumption | (refine below_alloc ?_ _) | (refine Below.setCell ?_ (by first | omega | (simp; done) | (simp; omega)) _) | (refine Below.drew ?_) | (refine below_drewN ?_ _) | (refine below_then (by assumption) ?_)))⟩
      · have hle : bs + (l.length : Int) ≤ 4611686018427387904 := by simp at hnu; exact hnu.2
        have hf2 : Hid (seg1R ⟨e, bs, l⟩ = (decide (totalO l ≤ 1048576) && allI (fun i => oldR (bs + i)) 0 l)) := hid (by rw [hf1.out, hnr.out, hnu]; rfl)
        clear hnu
        go_wp2_with fail
        refine (legacy_total l _ _ _ _ (lift HL.out (by (repeat (first | exact Below.refl _ _ | assumption | (refine below_alloc ?_ _) | (refine Below.setCell ?_ (by first | omega | (simp; done) | (simp; omega)) _) | (refine Below.drew ?_) | (refine below_drewN ?_ _) | (refine below_then (by assumption) ?_))))) ht).mono ?_
        rintro e' w1 ⟨rfl, hb1⟩
        have hb2 : Below w.heap.size w w1 := by (repeat (first | exact Below.refl _ _ | assumption | (refine below_alloc ?_ _) | (refine Below.setCell ?_ (by first | omega | (simp; done) | (simp; omega)) _) | (refine Below.drew ?_) | (refine below_drewN ?_ _) | (refine below_then (by assumption) ?_)))
        have p0 : w1.cell? ⟨w.heap.size, 0, none⟩ = some (.int .u64 e) := (Later.mk w1 hb1).cell (by go_simp)
        have p1 : w1.cell? ⟨w.heap.size, 1, none⟩ = some (.int .u64 bs) := (Later.mk w1 hb1).cell (by go_simp)
        have p2 : w1.cell? ⟨w.heap.size, 2, none⟩ = some (.slice a l.length c) := (Later.mk w1 hb1).cell (by go_simp)
        by_cases hto : totalO l ≤ 1048576
        · have d2 : decide ((1048576 : Int) < ((totalO l : Nat) : Int)) = false := by simp; omega
          have hf3 : Hid (seg1R ⟨e, bs, l⟩ = allI (fun i => oldR (bs + i)) 0 l) := hid (by rw [hf2.out, decide_eq_true hto]; rfl)
          clear hto
          go_wp2_with fail
          refine (all_old l _ _ _ (fun i => oldR (bs + i)) #[.pointer (some ⟨w.heap.size, 0, none⟩)] _ (lift HL.out hb2) ?_).mono ?_
          · intro k x a' c' W' hx hW'
            have hk : k < l.length := (List.getElem?_eq_some_iff.1 hx).1
            exact right1_one k x e bs a' _ c' w.heap.size W' (by omega) h1.1 (by omega) ((Later.mk W' hW').cell p1)
          rintro e' w3 ⟨rfl, hb3⟩
          go_wp2
          go_ret
          exact ⟨by rw [hf3.out]; rfl, below_then hb3 hb2⟩
        · have d2 : decide ((1048576 : Int) < ((totalO l : Nat) : Int)) = true := by simp; omega
          have hff : Hid (seg1R ⟨e, bs, l⟩ = false) := hid (by rw [hf2.out, decide_eq_false hto]; rfl)
          clear hto
          go_wp2
          go_ret
          exact ⟨by rw [hff.out]; rfl, hb2⟩
    · have d1 : decide ((400 : Int) < (l.length : Int)) = true := by simp; omega
      have hff : Hid (seg1R ⟨e, bs, l⟩ = false) := hid (by simp [seg1R, hn])
      clear he
      go_wp2
      go_ret
      exact ⟨by rw [hff.out]; rfl, by (repeat (first | exact Below.refl _ _ | assumption | (refine below_alloc ?_ _) | (refine Below.setCell ?_ (by first | omega | (simp; done) | (simp; omega)) _) | (refine Below.drew ?_) | (refine below_drewN ?_ _) | (refine below_then (by assumption) ?_)))⟩

set_option maxHeartbeats 800000 in
theorem ref35_fits (b : Int) (n : Nat) (w : World) (h0 : 0 ≤ b ∧ b ≤ 18446744073709551615) (hn : n ≤ 1000000000000) :
    Calls Try.prog 47 #[.int .u64 b, .int .i64 n] w fun r w' => r = .returned (.bool (numR b n)) ∧ w = w' := by
  have hc := ref17_pos b
  cases hp : poR b
  · have hff : Hid (numR b n = false) := hid (by simp [numR, hp])
    rw [hp] at hc
    have HC := hid hc; clear hc hp
    go_enter Try.func47, Try.ntmps47
    go_wp2_with (go_at_call 67; refine (HC.out _).mono ?_; rintro e w' ⟨rfl, rfl⟩)
    go_ret
    exact ⟨by rw [hff.out]; rfl, rfl⟩
  · have hlt : b < 4611686018427387904 := by simpa [poR] using hp
    have hff : Hid (numR b n = decide ((n : Int) ≤ 4611686018427387904 - b)) := hid (by simp only [numR, hp, Bool.true_and, decide_eq_decide]; omega)
    rw [hp] at hc
    have HC := hid hc; clear hc hp
    go_enter Try.func47, Try.ntmps47
    go_wp2_with (go_at_call 67; refine (HC.out _).mono ?_; rintro e w' ⟨rfl, rfl⟩)
    go_ret
    exact ⟨by rw [hff.out]; rfl, rfl⟩

/-- What a round of ref35.Right1's loop has to hold at place k. -/
def r1At (bs : Int) (l : List Old) (k : Nat) : Bool := allI (fun i => oldR (bs + i)) k (l.drop k) && decide (totalO l ≤ 1048576)
theorem r1At_step (bs : Int) (l : List Old) (k : Nat) (h : k < l.length) : r1At bs l k = (oldR (bs + k) l[k] && r1At bs l (k + 1)) := by
  unfold r1At; rw [allI_step _ l k h, Bool.and_assoc]

set_option maxHeartbeats 1600000 in
theorem ref35_right1 (u : Seg1) (a : Option Addr) (n c : Nat) (w : World) (h0 : 0 ≤ u.epoch ∧ u.epoch ≤ 18446744073709551615) (h1 : 0 ≤ u.base ∧ u.base ≤ 18446744073709551615) (hl : rOlds.r (· < w.heap.size) w [.slice a n c] u.entries) (ht : totalO u.entries ≤ 1000000000000) (hlen : u.entries.length ≤ 1000000000000) :
    Calls Try.prog 26 #[.agg #[.int .u64 u.epoch, .int .u64 u.base, .slice a n c]] w fun r w' => r = .returned (.bool (seg1R u)) ∧ Below w.heap.size w w' := by
  obtain ⟨rfl, hm, _, _⟩ := sl_len hl
  obtain ⟨e, bs, l⟩ := u
  dsimp only at *
  have HL := hid hl; clear hl
  go_enter Try.func26, Try.ntmps26
  go_wp2_with fail
  refine (ref17_right e h0.1 _).mono ?_
  rintro e' w' ⟨rfl, rfl⟩
  cases he : epR e
  · have hff : Hid (seg1R ⟨e, bs, l⟩ = false) := hid (by simp [seg1R, he])
    clear he
    go_wp2
    go_ret
    exact ⟨by rw [hff.out]; rfl, by (repeat (first | exact Below.refl _ _ | assumption | (refine below_alloc ?_ _) | (refine Below.setCell ?_ (by first | omega | (simp; done) | (simp; omega)) _) | (refine Below.drew ?_) | (refine below_drewN ?_ _) | (refine below_then (by assumption) ?_)))⟩
  · by_cases hn : l.length ≤ 400
    · have d1 : decide ((400 : Int) < (l.length : Int)) = false := by simp; omega
      have hf1 : Hid (seg1R ⟨e, bs, l⟩ = (numR bs l.length && (decide (totalO l ≤ 1048576) && allI (fun i => oldR (bs + i)) 0 l))) := hid (by simp [seg1R, he, hn])
      clear he
      go_wp2_with fail
      refine (ref35_fits bs l.length _ h1 (by omega)).mono ?_
      rintro e' w' ⟨rfl, rfl⟩
      cases hnu : numR bs l.length
      · have hff : Hid (seg1R ⟨e, bs, l⟩ = false) := hid (by rw [hf1.out, hnu]; rfl)
        clear hnu
        go_wp2
        go_ret
        exact ⟨by rw [hff.out]; rfl, by (repeat (first | exact Below.refl _ _ | assumption | (refine below_alloc ?_ _) | (refine Below.setCell ?_ (by first | omega | (simp; done) | (simp; omega)) _) | (refine Below.drew ?_) | (refine below_drewN ?_ _) | (refine below_then (by assumption) ?_)))⟩
      · have hle : bs + (l.length : Int) ≤ 4611686018427387904 := by simp [numR] at hnu; exact hnu.2
        have hf2 : Hid (seg1R ⟨e, bs, l⟩ = r1At bs l 0) := hid (by rw [hf1.out, hnu, r1At, Bool.and_comm (decide _)]; rfl)
        clear hnu
        go_wp2_with fail
        refine wp_world (fun W => Below w.heap.size w W ∧ w.heap.size < W.heap.size ∧ W.cell? ⟨w.heap.size, 0, none⟩ = some (.int .u64 e) ∧ W.cell? ⟨w.heap.size, 1, none⟩ = some (.int .u64 bs) ∧ W.cell? ⟨w.heap.size, 2, none⟩ = some (.slice a l.length c)) ⟨by (repeat (first | exact Below.refl _ _ | assumption | (refine below_alloc ?_ _) | (refine Below.setCell ?_ (by first | omega | (simp; done) | (simp; omega)) _) | (refine Below.drew ?_) | (refine below_drewN ?_ _) | (refine below_then (by assumption) ?_))), by simp, by go_simp, by go_simp, by go_simp⟩ ?_
        intro W ⟨hbW, hzW, q0, q1, q2⟩
        go_loopw [3, 4] (fun s i wr => ∃ k : Nat, k ≤ l.length ∧ i = .int .i64 k ∧ s = .int .i64 (totalO (l.take k) : Nat) ∧ Hid (seg1R ⟨e, bs, l⟩ = r1At bs l k) ∧ Below W.heap.size W wr) (fun _ i _ => l.length - (intOf i).toNat)
        case atStart => exact ⟨0, Nat.zero_le _, rfl, rfl, hf2, Below.refl _ _⟩
        case round =>
          obtain ⟨k, hk, rfl, rfl, hf, hb⟩ := hrel
          have t1 : wr.cell? ⟨w.heap.size, 1, none⟩ = some (.int .u64 bs) := (Later.mk wr hb).cell q1
          have t2 : wr.cell? ⟨w.heap.size, 2, none⟩ = some (.slice a l.length c) := (Later.mk wr hb).cell q2
          have hz3 : w.heap.size < wr.heap.size := by have := hb.size; omega
          by_cases hlt : k < l.length
          · obtain ⟨b, o, hA, hbb, a1, c1, X0, X1, X2, X3, _, _, _⟩ := old_at (lift HL.out (below_then hb hbW)) hlt
            subst hA
            have hs := hid (totalO_step l k hlt)
            have hT := totalO_take_le l (k + 1)
            rw [hs.out] at hT
            have hst := hid (r1At_step bs l k hlt)
            generalize l[k] = x at *
            obtain ⟨xs, xb, xh, xd⟩ := x
            dsimp only at *
            generalize totalO (l.take k) = t at *
            cases xh
            · by_cases hz : xb = 0
              · have hff : Hid (seg1R ⟨e, bs, l⟩ = r1At bs l (k + 1)) := hid (by rw [hf.out, hst.out]; simp [oldR, hz])
                have d3 : (xb != 0) = false := by simp [hz]
                clear hz
                go_wp2
                go_roundw
                case rel => exact ⟨k + 1, by omega, by go_num, by rw [hs.out]; simp only [Int.natCast_add], hff, below_alloc hb _⟩
                case measure => simp [intOf]; omega
              · have hff : Hid (seg1R ⟨e, bs, l⟩ = false) := hid (by rw [hf.out, hst.out]; simp [oldR, hz])
                have d3 : (xb != 0) = true := by simp [hz]
                clear hz
                go_wp2
                go_ret
                exact ⟨by rw [hff.out]; rfl, by (repeat (first | exact Below.refl _ _ | assumption | (refine below_alloc ?_ _) | (refine Below.setCell ?_ (by first | omega | (simp; done) | (simp; omega)) _) | (refine Below.drew ?_) | (refine below_drewN ?_ _) | (refine below_then (by assumption) ?_)))⟩
            · by_cases hz : xb < bs + k
              · have hff : Hid (seg1R ⟨e, bs, l⟩ = r1At bs l (k + 1)) := hid (by rw [hf.out, hst.out]; simp [oldR, hz])
                have d3 : decide (bs + (k : Int) ≤ xb) = false := by simpa using hz
                clear hz
                go_wp2
                go_roundw
                case rel => exact ⟨k + 1, by omega, by go_num, by rw [hs.out]; simp only [Int.natCast_add], hff, below_alloc hb _⟩
                case measure => simp [intOf]; omega
              · have hff : Hid (seg1R ⟨e, bs, l⟩ = false) := hid (by rw [hf.out, hst.out]; simp [oldR, hz])
                have d3 : decide (bs + (k : Int) ≤ xb) = true := by simp; omega
                clear hz
                go_wp2
                go_ret
                exact ⟨by rw [hff.out]; rfl, by (repeat (first | exact Below.refl _ _ | assumption | (refine below_alloc ?_ _) | (refine Below.setCell ?_ (by first | omega | (simp; done) | (simp; omega)) _) | (refine Below.drew ?_) | (refine below_drewN ?_ _) | (refine below_then (by assumption) ?_)))⟩
          · obtain rfl : k = l.length := by omega
            have hff : Hid (seg1R ⟨e, bs, l⟩ = decide (((totalO l : Nat) : Int) ≤ 1048576)) := hid (by rw [hf.out, r1At, List.drop_length]; simp only [allI, Bool.true_and, decide_eq_decide]; omega)
            rw [List.take_length]
            go_wp2
            go_ret
            exact ⟨by rw [hff.out]; rfl, below_then hb hbW⟩
    · have d1 : decide ((400 : Int) < (l.length : Int)) = true := by simp; omega
      have hff : Hid (seg1R ⟨e, bs, l⟩ = false) := hid (by simp [seg1R, hn])
      clear he
      go_wp2
      go_ret
      exact ⟨by rw [hff.out]; rfl, by (repeat (first | exact Below.refl _ _ | assumption | (refine below_alloc ?_ _) | (refine Below.setCell ?_ (by first | omega | (simp; done) | (simp; omega)) _) | (refine Below.drew ?_) | (refine below_drewN ?_ _) | (refine below_then (by assumption) ?_)))⟩

/-- Is a segment of the version 1 longer than is gone through? -/
def long1 (l : List Old) : Bool := decide (450 < l.length) || !(l.take 450).all fun x => decide (x.data.length ≤ 300)
theorem long1_no {l : List Old} (h : long1 l = false) : l.length ≤ 450 ∧ ∀ x ∈ l, x.data.length ≤ 300 := by
  simp only [long1, Bool.or_eq_false_iff, decide_eq_false_iff_not, Bool.not_eq_false', List.all_eq_true, decide_eq_true_eq] at h
  obtain ⟨h1, h2⟩ := h
  rw [List.take_of_length_le (by omega)] at h2
  exact ⟨by omega, h2⟩
def longAt (l : List Old) (k : Nat) : Bool := decide (450 < l.length) || !((l.take 450).drop k).all fun x => decide (x.data.length ≤ 300)
theorem longAt_step (l : List Old) (k : Nat) (h : k < l.length) (h2 : k < 450) : longAt l k = (!decide (l[k].data.length ≤ 300) || longAt l (k + 1)) := by
  unfold longAt
  have e : (l.take 450)[k]'(by simp; omega) = l[k] := by simp
  rw [List.drop_eq_getElem_cons (show k < (l.take 450).length by simp; omega), List.all_cons, e, Bool.not_and]
  cases decide (450 < l.length) <;> cases decide (l[k].data.length ≤ 300) <;> simp
theorem longAt_end (l : List Old) (k : Nat) (h : l.length ≤ k ∨ 450 ≤ k) : longAt l k = decide (450 < l.length) := by
  unfold longAt
  rw [List.drop_of_length_le (by simp; omega)]
  simp

set_option maxRecDepth 100000 in
set_option maxHeartbeats 1600000 in
theorem law35_long1 (u : Seg1) (a : Option Addr) (n c : Nat) (w : World) (hl : rOlds.r (· < w.heap.size) w [.slice a n c] u.entries) :
    Calls Try.prog 6 #[.agg #[.int .u64 u.epoch, .int .u64 u.base, .slice a n c]] w fun r w' => r = .returned (.bool (long1 u.entries)) ∧ Below w.heap.size w w' := by
  obtain ⟨rfl, hm, _, _⟩ := sl_len hl
  obtain ⟨e, bs, l⟩ := u
  dsimp only at *
  have HL := hid hl; clear hl
  go_enter Try.func6, Try.ntmps6
  go_wp2_with fail
  refine wp_world (fun W => Below w.heap.size w W ∧ w.heap.size < W.heap.size ∧ W.cell? ⟨w.heap.size, 2, none⟩ = some (.slice a l.length c)) ⟨by (repeat (first | exact Below.refl _ _ | assumption | (refine below_alloc ?_ _) | (refine Below.setCell ?_ (by first | omega | (simp; done) | (simp; omega)) _) | (refine Below.drew ?_) | (refine below_drewN ?_ _) | (refine below_then (by assumption) ?_))), by simp, by go_simp⟩ ?_
  intro W ⟨hbW, hzW, q2⟩
  go_loop [3] (fun i => ∃ k : Nat, k ≤ l.length ∧ k ≤ 450 ∧ i = .int .i64 k ∧ Hid (long1 l = longAt l k)) (fun i => l.length - (intOf i).toNat)
  case atStart => exact ⟨0, Nat.zero_le _, Nat.zero_le _, rfl, hid rfl⟩
  case round =>
    obtain ⟨k, hk, hk2, rfl, hf⟩ := hrel
    by_cases hlt : k < l.length
    · by_cases h450 : k < 450
      · obtain ⟨b, o, hA, hbb, a1, c1, X0, X1, X2, X3, _, _, _⟩ := old_at (lift HL.out hbW) hlt
        subst hA
        have hst := hid (longAt_step l k hlt h450)
        generalize l[k].data.length = n1 at *
        by_cases h3 : n1 ≤ 300
        · have hff : Hid (long1 l = longAt l (k + 1)) := hid (by rw [hf.out, hst.out]; simp [h3])
          have d3 : decide ((300 : Int) < (n1 : Int)) = false := by simp; omega
          clear h3
          go_wp2
          go_round
          case rel => exact ⟨k + 1, by omega, by omega, by go_num, hff⟩
          case measure => simp [intOf]; omega
        · have hff : Hid (long1 l = true) := hid (by rw [hf.out, hst.out]; simp [h3])
          have d3 : decide ((300 : Int) < (n1 : Int)) = true := by simp; omega
          clear h3
          go_wp2
          go_ret
          exact ⟨by rw [hff.out]; rfl, by (repeat (first | exact Below.refl _ _ | assumption | (refine below_alloc ?_ _) | (refine Below.setCell ?_ (by first | omega | (simp; done) | (simp; omega)) _) | (refine Below.drew ?_) | (refine below_drewN ?_ _) | (refine below_then (by assumption) ?_)))⟩
      · have hff : Hid (long1 l = decide ((450 : Int) < (l.length : Int))) := hid (by rw [hf.out, longAt_end l k (.inr (by omega))]; simp only [decide_eq_decide]; omega)
        go_wp2
        go_ret
        exact ⟨by rw [hff.out]; rfl, by (repeat (first | exact Below.refl _ _ | assumption | (refine below_alloc ?_ _) | (refine Below.setCell ?_ (by first | omega | (simp; done) | (simp; omega)) _) | (refine Below.drew ?_) | (refine below_drewN ?_ _) | (refine below_then (by assumption) ?_)))⟩
    · have hff : Hid (long1 l = decide ((450 : Int) < (l.length : Int))) := hid (by rw [hf.out, longAt_end l k (.inl (by omega))]; simp only [decide_eq_decide]; omega)
      go_wp2
      go_ret
      exact ⟨by rw [hff.out]; rfl, by (repeat (first | exact Below.refl _ _ | assumption | (refine below_alloc ?_ _) | (refine Below.setCell ?_ (by first | omega | (simp; done) | (simp; omega)) _) | (refine Below.drew ?_) | (refine below_drewN ?_ _) | (refine below_then (by assumption) ?_)))⟩
end Go.Proofs.Ytlbchenleimopaa
