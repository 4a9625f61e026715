/- How long links, entries, batches and segments are: the laws' guards. -/
import Derived.Test.YtlbchenleimopaaStM
namespace Go.Proofs.Ytlbchenleimopaa
open Go.RowKit Go.Bs
set_option linter.unusedVariables false
set_option linter.unusedSimpArgs false

/-- More than K things, or one of the first K ones is too long. -/
def longG {α : Type} (K : Nat) (p : α → Bool) (l : List α) : Bool := decide (K < l.length) || (l.take K).any p
def longGAt {α : Type} (K : Nat) (p : α → Bool) (l : List α) (k : Nat) : Bool := decide (K < l.length) || ((l.take K).drop k).any p
theorem longG_no {α : Type} {K : Nat} {p : α → Bool} {l : List α} (h : longG K p l = false) : l.length ≤ K ∧ ∀ x ∈ l, p x = false := by
  simp only [longG, Bool.or_eq_false_iff, decide_eq_false_iff_not, List.any_eq_false] at h
  obtain ⟨h1, h2⟩ := h
  rw [List.take_of_length_le (by omega)] at h2
  exact ⟨by omega, fun x hx => by simpa using h2 x hx⟩
theorem longGAt_step {α : Type} (K : Nat) (p : α → Bool) (l : List α) (k : Nat) (h : k < l.length) (h2 : k < K) : longGAt K p l k = (p l[k] || longGAt K p l (k + 1)) := by
  unfold longGAt
  have e : (l.take K)[k]'(by simp; omega) = l[k] := by simp
  rw [List.drop_eq_getElem_cons (show k < (l.take K).length by simp; omega), List.any_cons, e]
  cases decide (K < l.length) <;> cases p l[k] <;> simp
theorem longGAt_end {α : Type} (K : Nat) (p : α → Bool) (l : List α) (k : Nat) (h : l.length ≤ k ∨ K ≤ k) : longGAt K p l k = decide (K < l.length) := by
  unfold longGAt
  rw [List.drop_of_length_le (by simp; omega)]
  simp

def long23 (l : List Link) : Bool := longG 50 (fun x => decide (50 < x.backs.length)) l
def long24 (e : Entry) : Bool := long23 e.links || decide (500 < e.data.length)
def many24 (l : List Entry) : Bool := longG 30 long24 l
def long25 (l : List Entry) : Bool := many24 l || decide (300 < total (l.take 30))
def long34 (l : List Batch) : Bool := longG 20 (fun b => long25 b.entries) l

set_option maxRecDepth 100000 in
set_option maxHeartbeats 1600000 in
theorem law23_long (l : List Link) (a : Option Addr) (n c : Nat) (w : World) (hl : rLinks.r (· < w.heap.size) w [.slice a n c] l) :
    Calls Try.prog 82 #[.slice a n c] w fun r w' => r = .returned (.bool (long23 l)) ∧ Below w.heap.size w w' := by
  obtain ⟨rfl, hm, _, _⟩ := sl_len hl
  have HL := hid hl; clear hl
  go_enter Try.func82, Try.ntmps82
  go_wp2_with fail
  go_loop [3] (fun i => ∃ k : Nat, k ≤ l.length ∧ k ≤ 50 ∧ i = .int .i64 k ∧ Hid (long23 l = longGAt 50 (fun x => decide (50 < x.backs.length)) l k)) (fun i => l.length - (intOf i).toNat)
  case atStart => exact ⟨0, Nat.zero_le _, Nat.zero_le _, rfl, hid rfl⟩
  case round =>
    obtain ⟨k, hk, hk2, rfl, hf⟩ := hrel
    by_cases hlt : k < l.length
    · by_cases h450 : k < 50
      · obtain ⟨b, o, hA, hbb, a1, c1, X0, X1, _, _⟩ := link_at HL.out hlt
        subst hA
        have hst := hid (longGAt_step 50 (fun x => decide (50 < x.backs.length)) l k hlt h450)
        generalize l[k] = x at *
        generalize x.stream = xs at *
        generalize x.backs.length = n1 at *
        by_cases h3 : 50 < n1
        · have hff : Hid (long23 l = true) := hid (by rw [hf.out, hst.out]; simp [h3])
          have d3 : decide ((50 : Int) < (n1 : Int)) = true := by simp; omega
          clear h3
          go_wp2
          go_ret
          exact ⟨by rw [hff.out]; rfl, by (repeat (first | exact Below.refl _ _ | assumption | (refine below_alloc ?_ _) | (refine Below.setCell ?_ (by first | omega | (simp; done) | (simp; omega)) _) | (refine Below.drew ?_) | (refine below_drewN ?_ _) | (refine below_then (by assumption) ?_)))⟩
        · have hff : Hid (long23 l = longGAt 50 (fun x => decide (50 < x.backs.length)) l (k + 1)) := hid (by rw [hf.out, hst.out]; simp [h3])
          have d3 : decide ((50 : Int) < (n1 : Int)) = false := by simp; omega
          clear h3
          go_wp2
          go_round
          case rel => exact ⟨k + 1, by omega, by omega, by go_num, hff⟩
          case measure => simp [intOf]; omega
      · have hff : Hid (long23 l = decide ((50 : Int) < (l.length : Int))) := hid (by rw [hf.out, longGAt_end _ _ l k (.inr (by omega))]; simp only [decide_eq_decide]; omega)
        go_wp2
        go_ret
        exact ⟨by rw [hff.out]; rfl, by (repeat (first | exact Below.refl _ _ | assumption | (refine below_alloc ?_ _) | (refine Below.setCell ?_ (by first | omega | (simp; done) | (simp; omega)) _) | (refine Below.drew ?_) | (refine below_drewN ?_ _) | (refine below_then (by assumption) ?_)))⟩
    · have hff : Hid (long23 l = decide ((50 : Int) < (l.length : Int))) := hid (by rw [hf.out, longGAt_end _ _ l k (.inl (by omega))]; simp only [decide_eq_decide]; omega)
      go_wp2
      go_ret
      exact ⟨by rw [hff.out]; rfl, by (repeat (first | exact Below.refl _ _ | assumption | (refine below_alloc ?_ _) | (refine Below.setCell ?_ (by first | omega | (simp; done) | (simp; omega)) _) | (refine Below.drew ?_) | (refine below_drewN ?_ _) | (refine below_then (by assumption) ?_)))⟩

set_option maxHeartbeats 800000 in
theorem law24_long (x : Entry) (a a' : Option Addr) (n c n' c' : Nat) (w : World) (hl : rLinks.r (· < w.heap.size) w [.slice a n c] x.links) (hd : rBytes.r (· < w.heap.size) w [.slice a' n' c'] x.data) :
    Calls Try.prog 73 #[.agg #[.slice a n c, .slice a' n' c']] w fun r w' => r = .returned (.bool (long24 x)) ∧ Below w.heap.size w w' := by
  obtain ⟨rfl, hm, _, _⟩ := sl_len hl
  obtain ⟨rfl, hm', _, _⟩ := sl_len hd
  have HL := hid hl; clear hl hd
  have HLL := hid (show long24 x = (long23 x.links || decide (500 < x.data.length)) from rfl)
  go_enter Try.func73, Try.ntmps73
  go_wp2_with fail
  refine (law23_long x.links _ _ _ _ (lift HL.out (by (repeat (first | exact Below.refl _ _ | assumption | (refine below_alloc ?_ _) | (refine Below.setCell ?_ (by first | omega | (simp; done) | (simp; omega)) _) | (refine Below.drew ?_) | (refine below_drewN ?_ _) | (refine below_then (by assumption) ?_)))))).mono ?_
  rintro r w1 ⟨rfl, hb1⟩
  cases h : long23 x.links
  · have hff : Hid (long24 x = decide ((500 : Int) < (x.data.length : Int))) := hid (by rw [HLL.out, h, Bool.false_or]; simp only [decide_eq_decide]; omega)
    clear h
    have c1 : w1.cell? ⟨w.heap.size, 1, none⟩ = some (.slice a' x.data.length c') := (Later.mk w1 hb1).cell (by go_simp)
    go_wp2
    go_ret
    exact ⟨by rw [hff.out]; rfl, by (repeat (first | exact Below.refl _ _ | assumption | (refine below_alloc ?_ _) | (refine Below.setCell ?_ (by first | omega | (simp; done) | (simp; omega)) _) | (refine Below.drew ?_) | (refine below_drewN ?_ _) | (refine below_then (by assumption) ?_)))⟩
  · have hff : Hid (long24 x = true) := hid (by rw [HLL.out, h]; rfl)
    clear h
    go_wp2
    go_ret
    exact ⟨by rw [hff.out]; rfl, by (repeat (first | exact Below.refl _ _ | assumption | (refine below_alloc ?_ _) | (refine Below.setCell ?_ (by first | omega | (simp; done) | (simp; omega)) _) | (refine Below.drew ?_) | (refine below_drewN ?_ _) | (refine below_then (by assumption) ?_)))⟩

set_option maxRecDepth 100000 in
set_option maxHeartbeats 1600000 in
theorem law24_many (l : List Entry) (a : Option Addr) (n c : Nat) (w : World) (hl : rEntries.r (· < w.heap.size) w [.slice a n c] l) :
    Calls Try.prog 64 #[.slice a n c] w fun r w' => r = .returned (.bool (many24 l)) ∧ Below w.heap.size w w' := by
  obtain ⟨rfl, hm, _, _⟩ := sl_len hl
  have HL := hid hl; clear hl
  go_enter Try.func64, Try.ntmps64
  go_wp2_with fail
  go_loopw [3] (fun i wr => ∃ k : Nat, k ≤ l.length ∧ k ≤ 30 ∧ i = .int .i64 k ∧ Hid (many24 l = longGAt 30 long24 l k) ∧ Below w.heap.size w wr) (fun i _ => l.length - (intOf i).toNat)
  case atStart => exact ⟨0, Nat.zero_le _, Nat.zero_le _, rfl, hid rfl, Below.refl _ _⟩
  case round =>
    obtain ⟨k, hk, hk2, rfl, hf, hb⟩ := hrel
    by_cases hlt : k < l.length
    · by_cases h450 : k < 30
      · obtain ⟨b, o, hA, hbb, a1, c1, a2, c2, X0, X1, hd1, hd2⟩ := entry_at (lift HL.out hb) hlt
        subst hA
        have hst := hid (longGAt_step 30 long24 l k hlt h450)
        have HD1 := hid hd1; have HD2 := hid hd2; clear hd1 hd2
        generalize l[k] = x at *
        go_wp2_with fail
        refine (law24_long x _ _ _ _ _ _ _ HD1.out HD2.out).mono ?_
        rintro r w1 ⟨rfl, hb1⟩
        have hb2 := below_then hb1 hb
        cases h3 : long24 x
        · have hff : Hid (many24 l = longGAt 30 long24 l (k + 1)) := hid (by rw [hf.out, hst.out, h3]; rfl)
          clear h3
          go_wp2
          go_roundw
          case rel => exact ⟨k + 1, by omega, by omega, by go_num, hff, hb2⟩
          case measure => simp [intOf]; omega
        · have hff : Hid (many24 l = true) := hid (by rw [hf.out, hst.out, h3]; rfl)
          clear h3
          go_wp2
          go_ret
          exact ⟨by rw [hff.out]; rfl, hb2⟩
      · have hff : Hid (many24 l = decide ((30 : Int) < (l.length : Int))) := hid (by rw [hf.out, longGAt_end _ _ l k (.inr (by omega))]; simp only [decide_eq_decide]; omega)
        go_wp2
        go_ret
        exact ⟨by rw [hff.out]; rfl, hb⟩
    · have hff : Hid (many24 l = decide ((30 : Int) < (l.length : Int))) := hid (by rw [hf.out, longGAt_end _ _ l k (.inl (by omega))]; simp only [decide_eq_decide]; omega)
      go_wp2
      go_ret
      exact ⟨by rw [hff.out]; rfl, hb⟩

theorem many24_no {l : List Entry} (h : many24 l = false) : l.length ≤ 30 ∧ ∀ x ∈ l, x.data.length ≤ 500 ∧ x.links.length ≤ 50 ∧ ∀ y ∈ x.links, y.backs.length ≤ 50 := by
  obtain ⟨h1, h2⟩ := longG_no h
  refine ⟨h1, fun x hx => ?_⟩
  have := h2 x hx
  simp only [long24, Bool.or_eq_false_iff, decide_eq_false_iff_not] at this
  obtain ⟨h3, h4⟩ := longG_no this.1
  exact ⟨by omega, h3, fun y hy => by have := h4 y hy; simpa using this⟩
theorem total_bound {l : List Entry} {k : Nat} (h : ∀ x ∈ l, x.data.length ≤ k) : total l ≤ k * l.length := by
  induction l with
  | nil => exact Nat.zero_le _
  | cons x l ih =>
    have h1 := ih fun y hy => h y (List.mem_cons_of_mem _ hy)
    have h2 := h x (List.mem_cons_self ..)
    simp only [total, List.map_cons, List.sum_cons, List.length_cons] at *
    rw [Nat.mul_succ]; omega

set_option maxRecDepth 100000 in
set_option maxHeartbeats 3200000 in
theorem law25_long (e b : Int) (l : List Entry) (a : Option Addr) (n c : Nat) (w : World) (hl : rEntries.r (· < w.heap.size) w [.slice a n c] l) :
    Calls Try.prog 40 #[.agg #[.int .u64 e, .int .u64 b, .slice a n c]] w fun r w' => r = .returned (.bool (long25 l)) ∧ Below w.heap.size w w' := by
  obtain ⟨rfl, hm, _, _⟩ := sl_len hl
  have HL := hid hl; clear hl
  have HLL := hid (show long25 l = (many24 l || decide (300 < total (l.take 30))) from rfl)
  cases hmn : many24 l
  · obtain ⟨g1, g2⟩ := many24_no hmn
    have ht := total_bound (k := 500) (fun x hx => (g2 x hx).1)
    have hff : Hid (long25 l = decide ((300 : Int) < ((total l : Nat) : Int))) := hid (by rw [HLL.out, hmn, Bool.false_or, List.take_of_length_le g1]; simp only [decide_eq_decide]; omega)
    have hM := fun W h => law24_many l a l.length c W h
    rw [hmn] at hM
    have HM := hid hM; clear hM hmn g2
    have HT := hid ht; clear ht
    go_enter Try.func40, Try.ntmps40
    go_wp2_with fail
    refine wp_world (fun W => Below w.heap.size w W ∧ w.heap.size < W.heap.size ∧ W.cell? ⟨w.heap.size, 2, none⟩ = some (.slice a l.length c)) ⟨by (repeat (first | exact Below.refl _ _ | assumption | (refine below_alloc ?_ _) | (refine Below.setCell ?_ (by first | omega | (simp; done) | (simp; omega)) _) | (refine Below.drew ?_) | (refine below_drewN ?_ _) | (refine below_then (by assumption) ?_))), by simp, by go_simp⟩ ?_
    intro W ⟨hbW, hzW, q2⟩
    go_loop [3, 4] (fun s i => ∃ k : Nat, k ≤ l.length ∧ i = .int .i64 k ∧ s = .int .i64 (total (l.take k) : Nat)) (fun _ i => l.length - (intOf i).toNat)
    case atStart => exact ⟨0, Nat.zero_le _, rfl, rfl⟩
    case round =>
      obtain ⟨k, hk, rfl, rfl⟩ := hrel
      by_cases hlt : k < l.length
      · obtain ⟨bb, o, hA, hbb, a1, c1, a2, c2, X0, X1, _, _⟩ := entry_at (lift HL.out hbW) hlt
        subst hA
        have hs := hid (total_step l k hlt)
        have h1 := total_take_le l (k + 1)
        rw [hs.out] at h1
        have h2 := HT.out
        have d3 : decide ((k : Int) < 30) = true := by simp; omega
        generalize l[k].links.length = n1 at *
        generalize l[k].data.length = n2 at *
        generalize total (l.take k) = t at *
        generalize total l = tt at *
        have h3 : t + n2 ≤ 15000 := by omega
        clear h1 h2
        go_wp2
        go_round
        case rel => exact ⟨k + 1, by omega, by go_num, by rw [hs.out]; simp only [Int.natCast_add]⟩
        case measure => simp [intOf]; omega
      · obtain rfl : k = l.length := by omega
        rw [List.take_length]
        go_wp2_with fail
        refine (HM.out _ (lift HL.out hbW)).mono ?_
        rintro r w1 ⟨rfl, hb1⟩
        go_wp2
        go_ret
        exact ⟨by rw [hff.out]; rfl, below_then hb1 hbW⟩
  · have hff : Hid (long25 l = true) := hid (by rw [HLL.out, hmn]; rfl)
    have hM := fun W h => law24_many l a l.length c W h
    rw [hmn] at hM
    have HM := hid hM; clear hM hmn
    go_enter Try.func40, Try.ntmps40
    go_wp2_with fail
    refine wp_world (fun W => Below w.heap.size w W ∧ w.heap.size < W.heap.size ∧ W.cell? ⟨w.heap.size, 2, none⟩ = some (.slice a l.length c)) ⟨by (repeat (first | exact Below.refl _ _ | assumption | (refine below_alloc ?_ _) | (refine Below.setCell ?_ (by first | omega | (simp; done) | (simp; omega)) _) | (refine Below.drew ?_) | (refine below_drewN ?_ _) | (refine below_then (by assumption) ?_))), by simp, by go_simp⟩ ?_
    intro W ⟨hbW, hzW, q2⟩
    go_loop [3, 4] (fun s i => ∃ (k : Nat) (m : Int), k ≤ l.length ∧ k ≤ 30 ∧ i = .int .i64 k ∧ s = .int .i64 m) (fun _ i => l.length - (intOf i).toNat)
    case atStart => exact ⟨0, 0, Nat.zero_le _, Nat.zero_le _, rfl, rfl⟩
    case round =>
      obtain ⟨k, m, hk, hk2, rfl, rfl⟩ := hrel
      by_cases hlt : k < l.length
      · by_cases h30 : k < 30
        · obtain ⟨bb, o, hA, hbb, a1, c1, a2, c2, X0, X1, _, _⟩ := entry_at (lift HL.out hbW) hlt
          subst hA
          generalize l[k].links.length = n1 at *
          generalize l[k].data.length = n2 at *
          go_wp2
          go_round
          case rel => exact ⟨k + 1, _, by omega, by omega, by go_num, rfl⟩
          case measure => simp [intOf]; omega
        · go_wp2_with fail
          refine (HM.out _ (lift HL.out hbW)).mono ?_
          rintro r w1 ⟨rfl, hb1⟩
          go_wp2
          go_ret
          exact ⟨by rw [hff.out]; rfl, below_then hb1 hbW⟩
      · go_wp2_with fail
        refine (HM.out _ (lift HL.out hbW)).mono ?_
        rintro r w1 ⟨rfl, hb1⟩
        go_wp2
        go_ret
        exact ⟨by rw [hff.out]; rfl, below_then hb1 hbW⟩

theorem long25_no {l : List Entry} (h : long25 l = false) : l.length ≤ 30 ∧ total l ≤ 300 ∧ ∀ x ∈ l, x.data.length ≤ 500 ∧ x.links.length ≤ 50 ∧ ∀ y ∈ x.links, y.backs.length ≤ 50 := by
  simp only [long25, Bool.or_eq_false_iff, decide_eq_false_iff_not] at h
  obtain ⟨h1, h2⟩ := many24_no h.1
  rw [List.take_of_length_le h1] at h
  exact ⟨h1, by omega, h2⟩

set_option maxRecDepth 100000 in
set_option maxHeartbeats 1600000 in
theorem law34_long (e : Int) (l : List Batch) (a : Option Addr) (n c : Nat) (w : World) (hl : rBatches.r (· < w.heap.size) w [.slice a n c] l) :
    Calls Try.prog 21 #[.agg #[.int .u64 e, .slice a n c]] w fun r w' => r = .returned (.bool (long34 l)) ∧ Below w.heap.size w w' := by
  obtain ⟨rfl, hm, _, _⟩ := sl_len hl
  have HL := hid hl; clear hl
  go_enter Try.func21, Try.ntmps21
  go_wp2_with fail
  refine wp_world (fun W => Below w.heap.size w W ∧ w.heap.size < W.heap.size ∧ W.cell? ⟨w.heap.size, 1, none⟩ = some (.slice a l.length c)) ⟨by (repeat (first | exact Below.refl _ _ | assumption | (refine below_alloc ?_ _) | (refine Below.setCell ?_ (by first | omega | (simp; done) | (simp; omega)) _) | (refine Below.drew ?_) | (refine below_drewN ?_ _) | (refine below_then (by assumption) ?_))), by simp, by go_simp⟩ ?_
  intro W ⟨hbW, hzW, q2⟩
  go_loopw [3] (fun i wr => ∃ k : Nat, k ≤ l.length ∧ k ≤ 20 ∧ i = .int .i64 k ∧ Hid (long34 l = longGAt 20 (fun b => long25 b.entries) l k) ∧ Below W.heap.size W wr) (fun i _ => l.length - (intOf i).toNat)
  case atStart => exact ⟨0, Nat.zero_le _, Nat.zero_le _, rfl, hid rfl, Below.refl _ _⟩
  case round =>
    obtain ⟨k, hk, hk2, rfl, hf, hb⟩ := hrel
    have hb3 := below_then hb hbW
    have t1 : wr.cell? ⟨w.heap.size, 1, none⟩ = some (.slice a l.length c) := (Later.mk wr hb).cell q2
    have hz3 : w.heap.size < wr.heap.size := by have := hb.size; omega
    by_cases hlt : k < l.length
    · by_cases h450 : k < 20
      · obtain ⟨b, o, hA, hbb, a1, c1, X0, X1, X2, _, _, hd⟩ := batch_at (lift HL.out hb3) hlt
        subst hA
        have hst := hid (longGAt_step 20 (fun b => long25 b.entries) l k hlt h450)
        have HD := hid hd; clear hd
        generalize l[k] = x at *
        go_wp2_with fail
        refine (law25_long _ _ x.entries _ _ _ _ HD.out).mono ?_
        rintro r w1 ⟨rfl, hb1⟩
        have hb2 := below_then hb1 hb
        cases h3 : long25 x.entries
        · have hff : Hid (long34 l = longGAt 20 (fun b => long25 b.entries) l (k + 1)) := hid (by rw [hf.out, hst.out]; simp [h3])
          clear h3
          go_wp2
          go_roundw
          case rel => exact ⟨k + 1, by omega, by omega, by go_num, hff, hb2⟩
          case measure => simp [intOf]; omega
        · have hff : Hid (long34 l = true) := hid (by rw [hf.out, hst.out]; simp [h3])
          clear h3
          go_wp2
          go_ret
          exact ⟨by rw [hff.out]; rfl, below_then hb1 hb3⟩
      · have hff : Hid (long34 l = decide ((20 : Int) < (l.length : Int))) := hid (by rw [hf.out, longGAt_end _ _ l k (.inr (by omega))]; simp only [decide_eq_decide]; omega)
        go_wp2
        go_ret
        exact ⟨by rw [hff.out]; rfl, hb3⟩
    · have hff : Hid (long34 l = decide ((20 : Int) < (l.length : Int))) := hid (by rw [hf.out, longGAt_end _ _ l k (.inl (by omega))]; simp only [decide_eq_decide]; omega)
      go_wp2
      go_ret
      exact ⟨by rw [hff.out]; rfl, hb3⟩
theorem long34_no {l : List Batch} (h : long34 l = false) : l.length ≤ 20 ∧ ∀ b ∈ l, b.entries.length ≤ 30 ∧ total b.entries ≤ 300 ∧ ∀ x ∈ b.entries, x.data.length ≤ 500 ∧ x.links.length ≤ 50 ∧ ∀ y ∈ x.links, y.backs.length ≤ 50 := by
  obtain ⟨h1, h2⟩ := longG_no h
  exact ⟨h1, fun b hb => long25_no (h2 b hb)⟩
end Go.Proofs.Ytlbchenleimopaa
