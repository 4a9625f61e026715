/- Needed by batchOnce_walk, part 6: texts put together by shake.py; no condition. -/
import Derived.Test.YtkipiefcnjfdjaaGreatP5
import Derived.Test.YtkipiefcnjfdjaaGreatP2
import Derived.Test.YtkipiefcnjfdjaaGreatP1
import Derived.Deep.AppendLies
import Derived.Deep.RegionLaw
import Derived.Test.YtkipiefcnjfdjaaGreatP4
import Derived.Laws.MakeOwn
namespace Go.Proofs.YtkipiefcnjfdjaaGreat
open Go.RowKit Go.Bs Go.Maps
set_option linter.unusedVariables false
set_option linter.unusedSimpArgs false

theorem ofNat_byte {c : UInt8} {n : Nat} (h : n = c.toNat) : UInt8.ofNat n = c := by
  subst h
  exact UInt8.ofNat_toNat
theorem vget_canon : ∀ (l : List UInt8) (i x v u : Nat), i ≤ 9 → vget i x l = (v, u, 0) → ∃ y, v = x + y * 128 ^ i ∧ (0 < i → 0 < y) ∧ l.take (u - i) = varF (9 - i) y ∧ i < u ∧ u - i ≤ l.length
  | [], i, x, v, u, _, h => by simp [vget] at h
  | c :: l, i, x, v, u, hi, h => by
    have hc := c.toNat_lt
    unfold vget at h
    by_cases h1 : i = 9 ∧ 1 < c.toNat
    · rw [if_pos h1] at h; simp at h
    · rw [if_neg h1] at h
      by_cases h2 : 0 < i ∧ c.toNat = 0
      · rw [if_pos h2] at h; simp at h
      · rw [if_neg h2] at h
        by_cases h3 : c.toNat < 128
        · rw [if_pos h3] at h
          simp only [Prod.mk.injEq, and_true] at h
          obtain ⟨rfl, rfl⟩ := h
          refine ⟨c.toNat, rfl, fun h => by omega, ?_, by omega, by rw [List.length_cons]; omega⟩
          rw [show i + 1 - i = 1 by omega, List.take_succ_cons, List.take_zero]
          obtain ⟨f, hf⟩ : ∃ f, f = 9 - i := ⟨_, rfl⟩
          rw [← hf]
          cases f with
          | zero => simp only [varF]; rw [ofNat_byte rfl]
          | succ f => simp only [varF]; rw [if_pos h3, ofNat_byte rfl]
        · rw [if_neg h3] at h
          have hi9 : i < 9 := by
            rcases Nat.lt_or_ge i 9 with h | h
            · exact h
            · exact absurd ⟨by omega, by omega⟩ h1
          obtain ⟨y, hv, hy, ht, hu, hlu⟩ := vget_canon l (i + 1) _ v u (by omega) h
          have hy0 := hy (by omega)
          refine ⟨c.toNat % 128 + 128 * y, ?_, fun _ => by omega, ?_, by omega, by rw [List.length_cons]; omega⟩
          · rw [hv, Nat.pow_succ, Nat.add_mul]
            generalize 128 ^ i = k
            rw [Nat.mul_comm k 128, ← Nat.mul_assoc y 128 k, Nat.mul_comm y 128]
            omega
          · rw [show u - i = (u - (i + 1)) + 1 by omega, List.take_succ_cons, ht, show 9 - i = (9 - (i + 1)) + 1 by omega]
            simp only [varF]
            rw [if_neg (by omega), ofNat_byte (c := c) (by omega), show (c.toNat % 128 + 128 * y) / 128 = y by omega]
theorem Rs.num_canon {B : List UInt8} {s : Rs} (hs : s.ok B.length) (h : (s.num B).1.k = 0) : B.drop s.p = varB (s.num B).2 ++ B.drop (s.num B).1.p ∧ (s.num B).1.f = 0 := by
  have hm := Rs.num_more h
  have hle := hs.le
  unfold Rs.num at *
  rw [if_pos hm.2] at *
  dsimp only at h ⊢
  obtain ⟨y, hv, _, ht, hu, hlu⟩ := vget_canon (B.drop s.p) 0 0 _ _ (by omega) (show vget 0 0 (B.drop s.p) = ((vget 0 0 (B.drop s.p)).1, (vget 0 0 (B.drop s.p)).2.1, 0) from by rw [← h])
  simp only [Nat.pow_zero, Nat.mul_one, Nat.zero_add, Nat.sub_zero] at hv ht
  refine ⟨?_, by rw [if_pos h]⟩
  have : varB (vget 0 0 (B.drop s.p)).1 = (B.drop s.p).take (vget 0 0 (B.drop s.p)).2.1 := by rw [ht, hv]; rfl
  rw [this, ← List.drop_drop, List.take_append_drop]
theorem Rs.int_canon {B : List UInt8} {s : Rs} {m : Int} (hs : s.ok B.length) (h : (s.int B m).1.k = 0) : B.drop s.p = varB (s.int B m).2 ++ B.drop (s.int B m).1.p ∧ ((s.int B m).2 : Int) ≤ m ∧ s.k = 0 := by
  unfold Rs.int Rs.most at *
  by_cases h0 : 0 ≤ m
  · rw [if_pos h0] at h ⊢
    by_cases h1 : m.toNat < (s.num B).2
    · rw [if_pos h1] at h; exact absurd h (Rs.fail_k (by omega))
    · rw [if_neg h1] at h ⊢
      exact ⟨(Rs.num_canon hs h).1, by omega, (Rs.num_more h).2⟩
  · rw [if_neg h0] at h; exact absurd h (Rs.fail_k (by omega))
theorem Rs.falls_ok {B : List UInt8} : ∀ (n : Nat) (s : Rs) (below : Int) (out : List Int), s.ok B.length → (Rs.falls B n s below out).1.ok B.length
  | 0, s, below, out, h => h
  | n + 1, s, below, out, h => by
    simp only [Rs.falls]
    split
    · split
      · exact Rs.fail_ok (Rs.num_ok h) (by omega)
      · exact Rs.falls_ok n _ _ _ (Rs.num_ok h)
    · exact Rs.num_ok h
theorem Rs.delta_ok {B : List UInt8} {s : Rs} {below most : Int} (h : s.ok B.length) : (s.delta B below most).1.ok B.length := Rs.falls_ok _ _ _ _ (Rs.int_ok h)
theorem Rs.stream_ok {B : List UInt8} {s : Rs} {prev : Option Int} (h : s.ok B.length) : (s.stream B prev).1.ok B.length := by
  unfold Rs.stream
  cases prev with
  | none => exact Rs.num_ok h
  | some q =>
    dsimp only
    split
    · exact Rs.fail_ok (Rs.num_ok h) (by omega)
    · exact Rs.num_ok h
theorem Rs.linksF_ok {B : List UInt8} {pos : Int} : ∀ (n : Nat) (s : Rs) (prev : Option Int) (out : List Link), s.ok B.length → (Rs.linksF B pos n s prev out).1.ok B.length
  | 0, s, prev, out, h => h
  | n + 1, s, prev, out, h => by
    simp only [Rs.linksF]
    split
    · exact Rs.linksF_ok n _ _ _ (Rs.delta_ok (Rs.stream_ok h))
    · exact Rs.delta_ok (Rs.stream_ok h)
theorem Rs.links_ok {B : List UInt8} {s : Rs} {pos : Int} (h : s.ok B.length) : (s.links B pos).1.ok B.length := Rs.linksF_ok _ _ _ _ (Rs.int_ok h)
theorem Rs.ehead_ok {B : List UInt8} {s : Rs} {pos most : Int} (h : s.ok B.length) : (s.ehead B pos most).1.ok B.length := by
  unfold Rs.ehead
  split
  · exact Rs.int_ok (Rs.links_ok h)
  · exact Rs.int_ok (Rs.links_ok h)
theorem Rs.heads_ok {B : List UInt8} : ∀ (n : Nat) (s : Rs) (pos left : Int) (out : List (List Link × Nat)), s.ok B.length → (Rs.heads B n s pos left out).1.ok B.length
  | 0, s, pos, left, out, h => h
  | n + 1, s, pos, left, out, h => by
    simp only [Rs.heads]
    split
    · exact Rs.heads_ok n _ _ _ _ (Rs.ehead_ok h)
    · exact Rs.ehead_ok h
theorem Rs.ep_ok {B : List UInt8} {s : Rs} (h : s.ok B.length) : (s.ep B).1.ok B.length := by
  unfold Rs.ep
  split
  · split
    · exact Rs.num_ok h
    · exact Rs.fail_ok (Rs.num_ok h) (by omega)
  · exact Rs.num_ok h
theorem Rs.po_ok {B : List UInt8} {s : Rs} (h : s.ok B.length) : (s.po B).1.ok B.length := by
  unfold Rs.po
  split
  · split
    · exact Rs.num_ok h
    · exact Rs.fail_ok (Rs.num_ok h) (by omega)
  · exact Rs.num_ok h
theorem Rs.bfront_ok {B : List UInt8} {s : Rs} (h : s.ok B.length) : (s.bfront B).1.ok B.length := by
  unfold Rs.bfront
  dsimp only
  split
  · exact Rs.int_ok (Rs.po_ok (Rs.ep_ok h))
  · exact Rs.fail_ok (Rs.int_ok (Rs.po_ok (Rs.ep_ok h))) (by omega)

/-- A falling list that is read is put so. -/
theorem Rs.falls_canon {B : List UInt8} : ∀ (n : Nat) (s : Rs) (below : Int) (out : List Int), s.ok B.length → below ≤ 18446744073709551615 → (Rs.falls B n s below out).1.k = 0 →
    ∃ l : List Int, (Rs.falls B n s below out).2 = out ++ l ∧ l.length = n ∧ fallsB below l = true ∧ (∀ x ∈ l, 0 ≤ x) ∧ B.drop s.p = numsB (stepsL below l) ++ B.drop (Rs.falls B n s below out).1.p ∧ s.k = 0
  | 0, s, below, out, hs, _, h => ⟨[], by simp [Rs.falls], rfl, rfl, by simp, by simp [Rs.falls, stepsL, numsB], h⟩
  | n + 1, s, below, out, hs, hb, h => by
    simp only [Rs.falls] at h ⊢
    by_cases h1 : (s.num B).1.k = 0
    · rw [if_pos h1] at h ⊢
      by_cases h2 : below ≤ ((s.num B).2 : Int)
      · rw [if_pos h2] at h; exact absurd h (Rs.fail_k (by omega))
      · rw [if_neg h2] at h ⊢
        obtain ⟨l, e1, e2, e3, e4, e5, _⟩ := Rs.falls_canon n _ _ _ (Rs.num_ok hs) (by omega) h
        have hc := (Rs.num_canon hs h1).1
        refine ⟨(below - (s.num B).2 - 1) :: l, ?_, by simp [e2], ?_, ?_, ?_, (Rs.num_more h1).2⟩
        · rw [e1]; simp
        · simp only [fallsB]; rw [e3, Bool.and_true]; exact decide_eq_true (by omega)
        · intro x hx
          rcases List.mem_cons.1 hx with rfl | hx
          · omega
          · exact e4 x hx
        · simp only [stepsL]
          rw [numsB_cons, List.append_assoc, ← e5, show (below - (below - ((s.num B).2 : Int) - 1) - 1).toNat = (s.num B).2 by omega]
          exact hc
    · rw [if_neg h1] at h; exact absurd h h1
theorem Rs.delta_canon {B : List UInt8} {s : Rs} {below most : Int} (hs : s.ok B.length) (hb : below ≤ 18446744073709551615) (h : (s.delta B below most).1.k = 0) :
    fallsB below (s.delta B below most).2 = true ∧ ((s.delta B below most).2.length : Int) ≤ most ∧ (∀ x ∈ (s.delta B below most).2, 0 ≤ x) ∧ B.drop s.p = deltaB below (s.delta B below most).2 ++ B.drop (s.delta B below most).1.p ∧ s.k = 0 := by
  unfold Rs.delta at *
  obtain ⟨l, e1, e2, e3, e4, e5, e6⟩ := Rs.falls_canon _ _ _ _ (Rs.int_ok hs) hb h
  have hi := Rs.int_canon hs e6
  rw [List.nil_append] at e1
  rw [e1]
  refine ⟨e3, by rw [e2]; exact hi.2.1, e4, ?_, hi.2.2⟩
  unfold deltaB
  rw [List.append_assoc, ← e5, e2]
  exact hi.1
theorem Rs.stream_canon {B : List UInt8} {s : Rs} {prev : Option Int} (hs : s.ok B.length) (hp : ∀ q, prev = some q → 0 ≤ q ∧ q ≤ 18446744073709551615) (h : (s.stream B prev).1.k = 0) :
    (0 ≤ (s.stream B prev).2 ∧ (s.stream B prev).2 ≤ 18446744073709551615) ∧ (∀ q, prev = some q → q < (s.stream B prev).2) ∧ B.drop s.p = varB (match prev with | none => (s.stream B prev).2 | some q => (s.stream B prev).2 - q - 1).toNat ++ B.drop (s.stream B prev).1.p ∧ s.k = 0 := by
  have hsm := Rs.num_small (B := B) (s := s)
  unfold Rs.stream at *
  cases prev with
  | none =>
    dsimp only at h ⊢
    have hc := (Rs.num_canon hs h).1
    exact ⟨⟨by omega, by omega⟩, fun q e => (by cases e), by rw [Int.toNat_natCast]; exact hc, (Rs.num_more h).2⟩
  | some q =>
    have hq := hp q rfl
    dsimp only at h ⊢
    by_cases h1 : 18446744073709551615 - q ≤ ((s.num B).2 : Int)
    · rw [if_pos h1] at h; exact absurd h (Rs.fail_k (by omega))
    · rw [if_neg h1] at h ⊢
      have hc := (Rs.num_canon hs h).1
      refine ⟨⟨by omega, by omega⟩, fun q' e => ?_, ?_, (Rs.num_more h).2⟩
      · simp only [Option.some.injEq] at e; omega
      · rw [show (((s.num B).2 : Int) + q + 1 - q - 1).toNat = (s.num B).2 by omega]
        exact hc
theorem Rs.linksF_canon {B : List UInt8} {pos : Int} (hpos : pos ≤ 18446744073709551615) : ∀ (n : Nat) (s : Rs) (prev : Option Int) (out : List Link), s.ok B.length → (∀ q, prev = some q → 0 ≤ q ∧ q ≤ 18446744073709551615) → (Rs.linksF B pos n s prev out).1.k = 0 →
    ∃ l : List Link, (Rs.linksF B pos n s prev out).2 = out ++ l ∧ l.length = n ∧ risesB (l.map Link.stream) = true ∧ (∀ q, prev = some q → risesB (q :: l.map Link.stream) = true) ∧ (∀ x ∈ l, linkR pos x = true ∧ linkN x) ∧ B.drop s.p = lnkF pos prev l ++ B.drop (Rs.linksF B pos n s prev out).1.p ∧ s.k = 0
  | 0, s, prev, out, hs, _, h => ⟨[], by simp [Rs.linksF], rfl, rfl, fun q _ => rfl, by simp, by simp [Rs.linksF, lnkF], h⟩
  | n + 1, s, prev, out, hs, hp, h => by
    simp only [Rs.linksF] at h ⊢
    by_cases h1 : ((s.stream B prev).1.delta B pos 4).1.k = 0
    · rw [if_pos h1] at h ⊢
      obtain ⟨d1, d2, d3, d4, d5⟩ := Rs.delta_canon (Rs.stream_ok hs) hpos h1
      obtain ⟨s1, s2, s3, s4⟩ := Rs.stream_canon hs hp d5
      obtain ⟨l, e1, e2, e3, e4, e5, e6, _⟩ := Rs.linksF_canon hpos n _ _ _ (Rs.delta_ok (Rs.stream_ok hs)) (fun q e => by simp only [Option.some.injEq] at e; subst e; exact s1) h
      refine ⟨⟨(s.stream B prev).2, ((s.stream B prev).1.delta B pos 4).2⟩ :: l, ?_, by simp [e2], ?_, ?_, ?_, ?_, s4⟩
      · rw [e1]; simp
      · exact e4 _ rfl
      · intro q hq
        have := e4 _ rfl
        simp only [List.map_cons, risesB]
        rw [Bool.and_eq_true]
        exact ⟨decide_eq_true (s2 q hq), this⟩
      · intro x hx
        rcases List.mem_cons.1 hx with rfl | hx
        · refine ⟨?_, s1, d3⟩
          simp only [linkR, Bool.and_eq_true, decide_eq_true_eq]
          exact ⟨by omega, d1⟩
        · exact e5 x hx
      · rw [s3, d4, e6]
        cases prev <;> simp only [lnkF, List.append_assoc]
    · rw [if_neg h1] at h; exact absurd h h1
theorem Rs.links_canon {B : List UInt8} {s : Rs} {pos : Int} (hs : s.ok B.length) (hpos : pos ≤ 18446744073709551615) (h : (s.links B pos).1.k = 0) :
    linksR pos (s.links B pos).2 = true ∧ (∀ x ∈ (s.links B pos).2, linkN x) ∧ B.drop s.p = linksB pos (s.links B pos).2 ++ B.drop (s.links B pos).1.p ∧ s.k = 0 := by
  unfold Rs.links at *
  obtain ⟨l, e1, e2, e3, _, e5, e6, e7⟩ := Rs.linksF_canon hpos _ _ _ _ (Rs.int_ok hs) (fun q e => by cases e) h
  have hi := Rs.int_canon hs e7
  rw [List.nil_append] at e1
  rw [e1]
  refine ⟨?_, fun x hx => (e5 x hx).2, ?_, hi.2.2⟩
  · simp only [linksR, Bool.and_eq_true, decide_eq_true_eq, List.all_eq_true]
    exact ⟨by omega, e3, fun x hx => (e5 x hx).1⟩
  · unfold linksB
    rw [List.append_assoc, ← e6, e2]
    exact hi.1
theorem Rs.ehead_canon {B : List UInt8} {s : Rs} {pos most : Int} (hs : s.ok B.length) (hpos : pos ≤ 18446744073709551615) (hmo : most ≤ 1048576) (h : (s.ehead B pos most).1.k = 0) :
    linksR pos (s.ehead B pos most).2.1 = true ∧ (∀ x ∈ (s.ehead B pos most).2.1, linkN x) ∧ ((s.ehead B pos most).2.2 : Int) ≤ most ∧ B.drop s.p = linksB pos (s.ehead B pos most).2.1 ++ (varB (s.ehead B pos most).2.2 ++ B.drop (s.ehead B pos most).1.p) ∧ s.k = 0 := by
  unfold Rs.ehead at *
  by_cases h1 : ((s.links B pos).1.int B most).1.k = 0
  · rw [if_pos h1] at h ⊢
    have hi := Rs.int_canon (Rs.links_ok hs) h1
    have hl := Rs.links_canon hs hpos hi.2.2
    dsimp only
    exact ⟨hl.1, hl.2.1, hi.2.1, by rw [← hi.1]; exact hl.2.2.1, hl.2.2.2⟩
  · rw [if_neg h1] at h; exact absurd h h1
/-- Heads that are read: whatever data of these sizes they get. -/
theorem Rs.heads_canon {B : List UInt8} : ∀ (n : Nat) (s : Rs) (pos left : Int) (out : List (List Link × Nat)), s.ok B.length → pos + n ≤ 18446744073709551615 → left ≤ 1048576 → (Rs.heads B n s pos left out).1.k = 0 →
    ∃ l : List (List Link × Nat), (Rs.heads B n s pos left out).2 = out ++ l ∧ l.length = n ∧ ((sizesN l : Int) ≤ left ∨ l = []) ∧ (∀ D : List UInt8, D.length = sizesN l → entriesR pos (dealE l D) = true ∧ (∀ e ∈ dealE l D, entryN e) ∧ B.drop s.p = headsB pos (dealE l D) ++ B.drop (Rs.heads B n s pos left out).1.p ∧ joined (dealE l D) = D ∧ (dealE l D).length = n) ∧ s.k = 0
  | 0, s, pos, left, out, hs, _, _, h => ⟨[], by simp [Rs.heads], rfl, .inr rfl, fun D hD => by
      have : D = [] := List.eq_nil_of_length_eq_zero (by simpa [sizesN] using hD)
      subst this
      exact ⟨rfl, by simp [dealE], by simp [Rs.heads, dealE, headsB], rfl, rfl⟩, h⟩
  | n + 1, s, pos, left, out, hs, hpos, hle, h => by
    simp only [Rs.heads] at h ⊢
    by_cases h1 : (s.ehead B pos left).1.k = 0
    · rw [if_pos h1] at h ⊢
      obtain ⟨c1, c2, c3, c4, c5⟩ := Rs.ehead_canon hs (by omega) hle h1
      obtain ⟨l, e1, e2, e3, e4, _⟩ := Rs.heads_canon n _ _ _ _ (Rs.ehead_ok hs) (by omega) (by omega) h
      refine ⟨(s.ehead B pos left).2 :: l, ?_, by simp [e2], ?_, ?_, c5⟩
      · rw [e1]; simp
      · left
        simp only [sizesN, List.map_cons, List.sum_cons]
        rcases e3 with e3 | e3
        · unfold sizesN at e3; omega
        · rw [e3]; simp; omega
      · intro D hD
        simp only [sizesN, List.map_cons, List.sum_cons] at hD
        obtain ⟨f1, f2, f3, f4, f5⟩ := e4 (D.drop (s.ehead B pos left).2.2) (by simp [sizesN]; omega)
        have htl : (D.take (s.ehead B pos left).2.2).length = (s.ehead B pos left).2.2 := by simp; omega
        generalize (s.ehead B pos left).2 = E at *
        obtain ⟨L, m⟩ := E
        dsimp only at *
        simp only [dealE]
        refine ⟨?_, ?_, ?_, ?_, by simp [f5]⟩
        · simp only [entriesR, entryR, Bool.and_eq_true, decide_eq_true_eq]
          exact ⟨⟨c1, by rw [htl]; omega⟩, f1⟩
        · intro e he
          rcases List.mem_cons.1 he with rfl | he
          · exact c2
          · exact f2 e he
        · simp only [headsB, headB]
          rw [htl, List.append_assoc, List.append_assoc, ← f3]
          exact c4
        · simp only [joined, List.flatMap_cons] at f4 ⊢
          rw [f4, List.take_append_drop]
    · rw [if_neg h1] at h; exact absurd h h1
theorem Rs.ep_canon {B : List UInt8} {s : Rs} (hs : s.ok B.length) (h : (s.ep B).1.k = 0) : epR ((s.ep B).2 : Int) = true ∧ B.drop s.p = varB (s.ep B).2 ++ B.drop (s.ep B).1.p ∧ s.k = 0 := by
  unfold Rs.ep at *
  by_cases h1 : (s.num B).1.k = 0
  · rw [if_pos h1] at h ⊢
    by_cases h2 : epR ((s.num B).2 : Int) = true
    · rw [if_pos h2]; exact ⟨h2, (Rs.num_canon hs h1).1, (Rs.num_more h1).2⟩
    · rw [if_neg h2] at h; exact absurd h (Rs.fail_k (by omega))
  · rw [if_neg h1] at h; exact absurd h h1
theorem Rs.po_canon {B : List UInt8} {s : Rs} (hs : s.ok B.length) (h : (s.po B).1.k = 0) : poR ((s.po B).2 : Int) = true ∧ B.drop s.p = varB (s.po B).2 ++ B.drop (s.po B).1.p ∧ s.k = 0 := by
  unfold Rs.po at *
  by_cases h1 : (s.num B).1.k = 0
  · rw [if_pos h1] at h ⊢
    by_cases h2 : poR ((s.num B).2 : Int) = true
    · rw [if_pos h2]; exact ⟨h2, (Rs.num_canon hs h1).1, (Rs.num_more h1).2⟩
    · rw [if_neg h2] at h; exact absurd h (Rs.fail_k (by omega))
  · rw [if_neg h1] at h; exact absurd h h1
theorem Rs.bfront_canon {B : List UInt8} {s : Rs} (hs : s.ok B.length) (h : (s.bfront B).1.k = 0) : epR ((s.bfront B).2.1 : Int) = true ∧ fitsR ((s.bfront B).2.2.1 : Int) (s.bfront B).2.2.2 = true ∧ B.drop s.p = varB (s.bfront B).2.1 ++ (varB (s.bfront B).2.2.1 ++ (varB (s.bfront B).2.2.2 ++ B.drop (s.bfront B).1.p)) ∧ s.k = 0 := by
  unfold Rs.bfront at *
  dsimp only at h ⊢
  by_cases h1 : fitsR (((s.ep B).1.po B).2 : Int) (((s.ep B).1.po B).1.int B 16).2 = true
  · rw [if_pos h1] at h ⊢
    have hi := Rs.int_canon (Rs.po_ok (Rs.ep_ok hs)) h
    have hp := Rs.po_canon (Rs.ep_ok hs) hi.2.2
    have he := Rs.ep_canon hs hp.2.2
    exact ⟨he.1, h1, by rw [← hi.1, ← hp.2.1]; exact he.2.1, he.2.2⟩
  · rw [if_neg h1] at h; exact absurd h (Rs.fail_k (by omega))
/-- What is read is well-formed, and put so again. -/
theorem Rs.batch_canon {B : List UInt8} {s : Rs} {blk : Rs → Rs × List UInt8 × Bool} (hs : s.ok B.length) (h : (Rs.batch B blk s).1.k = 0) (hblk : ∀ t : Rs, (blk t).1.k = 0 → t.k = 0) (hlen : ∀ t, (blk t).2.1.length ≤ 1048576) :
    batchR (Rs.batch B blk s).2.1 = true ∧ batchN (Rs.batch B blk s).2.1 ∧ ∃ t : Rs, t.ok B.length ∧ B.drop s.p = aheadB (Rs.batch B blk s).2.1 ++ B.drop t.p ∧ (Rs.batch B blk s).1 = (blk t).1 ∧ joined (Rs.batch B blk s).2.1.entries = (blk t).2.1 ∧ (Rs.batch B blk s).2.2 = (blk t).2.2 ∧ t.k = 0 := by
  unfold Rs.batch at *
  dsimp only at h ⊢
  by_cases h1 : (s.bfront B).1.k = 0
  · rw [if_pos h1] at h ⊢
    generalize hH : Rs.heads B (s.bfront B).2.2.2 (s.bfront B).1 ((s.bfront B).2.2.1 : Int) 1048576 [] = H at *
    by_cases h2 : (Rs.bblock blk H).1.k = 0
    · rw [if_pos h2]
      unfold Rs.bblock at h2 ⊢
      dsimp only at h2 ⊢
      by_cases h3 : sizesN H.2 = (blk H.1).2.1.length
      · rw [if_pos h3] at h2 ⊢
        have hHk := hblk _ h2
        have hf := Rs.bfront_canon hs h1
        have hfit := hf.2.1
        simp only [fitsR, decide_eq_true_eq] at hfit
        obtain ⟨l, e1, e2, _, e4, _⟩ := Rs.heads_canon (s.bfront B).2.2.2 (s.bfront B).1 ((s.bfront B).2.2.1 : Int) 1048576 [] (Rs.bfront_ok hs) (by omega) (by omega) (by rw [hH]; exact hHk)
        rw [hH, List.nil_append] at e1
        obtain ⟨f1, f2, f3, f4, f5⟩ := e4 (blk H.1).2.1 (by rw [← h3, e1])
        rw [hH] at f3
        rw [e1]
        have hep := hf.1
        simp only [epR, decide_eq_true_eq] at hep
        refine ⟨?_, ⟨⟨by dsimp only; omega, by dsimp only; omega⟩, ⟨by dsimp only; omega, by dsimp only; omega⟩, f2⟩, H.1, ?_, ?_, rfl, f4, rfl, hHk⟩
        · simp only [batchR, Bool.and_eq_true, decide_eq_true_eq]
          refine ⟨hf.1, by rw [f5]; exact hf.2.1, ?_, f1⟩
          rw [← joined_length, f4]
          exact hlen _
        · rw [← hH]; exact Rs.heads_ok _ _ _ _ _ (Rs.bfront_ok hs)
        · unfold aheadB
          dsimp only
          rw [Int.toNat_natCast, Int.toNat_natCast, f5, List.append_assoc, List.append_assoc, List.append_assoc, ← f3]
          exact hf.2.2.1
      · rw [if_neg h3] at h2; exact absurd h2 (Rs.fail_k (by omega))
    · rw [if_neg h2] at h; exact absurd h h2
  · rw [if_neg h1] at h; exact absurd h h1
end Go.Proofs.YtkipiefcnjfdjaaGreat
namespace Go.Proofs.YtkipiefcnjfdjaaGreat
open Go.RowKit Go.Bs
set_option linter.unusedVariables false
set_option linter.unusedSimpArgs false

set_option maxHeartbeats 1600000 in
theorem ref25_same (x y : Batch) (a a' : Option Addr) (n c n' c' : Nat) (w : World) (hx : rEntries.r (· < w.heap.size) w [.slice a n c] x.entries) (hy : rEntries.r (· < w.heap.size) w [.slice a' n' c'] y.entries) :
    Calls Tryz.prog 26 #[.agg #[.int .u64 x.epoch, .int .u64 x.base, .slice a n c], .agg #[.int .u64 y.epoch, .int .u64 y.base, .slice a' n' c']] w fun r w' => r = .returned (.bool (decide (x = y))) ∧ Below w.heap.size w w' := by
  obtain ⟨xe, xb, xl⟩ := x
  obtain ⟨ye, yb, yl⟩ := y
  dsimp only at *
  have HX := hid hx; clear hx
  have HY := hid hy; clear hy
  by_cases h1 : xe = ye
  · by_cases h2 : xb = yb
    · have hff : Hid (decide ((⟨xe, xb, xl⟩ : Batch) = ⟨ye, yb, yl⟩) = decide (xl = yl)) := hid (by simp [h1, h2])
      have d1 : (xe == ye) = true := by simp [h1]
      have d2 : (xb == yb) = true := by simp [h2]
      clear h1 h2
      go_enter Tryz.func26, Tryz.ntmps26
      go_wp2_with fail
      refine (ref24_all xl yl _ _ _ _ _ _ _ (lift HX.out (by (repeat (first | exact Below.refl _ _ | assumption | (refine below_alloc ?_ _) | (refine Below.setCell ?_ (by first | omega | (simp; done) | (simp; omega)) _) | (refine Below.drew ?_) | (refine below_drewN ?_ _) | (refine below_then (by assumption) ?_))))) (lift HY.out (by (repeat (first | exact Below.refl _ _ | assumption | (refine below_alloc ?_ _) | (refine Below.setCell ?_ (by first | omega | (simp; done) | (simp; omega)) _) | (refine Below.drew ?_) | (refine below_drewN ?_ _) | (refine below_then (by assumption) ?_)))))).mono ?_
      rintro e w1 ⟨rfl, hb1⟩
      have hb2 : Below w.heap.size w w1 := by (repeat (first | exact Below.refl _ _ | assumption | (refine below_alloc ?_ _) | (refine Below.setCell ?_ (by first | omega | (simp; done) | (simp; omega)) _) | (refine Below.drew ?_) | (refine below_drewN ?_ _) | (refine below_then (by assumption) ?_)))
      go_wp2
      go_ret
      exact ⟨by rw [hff.out]; rfl, hb2⟩
    · have hff : Hid (decide ((⟨xe, xb, xl⟩ : Batch) = ⟨ye, yb, yl⟩) = false) := hid (by simp [h1, h2])
      have d1 : (xe == ye) = true := by simp [h1]
      have d2 : (xb == yb) = false := by simp [h2]
      clear h1 h2
      go_enter Tryz.func26, Tryz.ntmps26
      go_wp2
      go_ret
      exact ⟨by rw [hff.out]; rfl, by (repeat (first | exact Below.refl _ _ | assumption | (refine below_alloc ?_ _) | (refine Below.setCell ?_ (by first | omega | (simp; done) | (simp; omega)) _) | (refine Below.drew ?_) | (refine below_drewN ?_ _) | (refine below_then (by assumption) ?_)))⟩
  · have hff : Hid (decide ((⟨xe, xb, xl⟩ : Batch) = ⟨ye, yb, yl⟩) = false) := hid (by simp [h1])
    have d1 : (xe == ye) = false := by simp [h1]
    clear h1
    go_enter Tryz.func26, Tryz.ntmps26
    go_wp2
    go_ret
    exact ⟨by rw [hff.out]; rfl, by (repeat (first | exact Below.refl _ _ | assumption | (refine below_alloc ?_ _) | (refine Below.setCell ?_ (by first | omega | (simp; done) | (simp; omega)) _) | (refine Below.drew ?_) | (refine below_drewN ?_ _) | (refine below_then (by assumption) ?_)))⟩

end Go.Proofs.YtkipiefcnjfdjaaGreat
namespace Go.Proofs.YtkipiefcnjfdjaaGreat
open Go.RowKit Go.Bs
set_option linter.unusedVariables false
set_option linter.unusedSimpArgs false
theorem info64 : (Tryz.prog.info? 22).map (fun i => (i.zero, i.size, i.bytes)) = some (some (.int .u64 0), 1, 8) := by kernel_rfl

/-- Blocks made since a world, in another. -/
def Fresh (w w' : World) (b : Nat) : Prop := w.heap.size ≤ b ∧ b < w'.heap.size

theorem u64s_bounds {S : Nat → Prop} {w : World} {a : Option Addr} {n c : Nat} {l : List Int} (h : rU64s.r S w [.slice a n c] l) : ∀ x ∈ l, 0 ≤ x ∧ x ≤ 18446744073709551615 := by
  intro x hx
  obtain ⟨i, hi, rfl⟩ := List.getElem_of_mem hx
  obtain ⟨b, o, _, _, _, h2⟩ := u64_at h hi
  exact h2

set_option maxHeartbeats 800000 in
theorem link_copied (x : Link) (a : Option Addr) (n c : Nat) (w : World) (hl : rU64s.r (· < w.heap.size) w [.slice a n c] x.backs) (hlen : x.backs.length ≤ 1000000000000) :
    Calls Tryz.prog 204 #[.agg #[.int .u64 x.stream, .slice a n c]] w fun r w' => ∃ v, r = .returned (.agg #[.int .u64 x.stream, v]) ∧ rU64s.r (Fresh w w') w' [v] x.backs ∧ Below w.heap.size w w' := by
  obtain ⟨rfl, hm, _, _⟩ := sl_len hl
  obtain ⟨i0, hi, hz0, hz1, hz2⟩ := info_parts info64
  have hw := hid (u64s_bounds hl)
  have HL := hid hl; clear hl
  have hone := u64Cells_one x.backs
  have HONE := hid hone; clear hone
  go_enter Tryz.func204, Tryz.ntmps204
  have hfree : ∀ (W : World), W.heap.size = w.heap.size + 1 + 1 → (W.alloc (.cells #[] 22)).ownsRow (w.heap.size + 1 + 1) 22 1 (.slice (some ⟨w.heap.size + 1 + 1, 0, none⟩) 0 0) 0 [] := fun W h => own_empty W (by omega) h.symm
  have HF := hid hfree; clear hfree
  have hbel : ∀ W : World, Below w.heap.size w W → Src W a x.backs.length 1 (u64Cells x.backs) := fun W h => src_u64s (lift HL.out h)
  have HB := hid hbel; clear hbel
  go_wp2_with (at_builtin; go_loud (refine wpList_append_src rfl _ _ _ rfl (w.heap.size + 1 + 1) 22 i0 (.int .u64 0) 1 8 Tryz.underlying207 hi hz0 hz1 hz2 rfl (by decide) (.slice (some ⟨w.heap.size + 1 + 1, 0, none⟩) 0 0) 0 [] rfl (HF.out _ (by simp)) a x.backs.length c (u64Cells x.backs) rfl (HB.out _ (by (repeat (first | exact Below.refl _ _ | assumption | (refine below_alloc ?_ _) | (refine Below.setCell ?_ (by first | omega | (simp; done) | (simp; omega)) _) | (refine Below.drew ?_) | (refine below_drewN ?_ _) | (refine below_then (by assumption) ?_))))) HONE.out (by simp only [maxLen]; omega) (by omega) (by first | (simp; done) | (simp; omega)) ?_; intro v1 w1 hown1 hgrow1 hat1; rw [Nat.zero_add, List.nil_append] at hown1; obtain ⟨av, cv, hv1⟩ := own_form hown1; subst hv1; have HG := hid hgrow1; have HO := hid hown1; have HA := hid hat1; clear hown1 hgrow1 hat1; have q0 : Blk w1 w.heap.size 209 #[.int .u64 x.stream, .slice a x.backs.length c] := (((Blk.new w _ _).alloc _).alloc _).grown HG.out (by simp only [Value.ownBlock, ne_eq, Option.some.injEq]; omega); have q1 : Blk w1 (w.heap.size + 1) 209 #[.int .u64 0, .slice none 0 0] := ((Blk.new1 w _ _ _).alloc _).grown HG.out (by simp only [Value.ownBlock, ne_eq, Option.some.injEq]; omega); have c00 : w1.cell? ⟨w.heap.size, 0, none⟩ = some (.int .u64 x.stream) := q0.cell 0; have c01 : w1.cell? ⟨w.heap.size, 1, none⟩ = some (.slice a x.backs.length c) := q0.cell 1; have c10 : w1.cell? ⟨w.heap.size + 1, 0, none⟩ = some (.int .u64 0) := q1.cell 0; have c11 : w1.cell? ⟨w.heap.size + 1, 1, none⟩ = some (.slice none 0 0) := q1.cell 1; have f00 := q0.free 0; have f01 := q0.free 1; have f10 := q1.free 0; have f11 := q1.free 1; have Q0 := hid q0; have Q1 := hid q1; clear q0 q1))
  have hb1 : Below w.heap.size w w1 := Below.grown (by (repeat (first | exact Below.refl _ _ | assumption | (refine below_alloc ?_ _) | (refine Below.setCell ?_ (by first | omega | (simp; done) | (simp; omega)) _) | (refine Below.drew ?_) | (refine below_drewN ?_ _) | (refine below_then (by assumption) ?_)))) HG.out (by first | (simp; done) | (simp; omega)) (fun g e => by simp only [Value.ownBlock, Option.some.injEq] at e; omega)
  have hr1 := own_ints64 hw.out rfl HO.out
  have hz1 : w.heap.size + 1 + 1 < w1.heap.size := by have := HG.out.size; simp at this; omega
  clear HG HO HA
  refine bodyPost_ret (v := .agg #[.int .u64 x.stream, .slice av x.backs.length cv]) (by simp [results, Tryz.results204, go_sem, c00, c01, c10, c11]) rfl ⟨.slice av x.backs.length cv, rfl, ?_, by (repeat (first | exact Below.refl _ _ | assumption | (refine below_alloc ?_ _) | (refine Below.setCell ?_ (by first | omega | (simp; done) | (simp; omega)) _) | (refine Below.drew ?_) | (refine below_drewN ?_ _) | (refine below_then (by assumption) ?_)))⟩
  refine rU64s.mono (rU64s.keep hr1 fun b hb => ?_) fun b hb => ⟨by omega, by simp; omega⟩
  repeat rw [Below.heap_setCell _ _ _ _ (by dsimp only; omega)]
end Go.Proofs.YtkipiefcnjfdjaaGreat
namespace Go.Proofs.YtkipiefcnjfdjaaGreat
open Go.RowKit Go.Bs
set_option linter.unusedVariables false
set_option linter.unusedSimpArgs false
theorem infoLink : (Tryz.prog.info? 209).map (fun i => (i.zero, i.size, i.bytes)) = some (some (.agg #[.int .u64 0, .slice none 0 0]), 2, 32) := by kernel_rfl

theorem src_new1 {w : World} (W : World) (e : TypeId) (cs : List Value) (hB : w = W.alloc (.cells cs.toArray e)) {g : Nat} (hg : g = W.heap.size) {sz : Nat} (hs : cs.length = sz) : Src w (some ⟨g, 0, none⟩) 1 sz cs := by
  subst hB hg
  refine ⟨by omega, .inr ⟨_, 0, rfl, fun j u hu => ?_⟩⟩
  rw [Nat.zero_add, Blk.cell (Blk.new W e cs.toArray)]
  simpa using hu

set_option maxHeartbeats 800000 in
theorem link_copyW (l : List Link) (a : Option Addr) (n c : Nat) (w : World) (hl : rLinks.r (· < w.heap.size) w [.slice a n c] l) (hlen : l.length ≤ 1000000000000) (hb : ∀ x ∈ l, x.backs.length ≤ 1000000000000) :
    Calls Tryz.prog 143 #[.slice a n c] w fun r w' => ∃ v, r = .returned v ∧ rLinksW.r (Fresh w w') w' [v] l ∧ Below w.heap.size w w' := by
  obtain ⟨rfl, hm, _, _⟩ := sl_len hl
  obtain ⟨i0, hi, hz0, hz1, hz2⟩ := info_parts infoLink
  have HL := hid hl; clear hl
  have HB := hid hb; clear hb
  go_enter Tryz.func143, Tryz.ntmps143
  go_wp2
  go_loopw [3, 8] (fun v i wr => ∃ k : Nat, k ≤ l.length ∧ i = .int .i64 k ∧ OwnEls w.heap.size rLink w.heap.size 209 2 wr v (l.take k) ∧ Below w.heap.size w wr) (fun _ i _ => l.length - (intOf i).toNat)
  case atStart => exact ⟨0, Nat.zero_le _, rfl, OwnEls.nil, Below.refl _ _⟩
  case round =>
    obtain ⟨k, hk, rfl, hown, hb⟩ := hrel
    by_cases hlt : k < l.length
    · obtain ⟨b, o, hA, hbb, a1, c1, hc0, hc1, hst, hd⟩ := link_at HL.out hlt
      subst hA
      have X0 := (hb.cell (p := ⟨b, o + k * 2, none⟩) hbb).trans hc0
      have X1 := (hb.cell (p := ⟨b, o + k * 2 + 1, none⟩) hbb).trans hc1
      clear hc0 hc1
      have htk := hid (List.take_succ_eq_append_getElem hlt)
      have hbk := HB.out _ (List.getElem_mem hlt)
      have R := hid (lift hd hb)
      clear hd
      generalize l[k] = z at *
      have htl : (l.take k).length = k := by simp; omega
      generalize hT : l.take k = T at *
      clear hT
      subst htl
      have OW := hid hown; clear hown
      have i1 : (T.length : Int) < (l.length : Int) := by omega
      go_wp2_with fail
      refine (link_copied z _ _ _ _ (lift R.out (by (repeat (first | exact Below.refl _ _ | assumption | (refine below_alloc ?_ _) | (refine Below.setCell ?_ (by first | omega | (simp; done) | (simp; omega)) _) | (refine Below.drew ?_) | (refine below_drewN ?_ _) | (refine below_then (by assumption) ?_))))) hbk).mono ?_
      rintro e w4 ⟨v4, rfl, hr4, hb4⟩
      obtain ⟨a4, c4, hv4, _, _⟩ := sl_form hr4
      simp only [List.cons.injEq, and_true] at hv4
      subst hv4
      have hbw4 : Below wr.heap.size wr w4 := by (repeat (first | exact Below.refl _ _ | assumption | (refine below_alloc ?_ _) | (refine Below.setCell ?_ (by first | omega | (simp; done) | (simp; omega)) _) | (refine Below.drew ?_) | (refine below_drewN ?_ _) | (refine below_then (by assumption) ?_)))
      have hz4 : wr.heap.size + 1 ≤ w4.heap.size := by have := hb4.size; simpa using this
      have O4 := OW.out.below hbw4
      have HR4 := hid (rU64s.mono hr4 (S' := fun b => wr.heap.size + 1 ≤ b ∧ b < w4.heap.size) fun b h => by simpa [Fresh] using h)
      clear hr4
      obtain ⟨cells0, OA0⟩ := OW.out
      have hlt0 : ∀ g, u3.ownBlock = some g → g < wr.heap.size := fun g e => (OA0.1.lt g e).2
      have O5 := O4.below (show Below w4.heap.size w4 (w4.alloc (.cells #[.int .u64 z.stream, .slice a4 z.backs.length c4] 209)) from by (repeat (first | exact Below.refl _ _ | assumption | (refine below_alloc ?_ _) | (refine Below.setCell ?_ (by first | omega | (simp; done) | (simp; omega)) _) | (refine Below.drew ?_) | (refine below_drewN ?_ _) | (refine below_then (by assumption) ?_))))
      obtain ⟨cells, OA⟩ := O5
      have hx : rLink.r (fun b => w.heap.size ≤ b ∧ b < (w4.alloc (.cells #[.int .u64 z.stream, .slice a4 z.backs.length c4] 209)).heap.size ∧ u3.ownBlock ≠ some b) (w4.alloc (.cells #[.int .u64 z.stream, .slice a4 z.backs.length c4] 209)) [.int .u64 z.stream, .slice a4 z.backs.length c4] z := by
        refine link_mk hst (rU64s.mono (rU64s.keep HR4.out fun b hb => Below.heap_alloc w4 _ b hb.2) fun b hb' => ⟨?_, ?_, fun e => ?_⟩)
        · have := hb.size; omega
        · simp; omega
        · have := hlt0 b e; omega
      have hbs := hb.size
      have hb9 : Below w.heap.size w (w4.alloc (.cells #[.int .u64 z.stream, .slice a4 z.backs.length c4] 209)) := below_alloc (below_then hbw4 hb) _
      have hs9 : w.heap.size ≤ (w4.alloc (.cells #[.int .u64 z.stream, .slice a4 z.backs.length c4] 209)).heap.size := hb9.size
      have HX := hid hx; clear hx
      have HA := hid OA; clear OA OA0 O4 hlt0
      have HB9 := hid hb9; clear hb9
      have HS9 := hid hs9; clear hs9
      go_wp2_with (at_builtin; go_loud (refine wpList_append_src rfl _ _ _ rfl w.heap.size 209 i0 (.agg #[.int .u64 0, .slice none 0 0]) 2 32 Tryz.underlying73 hi hz0 hz1 hz2 rfl (by decide) u3 T.length _ rfl HA.out.1 (some ⟨w4.heap.size, 0, none⟩) 1 1 [.int .u64 z.stream, .slice a4 z.backs.length c4] rfl (src_new1 w4 209 _ rfl rfl rfl) (by intro u hu; simp at hu; rcases hu with rfl | rfl <;> rfl) (by simp only [maxLen]; omega) (by omega) HS9.out ?_; intro v1 w5 hown1 hgrow1 hat1; have OP := hid (OwnEls.push HA.out rfl HX.out hown1 hgrow1 hat1 hgrow1.size); have B5 := hid (HB9.out.grown hgrow1 HS9.out (fun g e => (HA.out.1.lt g e).1)); clear hown1 hgrow1 hat1))
      go_roundw
      case rel => exact ⟨T.length + 1, by omega, by go_num, by rw [htk.out]; exact OP.out, B5.out⟩
      case measure => simp [intOf]; omega
    · obtain rfl : k = l.length := by omega
      rw [List.take_length] at hown
      have hv := OwnEls.sliceW (Nat.le_refl _) hown
      have HV := hid hv; clear hv
      go_wp2
      go_ret
      exact ⟨_, rfl, HV.out, hb⟩

end Go.Proofs.YtkipiefcnjfdjaaGreat
namespace Go.Proofs.YtkipiefcnjfdjaaGreat
open Go.RowKit Go.Bs
set_option linter.unusedVariables false
set_option linter.unusedSimpArgs false
theorem infoEntry : (Tryz.prog.info? 75).map (fun i => (i.zero, i.size, i.bytes)) = some (some (.agg #[.slice none 0 0, .slice none 0 0]), 2, 48) := by kernel_rfl
end Go.Proofs.YtkipiefcnjfdjaaGreat
namespace Go.Proofs.YtkipiefcnjfdjaaGreat
open Go.RowKit Go.Bs Go.Maps
set_option linter.unusedVariables false
set_option linter.unusedSimpArgs false

theorem rBytesless {W W' : World} {cs : List Value} {l : List Int} (h : rU64s.r (fun q => W.heap.size ≤ q ∧ q < W'.heap.size) W' cs l) : rU64s.r (· < W'.heap.size) W' cs l := rU64s.mono h fun q hq => hq.2
def StepsOwn (below : Int) (l : List Int) (w : World) (e : Ending) (w' : World) : Prop :=
  ∃ v, e = .returned (.tuple #[v, .bool (fallsB below l)]) ∧ rU64s.r (fun q => w.heap.size ≤ q ∧ q < w'.heap.size) w' [v] (if fallsB below l then stepsL below l else []) ∧ Below w.heap.size w w'
set_option maxHeartbeats 1600000 in
theorem steps_own (below : Int) (l : List Int) (a : Option Addr) (n c : Nat) (w : World) (hb0 : 0 ≤ below ∧ below ≤ 18446744073709551615) (hl : rU64s.r (· < w.heap.size) w [.slice a n c] l) (hlen : l.length ≤ 1000000000000) :
    Calls Tryz.prog 244 #[.int .u64 below, .slice a n c] w (StepsOwn below l w) := by
  obtain ⟨rfl, hm, _, _⟩ := sl_len hl
  obtain ⟨i0, hi, hz0, hz1, hz2⟩ := info_parts infoU
  have HL := hid hl; clear hl
  go_enter Tryz.func244, Tryz.ntmps244
  go_wp2
  go_loopw [0, 6, 11] (fun b v i wr => ∃ k : Nat, k ≤ l.length ∧ i = .int .i64 k ∧ b = .int .u64 (ahead below l k) ∧ 0 ≤ ahead below l k ∧ ahead below l k ≤ 18446744073709551615 ∧ Hid (fallsB below l = fallsB (ahead below l k) (l.drop k)) ∧
      (∃ xs : List Int, Hid (xs.length = k ∧ (∀ x ∈ xs, 0 ≤ x ∧ x ≤ 18446744073709551615) ∧ stepsL below l = xs ++ stepsL (ahead below l k) (l.drop k)) ∧ wr.ownsRow w.heap.size 22 1 v k (xs.map (Value.int .u64))) ∧ Below w.heap.size w wr) (fun _ _ i _ => l.length - (intOf i).toNat)
  case atStart => exact ⟨0, Nat.zero_le _, rfl, rfl, hb0.1, hb0.2, hid rfl, ⟨[], hid ⟨rfl, by simp, rfl⟩, ⟨rfl, .inl ⟨rfl, rfl⟩⟩⟩, Below.refl _ _⟩
  case round =>
    obtain ⟨k, hk, rfl, rfl, ha0, ha1, hf, ⟨xs, hxs, hown⟩, hb⟩ := hrel
    by_cases hlt : k < l.length
    · obtain ⟨b, o, hA, hbb, hc, hx0, hx1⟩ := u64_at HL.out hlt
      subst hA
      have q := (hb.cell (p := ⟨b, o + k, none⟩) hbb).trans hc
      clear hc
      have hd := hid (List.drop_eq_getElem_cons hlt)
      have hsu := hid (ahead_succ below l k hlt)
      generalize hlk : l[k] = x at *
      clear hlk
      generalize ahead below l k = p at *
      by_cases hge : p ≤ x
      · have hff : Hid (fallsB below l = false) := by
          rw [hf.out, hd.out]; exact hid (by simp [fallsB]; omega)
        go_wp2
        go_ret2
        exact ⟨.slice none 0 0, by rw [hff.out]; rfl, by rw [hff.out]; exact rSl_mk rfl (Nat.le_refl _) (Nat.zero_le _) (.inl rfl), hb⟩
      · have hbs := hb.size
        have w1 : 0 ≤ p - x := by omega
        have w2 : 0 ≤ p - x - 1 := by omega
        go_wp2_with (at_builtin; refine wpList_append_lies _ rfl _ _ _ rfl w.heap.size 22 i0 (.int .u64 0) 1 8 Tryz.underlying207 hi hz0 hz1 hz2 rfl (by decide) _ k _ rfl (hown.alloc _) ⟨wr.heap.size, 0, none⟩ 1 1 [.int .u64 (p - x - 1)] rfl rfl (World.news_of_block (Blk.new _ _ _)) (by simp [Value.oneCell']) (by decide) (by simp only [maxLen]; omega) (by omega) (by simp; omega) _ rfl ?_; intro g1 cap1 w1' hown1 hgrow1 hat1 hlt1)
        go_roundw
        case rel =>
          refine ⟨k + 1, by omega, by go_num, by rw [hsu.out], by rw [hsu.out]; exact hx0, by rw [hsu.out]; exact hx1, ?_, ⟨xs ++ [p - x - 1], ?_, ?_⟩, ?_⟩
          · rw [hf.out, hd.out, hsu.out]
            exact hid (by simp only [fallsB]; rw [decide_eq_true (by omega)]; rfl)
          · refine hid ⟨by simp [hxs.out.1], ?_, ?_⟩
            · intro y hy
              rw [List.mem_append, List.mem_singleton] at hy
              rcases hy with hy | rfl
              · exact hxs.out.2.1 y hy
              · omega
            · rw [hsu.out, hxs.out.2.2, hd.out]
              simp [stepsL]
          · rw [List.map_append]; exact hown1
          · refine Below.grown ?_ hgrow1 (by simp; omega) (fun g e => (hown.lt g e).1)
            exact hb.alloc hbs _
        case measure => simp [intOf]; omega
    · obtain rfl : k = l.length := by omega
      have hff : Hid (fallsB below l = true) := by
        rw [hf.out, List.drop_length]; exact hid rfl
      have hxl := hxs.out.1
      have hst : Hid (stepsL below l = xs) := hid (by rw [hxs.out.2.2, List.drop_length]; simp [stepsL])
      have hv : rU64s.r (fun q => w.heap.size ≤ q ∧ q < wr.heap.size) wr [u6] xs := own_ints64 hxs.out.2.1 hxl.symm hown
      have HV := hid hv; clear hv hxl
      go_wp2
      go_ret2
      exact ⟨u6, by rw [hff.out]; rfl, by rw [hff.out, if_pos rfl, hst.out]; exact HV.out, hb⟩


theorem stepsL_bounds : ∀ (l : List Int) (p : Int), fallsB p l = true → p ≤ 18446744073709551615 → (∀ x ∈ l, 0 ≤ x) → ∀ y ∈ stepsL p l, 0 ≤ y ∧ y ≤ 18446744073709551615
  | [], p, _, _, _, y, hy => by simp [stepsL] at hy
  | x :: l, p, hf, hp, hx, y, hy => by
    simp only [fallsB, Bool.and_eq_true, decide_eq_true_eq] at hf
    have h0 := hx x (by simp)
    simp only [stepsL, List.mem_cons] at hy
    rcases hy with rfl | hy
    · omega
    · exact stepsL_bounds l x hf.2 (by omega) (fun z hz => hx z (by simp [hz])) y hy

set_option maxRecDepth 100000 in
set_option maxHeartbeats 3200000 in
theorem delta_put (w : World) {g base most : Nat} {J : List UInt8} {a : Option Addr} {c : Nat} (h : PenAt w g base most J a c) (pos : Int) (hpos : 0 ≤ pos ∧ pos ≤ 18446744073709551615) (l : List Int) (al : Option Addr) (nl cl : Nat)
    (hl : rU64s.r (· < w.heap.size) w [.slice al nl cl] l) (hf : fallsB pos l = true) (hlen : l.length ≤ 1000000) (hfit : J.length + (deltaB pos l).length ≤ most) (hln2 : J.length + (deltaB pos l).length ≤ 100000000000000) :
    Calls Tryz.prog 195 #[.pointer (some ⟨g, 0, none⟩), .int .u64 pos, .slice al nl cl] w fun r w' => r = .returned (.tuple #[]) ∧ PenStep w g base most (J ++ deltaB pos l) a w' := by
  obtain ⟨rfl, hm, _, _⟩ := sl_len hl
  have HS := hid (steps_own pos l al _ cl w hpos hl (by omega))
  have hlt := h.len
  have hsl := stepsL_len pos l
  have hnb := numsB_len (stepsL pos l)
  have hxs := u64s_bounds hl
  have hsb := hid (stepsL_bounds l pos hf hpos.2 (fun x hx => (hxs x hx).1))
  have hvl := varB_len l.length
  have hdl : (deltaB pos l).length = (varB l.length).length + (numsB (stepsL pos l)).length := by unfold deltaB; rw [List.length_append]
  rw [hdl] at hfit hln2
  unfold StepsOwn at HS
  rw [hf] at HS
  simp only [if_true] at HS
  unfold deltaB
  have HP := hid h
  have HMO := hid (fun k => numsB_take_le (stepsL pos l) k)
  have HNS := hid (fun (k : Nat) (h : k < (stepsL pos l).length) => numsB_step (stepsL pos l) k h)
  generalize stepsL pos l = T at *
  generalize hL : l.length = L at *
  have hLL := hid hL
  clear h hl hf hxs hdl hL
  go_enter Tryz.func195, Tryz.ntmps195
  go_wp2_with fail
  refine HS.out.mono ?_
  rintro r w1 ⟨v, rfl, hr, hb1⟩
  obtain ⟨a1, c1, hv, hr2, _⟩ := sl_form hr
  simp only [List.cons.injEq, and_true] at hv
  subst hv
  rw [hsl] at hr2 ⊢
  have HR := hid (pen_new_data HP.out hr2)
  have HP1 := hid (HP.out.later hb1)
  have HV := hid (varint_put w1 HP1.out L (by omega) (by omega) (by omega))
  clear hr hr2
  go_wp2_with fail
  refine HV.out.mono ?_
  rintro r w2 ⟨rfl, hst⟩
  have HST := hid hst
  clear hst
  have hz1 := hb1.size
  go_wp2_with fail
  go_loopw [27] (fun i wr => ∃ k : Nat, k ≤ L ∧ i = .int .i64 k ∧ Hid (PenStep w1 g base most (J ++ varB L ++ numsB (T.take k)) a wr)) (fun i _ => L - (intOf i).toNat)
  case atStart => exact ⟨0, Nat.zero_le _, rfl, hid (by simpa [numsB] using HST.out)⟩
  case round =>
    obtain ⟨k, hk, rfl, hp⟩ := hrel
    obtain ⟨a3, c3, hp3, ht3, ha3⟩ := hp.out
    rcases Nat.lt_or_ge k L with hlt | hge
    · have hd3 := pen_data ht3 ha3 HR.out
      have hkT : k < T.length := by omega
      obtain ⟨b, o, hA, hbb, hc, hx0, hx1⟩ := u64_at hd3 hkT
      subst hA
      have hst := HNS.out k hkT
      have hfk := HMO.out (k + 1)
      rw [hst, List.length_append] at hfk
      have HSK := hid hst
      have hvk := (varB_len T[k].toNat).1
      have hJ3 := hp3.len
      simp only [List.length_append] at hJ3
      have hV := varint_put wr hp3 T[k].toNat (by omega) (by simp only [List.length_append]; omega) (by simp only [List.length_append]; omega)
      rw [toNat_cast hx0, List.append_assoc (J ++ varB L), ← hst] at hV
      have HV3 := hid hV
      have HT3 := hid (And.intro ht3 ha3)
      have i1 : (k : Int) < (L : Int) := by omega
      have d1 : decide ((k : Int) < (L : Int)) = true := decide_eq_true i1
      clear hV hd3 hst hp3 ht3 ha3 hp hfk hvk hJ3
      generalize T[k] = y at *
      go_wp2_with fail
      refine HV3.out.mono ?_
      rintro r w5 ⟨rfl, hst5⟩
      have HN := hid (PenStep.trans (J := J) HT3.out.1 HT3.out.2 hst5)
      clear hst5
      go_wp2
      go_roundw
      case rel => exact ⟨k + 1, by omega, by go_num, HN⟩
      case measure => simp [intOf]; omega
    · obtain rfl : k = L := by omega
      have d1 : decide ((k : Int) < (k : Int)) = false := decide_eq_false (by omega)
      rw [List.take_of_length_le (by omega)] at hp
      have HN := hid (PenStep.later hb1 hp.out)
      rw [List.append_assoc] at HN
      clear hp hp3 ht3 ha3
      go_wp2
      first | go_end0 | refine bodyPost_ret (results_none rfl _ _ _) rfl ?_
      exact ⟨rfl, HN.out⟩

set_option maxRecDepth 100000 in
set_option maxHeartbeats 3200000 in
theorem delta_size (w : World) (pos : Int) (hpos : 0 ≤ pos ∧ pos ≤ 18446744073709551615) (l : List Int) (al : Option Addr) (nl cl : Nat)
    (hl : rU64s.r (· < w.heap.size) w [.slice al nl cl] l) (hf : fallsB pos l = true) (hlen : l.length ≤ 1000000) :
    Calls Tryz.prog 243 #[.int .u64 pos, .slice al nl cl] w fun r w' => r = .returned (.int .i64 ((deltaB pos l).length : Int)) ∧ Below w.heap.size w w' := by
  obtain ⟨rfl, hm, _, _⟩ := sl_len hl
  have HS := hid (steps_own pos l al _ cl w hpos hl (by omega))
  have hsl := stepsL_len pos l
  have hxs := u64s_bounds hl
  have hnb := numsB_len (stepsL pos l)
  have hvl := varB_len l.length
  unfold StepsOwn at HS
  rw [hf] at HS
  simp only [if_true] at HS
  have hdl : (deltaB pos l).length = (varB l.length).length + (numsB (stepsL pos l)).length := by unfold deltaB; rw [List.length_append]
  rw [hdl]
  have HMO := hid (fun k => numsB_take_le (stepsL pos l) k)
  have HNS := hid (fun (k : Nat) (h : k < (stepsL pos l).length) => numsB_step (stepsL pos l) k h)
  have HVS := hid (fun (W : World) => varint_size l.length (by omega) W)
  generalize stepsL pos l = T at *
  generalize hL : l.length = L at *
  have hLL := hid hL
  generalize varB L = VL at *
  clear hl hf hxs hdl hL
  go_enter Tryz.func243, Tryz.ntmps243
  go_wp2_with fail
  refine HS.out.mono ?_
  rintro r w1 ⟨v, rfl, hr, hb1⟩
  obtain ⟨a1, c1, hv, hr2, _⟩ := sl_form hr
  simp only [List.cons.injEq, and_true] at hv
  subst hv
  rw [hsl] at hr2 ⊢
  have HR := hid (rBytesless hr2)
  clear hr hr2
  go_wp2_with fail
  refine (HVS.out _).mono ?_
  rintro r w2 ⟨rfl, hb2⟩
  have hbw2 := below_then hb2 hb1
  go_wp2_with fail
  go_loopw [7, 24] (fun n i wr => ∃ k m : Nat, k ≤ L ∧ i = .int .i64 k ∧ n = .int .i64 m ∧ Hid (m = VL.length + (numsB (T.take k)).length) ∧ Below w1.heap.size w1 wr) (fun _ i _ => L - (intOf i).toNat)
  case atStart => exact ⟨0, VL.length, Nat.zero_le _, rfl, rfl, hid (by simp [numsB]), hb2⟩
  case round =>
    obtain ⟨k, m, hk, rfl, rfl, hmm, hb⟩ := hrel
    have hmo := HMO.out k
    have hmk := hmm.out
    rcases Nat.lt_or_ge k L with hlt | hge
    · have hkT : k < T.length := by omega
      obtain ⟨b, o, hA, hbb, hc, hx0, hx1⟩ := u64_at (lift HR.out hb) hkT
      subst hA
      have hst := HNS.out k hkT
      have hvk := (varB_len T[k].toNat).1
      have hV := fun (W : World) => varint_size T[k].toNat (by omega) W
      rw [toNat_cast hx0] at hV
      have HV3 := hid hV
      have HM : Hid (m + (varB T[k].toNat).length = VL.length + (numsB (T.take (k + 1))).length) := hid (by rw [hst, List.length_append]; omega)
      have i1 : (k : Int) < (L : Int) := by omega
      have d1 : decide ((k : Int) < (L : Int)) = true := decide_eq_true i1
      have hmb : m ≤ 100000000 := by omega
      generalize varB T[k].toNat = VK at *
      generalize T[k] = y at *
      clear hV hst hmo hmk hmm
      go_wp2_with fail
      refine (HV3.out _).mono ?_
      rintro r w5 ⟨rfl, hb5⟩
      have hbw5 := below_then hb5 hb
      go_wp2
      go_roundw
      case rel => exact ⟨k + 1, m + VK.length, by omega, by go_num, by go_num, HM, hbw5⟩
      case measure => simp [intOf]; omega
    · obtain rfl : k = L := by omega
      have d1 : decide ((k : Int) < (k : Int)) = false := decide_eq_false (by omega)
      have hfin : Hid (m = VL.length + (numsB T).length) := hid (by rw [hmk, List.take_of_length_le (by omega)])
      clear hmo hmk hmm
      go_wp2
      go_ret
      exact ⟨by rw [hfin.out]; simp, below_then hb hb1⟩

theorem rises_at : ∀ (l : List Int) (k : Nat) (h : k + 1 < l.length), risesB l = true → l[k] < l[k + 1]
  | [], k, h, _ => by simp at h
  | [x], k, h, _ => by simp at h
  | x :: y :: l, k, h, hr => by
    simp only [risesB, Bool.and_eq_true, decide_eq_true_eq] at hr
    cases k with
    | zero => exact hr.1
    | succ k => exact rises_at (y :: l) k (by simpa using h) hr.2
theorem upsL_get : ∀ (l : List Link) (p : Option Int) (k : Nat) (h : k < l.length), (upsL p l)[k]'(by rw [upsL_len]; exact h) = if hk : k = 0 then (match p with | none => l[k].stream | some q => l[k].stream - q - 1) else l[k].stream - (l[k - 1]'(by omega)).stream - 1
  | [], p, k, h => by simp at h
  | x :: l, p, 0, h => by cases p <;> simp [upsL]
  | x :: l, p, k + 1, h => by
    simp only [upsL, List.getElem_cons_succ]
    rw [upsL_get l (some x.stream) k (by simpa using h)]
    cases k with
    | zero => simp
    | succ k => simp
/-- The parts of links, one behind the other. -/
def linkZ (pos : Int) (p : Option Int) (l : List Link) : List (List UInt8) := List.zipWith (fun (y : Int) (x : Link) => varB y.toNat ++ deltaB pos x.backs) (upsL p l) l
theorem linksF_zip (pos : Int) : ∀ (l : List Link) (p : Option Int), lnkF pos p l = (linkZ pos p l).flatten
  | [], p => rfl
  | x :: l, p => by
    simp only [lnkF, linkZ, upsL, List.zipWith_cons_cons, List.flatten_cons]
    rw [linksF_zip pos l (some x.stream)]
    rfl
theorem linkZ_len (pos : Int) (p : Option Int) (l : List Link) : (linkZ pos p l).length = l.length := by simp [linkZ, upsL_len]
theorem flat_step {α : Type} (Z : List (List α)) (k : Nat) (h : k < Z.length) : (Z.take (k + 1)).flatten = (Z.take k).flatten ++ Z[k] := by
  rw [List.take_succ_eq_append_getElem h, List.flatten_append]; simp
theorem flat_take_le {α : Type} (Z : List (List α)) (k : Nat) : (Z.take k).flatten.length ≤ Z.flatten.length := by
  have : Z.flatten = (Z.take k).flatten ++ (Z.drop k).flatten := by rw [← List.flatten_append, List.take_append_drop]
  rw [this, List.length_append]; omega
theorem linkZ_get (pos : Int) (l : List Link) (k : Nat) (h : k < l.length) : (linkZ pos none l)[k]'(by rw [linkZ_len]; exact h) = varB ((upsL none l)[k]'(by rw [upsL_len]; exact h)).toNat ++ deltaB pos l[k].backs := by
  simp [linkZ]

set_option maxRecDepth 100000 in
set_option maxHeartbeats 3200000 in
theorem link_steps (w : World) (l : List Link) (al : Option Addr) (nl cl : Nat) (hl : rLinks.r (· < w.heap.size) w [.slice al nl cl] l) (hri : risesB (l.map Link.stream) = true) (hlen : l.length ≤ 1000000) :
    Calls Tryz.prog 194 #[.slice al nl cl] w fun r w' => ∃ v, r = .returned v ∧ rU64s.r (fun q => w.heap.size ≤ q ∧ q < w'.heap.size) w' [v] (upsL none l) ∧ Below w.heap.size w w' := by
  obtain ⟨rfl, hm, _, _⟩ := sl_len hl
  obtain ⟨i0, hi, hz0, hz1, hz2⟩ := info_parts infoU
  have HL := hid hl
  have hul := upsL_len none l
  have HU := hid (fun (k : Nat) (h : k < l.length) => upsL_get l none k h)
  have HRI := hid (fun (k : Nat) (h : k + 1 < l.length) => (by have := rises_at (l.map Link.stream) k (by simpa using h) hri; simpa using this : l[k].stream < l[k + 1].stream))
  clear hl hri
  go_enter Tryz.func194, Tryz.ntmps194
  go_wp2_with fail
  go_loopw [3, 9] (fun v i wr => ∃ k : Nat, k ≤ l.length ∧ i = .int .i64 k ∧ wr.ownsRow w.heap.size 22 1 v k (u64Cells ((upsL none l).take k)) ∧ Hid (∀ x ∈ (upsL none l).take k, 0 ≤ x ∧ x ≤ 18446744073709551615) ∧ Below w.heap.size w wr) (fun _ i _ => l.length - (intOf i).toNat)
  case atStart => exact ⟨0, Nat.zero_le _, rfl, ⟨rfl, .inl ⟨rfl, rfl⟩⟩, hid (by simp), Below.refl _ _⟩
  case round =>
    obtain ⟨k, hk, rfl, hown, hbd, hb⟩ := hrel
    obtain ⟨av, cv, rfl⟩ := own_form hown
    rcases Nat.lt_or_ge k l.length with hlt | hge
    · obtain ⟨b, o, hA, hbb, a2, c2, x0, x1, hx, xl⟩ := link_at (lift HL.out hb) hlt
      subst hA
      have hu := HU.out k hlt
      have i1 : (k : Int) < (l.length : Int) := by omega
      have d1 : decide ((k : Int) < (l.length : Int)) = true := decide_eq_true i1
      have hbl : b < wr.heap.size := World.block_lt_of_cell? _ _ x0
      have htk : u64Cells ((upsL none l).take (k + 1)) = u64Cells ((upsL none l).take k) ++ [.int .u64 ((upsL none l)[k]'(by omega))] := by
        rw [List.take_succ_eq_append_getElem (by omega)]; unfold u64Cells; rw [List.map_append]; rfl
      have hnb : ∀ y : Int, (upsL none l)[k]'(by omega) = y → (0 ≤ y ∧ y ≤ 18446744073709551615) → ∀ x ∈ (upsL none l).take (k + 1), 0 ≤ x ∧ x ≤ 18446744073709551615 := fun y e hy x hx => by
        rw [List.take_succ_eq_append_getElem (by omega), List.mem_append, List.mem_singleton] at hx
        rcases hx with hx | rfl
        · exact hbd.out x hx
        · rw [e]; exact hy
      have HTK := hid htk
      have HNB := hid hnb
      have HO := hid hown
      have hz := hb.size
      rcases Nat.eq_zero_or_pos k with rfl | hk0
      · rw [dif_pos rfl] at hu
        (try dsimp only at hu)
        rw [hu] at HTK
        have HBD := hid (HNB.out _ hu hx)
        simp only [Nat.zero_mul, Nat.add_zero, Nat.zero_add] at x0 x1
        have d2 : decide ((0 : Int) < ((0 : Nat) : Int)) = false := by decide
        generalize l[0] = y at *
        clear hu htk hnb hbd hown xl hx
        go_wp2_with (at_builtin; go_loud (refine wpList_append_src rfl _ _ _ rfl w.heap.size 22 i0 (.int .u64 0) 1 8 Tryz.underlying207 hi hz0 hz1 hz2 rfl (by decide) (.slice av 0 cv) 0 _ rfl (own_below HO.out (by (repeat (first | with_reducible exact Below.refl _ _ | with_reducible assumption | (with_reducible refine below_alloc ?_ _) | (with_reducible refine Below.setCell ?_ (by first | omega | (simp; done) | (simp; omega)) _) | (with_reducible refine Below.drew ?_) | (with_reducible refine below_drewN ?_ _) | (refine below_then (by with_reducible assumption) ?_))))) (some ⟨wr.heap.size + 1, 0, none⟩) 1 1 [.int .u64 y.stream] rfl (src_new1 _ 22 _ rfl (by simp) rfl) (by simp [Value.oneCell']) (by simp only [maxLen]; omega) (by omega) (by simp; omega) ?_; intro v' w3 hown3 hgrow3 hat3; obtain ⟨a3, c3, rfl⟩ := own_form hown3; have HO3 := hid hown3; have hb3 : Below w.heap.size wr w3 := (Below.grown ((by (repeat (first | with_reducible exact Below.refl _ _ | with_reducible assumption | (with_reducible refine below_alloc ?_ _) | (with_reducible refine Below.setCell ?_ (by first | omega | (simp; done) | (simp; omega)) _) | (with_reducible refine Below.drew ?_) | (with_reducible refine below_drewN ?_ _) | (refine below_then (by with_reducible assumption) ?_))) : Below wr.heap.size wr _).mono hz) hgrow3 (by simp; omega) (fun g e => (HO.out.lt g e).1)); clear hown3 hgrow3 hat3))
        have ho3 := HO3.out
        rw [← HTK.out] at ho3
        have HO4 := hid ho3
        clear ho3 x0 x1
        go_roundw
        case rel => exact ⟨1, by omega, by go_num, by simpa using HO4.out, HBD, hb.trans hb3⟩
        case measure => simp [intOf]; omega
      · obtain ⟨m, rfl⟩ : ∃ m, k = m + 1 := ⟨k - 1, by omega⟩
        obtain ⟨b', o', hA', hbb', a3, c3, y0, y1, hy, yl⟩ := link_at (lift HL.out hb) (show m < l.length by omega)
        simp only [Option.some.injEq, Addr.mk.injEq] at hA'
        obtain ⟨rfl, rfl, _⟩ := hA'
        have hri := HRI.out m hlt
        rw [dif_neg (by omega)] at hu
        simp only [Nat.add_sub_cancel] at hu
        rw [hu] at HTK
        have HBD := hid (HNB.out _ hu (by omega))
        have i1' : (m : Int) + 1 < (l.length : Int) := by omega
        have i2 : (m : Int) < (l.length : Int) := by omega
        have d2 : decide ((m : Int) + 1 < (l.length : Int)) = true := decide_eq_true i1'
        have d3 : decide (m + 1 < l.length) = true := decide_eq_true hlt
        generalize l[m + 1] = y at *
        generalize l[m]'(by omega) = z at *
        have w1 : 0 ≤ y.stream - (z.stream + 1) := by omega
        have w2 : z.stream + 1 ≤ 18446744073709551615 := by omega
        rw [show y.stream - z.stream - 1 = y.stream - (z.stream + 1) by omega] at HTK
        clear hu htk hnb hbd hown xl yl
        go_wp2_with (at_builtin; go_loud (refine wpList_append_src rfl _ _ _ rfl w.heap.size 22 i0 (.int .u64 0) 1 8 Tryz.underlying207 hi hz0 hz1 hz2 rfl (by decide) (.slice av (m + 1) cv) (m + 1) _ rfl (own_below HO.out (by (repeat (first | with_reducible exact Below.refl _ _ | with_reducible assumption | (with_reducible refine below_alloc ?_ _) | (with_reducible refine Below.setCell ?_ (by first | omega | (simp; done) | (simp; omega)) _) | (with_reducible refine Below.drew ?_) | (with_reducible refine below_drewN ?_ _) | (refine below_then (by with_reducible assumption) ?_))))) (some ⟨wr.heap.size + 1, 0, none⟩) 1 1 [.int .u64 (y.stream - (z.stream + 1))] rfl (src_new1 _ 22 _ rfl (by simp) rfl) (by simp [Value.oneCell']) (by simp only [maxLen]; omega) (by omega) (by simp; omega) ?_; intro v' w3 hown3 hgrow3 hat3; obtain ⟨a3, c3, rfl⟩ := own_form hown3; have HO3 := hid hown3; have hb3 : Below w.heap.size wr w3 := (Below.grown ((by (repeat (first | with_reducible exact Below.refl _ _ | with_reducible assumption | (with_reducible refine below_alloc ?_ _) | (with_reducible refine Below.setCell ?_ (by first | omega | (simp; done) | (simp; omega)) _) | (with_reducible refine Below.drew ?_) | (with_reducible refine below_drewN ?_ _) | (refine below_then (by with_reducible assumption) ?_))) : Below wr.heap.size wr _).mono hz) hgrow3 (by simp; omega) (fun g e => (HO.out.lt g e).1)); clear hown3 hgrow3 hat3))
        have ho3 := HO3.out
        rw [← HTK.out] at ho3
        have HO4 := hid ho3
        clear ho3 x0 x1 y0 y1
        go_roundw
        case rel => exact ⟨m + 1 + 1, by omega, by go_num, HO4.out, HBD, hb.trans hb3⟩
        case measure => simp [intOf]; omega
    · obtain rfl : k = l.length := by omega
      have d1 : decide ((l.length : Int) < (l.length : Int)) = false := decide_eq_false (by omega)
      have hv := hown
      rw [List.take_of_length_le (by omega)] at hv hbd
      have HV := hid (own_ints64 hbd.out (by omega) hv)
      clear hv hown
      go_wp2
      go_ret
      exact ⟨_, rfl, HV.out, hb⟩
end Go.Proofs.YtkipiefcnjfdjaaGreat
namespace Go.Proofs.YtkipiefcnjfdjaaGreat
open Go.RowKit Go.Bs Go.Maps
set_option linter.unusedVariables false
set_option linter.unusedSimpArgs false

theorem upsL_bounds (l : List Link) (hri : risesB (l.map Link.stream) = true) (hx : ∀ x ∈ l, 0 ≤ x.stream ∧ x.stream ≤ 18446744073709551615) : ∀ k, (h : k < l.length) → 0 ≤ (upsL none l)[k]'(by rw [upsL_len]; exact h) ∧ (upsL none l)[k]'(by rw [upsL_len]; exact h) ≤ 18446744073709551615 := by
  intro k h
  rw [upsL_get l none k h]
  have hk := hx l[k] (List.getElem_mem h)
  split
  · exact hk
  · rename_i h0
    have h1 := hx (l[k - 1]'(by omega)) (List.getElem_mem _)
    have h2 := rises_at (l.map Link.stream) (k - 1) (by simp; omega) hri
    simp only [List.getElem_map, Nat.sub_add_cancel (show 1 ≤ k by omega)] at h2
    omega
theorem links_bounds {S : Nat → Prop} {w : World} {a : Option Addr} {n c : Nat} {l : List Link} (h : rLinks.r S w [.slice a n c] l) : ∀ x ∈ l, linkN x := by
  intro x hx
  obtain ⟨i, hi, rfl⟩ := List.getElem_of_mem hx
  obtain ⟨b, o, _, _, a2, c2, _, _, hs, xl⟩ := link_at h hi
  exact ⟨hs, fun y hy => (u64s_bounds xl y hy).1⟩
theorem linkZ_len_le (pos : Int) (l : List Link) (hR : linksR pos l = true) : (lnkF pos none l).length ≤ 51 * l.length := by
  have key : ∀ (l : List Link) (p : Option Int), (∀ x ∈ l, linkR pos x = true) → (lnkF pos p l).length ≤ 51 * l.length := by
    intro l
    induction l with
    | nil => intro p _; simp [lnkF]
    | cons x l ih =>
      intro p hx
      have h1 := hx x (by simp)
      simp only [linkR, Bool.and_eq_true, decide_eq_true_eq] at h1
      have h2 := ih (some x.stream) (fun y hy => hx y (by simp [hy]))
      have h3 := deltaB_len pos x.backs (by omega)
      cases p with
      | none =>
        have h4 := (varB_len x.stream.toNat).1
        simp only [lnkF, List.length_append, List.length_cons]
        omega
      | some q =>
        have h4 := (varB_len (x.stream - q - 1).toNat).1
        simp only [lnkF, List.length_append, List.length_cons]
        omega
  simp only [linksR, Bool.and_eq_true, decide_eq_true_eq, List.all_eq_true] at hR
  exact key l none hR.2.2

set_option maxRecDepth 100000 in
set_option maxHeartbeats 3200000 in
theorem link_put (w : World) {g base most : Nat} {J : List UInt8} {a : Option Addr} {c : Nat} (h : PenAt w g base most J a c) (pos : Int) (hpos : 0 ≤ pos ∧ pos ≤ 18446744073709551615) (l : List Link) (al : Option Addr) (nl cl : Nat)
    (hl : rLinks.r (fun q => q < w.heap.size ∧ ¬ PenF g a q) w [.slice al nl cl] l) (hR : linksR pos l = true) (hbk : ∀ x ∈ l, x.backs.length ≤ 1000000) (hfit : J.length + (linksB pos l).length ≤ most) (hln2 : J.length + (linksB pos l).length ≤ 100000000000000) :
    Calls Tryz.prog 135 #[.pointer (some ⟨g, 0, none⟩), .int .u64 pos, .slice al nl cl] w fun r w' => r = .returned (.tuple #[]) ∧ PenStep w g base most (J ++ linksB pos l) a w' := by
  obtain ⟨rfl, hm, _, _⟩ := sl_len hl
  have hN := links_bounds hl
  have HRT := hid (link_right pos l al _ cl w hpos (pen_low hl) (fun x hx => by have := hbk x hx; omega))
  have hR' := hR
  simp only [linksR, Bool.and_eq_true, decide_eq_true_eq, List.all_eq_true] at hR'
  rw [hR] at HRT
  have hlk : ∀ x ∈ l, fallsB pos x.backs = true := fun x hx => by have := hR'.2.2 x hx; simp only [linkR, Bool.and_eq_true] at this; exact this.2
  have HLK := hid hlk
  have HBK := hid hbk
  have hup := hid (upsL_bounds l hR'.2.1 (fun x hx => (hN x hx).1))
  have hul := upsL_len none l
  have hzl := linkZ_len pos none l
  have HSP := hid (fun (W : World) (hW : rLinks.r (· < W.heap.size) W [.slice al l.length cl] l) => link_steps W l al _ cl hW hR'.2.1 (by omega))
  have hdl : (linksB pos l).length = (varB l.length).length + ((linkZ pos none l).flatten).length := by unfold linksB; rw [List.length_append, linksF_zip]
  rw [hdl] at hfit hln2
  unfold linksB
  rw [linksF_zip]
  have HP := hid h
  have HL := hid hl
  have hvl := varB_len l.length
  have HV := hid (fun (W : World) (hW : Below w.heap.size w W) => varint_put W (h.later hW) l.length (by omega) (by omega) (by omega))
  have HMO := hid (fun k => flat_take_le (linkZ pos none l) k)
  have HNS := hid (fun (k : Nat) (h : k < l.length) => (by have := flat_step (linkZ pos none l) k (by omega); rw [linkZ_get pos l k h] at this; exact this : ((linkZ pos none l).take (k + 1)).flatten = ((linkZ pos none l).take k).flatten ++ (varB ((upsL none l)[k]'(by rw [upsL_len]; exact h)).toNat ++ deltaB pos l[k].backs)))
  generalize linkZ pos none l = Z at *
  have hll : l.length ≤ 16 := hR'.1
  clear h hl hR hR' hlk hbk hN hdl
  go_enter Tryz.func135, Tryz.ntmps135
  go_wp2_with fail
  refine HRT.out.mono ?_
  rintro r w1 ⟨rfl, hb1⟩
  go_wp2_with fail
  refine (HV.out _ hb1).mono ?_
  rintro r w2 ⟨rfl, a2, c2, hp2, ht2, ha2⟩
  have hd2 := pen_data ht2 ha2 (pen_later hb1 HL.out)
  have HP2 := hid hp2
  have HD2 := hid hd2
  have HT2 := hid (And.intro ht2 ha2)
  clear hp2 hd2 ht2 ha2
  go_wp2_with fail
  refine (HSP.out w2 (pen_low HD2.out)).mono ?_
  rintro r w3 ⟨v3, rfl, hr3, hb3⟩
  obtain ⟨a3, c3, hv3, hr3', _⟩ := sl_form hr3
  simp only [List.cons.injEq, and_true] at hv3
  subst hv3
  have HR3 := hid (pen_new_data HP2.out hr3')
  have HD3 := hid (pen_later hb3 HD2.out)
  have HP3 := hid (HP2.out.later hb3)
  rw [hul] at HR3 ⊢
  clear hr3 hr3'
  go_wp2_with fail
  go_loopw [22] (fun i wr => ∃ k : Nat, k ≤ l.length ∧ i = .int .i64 k ∧ Hid (PenStep w3 g base most (J ++ varB l.length ++ (Z.take k).flatten) a2 wr)) (fun i _ => l.length - (intOf i).toNat)
  case atStart => exact ⟨0, Nat.zero_le _, rfl, hid (by simpa using PenStep.refl HP3.out)⟩
  case round =>
    obtain ⟨k, hk, rfl, hp⟩ := hrel
    obtain ⟨a4, c4, hp4, ht4, ha4⟩ := hp.out
    rcases Nat.lt_or_ge k l.length with hlt | hge
    · have hr4 := pen_data ht4 ha4 HR3.out
      have hd4 := pen_data ht4 ha4 HD3.out
      obtain ⟨b, o, hA, hbb, hc, hx0, hx1⟩ := u64_at hr4 (show k < (upsL none l).length by omega)
      obtain ⟨b', o', hA', hbb', a5, c5, y0, y1, hs, yl⟩ := link_at hd4 hlt
      subst hA hA'
      have hst := HNS.out k hlt
      have hfk := HMO.out (k + 1)
      rw [hst, List.length_append, List.length_append] at hfk
      have hvk := (varB_len ((upsL none l)[k]'(by omega)).toNat).1
      have hJ4 := hp4.len
      simp only [List.length_append] at hJ4
      have hV := varint_put wr hp4 ((upsL none l)[k]'(by omega)).toNat (by omega) (by simp only [List.length_append]; omega) (by simp only [List.length_append]; omega)
      rw [toNat_cast hx0] at hV
      have HV4 := hid hV
      have HT4 := hid (And.intro ht4 ha4)
      have HYL := hid yl
      have HST := hid hst
      have HFK := hid hfk
      have hfl := HLK.out l[k] (List.getElem_mem hlt)
      have hbl := HBK.out l[k] (List.getElem_mem hlt)
      have HFL := hid hfl
      have HDY := hid (And.intro hbb' y1)
      have i1 : (k : Int) < (l.length : Int) := by omega
      have d1 : decide ((k : Int) < (l.length : Int)) = true := decide_eq_true i1
      clear hV hr4 hd4 hst hp4 ht4 ha4 hp hfk hvk hJ4 hfl y0 yl y1 hbb'
      generalize (upsL none l)[k]'(by omega) = u at *
      generalize l[k] = y at *
      go_wp2_with fail
      refine HV4.out.mono ?_
      rintro r w5 ⟨rfl, a6, c6, hp5, ht5, ha5⟩
      have Y1 : w5.cell? ⟨b', o' + k * 2 + 1, none⟩ = some (.slice a5 y.backs.length c5) := (ht5.cell (p := ⟨b', o' + k * 2 + 1, none⟩) HDY.out.1.1 HDY.out.1.2).trans HDY.out.2
      have hy5 := pen_low (pen_data ht5 ha5 HYL.out)
      have HD5 := hid (delta_put w5 hp5 pos hpos y.backs a5 _ c5 hy5 HFL.out hbl (by have := HFK.out; simp only [List.length_append]; omega) (by have := HFK.out; simp only [List.length_append]; omega))
      have HT5 := hid (And.intro ht5 ha5)
      clear hy5 hp5 ht5 ha5 hc
      go_wp2_with fail
      refine HD5.out.mono ?_
      rintro r w6 ⟨rfl, hst6⟩
      have hn := PenStep.trans (J := J) HT4.out.1 HT4.out.2 (PenStep.trans (J := J) HT5.out.1 HT5.out.2 hst6)
      rw [List.append_assoc, List.append_assoc (J ++ varB l.length), ← HST.out] at hn
      have HN := hid hn
      clear hst6 hn Y1
      go_wp2
      go_roundw
      case rel => exact ⟨k + 1, by omega, by go_num, HN⟩
      case measure => simp [intOf]; omega
    · obtain rfl : k = l.length := by omega
      have d1 : decide ((l.length : Int) < (l.length : Int)) = false := decide_eq_false (by omega)
      rw [List.take_of_length_le (by omega)] at hp
      have hn := PenStep.later hb1 (PenStep.trans (J := J) HT2.out.1 HT2.out.2 (PenStep.later hb3 hp.out))
      rw [List.append_assoc] at hn
      have HN := hid hn
      clear hp hp4 ht4 ha4 hn
      go_wp2
      first | go_end0 | refine bodyPost_ret (results_none rfl _ _ _) rfl ?_
      exact ⟨rfl, HN.out⟩
end Go.Proofs.YtkipiefcnjfdjaaGreat
namespace Go.Proofs.YtkipiefcnjfdjaaGreat
open Go.RowKit Go.Bs Go.Maps
set_option linter.unusedVariables false
set_option linter.unusedSimpArgs false

set_option maxRecDepth 100000 in
set_option maxHeartbeats 3200000 in
theorem link_size (w : World) (pos : Int) (hpos : 0 ≤ pos ∧ pos ≤ 18446744073709551615) (l : List Link) (al : Option Addr) (nl cl : Nat)
    (hl : rLinks.r (· < w.heap.size) w [.slice al nl cl] l) (hR : linksR pos l = true) (hbk : ∀ x ∈ l, x.backs.length ≤ 1000000) :
    Calls Tryz.prog 192 #[.int .u64 pos, .slice al nl cl] w fun r w' => r = .returned (.int .i64 ((linksB pos l).length : Int)) ∧ Below w.heap.size w w' := by
  obtain ⟨rfl, hm, _, _⟩ := sl_len hl
  have hN := links_bounds hl
  have HRT := hid (link_right pos l al _ cl w hpos hl (fun x hx => by have := hbk x hx; omega))
  have hR' := hR
  simp only [linksR, Bool.and_eq_true, decide_eq_true_eq, List.all_eq_true] at hR'
  rw [hR] at HRT
  have hlk : ∀ x ∈ l, fallsB pos x.backs = true := fun x hx => by have := hR'.2.2 x hx; simp only [linkR, Bool.and_eq_true] at this; exact this.2
  have HLK := hid hlk
  have HBK := hid hbk
  have hul := upsL_len none l
  have hzl := linkZ_len pos none l
  have HSP := hid (fun (W : World) (hW : rLinks.r (· < W.heap.size) W [.slice al l.length cl] l) => link_steps W l al _ cl hW hR'.2.1 (by omega))
  have hdl : (linksB pos l).length = (varB l.length).length + ((linkZ pos none l).flatten).length := by unfold linksB; rw [List.length_append, linksF_zip]
  have hle := linkZ_len_le pos l hR
  rw [linksF_zip] at hle
  rw [hdl]
  have HL := hid hl
  have hvl := varB_len l.length
  have HV := hid (fun (W : World) => varint_size l.length (by omega) W)
  have HMO := hid (fun k => flat_take_le (linkZ pos none l) k)
  have HNS := hid (fun (k : Nat) (h : k < l.length) => (by have := flat_step (linkZ pos none l) k (by omega); rw [linkZ_get pos l k h] at this; exact this : ((linkZ pos none l).take (k + 1)).flatten = ((linkZ pos none l).take k).flatten ++ (varB ((upsL none l)[k]'(by rw [upsL_len]; exact h)).toNat ++ deltaB pos l[k].backs)))
  generalize linkZ pos none l = Z at *
  generalize varB l.length = VL at *
  have hll : l.length ≤ 16 := hR'.1
  clear hl hR hR' hlk hbk hN hdl
  go_enter Tryz.func192, Tryz.ntmps192
  go_wp2_with fail
  refine HRT.out.mono ?_
  rintro r w1 ⟨rfl, hb1⟩
  go_wp2_with fail
  refine (HV.out w1).mono ?_
  rintro r w2 ⟨rfl, hb2⟩
  have hb12 := below_then hb2 hb1
  go_wp2_with fail
  refine (HSP.out w2 (lift HL.out hb12)).mono ?_
  rintro r w3 ⟨v3, rfl, hr3, hb3⟩
  obtain ⟨a3, c3, hv3, hr3', _⟩ := sl_form hr3
  simp only [List.cons.injEq, and_true] at hv3
  subst hv3
  have HR3 := hid (rBytesless hr3')
  have hbw3 := below_then hb3 hb12
  rw [hul] at HR3 ⊢
  clear hr3 hr3'
  go_wp2_with fail
  go_loopw [5, 19] (fun n i wr => ∃ k m : Nat, k ≤ l.length ∧ i = .int .i64 k ∧ n = .int .i64 m ∧ Hid (m = VL.length + (Z.take k).flatten.length) ∧ Below w3.heap.size w3 wr) (fun _ i _ => l.length - (intOf i).toNat)
  case atStart => exact ⟨0, VL.length, Nat.zero_le _, rfl, rfl, hid (by simp), Below.refl _ _⟩
  case round =>
    obtain ⟨k, m, hk, rfl, rfl, hmm, hb⟩ := hrel
    have hmo := HMO.out k
    have hmk := hmm.out
    rcases Nat.lt_or_ge k l.length with hlt | hge
    · obtain ⟨b, o, hA, hbb, hc, hx0, hx1⟩ := u64_at (lift HR3.out hb) (show k < (upsL none l).length by omega)
      have hbw := below_then hb hbw3
      obtain ⟨b', o', hA', hbb', a5, c5, y0, y1, hs, yl⟩ := link_at (lift HL.out hbw) hlt
      subst hA hA'
      have hst := HNS.out k hlt
      have hfk := HMO.out (k + 1)
      rw [hst, List.length_append, List.length_append] at hfk
      have HV4 := hid (fun (W : World) => (by have := varint_size ((upsL none l)[k]'(by omega)).toNat (by omega) W; rw [toNat_cast hx0] at this; exact this : Calls Tryz.prog 191 #[.int .u64 ((upsL none l)[k]'(by omega))] W fun r w' => r = .returned (.int .i64 (varB ((upsL none l)[k]'(by omega)).toNat).length) ∧ Below W.heap.size W w'))
      have hfl := HLK.out l[k] (List.getElem_mem hlt)
      have hbl := HBK.out l[k] (List.getElem_mem hlt)
      have HD4 := hid (fun s : Later wr => delta_size s.at_ pos hpos l[k].backs a5 _ c5 (lift yl s.below) hfl hbl)
      have HV5 := hid (fun s : Later wr => HV4.out s.at_)
      have HM : Hid (m + ((varB ((upsL none l)[k]'(by omega)).toNat).length + (deltaB pos l[k].backs).length) = VL.length + (Z.take (k + 1)).flatten.length) := hid (by rw [hst]; simp only [List.length_append]; omega)
      have hmb : m ≤ 1000000 := by omega
      have hd1 : (varB ((upsL none l)[k]'(by omega)).toNat).length ≤ 1000000 ∧ (deltaB pos l[k].backs).length ≤ 1000000 := by omega
      have i1 : (k : Int) < (l.length : Int) := by omega
      have d1 : decide ((k : Int) < (l.length : Int)) = true := decide_eq_true i1
      have Y1 := fun s : Later wr => s.cell y1
      generalize varB ((upsL none l)[k]'(by omega)).toNat = VK at *
      generalize deltaB pos l[k].backs = DK at *
      generalize (upsL none l)[k]'(by omega) = u at *
      generalize l[k] = y at *
      clear HV4 hst hmo hmk hmm hfk hfl yl y0
      go_wp2_with fail
      refine wp_region_later (by kernel_rfl) (by kernel_rfl) ?_
      repeat (go_big_quiet_step ((first | (go_at_call 191; with_reducible exact later_of (HV5.out _)) | (go_at_call 243; with_reducible exact later_of (HD4.out _)))))
      refine wpQuiet_nil ?_
      rintro W5 ⟨⟨W5', hb5⟩, rfl⟩
      have hbw5 := below_then hb5 hb
      clear Y1
      go_wp2
      go_roundw
      case rel => exact ⟨k + 1, m + (VK.length + DK.length), by omega, by go_num, by go_num, HM, hbw5⟩
      case measure => simp [intOf]; omega
    · obtain rfl : k = l.length := by omega
      have d1 : decide ((l.length : Int) < (l.length : Int)) = false := decide_eq_false (by omega)
      have hfin : Hid (m = VL.length + Z.flatten.length) := hid (by rw [hmk, List.take_of_length_le (by omega)])
      clear hmo hmk hmm
      go_wp2
      go_ret
      exact ⟨by rw [hfin.out]; simp, below_then hb hbw3⟩

def headN (pos : Int) (e : Entry) : Nat := if entryR pos e = true then (headB pos e).length else 0
theorem headN_le (pos : Int) (e : Entry) : headN pos e ≤ 1000 := by
  unfold headN
  split
  · rename_i h
    simp only [entryR, Bool.and_eq_true] at h
    have h1 := linkZ_len_le pos e.links h.1
    have h2 := h.1
    simp only [linksR, Bool.and_eq_true, decide_eq_true_eq] at h2
    have h3 := (varB_len e.links.length).1
    have h4 := (varB_len e.data.length).1
    simp only [headB, linksB, List.length_append]
    omega
  · omega
theorem e_blk {w : World} {g : Nat} {t : TypeId} {v0 v1 : Value} (h : Blk w g t #[v0, v1]) : w.cell? ⟨g, 0, none⟩ = some v0 ∧ w.cell? ⟨g, 1, none⟩ = some v1 ∧ g < w.heap.size :=
  ⟨h.cell 0, h.cell 1, h.lt⟩
set_option maxRecDepth 100000 in
set_option maxHeartbeats 3200000 in
theorem entry_headsize (w : World) (pos : Int) (hpos : 0 ≤ pos ∧ pos ≤ 18446744073709551615) (e : Entry) (a1 a2 : Option Addr) (n1 c1 n2 c2 : Nat)
    (hl : rLinks.r (· < w.heap.size) w [.slice a1 n1 c1] e.links) (hd : rBytes.r (· < w.heap.size) w [.slice a2 n2 c2] e.data) (hbk : ∀ x ∈ e.links, x.backs.length ≤ 1000000) :
    Calls Tryz.prog 130 #[.int .u64 pos, .agg #[.slice a1 n1 c1, .slice a2 n2 c2]] w fun r w' => r = .returned (.int .i64 (headN pos e : Int)) ∧ Below w.heap.size w w' := by
  obtain ⟨rfl, hm1, _, _⟩ := sl_len hl
  obtain ⟨rfl, hm2, _, _⟩ := sl_len hd
  have HER := hid (fun (W : World) (hW : Below w.heap.size w W) => entry_right pos e a1 a2 _ c1 _ c2 W hpos (fun x hx => by have := hbk x hx; omega) (lift hl hW) (lift hd hW))
  unfold headN
  cases hR : entryR pos e
  · rw [hR] at HER
    rw [if_neg (by simp)]
    go_enter Tryz.func130, Tryz.ntmps130
    go_wp2_with fail
    refine (HER.out _ (by (repeat (first | with_reducible exact Below.refl _ _ | with_reducible assumption | (with_reducible refine below_alloc ?_ _) | (with_reducible refine Below.setCell ?_ (by first | omega | (simp; done) | (simp; omega)) _) | (with_reducible refine Below.drew ?_) | (with_reducible refine below_drewN ?_ _) | (refine below_then (by with_reducible assumption) ?_))))).mono ?_
    rintro r w1 ⟨rfl, hb1⟩
    go_wp2
    go_ret
    exact ⟨rfl, by (repeat (first | with_reducible exact Below.refl _ _ | with_reducible assumption | (with_reducible refine below_alloc ?_ _) | (with_reducible refine Below.setCell ?_ (by first | omega | (simp; done) | (simp; omega)) _) | (with_reducible refine Below.drew ?_) | (with_reducible refine below_drewN ?_ _) | (refine below_then (by with_reducible assumption) ?_)))⟩
  · rw [hR] at HER
    rw [if_pos rfl]
    have hR' := hR
    simp only [entryR, Bool.and_eq_true, decide_eq_true_eq] at hR'
    have hbl : (headB pos e).length = (linksB pos e.links).length + (varB e.data.length).length := by unfold headB; rw [List.length_append]
    have hle := headN_le pos e
    unfold headN at hle
    rw [if_pos hR, hbl] at hle
    rw [hbl]
    have HLS := hid (fun (W : World) (hW : Below w.heap.size w W) => link_size W pos hpos e.links a1 _ c1 (lift hl hW) hR'.1 hbk)
    have HVS := hid (fun (W : World) => varint_size e.data.length (by omega) W)
    have hdl := hR'.2
    generalize varB e.data.length = V at *
    generalize linksB pos e.links = LB at *
    clear hl hd hR hR' hbl
    go_enter Tryz.func130, Tryz.ntmps130
    go_wp2_with fail
    refine (HER.out _ (by (repeat (first | with_reducible exact Below.refl _ _ | with_reducible assumption | (with_reducible refine below_alloc ?_ _) | (with_reducible refine Below.setCell ?_ (by first | omega | (simp; done) | (simp; omega)) _) | (with_reducible refine Below.drew ?_) | (with_reducible refine below_drewN ?_ _) | (refine below_then (by with_reducible assumption) ?_))))).mono ?_
    rintro r w1 ⟨rfl, hb1⟩
    have B1 := Blk.later (Blk.newAt w 75 #[.slice a1 e.links.length c1, .slice a2 e.data.length c2] rfl) hb1
    have hbw1 : Below w.heap.size w w1 := by (repeat (first | with_reducible exact Below.refl _ _ | with_reducible assumption | (with_reducible refine below_alloc ?_ _) | (with_reducible refine Below.setCell ?_ (by first | omega | (simp; done) | (simp; omega)) _) | (with_reducible refine Below.drew ?_) | (with_reducible refine below_drewN ?_ _) | (refine below_then (by with_reducible assumption) ?_)))
    have C0 := fun s : Later w1 => s.cell (B1.cell 0)
    have C1 := fun s : Later w1 => s.cell (B1.cell 1)
    simp at C0 C1
    have HS1 := hid (fun s : Later w1 => HLS.out s.at_ (below_then s.below hbw1))
    have HS2 := hid (fun s : Later w1 => HVS.out s.at_)
    clear B1 hb1
    go_wp2_with fail
    refine wp_region_later (by kernel_rfl) (by kernel_rfl) ?_
    repeat (go_big_quiet_step ((first | (go_at_call 192; with_reducible exact later_of (HS1.out _)) | (go_at_call 191; with_reducible exact later_of (HS2.out _)))))
    refine wpQuiet_nil ?_
    rintro W5 ⟨⟨W5', hb5⟩, rfl⟩
    clear C0 C1
    go_wp2
    go_ret
    exact ⟨by simp, below_then hb5 hbw1⟩

set_option maxRecDepth 100000 in
set_option maxHeartbeats 3200000 in
theorem entry_puthead (w : World) {g base most : Nat} {J : List UInt8} {a : Option Addr} {c : Nat} (h : PenAt w g base most J a c) (pos : Int) (hpos : 0 ≤ pos ∧ pos ≤ 18446744073709551615) (e : Entry) (a1 a2 : Option Addr) (n1 c1 n2 c2 : Nat)
    (hl : rLinks.r (fun q => q < w.heap.size ∧ ¬ PenF g a q) w [.slice a1 n1 c1] e.links) (hd : rBytes.r (· < w.heap.size) w [.slice a2 n2 c2] e.data) (hR : entryR pos e = true) (hbk : ∀ x ∈ e.links, x.backs.length ≤ 1000000) (hfit : J.length + (headB pos e).length ≤ most) (hln2 : J.length + (headB pos e).length ≤ 100000000000000) :
    Calls Tryz.prog 74 #[.pointer (some ⟨g, 0, none⟩), .int .u64 pos, .agg #[.slice a1 n1 c1, .slice a2 n2 c2]] w fun r w' => r = .returned (.tuple #[]) ∧ PenStep w g base most (J ++ headB pos e) a w' := by
  obtain ⟨rfl, hm1, _, _⟩ := sl_len hl
  obtain ⟨rfl, hm2, _, _⟩ := sl_len hd
  have HER := hid (fun (W : World) (hW : Below w.heap.size w W) => entry_right pos e a1 a2 _ c1 _ c2 W hpos (fun x hx => by have := hbk x hx; omega) (lift (pen_low hl) hW) (lift hd hW))
  rw [hR] at HER
  have hR' := hR
  simp only [entryR, Bool.and_eq_true, decide_eq_true_eq] at hR'
  have hbl : (headB pos e).length = (linksB pos e.links).length + (varB e.data.length).length := by unfold headB; rw [List.length_append]
  rw [hbl] at hfit hln2
  have hhb : headB pos e = linksB pos e.links ++ varB e.data.length := rfl
  rw [hhb]
  have HPT := hid (fun (W : World) (hW : Below w.heap.size w W) => link_put W (h.later hW) pos hpos e.links a1 _ c1 (pen_later hW hl) hR'.1 hbk (by omega) (by omega))
  have HP := hid h
  have hdl := hR'.2
  generalize linksB pos e.links = LB at *
  clear h hl hd hR hR' hbl hhb
  go_enter Tryz.func74, Tryz.ntmps74
  go_wp2_with fail
  refine (HER.out _ (by (repeat (first | with_reducible exact Below.refl _ _ | with_reducible assumption | (with_reducible refine below_alloc ?_ _) | (with_reducible refine Below.setCell ?_ (by first | omega | (simp; done) | (simp; omega)) _) | (with_reducible refine Below.drew ?_) | (with_reducible refine below_drewN ?_ _) | (refine below_then (by with_reducible assumption) ?_))))).mono ?_
  rintro r w1 ⟨rfl, hb1⟩
  have B1 := Blk.later (Blk.newAt w 75 #[.slice a1 e.links.length c1, .slice a2 e.data.length c2] rfl) hb1
  obtain ⟨x0, x1, l1⟩ := e_blk B1
  have hbw1 : Below w.heap.size w w1 := by (repeat (first | with_reducible exact Below.refl _ _ | with_reducible assumption | (with_reducible refine below_alloc ?_ _) | (with_reducible refine Below.setCell ?_ (by first | omega | (simp; done) | (simp; omega)) _) | (with_reducible refine Below.drew ?_) | (with_reducible refine below_drewN ?_ _) | (refine below_then (by with_reducible assumption) ?_)))
  have hgl := HP.out.blk.lt
  have HLT := hid (fun q (hq : PenF g a q) => (HP.out.own_lt hq).2)
  have HB1 := hid B1
  clear B1 hb1
  go_wp2_with fail
  refine (HPT.out _ hbw1).mono ?_
  rintro r w2 ⟨rfl, a3, c3, hp2, ht2, ha2⟩
  have B2 := HB1.out.tch ht2 (fun hf => by have := HLT.out _ hf; omega)
  obtain ⟨y0, y1, l2⟩ := e_blk B2
  have HV := hid (varint_put w2 hp2 e.data.length (by omega) (by simp only [List.length_append]; omega) (by simp only [List.length_append]; omega))
  have HT := hid (And.intro ht2 ha2)
  clear B2 hp2 ht2 ha2 x0 x1
  go_wp2_with fail
  refine HV.out.mono ?_
  rintro r w3 ⟨rfl, hst⟩
  have hn := PenStep.later hbw1 (PenStep.trans (J := J) HT.out.1 HT.out.2 hst)
  rw [List.append_assoc] at hn
  have HN := hid hn
  clear hst hn
  go_wp2
  first | go_end0 | refine bodyPost_ret (results_none rfl _ _ _) rfl ?_
  exact ⟨rfl, HN.out⟩

theorem epoch_put0 (w : World) {g base most : Nat} {J : List UInt8} {a : Option Addr} {c : Nat} (h : PenAt w g base most J a c) (x : Nat) (hx : x < 18446744073709551616) (hfit : J.length + (varB x).length ≤ most) (hlen : J.length + (varB x).length ≤ 100000000000000) :
    Calls Tryz.prog 131 #[.pointer (some ⟨g, 0, none⟩), .int .u64 x, .bool true] w fun r w' => r = .returned (.tuple #[]) ∧ PenStep w g base most (J ++ varB x) a w' := by
  have HV := hid (varint_put w h x hx hfit hlen)
  clear h
  go_enter Tryz.func131, Tryz.ntmps131
  go_wp2_with fail
  refine HV.out.mono ?_
  rintro r w1 ⟨rfl, hst⟩
  have HST := hid hst
  clear hst
  go_wp2
  first | go_end0 | refine bodyPost_ret (results_none rfl _ _ _) rfl ?_
  exact ⟨rfl, HST.out⟩
theorem epoch_put (w : World) {g base most : Nat} {J : List UInt8} {a : Option Addr} {c : Nat} (h : PenAt w g base most J a c) (x : Nat) (hx : epR (x : Int) = true) (hfit : J.length + (varB x).length ≤ most) (hlen : J.length + (varB x).length ≤ 100000000000000) :
    Calls Tryz.prog 71 #[.pointer (some ⟨g, 0, none⟩), .int .u64 x] w fun r w' => r = .returned (.tuple #[]) ∧ PenStep w g base most (J ++ varB x) a w' := by
  have hx' := hx
  simp only [epR, decide_eq_true_eq] at hx'
  have HR := hid (epoch_right (x : Int) w)
  rw [hx] at HR
  have HV := hid (epoch_put0 w h x (by omega) hfit hlen)
  clear h hx hx'
  go_enter Tryz.func71, Tryz.ntmps71
  go_wp2_with fail
  refine HR.out.mono ?_
  rintro r w1 ⟨rfl, rfl⟩
  go_wp2_with fail
  refine HV.out.mono ?_
  rintro r w1 ⟨rfl, hst⟩
  have HST := hid hst
  clear hst
  go_wp2
  first | go_end0 | refine bodyPost_ret (results_none rfl _ _ _) rfl ?_
  exact ⟨rfl, HST.out⟩
theorem epoch_putpos (w : World) {g base most : Nat} {J : List UInt8} {a : Option Addr} {c : Nat} (h : PenAt w g base most J a c) (x : Nat) (hx : poR (x : Int) = true) (hfit : J.length + (varB x).length ≤ most) (hlen : J.length + (varB x).length ≤ 100000000000000) :
    Calls Tryz.prog 72 #[.pointer (some ⟨g, 0, none⟩), .int .u64 x] w fun r w' => r = .returned (.tuple #[]) ∧ PenStep w g base most (J ++ varB x) a w' := by
  have hx' := hx
  simp only [poR, decide_eq_true_eq] at hx'
  have HR := hid (epoch_pos (x : Int) w)
  rw [hx] at HR
  have HV := hid (epoch_put0 w h x (by omega) hfit hlen)
  clear h hx hx'
  go_enter Tryz.func72, Tryz.ntmps72
  go_wp2_with fail
  refine HR.out.mono ?_
  rintro r w1 ⟨rfl, rfl⟩
  go_wp2_with fail
  refine HV.out.mono ?_
  rintro r w1 ⟨rfl, hst⟩
  have HST := hid hst
  clear hst
  go_wp2
  first | go_end0 | refine bodyPost_ret (results_none rfl _ _ _) rfl ?_
  exact ⟨rfl, HST.out⟩
end Go.Proofs.YtkipiefcnjfdjaaGreat
namespace Go.Proofs.YtkipiefcnjfdjaaGreat
open Go.RowKit Go.Bs Go.Maps
set_option linter.unusedVariables false
set_option linter.unusedSimpArgs false

theorem b_blk {w : World} {g : Nat} {t : TypeId} {v0 v1 v2 : Value} (h : Blk w g t #[v0, v1, v2]) : w.cell? ⟨g, 0, none⟩ = some v0 ∧ w.cell? ⟨g, 1, none⟩ = some v1 ∧ w.cell? ⟨g, 2, none⟩ = some v2 ∧ w.frozen? ⟨g, 0, none⟩ = false ∧ w.frozen? ⟨g, 1, none⟩ = false ∧ w.frozen? ⟨g, 2, none⟩ = false ∧ g < w.heap.size :=
  ⟨h.cell 0, h.cell 1, h.cell 2, h.free 0, h.free 1, h.free 2, h.lt⟩
theorem empty_bytes2 {S : Nat → Prop} {w : World} {a : Option Addr} {m c : Nat} {l : List UInt8} (hl : l = []) (hm : m = 0) (hc : c ≤ 9223372036854775807) : rBytes.r S w [.slice a m c] l := by
  subst hl hm
  exact rSl_mk (xs := []) rfl (Nat.zero_le _) hc (.inl rfl)
theorem pen_fail (w : World) {g base most : Nat} {J : List UInt8} {a : Option Addr} {c : Nat} (h : PenAt w g base most J a c) (k : Int) :
    Calls Tryz.prog 70 #[.pointer (some ⟨g, 0, none⟩), .int .i64 k] w fun r w' => r = .returned (.tuple #[]) ∧ Blk w' g 109 #[.int .i64 most, .slice a J.length c, .int .i64 k] ∧ Tch (· = g) w w' := by
  have HC := hid (pen_code w h)
  have HB := hid h.blk
  have c2 : w.cell? ⟨g, 2, none⟩ = some (.int .i64 0) := h.blk.cell 2
  have f2 := h.blk.free 2
  have hgl := h.blk.lt
  clear h
  go_enter Tryz.func70, Tryz.ntmps70
  go_wp2_with fail
  refine HC.out.mono ?_
  rintro r w1 ⟨rfl, rfl⟩
  go_wp2
  first | go_end0 | refine bodyPost_ret (results_none rfl _ _ _) rfl ?_
  exact ⟨rfl, HB.out.set 2 _, Tch.setCell (F := (· = g)) (p := ⟨g, 2, none⟩) (Tch.refl _ _) (fun _ => rfl) _⟩
theorem pen_bytes_bad (w : World) {g : Nat} {v0 v1 : Value} {k : Int} (hk : k ≠ 0) (h : Blk w g 109 #[v0, v1, .int .i64 k]) :
    Calls Tryz.prog 20 #[.pointer (some ⟨g, 0, none⟩)] w fun r w' => r = .returned (.tuple #[.slice none 0 0, .int .i64 k]) ∧ w = w' := by
  have HC : Hid (Calls Tryz.prog 77 #[.pointer (some ⟨g, 0, none⟩)] w fun r w' => r = .returned (.int .i64 k) ∧ w = w') := hid (by
    have c2 : w.cell? ⟨g, 2, none⟩ = some (.int .i64 k) := h.cell 2
    clear h
    go_enter Tryz.func77, Tryz.ntmps77
    go_wp2
    go_ret
    exact ⟨rfl, rfl⟩)
  have d1 : (k == (0 : Int)) = false := by simp [hk]
  have d2 : (k != (0 : Int)) = true := by simp [hk]
  clear h hk
  go_enter Tryz.func20, Tryz.ntmps20
  go_wp2_with fail
  refine HC.out.mono ?_
  rintro r w1 ⟨rfl, rfl⟩
  go_wp2
  go_ret2
  exact ⟨rfl, rfl⟩

theorem own_make {base : Nat} {e : TypeId} {size : Nat} {W : World} {g cap : Nat} {cs : Array Value} (h : Blk W g e cs) (hb : base ≤ g) (hc : cap ≤ maxLen) (hs : cs.size = cap * size) : W.ownsRow base e size (.slice (some ⟨g, 0, none⟩) 0 cap) 0 [] :=
  ⟨by simp, .inr ⟨g, cap, cs, rfl, hb, h, Nat.zero_le _, hc, by simpa using hs, by simp⟩⟩
set_option maxRecDepth 100000 in
set_option maxHeartbeats 1600000 in
theorem entry_join (l : List Entry) (a : Option Addr) (n c : Nat) (w : World) (hl : rEntries.r (· < w.heap.size) w [.slice a n c] l) (ht : total l ≤ 1000000000000) :
    Calls Tryz.prog 76 #[.slice a n c] w fun r w' => ∃ v, r = .returned v ∧ rBytes.r (fun q => w.heap.size ≤ q ∧ q < w'.heap.size) w' [v] (joined l) ∧ Below w.heap.size w w' := by
  obtain ⟨rfl, hm, _, _⟩ := sl_len hl
  obtain ⟨i0, hi, hz0, hz1, hz2⟩ := info_parts info8
  have HT := hid (entry_total l a _ c w hl ht)
  have HL := hid hl; clear hl
  obtain ⟨T, hT⟩ : ∃ T, T = total l := ⟨_, rfl⟩
  have hmk : ∀ W : World, (Instr.makeSlice 28 (.int .i64 0) (.int .i64 (T : Int))).run Tryz.prog W = .ok (.slice (some ⟨W.heap.size, 0, none⟩) 0 T) (W.alloc (.cells (madeCells #[Value.int .u8 0] T) 5)) := fun W => by
    have := run_make (P := Tryz.prog) (w := W) 28 5 i0 (.int .u8 0) Tryz.underlying28 hi hz0 .i64 .i64 0 (T : Int) (by omega) (by omega) (by rw [hz2]; omega) (by omega)
    rw [hz1] at this
    simp only [Int.toNat_natCast, Int.toNat_zero, Nat.mul_one] at this
    exact this
  have HJ := hid (joined_length l)
  rw [← hT] at HT
  have hTt := hid hT
  have hTb : T ≤ 1000000000000 := by omega
  clear hT
  go_enter Tryz.func76, Tryz.ntmps76
  go_wp2_with fail
  refine HT.out.mono ?_
  rintro r w1 ⟨rfl, hb1⟩
  go_wp2_with fail
  have hbW : Below w1.heap.size w1 (w1.alloc (.cells (madeCells #[Value.int .u8 0] T) 5)) := by (repeat (first | with_reducible exact Below.refl _ _ | with_reducible assumption | (with_reducible refine below_alloc ?_ _) | (with_reducible refine Below.setCell ?_ (by first | omega | (simp; done) | (simp; omega)) _) | (with_reducible refine Below.drew ?_) | (with_reducible refine below_drewN ?_ _) | (refine below_then (by with_reducible assumption) ?_)))
  have hown0 : (w1.alloc (.cells (madeCells #[Value.int .u8 0] T) 5)).ownsRow w.heap.size 5 1 (.slice (some ⟨w1.heap.size, 0, none⟩) 0 T) 0 [] := own_make (Blk.newAt _ _ _ rfl) hb1.size (by simp only [maxLen]; omega) (by rw [size_madeCells]; omega)
  have HOWN0 := hid hown0
  have HBW := hid hbW
  clear hown0 hbW
  generalize w1.alloc (.cells (madeCells #[Value.int .u8 0] T) 5) = W at *
  go_loopw [3, 11] (fun v i wr => ∃ k : Nat, k ≤ l.length ∧ i = .int .i64 k ∧ wr.ownsRow w.heap.size 5 1 v (total (l.take k)) (byteCells (joined (l.take k))) ∧ Below w.heap.size w wr) (fun _ i _ => l.length - (intOf i).toNat)
  case atStart => exact ⟨0, Nat.zero_le _, rfl, by simpa [total, joined, byteCells] using HOWN0.out, below_then HBW.out hb1⟩
  case round =>
    obtain ⟨k, hk, rfl, hown, hb⟩ := hrel
    obtain ⟨av, cv, rfl⟩ := own_form hown
    by_cases hlt : k < l.length
    · obtain ⟨b, o, hA, hbb, a1, c1, a2, c2, hc0, hc1, _, hd⟩ := entry_at (lift HL.out hb) hlt
      subst hA
      have hbl : b < wr.heap.size := World.block_lt_of_cell? _ _ hc0
      have hs := hid (total_step l k hlt)
      have hj := hid (joined_step l k hlt)
      have h1 := total_take_le l (k + 1)
      rw [hs.out, ← hTt.out] at h1
      have hbW2 : Below wr.heap.size wr (wr.alloc (.cells #[.slice a1 l[k].links.length c1, .slice a2 l[k].data.length c2] 75)) := by (repeat (first | with_reducible exact Below.refl _ _ | with_reducible assumption | (with_reducible refine below_alloc ?_ _) | (with_reducible refine Below.setCell ?_ (by first | omega | (simp; done) | (simp; omega)) _) | (with_reducible refine Below.drew ?_) | (with_reducible refine below_drewN ?_ _) | (refine below_then (by with_reducible assumption) ?_)))
      have hsrc := src_bytes (lift hd hbW2)
      have hone := byteCells_one l[k].data
      have HO := hid (own_below hown hbW2)
      have hbz : Below w.heap.size wr (wr.alloc (.cells #[.slice a1 l[k].links.length c1, .slice a2 l[k].data.length c2] 75)) := hbW2.mono hb.size
      generalize l[k].data = D at *
      generalize l[k].links = LK at *
      generalize joined (l.take k) = J at *
      generalize total (l.take k) = t at *
      have HSRC := hid hsrc; clear hsrc hd
      have HONE := hid hone; clear hone hown hbW2
      have hbs := hb.size
      have i1 : (k : Int) < (l.length : Int) := by omega
      have d1 : decide ((k : Int) < (l.length : Int)) = true := decide_eq_true i1
      have HBZ := hid hbz
      clear hbz
      go_wp2_with (at_builtin; go_loud (refine wpList_append_src rfl _ _ _ rfl w.heap.size 5 i0 (.int .u8 0) 1 1 Tryz.underlying28 hi hz0 hz1 hz2 rfl (by decide) (.slice av t cv) t _ rfl HO.out a2 D.length c2 (byteCells D) rfl HSRC.out HONE.out (by simp only [maxLen]; omega) (by omega) (by simp; omega) ?_; intro v' w3 hown3 hgrow3 hat3; obtain ⟨a3, c3, rfl⟩ := own_form hown3; have HO3 := hid hown3; have hb3 : Below w.heap.size wr w3 := (Below.grown HBZ.out hgrow3 (by simp; omega) (fun g e => (HO.out.lt g e).1)); clear hown3 hgrow3 hat3))
      have ho3 := HO3.out
      have HO4 : Hid (w3.ownsRow w.heap.size 5 1 (.slice a3 (t + D.length) c3) (total (l.take (k + 1))) (byteCells (joined (l.take (k + 1))))) := hid (by rw [hs.out, hj.out, byteCells, List.map_append]; exact ho3)
      clear ho3 hc0 hc1
      go_roundw
      case rel => exact ⟨k + 1, by omega, by go_num, HO4.out, hb.trans hb3⟩
      case measure => simp [intOf]; omega
    · obtain rfl : k = l.length := by omega
      have d1 : decide ((l.length : Int) < (l.length : Int)) = false := decide_eq_false (by omega)
      rw [List.take_length] at hown ⊢
      have HV := hid (own_bytes2 (joined_length l).symm hown)
      clear hown
      go_wp2
      go_ret
      exact ⟨_, rfl, HV.out, hb⟩

theorem entriesR_at : ∀ (l : List Entry) (p : Int) (k : Nat) (h : k < l.length), entriesR p l = true → entryR (p + k) l[k] = true
  | [], p, k, h, _ => by simp at h
  | e :: l, p, 0, h, hR => by simp only [entriesR, Bool.and_eq_true] at hR; simpa using hR.1
  | e :: l, p, k + 1, h, hR => by
    simp only [entriesR, Bool.and_eq_true] at hR
    have := entriesR_at l (p + 1) k (by simpa using h) hR.2
    rw [List.getElem_cons_succ, show p + ((k + 1 : Nat) : Int) = p + 1 + (k : Int) by omega]
    exact this
theorem headsB_step : ∀ (l : List Entry) (p : Int) (k : Nat) (h : k < l.length), headsB p (l.take (k + 1)) = headsB p (l.take k) ++ headB (p + k) l[k]
  | [], p, k, h => by simp at h
  | e :: l, p, 0, h => by simp [headsB]
  | e :: l, p, k + 1, h => by
    have := headsB_step l (p + 1) k (by simpa using h)
    simp only [List.take_succ_cons, headsB, List.getElem_cons_succ]
    rw [this, show p + ((k + 1 : Nat) : Int) = p + 1 + (k : Int) by omega, List.append_assoc]
theorem headsB_le (l : List Entry) (p : Int) : ∀ k, (headsB p (l.take k)).length ≤ (headsB p l).length := by
  intro k
  induction l generalizing p k with
  | nil => simp
  | cons e l ih =>
    cases k with
    | zero => simp [headsB]
    | succ k => simp only [List.take_succ_cons, headsB, List.length_append]; have := ih (p + 1) k; omega
/-- Entries that are not too many, nor their links' backs. -/
structure TameE (l : List Entry) : Prop where
  len : l.length ≤ 1000
  tot : total l ≤ 10000000
  backs : ∀ e ∈ l, ∀ x ∈ e.links, x.backs.length ≤ 1000000
theorem TameE.fair {l : List Entry} (h : TameE l) : Fair l := ⟨by have := h.tot; omega, by have := h.len; omega, fun e he x hx => by have := h.backs e he x hx; omega⟩

set_option maxRecDepth 100000 in
set_option maxHeartbeats 6400000 in
theorem batch_room (w : World) (b : Batch) (a : Option Addr) (n c : Nat) (h0 : 0 ≤ b.epoch ∧ b.epoch ≤ 18446744073709551615) (h1 : 0 ≤ b.base ∧ b.base ≤ 18446744073709551615) (hl : rEntries.r (· < w.heap.size) w [.slice a n c] b.entries) (ht : TameE b.entries) :
    Calls Tryz.prog 69 #[.agg #[.int .u64 b.epoch, .int .u64 b.base, .slice a n c]] w fun r w' => ∃ M : Nat, r = .returned (.int .i64 (M : Int)) ∧ M ≤ 100000000 ∧ (batchR b = true → 40 + (varB (total b.entries)).length + total b.entries + (headsB b.base b.entries).length ≤ M) ∧ Below w.heap.size w w' := by
  obtain ⟨rfl, hm, _, _⟩ := sl_len hl
  have hle := ht.len
  have hto := ht.tot
  have HTO := hid (fun (W : World) (hW : Below w.heap.size w W) => entry_total b.entries a _ c W (lift hl hW) (by omega))
  have HBS := hid (fun (W : World) => blob_size (total b.entries) (by omega) W)
  have hvb := (varB_len (total b.entries)).1
  have HBK := hid ht.backs
  have HRE := hid (fun (h : batchR b = true) (k : Nat) (hk : k < b.entries.length) => (by simp only [batchR, Bool.and_eq_true] at h; exact ⟨entriesR_at b.entries b.base k hk h.2.2.2, by have := h.2.1; simp only [fitsR, decide_eq_true_eq] at this; omega⟩ : entryR (b.base + k) b.entries[k] = true ∧ b.base + b.entries.length ≤ 4611686018427387904))
  have HHS := hid (fun (k : Nat) (hk : k < b.entries.length) => headsB_step b.entries b.base k hk)
  have HL := hid hl
  obtain ⟨ep, bs, l⟩ := b
  dsimp only at *
  generalize hRR : batchR ⟨ep, bs, l⟩ = R at *
  generalize varB (total l) = VT at *
  generalize total l = T at *
  clear hl ht hRR
  go_enter Tryz.func69, Tryz.ntmps69
  go_wp2_with fail
  refine (HTO.out _ (by (repeat (first | with_reducible exact Below.refl _ _ | with_reducible assumption | (with_reducible refine below_alloc ?_ _) | (with_reducible refine Below.setCell ?_ (by first | omega | (simp; done) | (simp; omega)) _) | (with_reducible refine Below.drew ?_) | (with_reducible refine below_drewN ?_ _) | (refine below_then (by with_reducible assumption) ?_))))).mono ?_
  rintro r w1 ⟨rfl, hb1⟩
  have B1 := Blk.later (Blk.newAt w 25 #[.int .u64 ep, .int .u64 bs, .slice a l.length c] rfl) hb1
  have hbw1 : Below w.heap.size w w1 := by (repeat (first | with_reducible exact Below.refl _ _ | with_reducible assumption | (with_reducible refine below_alloc ?_ _) | (with_reducible refine Below.setCell ?_ (by first | omega | (simp; done) | (simp; omega)) _) | (with_reducible refine Below.drew ?_) | (with_reducible refine below_drewN ?_ _) | (refine below_then (by with_reducible assumption) ?_)))
  clear hb1
  go_wp2_with fail
  refine (HBS.out _).mono ?_
  rintro r w2 ⟨rfl, hb2⟩
  have B2 := B1.later hb2
  have hbw2 := below_then hb2 hbw1
  obtain ⟨x0, x1, x2, _, _, _, l2⟩ := b_blk B2
  have HB2 := hid B2
  clear B1 hb2 B2
  go_wp2_with fail
  clear x0 x1 x2
  go_loopw [3, 14] (fun m i wr => ∃ k M : Nat, k ≤ l.length ∧ i = .int .i64 k ∧ m = .int .i64 M ∧ M ≤ 20000000 + 1000 * k ∧ Hid (R = true → 40 + VT.length + T + (headsB bs (l.take k)).length ≤ M) ∧ Below w2.heap.size w2 wr) (fun _ i _ => l.length - (intOf i).toNat)
  case atStart => exact ⟨0, 40 + (VT.length + T), Nat.zero_le _, rfl, by go_num, by omega, hid (fun _ => by simp [headsB]; omega), Below.refl _ _⟩
  case round =>
    obtain ⟨k, M, hk, rfl, rfl, hM, hMM, hb⟩ := hrel
    have hbw := below_then hb hbw2
    have B3 := HB2.out.later hb
    obtain ⟨x0, x1, x2, _, _, _, l3⟩ := b_blk B3
    by_cases hlt : k < l.length
    · obtain ⟨b, o, hA, hbb, a1, c1, a2, c2, y0, y1, hlk, hd⟩ := entry_at (lift HL.out hbw) hlt
      subst hA
      have hbl : b < wr.heap.size := World.block_lt_of_cell? _ _ y0
      have i1 : (k : Int) < (l.length : Int) := by omega
      have d1 : decide ((k : Int) < (l.length : Int)) = true := decide_eq_true i1
      have hbk := HBK.out l[k] (List.getElem_mem hlt)
      have HHZ := hid (fun (W : World) (hW : Below wr.heap.size wr W) (pos : Int) (hp : 0 ≤ pos ∧ pos ≤ 18446744073709551615) => entry_headsize W pos hp l[k] a1 a2 _ c1 _ c2 (lift hlk hW) (lift hd hW) hbk)
      have hHN := hid (fun pos => headN_le pos l[k])
      have hst := HHS.out k hlt
      have HX := hid (fun (h : R = true) => (by
        obtain ⟨h1, h2⟩ := HRE.out h k hlt
        refine ⟨?_, by omega⟩
        unfold headN
        rw [if_pos h1] : headN (bs + k) l[k] = (headB (bs + k) l[k]).length ∧ bs + k ≤ 18446744073709551615))
      have HSTP : Hid (∀ m, m = (headB (bs + k) l[k]).length → (headsB bs (l.take (k + 1))).length = (headsB bs (l.take k)).length + m) := hid (fun m e => by rw [hst, List.length_append, e])
      generalize l[k] = y at *
      clear hst hlk hd hbk
      by_cases hwr : bs + (k : Int) ≤ 18446744073709551615
      · have HZ2 := hid (fun (W : World) (hW : Below wr.heap.size wr W) => HHZ.out W hW (bs + k) (by omega))
        have hn := hHN.out (bs + k)
        generalize hN : headN (bs + (k : Int)) y = N at *
        have HN := hid hN
        clear hN
        go_wp2_with fail
        refine (HZ2.out _ (by (repeat (first | with_reducible exact Below.refl _ _ | with_reducible assumption | (with_reducible refine below_alloc ?_ _) | (with_reducible refine Below.setCell ?_ (by first | omega | (simp; done) | (simp; omega)) _) | (with_reducible refine Below.drew ?_) | (with_reducible refine below_drewN ?_ _) | (refine below_then (by with_reducible assumption) ?_))))).mono ?_
        rintro r w5 ⟨rfl, hb5⟩
        have hbw5 : Below w2.heap.size w2 w5 := by (repeat (first | with_reducible exact Below.refl _ _ | with_reducible assumption | (with_reducible refine below_alloc ?_ _) | (with_reducible refine Below.setCell ?_ (by first | omega | (simp; done) | (simp; omega)) _) | (with_reducible refine Below.drew ?_) | (with_reducible refine below_drewN ?_ _) | (refine below_then (by with_reducible assumption) ?_)))
        go_wp2
        go_roundw
        case rel =>
          refine ⟨k + 1, M + N, by omega, by go_num, by go_num, by omega, hid (fun h => ?_), hbw5⟩
          have e1 := hMM.out h
          have e2 := HSTP.out N (HX.out h).1
          omega
        case measure => simp [intOf]; omega
      · obtain ⟨p', hp', hpb⟩ : ∃ p' : Int, IntKind.u64.wrap (bs + (k : Int)) = p' ∧ 0 ≤ p' ∧ p' ≤ 18446744073709551615 := ⟨_, rfl, by simp only [IntKind.wrap_u64]; omega⟩
        have HZ2 := hid (fun (W : World) (hW : Below wr.heap.size wr W) => HHZ.out W hW p' hpb)
        have hn := hHN.out p'
        generalize headN p' y = N at *
        have HPP := hid hp'
        have HWR := hid hwr
        clear hp' hwr
        go_wp2_with fail
        rw [HPP.out]
        refine (HZ2.out _ (by (repeat (first | with_reducible exact Below.refl _ _ | with_reducible assumption | (with_reducible refine below_alloc ?_ _) | (with_reducible refine Below.setCell ?_ (by first | omega | (simp; done) | (simp; omega)) _) | (with_reducible refine Below.drew ?_) | (with_reducible refine below_drewN ?_ _) | (refine below_then (by with_reducible assumption) ?_))))).mono ?_
        rintro r w5 ⟨rfl, hb5⟩
        have hbw5 : Below w2.heap.size w2 w5 := by (repeat (first | with_reducible exact Below.refl _ _ | with_reducible assumption | (with_reducible refine below_alloc ?_ _) | (with_reducible refine Below.setCell ?_ (by first | omega | (simp; done) | (simp; omega)) _) | (with_reducible refine Below.drew ?_) | (with_reducible refine below_drewN ?_ _) | (refine below_then (by with_reducible assumption) ?_)))
        go_wp2
        go_roundw
        case rel => exact ⟨k + 1, M + N, by omega, by go_num, by go_num, by omega, hid (fun h => absurd (HX.out h).2 (by have := HWR.out; omega)), hbw5⟩
        case measure => simp [intOf]; omega
    · obtain rfl : k = l.length := by omega
      have d1 : decide ((l.length : Int) < (l.length : Int)) = false := decide_eq_false (by omega)
      have hfin : Hid (R = true → 40 + VT.length + T + (headsB bs l).length ≤ M) := hid (fun h => by have := hMM.out h; rwa [List.take_length] at this)
      clear x0 x1 x2
      go_wp2
      go_ret
      exact ⟨M, rfl, by omega, hfin.out, hbw⟩
end Go.Proofs.YtkipiefcnjfdjaaGreat
namespace Go.Proofs.YtkipiefcnjfdjaaGreat
open Go.RowKit Go.Bs Go.Maps
set_option linter.unusedVariables false
set_option linter.unusedSimpArgs false

/-- A reader of block g, and memory of one's own behind w. -/
structure RdInv (w W : World) (g : Nat) (B : List UInt8) (a : Option Addr) (s : Rs) : Prop where
  rd : RdAt W g B a s
  dat : rBytes.r (fun q => q < w.heap.size ∧ q ≠ g) W [.slice a B.length B.length] B
  tch : Tch (· = g) w W
  lt : g < w.heap.size
section
variable {w W W' : World} {g : Nat} {B : List UInt8} {a : Option Addr} {s s' : Rs}
theorem RdInv.refl (h : RdAt w g B a s) : RdInv w w g B a s := ⟨h, h.dat, Tch.refl _ _, h.blk.lt⟩
theorem RdInv.step (h : RdInv w W g B a s) (k : RdStep W g B a s' W') : RdInv w W' g B a s' :=
  ⟨k.1, rBytes.keep h.dat fun q hq => k.2.block q (Nat.lt_of_lt_of_le hq.1 h.tch.size) hq.2, h.tch.trans k.2 fun _ _ h => h, h.lt⟩
theorem RdInv.row (h : RdInv w W g B a s) (hb : Below w.heap.size W W') : RdInv w W' g B a s := by
  have hd := rBytes.keep h.dat (w' := W') fun q hq => hb.block q hq.1
  have hs := h.tch.size
  have hs2 := hb.size
  exact ⟨⟨h.rd.blk.below hb h.lt, rBytes.mono hd fun q hq => ⟨by omega, hq.2⟩, h.rd.ok⟩, hd, h.tch.trans (Tch.of_below hb) (fun b hb hle => by omega), h.lt⟩
theorem RdInv.to (h : RdInv w W g B a s) : RdStep w g B a s W := ⟨h.rd, h.tch⟩
theorem own_tch2 {base : Nat} {e : TypeId} {size : Nat} {v : Value} {n : Nat} {xs : List Value} (h : W.ownsRow base e size v n xs) (hg : g < base) (hb : Tch (· = g) W W') : W'.ownsRow base e size v n xs := by
  refine ⟨h.1, ?_⟩
  rcases h.2 with h0 | ⟨g', cap, cur, h1, h2, h3, h4⟩
  · exact .inl h0
  · exact .inr ⟨g', cap, cur, h1, h2, (hb.block _ (Blk.lt h3) (by omega)).trans h3, h4⟩
end

set_option maxRecDepth 100000 in
set_option maxHeartbeats 6400000 in
theorem delta_read (w : World) {g : Nat} {B : List UInt8} {a : Option Addr} {s : Rs} (h : RdAt w g B a s) (hB : B.length ≤ 1000000000) (below : Int) (hbl : 0 ≤ below ∧ below ≤ 18446744073709551615) (most : Int) (hmo : 0 ≤ most ∧ most ≤ 1000) :
    Calls Tryz.prog 280 #[.pointer (some ⟨g, 0, none⟩), .int .u64 below, .int .i64 most] w fun r w' => ∃ v, r = .returned v ∧ rU64s.r (fun q => w.heap.size ≤ q ∧ q < w'.heap.size) w' [v] (s.delta B below most).2 ∧ RdStep w g B a (s.delta B below most).1 w' := by
  obtain ⟨i0, hi, hz0, hz1, hz2⟩ := info_parts infoU
  have HI := hid (varint_int w h (by omega) most (by omega))
  have hNm := Rs.int_le (B := B) (s := s) (m := most)
  have hlt := h.blk.lt
  have HIN := hid (RdInv.refl h)
  unfold Rs.delta
  generalize s.int B most = I at *
  obtain ⟨s1, N⟩ := I
  dsimp only at *
  have hN : N ≤ 1000 := by omega
  clear h
  go_enter Tryz.func280, Tryz.ntmps280
  go_wp2_with fail
  refine HI.out.mono ?_
  rintro r w1 ⟨rfl, hst⟩
  have HIN1 := hid (HIN.out.step hst)
  clear hst
  go_wp2_with fail
  go_loopw [1, 7, 13] (fun b v i wr => ∃ (k : Nat) (bel : Int) (J : List Int) (st : Rs), k ≤ N ∧ i = .int .i64 k ∧ b = .int .u64 bel ∧ 0 ≤ bel ∧ bel ≤ 18446744073709551615 ∧ Hid (J.length = k) ∧ wr.ownsRow w.heap.size 22 1 v J.length (u64Cells J) ∧ Hid (∀ x ∈ J, 0 ≤ x ∧ x ≤ 18446744073709551615) ∧ Hid (RdInv w wr g B a st) ∧ Hid (Rs.falls B N s1 below [] = Rs.falls B (N - k) st bel J)) (fun _ _ i _ => N - (intOf i).toNat)
  case atStart => exact ⟨0, below, [], s1, Nat.zero_le _, rfl, rfl, hbl.1, hbl.2, hid rfl, ⟨rfl, .inl ⟨rfl, rfl⟩⟩, hid (by simp), HIN1, hid rfl⟩
  case round =>
    obtain ⟨k, bel, J, st, hk, rfl, rfl, hb0, hb1, hJl, hown, hJb, hin, hsp⟩ := hrel
    obtain ⟨av, cv, rfl⟩ := own_form hown
    have hJ9 : J.length ≤ 1000 := by have := hJl.out; omega
    rcases Nat.lt_or_ge k N with hlt2 | hge
    · have HAT := hid (rd_at wr hin.out.rd)
      have HVR := hid (varint_read wr hin.out.rd (by omega))
      have hx := Rs.num_small (B := B) (s := st)
      have hxb := Rs.num_bad (B := B) (s := st)
      have hstep : Rs.falls B (N - k) st bel J = (if (st.num B).1.k = 0 then (if bel ≤ ((st.num B).2 : Int) then ((st.num B).1.fail 13 st.p, []) else Rs.falls B (N - (k + 1)) (st.num B).1 (bel - (st.num B).2 - 1) (J ++ [bel - (st.num B).2 - 1])) else ((st.num B).1, [])) := by
        rw [show N - k = (N - (k + 1)) + 1 by omega]; rfl
      have HO := hid hown
      have i1 : (k : Int) < (N : Int) := by omega
      have d1 : decide ((k : Int) < (N : Int)) = true := decide_eq_true i1
      have d1' : decide (k < N) = true := decide_eq_true hlt2
      generalize st.num B = R at *
      obtain ⟨st1, x⟩ := R
      dsimp only at *
      have HBAD := hid hxb
      clear hown hxb
      by_cases hk1 : st1.k = 0
      · rw [if_pos hk1] at hstep
        by_cases hbx : bel ≤ (x : Int)
        · rw [if_pos hbx] at hstep
          have d2 : decide (bel ≤ (x : Int)) = true := decide_eq_true hbx
          have hfk : (st1.fail 13 st.p).k ≠ 0 := Rs.fail_k (by omega)
          have HSP := hid (hsp.out.trans hstep)
          clear hstep hsp hk1
          go_wp2_with fail
          refine HAT.out.mono ?_
          rintro r w2 ⟨rfl, rfl⟩
          go_wp2_with fail
          refine HVR.out.mono ?_
          rintro r w3 ⟨rfl, hst3⟩
          have HIN3 := hid (hin.out.step hst3)
          clear hst3
          go_wp2_with fail
          refine (rd_fail w3 HIN3.out.rd 13 (st.p : Int) (by omega)).mono ?_
          rintro r w4 ⟨rfl, hst4⟩
          have HIN4 := hid (HIN3.out.step hst4)
          have hg := rd_good w4 HIN4.out.rd
          rw [decide_eq_false hfk] at hg
          have HG := hid hg
          clear hst4 hg hfk
          go_wp2_with fail
          refine HG.out.mono ?_
          rintro r w5 ⟨rfl, hb5⟩
          have HE := hid (HIN4.out.to.then hb5)
          go_wp2
          go_ret
          rw [HSP.out]
          exact ⟨_, rfl, rSl_mk (xs := []) rfl (Nat.le_refl _) (Nat.zero_le _) (.inl rfl), HE.out⟩
        · rw [if_neg hbx] at hstep
          have d2 : decide (bel ≤ (x : Int)) = false := decide_eq_false hbx
          have HSP := hid (hsp.out.trans hstep)
          have w1' : 0 ≤ bel - ((x : Int) + 1) := by omega
          have w2' : (x : Int) + 1 ≤ 18446744073709551615 := by omega
          have hk1' : decide (st1.k = 0) = true := decide_eq_true hk1
          clear hstep hsp hk1
          go_wp2_with fail
          refine HAT.out.mono ?_
          rintro r w2 ⟨rfl, rfl⟩
          go_wp2_with fail
          refine HVR.out.mono ?_
          rintro r w3 ⟨rfl, hst3⟩
          have HIN3 := hid (hin.out.step hst3)
          have HO3 := hid (own_tch2 HO.out hlt hst3.2)
          have hg := rd_good w3 HIN3.out.rd
          rw [hk1'] at hg
          have HG := hid hg
          clear hst3 hg hk1'
          go_wp2_with fail
          refine HG.out.mono ?_
          rintro r w4 ⟨rfl, hb4⟩
          have HIN4 := hid (HIN3.out.step (RdStep.later HIN3.out.rd hb4))
          have HO4 := hid (own_below HO3.out hb4)
          have hsz4 := HIN4.out.tch.size
          clear hb4
          go_wp2_with (at_builtin; go_loud (refine wpList_append_src rfl _ _ _ rfl w.heap.size 22 i0 (.int .u64 0) 1 8 Tryz.underlying207 hi hz0 hz1 hz2 rfl (by decide) (.slice av J.length cv) J.length _ rfl (own_below HO4.out (by (repeat (first | with_reducible exact Below.refl _ _ | with_reducible assumption | (with_reducible refine below_alloc ?_ _) | (with_reducible refine Below.setCell ?_ (by first | omega | (simp; done) | (simp; omega)) _) | (with_reducible refine Below.drew ?_) | (with_reducible refine below_drewN ?_ _) | (refine below_then (by with_reducible assumption) ?_))))) (some ⟨w4.heap.size, 0, none⟩) 1 1 [.int .u64 (bel - ((x : Int) + 1))] rfl (src_new1 _ 22 _ rfl (by simp) rfl) (by simp [Value.oneCell']) (by simp only [maxLen]; omega) (by omega) (by simp; omega) ?_; intro v' w5 hown5 hgrow5 hat5; obtain ⟨a5, c5, rfl⟩ := own_form hown5; have HO5 := hid hown5; have hb5 : Below w.heap.size w4 w5 := (Below.grown ((by (repeat (first | with_reducible exact Below.refl _ _ | with_reducible assumption | (with_reducible refine below_alloc ?_ _) | (with_reducible refine Below.setCell ?_ (by first | omega | (simp; done) | (simp; omega)) _) | (with_reducible refine Below.drew ?_) | (with_reducible refine below_drewN ?_ _) | (refine below_then (by with_reducible assumption) ?_))) : Below w4.heap.size w4 _).mono hsz4) hgrow5 (by simp; omega) (fun g e => (HO4.out.lt g e).1)); clear hown5 hgrow5 hat5))
          have HIN5 := hid (HIN4.out.row hb5)
          have ho5 : w5.ownsRow w.heap.size 22 1 (.slice a5 (J.length + 1) c5) (J ++ [bel - ((x : Int) + 1)]).length (u64Cells (J ++ [bel - ((x : Int) + 1)])) := by
            have e : u64Cells (J ++ [bel - ((x : Int) + 1)]) = u64Cells J ++ [.int .u64 (bel - ((x : Int) + 1))] := by simp [u64Cells]
            rw [e, List.length_append]
            exact HO5.out
          have HO6 := hid ho5
          have HB6 : Hid (∀ y ∈ J ++ [bel - ((x : Int) + 1)], 0 ≤ y ∧ y ≤ 18446744073709551615) := hid (fun y hy => by
            rw [List.mem_append, List.mem_singleton] at hy
            rcases hy with hy | rfl
            · exact hJb.out y hy
            · omega)
          have HSP6 : Hid (Rs.falls B N s1 below [] = Rs.falls B (N - (k + 1)) st1 (bel - ((x : Int) + 1)) (J ++ [bel - ((x : Int) + 1)])) := hid (by rw [HSP.out, show bel - (x : Int) - 1 = bel - ((x : Int) + 1) by omega])
          clear ho5
          go_roundw
          case rel => exact ⟨k + 1, bel - ((x : Int) + 1), J ++ [bel - ((x : Int) + 1)], st1, by omega, by go_num, rfl, by omega, by omega, hid (by simp; exact hJl.out), HO6.out, HB6, HIN5, HSP6⟩
          case measure => simp [intOf]; omega
      · rw [if_neg hk1] at hstep
        have HSP := hid (hsp.out.trans hstep)
        have hx0 := HBAD.out hk1
        subst hx0
        have hk1' : decide (st1.k = 0) = false := decide_eq_false hk1
        have hfid : st1.fail 13 st.p = st1 := Rs.fail_of_bad hk1
        clear hstep hsp hk1
        by_cases hbx : bel ≤ 0
        · have d2 : decide (bel ≤ ((0 : Nat) : Int)) = true := decide_eq_true (by omega)
          have d2' : decide (bel ≤ 0) = true := decide_eq_true hbx
          go_wp2_with fail
          refine HAT.out.mono ?_
          rintro r w2 ⟨rfl, rfl⟩
          go_wp2_with fail
          refine HVR.out.mono ?_
          rintro r w3 ⟨rfl, hst3⟩
          have HIN3 := hid (hin.out.step hst3)
          clear hst3
          go_wp2_with fail
          refine (rd_fail w3 HIN3.out.rd 13 (st.p : Int) (by omega)).mono ?_
          rintro r w4 ⟨rfl, hst4⟩
          rw [hfid] at hst4
          have HIN4 := hid (HIN3.out.step hst4)
          have hg := rd_good w4 HIN4.out.rd
          rw [hk1'] at hg
          have HG := hid hg
          clear hst4 hg hk1' hfid
          go_wp2_with fail
          refine HG.out.mono ?_
          rintro r w5 ⟨rfl, hb5⟩
          have HE := hid (HIN4.out.to.then hb5)
          go_wp2
          go_ret
          rw [HSP.out]
          exact ⟨_, rfl, rSl_mk (xs := []) rfl (Nat.le_refl _) (Nat.zero_le _) (.inl rfl), HE.out⟩
        · have d2 : decide (bel ≤ ((0 : Nat) : Int)) = false := decide_eq_false (by omega)
          have d2' : decide (bel ≤ 0) = false := decide_eq_false hbx
          go_wp2_with fail
          refine HAT.out.mono ?_
          rintro r w2 ⟨rfl, rfl⟩
          go_wp2_with fail
          refine HVR.out.mono ?_
          rintro r w3 ⟨rfl, hst3⟩
          have HIN3 := hid (hin.out.step hst3)
          have hg := rd_good w3 HIN3.out.rd
          rw [hk1'] at hg
          have HG := hid hg
          clear hst3 hg hk1' hfid
          go_wp2_with fail
          refine HG.out.mono ?_
          rintro r w5 ⟨rfl, hb5⟩
          have HE := hid (HIN3.out.to.then hb5)
          go_wp2
          go_ret
          rw [HSP.out]
          exact ⟨_, rfl, rSl_mk (xs := []) rfl (Nat.le_refl _) (Nat.zero_le _) (.inl rfl), HE.out⟩
    · obtain rfl : k = N := by omega
      have d1 : decide ((k : Int) < (k : Int)) = false := decide_eq_false (by omega)
      have HSP : Hid (Rs.falls B k s1 below [] = (st, J)) := hid (by rw [hsp.out, Nat.sub_self]; rfl)
      have HV := hid (own_ints64 hJb.out rfl hown)
      have HE := hid hin.out.to
      clear hown hsp
      go_wp2
      go_ret
      rw [HSP.out]
      exact ⟨_, rfl, HV.out, HE.out⟩
end Go.Proofs.YtkipiefcnjfdjaaGreat
namespace Go.Proofs.YtkipiefcnjfdjaaGreat
open Go.RowKit Go.Bs Go.Maps
set_option linter.unusedVariables false
set_option linter.unusedSimpArgs false

set_option maxRecDepth 100000 in
set_option maxHeartbeats 3200000 in
theorem epoch_read_ep (w : World) {g : Nat} {B : List UInt8} {a : Option Addr} {s : Rs} (h : RdAt w g B a s) (hB : B.length ≤ 1000000000) :
    Calls Tryz.prog 208 #[.pointer (some ⟨g, 0, none⟩), .func (Fn.func 78) #[] #[]] w fun r w' => r = .returned (.int .u64 ((s.ep B).2 : Int)) ∧ RdStep w g B a (s.ep B).1 w' := by
  have HAT := hid (rd_at w h)
  have HVR := hid (varint_read w h (by omega))
  have hxb := Rs.num_bad (B := B) (s := s)
  have HIN := hid (RdInv.refl h)
  unfold Rs.ep
  generalize s.num B = R at *
  obtain ⟨st1, x⟩ := R
  dsimp only at *
  have HRT := hid (fun (W : World) => epoch_right (x : Int) W)
  have HBAD := hid hxb
  clear h hxb
  by_cases hk1 : st1.k = 0
  · rw [if_pos hk1]
    by_cases hr : epR (x : Int) = true
    · rw [if_pos hr]
      rw [hr] at HRT
      have HK : Hid (decide (st1.k = 0) = true) := hid (decide_eq_true hk1)
      clear hk1 hr
      go_enter Tryz.func208, Tryz.ntmps208
      go_wp2_with fail
      refine HAT.out.mono ?_
      rintro r w2 ⟨rfl, rfl⟩
      go_wp2_with fail
      refine HVR.out.mono ?_
      rintro r w3 ⟨rfl, hst3⟩
      have HIN3 := hid (HIN.out.step hst3)
      clear hst3
      go_wp2_with fail
      refine (HRT.out w3).mono ?_
      rintro r w3' ⟨rfl, rfl⟩
      go_wp2_with fail

      refine ((by have := rd_good w3 HIN3.out.rd; rw [HK.out] at this; exact this : Calls Tryz.prog 96 #[.pointer (some ⟨g, 0, none⟩)] w3 fun r w' => r = .returned (.bool true) ∧ Below w3.heap.size w3 w')).mono ?_
      rintro r w5 ⟨rfl, hb5⟩
      have HE := hid (HIN3.out.to.then hb5)
      go_wp2
      go_ret
      exact ⟨rfl, HE.out⟩
    · rw [if_neg hr]
      rw [Bool.eq_false_iff.2 hr] at HRT
      have hfk : (st1.fail 3 s.p).k ≠ 0 := Rs.fail_k (by omega)
      clear hk1 hr
      go_enter Tryz.func208, Tryz.ntmps208
      go_wp2_with fail
      refine HAT.out.mono ?_
      rintro r w2 ⟨rfl, rfl⟩
      go_wp2_with fail
      refine HVR.out.mono ?_
      rintro r w3 ⟨rfl, hst3⟩
      have HIN3 := hid (HIN.out.step hst3)
      clear hst3
      go_wp2_with fail
      refine (HRT.out w3).mono ?_
      rintro r w3' ⟨rfl, rfl⟩
      go_wp2_with fail

      refine (rd_fail w3 HIN3.out.rd 3 (s.p : Int) (by omega)).mono ?_
      rintro r w4 ⟨rfl, hst4⟩
      have HIN4 := hid (HIN3.out.step hst4)
      have hg := rd_good w4 HIN4.out.rd
      rw [decide_eq_false hfk] at hg
      have HG := hid hg
      clear hst4 hg hfk
      go_wp2_with fail

      refine HG.out.mono ?_
      rintro r w5 ⟨rfl, hb5⟩
      have HE := hid (HIN4.out.to.then hb5)
      go_wp2
      go_ret
      exact ⟨rfl, HE.out⟩
  · rw [if_neg hk1]
    have hx0 := HBAD.out hk1
    subst hx0
    have hfk : st1.k ≠ 0 := hk1
    have hfid : st1.fail 3 s.p = st1 := Rs.fail_of_bad hk1
    rw [show epR ((0 : Nat) : Int) = false from by decide] at HRT
    clear hk1
    go_enter Tryz.func208, Tryz.ntmps208
    go_wp2_with fail
    refine HAT.out.mono ?_
    rintro r w2 ⟨rfl, rfl⟩
    go_wp2_with fail
    refine HVR.out.mono ?_
    rintro r w3 ⟨rfl, hst3⟩
    have HIN3 := hid (HIN.out.step hst3)
    clear hst3
    go_wp2_with fail
    refine (HRT.out w3).mono ?_
    rintro r w3' ⟨rfl, rfl⟩
    go_wp2_with fail

    refine (rd_fail w3 HIN3.out.rd 3 (s.p : Int) (by omega)).mono ?_
    rintro r w4 ⟨rfl, hst4⟩
    rw [hfid] at hst4
    clear hfid
    have HIN4 := hid (HIN3.out.step hst4)
    have hg := rd_good w4 HIN4.out.rd
    rw [decide_eq_false hfk] at hg
    have HG := hid hg
    clear hst4 hg hfk
    go_wp2_with fail

    refine HG.out.mono ?_
    rintro r w5 ⟨rfl, hb5⟩
    have HE := hid (HIN4.out.to.then hb5)
    go_wp2
    go_ret
    exact ⟨rfl, HE.out⟩

theorem epoch_read (w : World) {g : Nat} {B : List UInt8} {a : Option Addr} {s : Rs} (h : RdAt w g B a s) (hB : B.length ≤ 1000000000) :
    Calls Tryz.prog 149 #[.pointer (some ⟨g, 0, none⟩)] w fun r w' => r = .returned (.int .u64 ((s.ep B).2 : Int)) ∧ RdStep w g B a (s.ep B).1 w' := by
  have HR := hid (epoch_read_ep w h hB)
  generalize s.ep B = R at *
  clear h
  go_enter Tryz.func149, Tryz.ntmps149
  go_wp2_with fail
  refine HR.out.mono ?_
  rintro r w1 ⟨rfl, hst⟩
  have HST := hid hst
  clear hst
  go_wp2
  go_ret
  exact ⟨rfl, HST.out⟩

set_option maxRecDepth 100000 in
set_option maxHeartbeats 3200000 in
theorem epoch_read_po (w : World) {g : Nat} {B : List UInt8} {a : Option Addr} {s : Rs} (h : RdAt w g B a s) (hB : B.length ≤ 1000000000) :
    Calls Tryz.prog 208 #[.pointer (some ⟨g, 0, none⟩), .func (Fn.func 132) #[] #[]] w fun r w' => r = .returned (.int .u64 ((s.po B).2 : Int)) ∧ RdStep w g B a (s.po B).1 w' := by
  have HAT := hid (rd_at w h)
  have HVR := hid (varint_read w h (by omega))
  have hxb := Rs.num_bad (B := B) (s := s)
  have HIN := hid (RdInv.refl h)
  unfold Rs.po
  generalize s.num B = R at *
  obtain ⟨st1, x⟩ := R
  dsimp only at *
  have HRT := hid (fun (W : World) => epoch_pos (x : Int) W)
  have HBAD := hid hxb
  clear h hxb
  by_cases hk1 : st1.k = 0
  · rw [if_pos hk1]
    by_cases hr : poR (x : Int) = true
    · rw [if_pos hr]
      rw [hr] at HRT
      have HK : Hid (decide (st1.k = 0) = true) := hid (decide_eq_true hk1)
      clear hk1 hr
      go_enter Tryz.func208, Tryz.ntmps208
      go_wp2_with fail
      refine HAT.out.mono ?_
      rintro r w2 ⟨rfl, rfl⟩
      go_wp2_with fail
      refine HVR.out.mono ?_
      rintro r w3 ⟨rfl, hst3⟩
      have HIN3 := hid (HIN.out.step hst3)
      clear hst3
      go_wp2_with fail
      refine (HRT.out w3).mono ?_
      rintro r w3' ⟨rfl, rfl⟩
      go_wp2_with fail

      refine ((by have := rd_good w3 HIN3.out.rd; rw [HK.out] at this; exact this : Calls Tryz.prog 96 #[.pointer (some ⟨g, 0, none⟩)] w3 fun r w' => r = .returned (.bool true) ∧ Below w3.heap.size w3 w')).mono ?_
      rintro r w5 ⟨rfl, hb5⟩
      have HE := hid (HIN3.out.to.then hb5)
      go_wp2
      go_ret
      exact ⟨rfl, HE.out⟩
    · rw [if_neg hr]
      rw [Bool.eq_false_iff.2 hr] at HRT
      have hfk : (st1.fail 3 s.p).k ≠ 0 := Rs.fail_k (by omega)
      clear hk1 hr
      go_enter Tryz.func208, Tryz.ntmps208
      go_wp2_with fail
      refine HAT.out.mono ?_
      rintro r w2 ⟨rfl, rfl⟩
      go_wp2_with fail
      refine HVR.out.mono ?_
      rintro r w3 ⟨rfl, hst3⟩
      have HIN3 := hid (HIN.out.step hst3)
      clear hst3
      go_wp2_with fail
      refine (HRT.out w3).mono ?_
      rintro r w3' ⟨rfl, rfl⟩
      go_wp2_with fail

      refine (rd_fail w3 HIN3.out.rd 3 (s.p : Int) (by omega)).mono ?_
      rintro r w4 ⟨rfl, hst4⟩
      have HIN4 := hid (HIN3.out.step hst4)
      have hg := rd_good w4 HIN4.out.rd
      rw [decide_eq_false hfk] at hg
      have HG := hid hg
      clear hst4 hg hfk
      go_wp2_with fail

      refine HG.out.mono ?_
      rintro r w5 ⟨rfl, hb5⟩
      have HE := hid (HIN4.out.to.then hb5)
      go_wp2
      go_ret
      exact ⟨rfl, HE.out⟩
  · rw [if_neg hk1]
    have hx0 := HBAD.out hk1
    subst hx0
    have hfk : st1.k ≠ 0 := hk1
    have hfid : st1.fail 3 s.p = st1 := Rs.fail_of_bad hk1
    rw [show poR ((0 : Nat) : Int) = true from by decide] at HRT
    clear hk1
    go_enter Tryz.func208, Tryz.ntmps208
    go_wp2_with fail
    refine HAT.out.mono ?_
    rintro r w2 ⟨rfl, rfl⟩
    go_wp2_with fail
    refine HVR.out.mono ?_
    rintro r w3 ⟨rfl, hst3⟩
    have HIN3 := hid (HIN.out.step hst3)
    clear hst3
    go_wp2_with fail
    refine (HRT.out w3).mono ?_
    rintro r w3' ⟨rfl, rfl⟩
    go_wp2_with fail

    refine ((by have := rd_good w3 HIN3.out.rd; rw [decide_eq_false hfk] at this; exact this : Calls Tryz.prog 96 #[.pointer (some ⟨g, 0, none⟩)] w3 fun r w' => r = .returned (.bool false) ∧ Below w3.heap.size w3 w')).mono ?_
    rintro r w5 ⟨rfl, hb5⟩
    have HE := hid (HIN3.out.to.then hb5)
    clear hfk hfid
    go_wp2
    go_ret
    exact ⟨rfl, HE.out⟩

theorem epoch_readpos (w : World) {g : Nat} {B : List UInt8} {a : Option Addr} {s : Rs} (h : RdAt w g B a s) (hB : B.length ≤ 1000000000) :
    Calls Tryz.prog 150 #[.pointer (some ⟨g, 0, none⟩)] w fun r w' => r = .returned (.int .u64 ((s.po B).2 : Int)) ∧ RdStep w g B a (s.po B).1 w' := by
  have HR := hid (epoch_read_po w h hB)
  generalize s.po B = R at *
  clear h
  go_enter Tryz.func150, Tryz.ntmps150
  go_wp2_with fail
  refine HR.out.mono ?_
  rintro r w1 ⟨rfl, hst⟩
  have HST := hid hst
  clear hst
  go_wp2
  go_ret
  exact ⟨rfl, HST.out⟩
end Go.Proofs.YtkipiefcnjfdjaaGreat
