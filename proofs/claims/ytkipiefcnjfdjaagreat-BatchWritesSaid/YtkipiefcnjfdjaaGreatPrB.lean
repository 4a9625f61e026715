/- Matches, by the reference and by the program: contracts. -/
import Derived.Test.YtkipiefcnjfdjaaGreatPrA
namespace Go.Proofs.YtkipiefcnjfdjaaGreat
open Go.RowKit Go.Bs
set_option linter.unusedVariables false
set_option linter.unusedSimpArgs false

theorem ref14_same (b : List UInt8) (p q : Int) (h0 : 0 ≤ q) (hq : q ≤ p) (a : Option Addr) (n c : Nat) (w : World) (hl : rBytes.r (· < w.heap.size) w [.slice a n c] b) (hp : p ≤ 4611686018427387904) :
    Calls Tryz.prog 293 #[.slice a n c, .int .i64 p, .int .i64 q, .int .i64 1] w fun r w' => r = .returned (.bool (same1 b p.toNat q.toNat)) ∧ Below w.heap.size w w' := by
  obtain ⟨p', rfl⟩ := Int.eq_ofNat_of_zero_le (show 0 ≤ p by omega)
  obtain ⟨q', rfl⟩ := Int.eq_ofNat_of_zero_le h0
  exact ref14_same1 b p' q' (by omega) a n c w hl (by omega)

def mlenAt (b : List UInt8) (p off k : Nat) : Nat := k + runLen b off (b.length - p - k) (p + k)
theorem mlenAt_zero {b : List UInt8} {p off : Nat} (h : p < b.length ∧ 1 ≤ off ∧ off ≤ p) : mlen b p off = mlenAt b p off 0 := by
  unfold mlen mlenAt
  rw [if_pos h]; simp
theorem mlenAt_yes {b : List UInt8} {p off k : Nat} (h : same1 b (p + k) (p + k - off) = true) : mlenAt b p off k = mlenAt b p off (k + 1) ∧ p + k < b.length := by
  simp only [same1, Bool.and_eq_true, decide_eq_true_eq] at h
  refine ⟨?_, h.1⟩
  unfold mlenAt
  obtain ⟨f, hf⟩ : ∃ f, b.length - p - k = f + 1 := ⟨b.length - p - k - 1, by omega⟩
  rw [hf, show b.length - p - (k + 1) = f by omega]
  simp only [runLen]
  rw [if_pos h, show p + (k + 1) = p + k + 1 by omega]
  omega
theorem mlenAt_no {b : List UInt8} {p off k : Nat} (h : same1 b (p + k) (p + k - off) = false) : mlenAt b p off k = k := by
  unfold mlenAt
  rcases Nat.eq_zero_or_pos (b.length - p - k) with h0 | h0
  · rw [h0]; rfl
  · obtain ⟨f, hf⟩ : ∃ f, b.length - p - k = f + 1 := ⟨b.length - p - k - 1, by omega⟩
    rw [hf]
    simp only [runLen]
    rw [if_neg]
    · omega
    · rintro ⟨h1, h2⟩
      have : same1 b (p + k) (p + k - off) = true := by unfold same1; rw [decide_eq_true h1, decide_eq_true h2]; rfl
      rw [this] at h; cases h
theorem mlen_zero {b : List UInt8} {p off : Nat} (h : ¬ (p < b.length ∧ 1 ≤ off ∧ off ≤ p)) : mlen b p off = 0 := by
  unfold mlen; rw [if_neg h]

set_option maxHeartbeats 1600000 in
theorem ref14_match1 (b : List UInt8) (p off : Nat) (a : Option Addr) (n c : Nat) (w : World) (hl : rBytes.r (· < w.heap.size) w [.slice a n c] b) (hlen : b.length ≤ 1048576) (hp : p ≤ 1048576) (ho : off ≤ 1048577) :
    Calls Tryz.prog 279 #[.slice a n c, .int .i64 p, .int .i64 off] w fun r w' => r = .returned (.int .i64 (mlen b p off)) ∧ Below w.heap.size w w' := by
  obtain ⟨rfl, hm, _, _⟩ := sl_len hl
  have HL := hid hl; clear hl
  by_cases h1 : p < b.length
  · have d0 : decide ((p : Int) < 0) = false := by simp
    have d1 : decide ((b.length : Int) ≤ (p : Int)) = false := by simp; omega
    have d1' : decide (b.length ≤ p) = false := by simp; omega
    by_cases h2 : 1 ≤ off
    · have d2 : decide ((off : Int) < 1) = false := by simp; omega
      by_cases h3 : off ≤ p
      · have d3 : decide ((p : Int) < (off : Int)) = false := by simp; omega
        have d3' : decide (p < off) = false := by simp; omega
        have hff := hid (mlenAt_zero (off := off) ⟨h1, h2, h3⟩)
        go_enter Tryz.func279, Tryz.ntmps279
        go_wp2_with fail
        go_loopw [7] (fun i wr => ∃ k : Nat, k ≤ b.length - p ∧ i = .int .i64 k ∧ Hid (mlen b p off = mlenAt b p off k) ∧ Below w.heap.size w wr) (fun i _ => b.length - (intOf i).toNat)
        case atStart => exact ⟨0, Nat.zero_le _, rfl, hff, Below.refl _ _⟩
        case round =>
          obtain ⟨k, hk, rfl, hf, hb⟩ := hrel
          clear hff
          have d4 : decide ((k : Int) < 1048576) = true := by simp; omega
          have hS := ref14_same b ((p : Int) + (k : Int)) ((p : Int) + (k : Int) - (off : Int)) (by omega) (by omega) a b.length c wr (lift HL.out hb) (by omega)
          have e1 : ((p : Int) + (k : Int)).toNat = p + k := by omega
          have e2 : ((p : Int) + (k : Int) - (off : Int)).toNat = p + k - off := by omega
          rw [e1, e2] at hS
          clear e1 e2
          cases hs : same1 b (p + k) (p + k - off)
          · have hend := hid (mlenAt_no hs)
            rw [hs] at hS
            have HS := hid hS; clear hS hs
            go_wp2_with fail
            refine HS.out.mono ?_
            rintro r w2 ⟨rfl, hb2⟩
            go_wp2
            go_ret
            exact ⟨by rw [hf.out, hend.out]; rfl, below_then hb2 hb⟩
          · obtain ⟨hn, hlt⟩ := mlenAt_yes hs
            have HN := hid hn
            rw [hs] at hS
            have HS := hid hS; clear hS hs hn
            go_wp2_with fail
            refine HS.out.mono ?_
            rintro r w2 ⟨rfl, hb2⟩
            go_wp2
            go_roundw
            case rel => exact ⟨k + 1, by omega, by go_num, hid (by rw [hf.out, HN.out]), below_then hb2 hb⟩
            case measure => simp [intOf]; omega
      · have d3 : decide ((p : Int) < (off : Int)) = true := by simp; omega
        have hff := hid (mlen_zero (b := b) (p := p) (off := off) (by omega))
        go_enter Tryz.func279, Tryz.ntmps279
        go_wp2
        go_ret
        exact ⟨by rw [hff.out]; rfl, by (repeat (first | exact Below.refl _ _ | assumption | (refine below_alloc ?_ _) | (refine Below.setCell ?_ (by first | omega | (simp; done) | (simp; omega)) _) | (refine Below.drew ?_) | (refine below_drewN ?_ _) | (refine below_then (by assumption) ?_)))⟩
    · have d2 : decide ((off : Int) < 1) = true := by simp; omega
      have hff := hid (mlen_zero (b := b) (p := p) (off := off) (by omega))
      go_enter Tryz.func279, Tryz.ntmps279
      go_wp2
      go_ret
      exact ⟨by rw [hff.out]; rfl, by (repeat (first | exact Below.refl _ _ | assumption | (refine below_alloc ?_ _) | (refine Below.setCell ?_ (by first | omega | (simp; done) | (simp; omega)) _) | (refine Below.drew ?_) | (refine below_drewN ?_ _) | (refine below_then (by assumption) ?_)))⟩
  · have d1 : decide ((b.length : Int) ≤ (p : Int)) = true := by simp; omega
    have hff := hid (mlen_zero (b := b) (p := p) (off := off) (by omega))
    go_enter Tryz.func279, Tryz.ntmps279
    go_wp2
    go_ret
    exact ⟨by rw [hff.out]; rfl, by (repeat (first | exact Below.refl _ _ | assumption | (refine below_alloc ?_ _) | (refine Below.setCell ?_ (by first | omega | (simp; done) | (simp; omega)) _) | (refine Below.drew ?_) | (refine below_drewN ?_ _) | (refine below_then (by assumption) ?_)))⟩

theorem ref14_match (b : List UInt8) (p off : Int) (h0 : 0 ≤ p) (h1 : 0 ≤ off) (a : Option Addr) (n c : Nat) (w : World) (hl : rBytes.r (· < w.heap.size) w [.slice a n c] b) (hlen : b.length ≤ 1048576) (hp : p ≤ 1048576) (ho : off ≤ 1048577) :
    Calls Tryz.prog 279 #[.slice a n c, .int .i64 p, .int .i64 off] w fun r w' => r = .returned (.int .i64 (mlen b p.toNat off.toNat)) ∧ Below w.heap.size w w' := by
  obtain ⟨p', rfl⟩ := Int.eq_ofNat_of_zero_le h0
  obtain ⟨q', rfl⟩ := Int.eq_ofNat_of_zero_le h1
  exact ref14_match1 b p' q' a n c w hl hlen (by omega) (by omega)

set_option maxHeartbeats 1600000 in
theorem seek_match1 (b : List UInt8) (p off : Nat) (a : Option Addr) (n c : Nat) (w : World) (hl : rBytes.r (· < w.heap.size) w [.slice a n c] b) (hlen : b.length ≤ 1048576) (hp : p ≤ 1048576) (ho : off ≤ 1048577) :
    Calls Tryz.prog 290 #[.slice a n c, .int .i64 p, .int .i64 off] w fun r w' => r = .returned (.int .i64 (mlen b p off)) ∧ Below w.heap.size w w' := by
  obtain ⟨rfl, hm, _, _⟩ := sl_len hl
  by_cases h1 : p < b.length
  · have d0 : decide ((p : Int) < 0) = false := by simp
    have d1 : decide ((b.length : Int) ≤ (p : Int)) = false := by simp; omega
    have d1' : decide (b.length ≤ p) = false := by simp; omega
    by_cases h2 : 1 ≤ off
    · have d2 : decide ((off : Int) < 1) = false := by simp; omega
      by_cases h3 : off ≤ p
      · have d3 : decide ((p : Int) < (off : Int)) = false := by simp; omega
        have d3' : decide (p < off) = false := by simp; omega
        have hff := hid (mlenAt_zero (off := off) ⟨h1, h2, h3⟩)
        obtain ⟨g, o, hA, hg, _⟩ := byte_at hl h1
        subst hA
        have HL := hid hl; clear hl
        go_enter Tryz.func290, Tryz.ntmps290
        go_wp2_with fail
        go_loopw [7] (fun i wr => ∃ k : Nat, k ≤ b.length - p ∧ i = .int .i64 k ∧ Hid (mlen b p off = mlenAt b p off k) ∧ Below w.heap.size w wr) (fun i _ => b.length - (intOf i).toNat)
        case atStart => exact ⟨0, Nat.zero_le _, rfl, hff, Below.refl _ _⟩
        case round =>
          obtain ⟨k, hk, rfl, hf, hb⟩ := hrel
          clear hff
          have d4 : decide ((k : Int) < 1048576) = true := by simp; omega
          by_cases hlt : p + k < b.length
          · have d5 : decide ((p : Int) + (k : Int) < (b.length : Int)) = true := by simp; omega
            have hlq : p + k - off < b.length := by omega
            obtain ⟨g1, o1, hA1, _, hc⟩ := byte_at HL.out hlt
            obtain ⟨g2, o2, hA2, _, hc'⟩ := byte_at HL.out hlq
            simp only [Option.some.injEq, Addr.mk.injEq, and_true] at hA1 hA2
            obtain ⟨rfl, rfl⟩ := hA1
            obtain ⟨rfl, rfl⟩ := hA2
            have C1 := fun s : Later wr => s.cell ((hb.cell (p := ⟨g, o + (p + k), none⟩) hg).trans hc)
            have C2 := fun s : Later wr => s.cell ((hb.cell (p := ⟨g, o + (p + k - off), none⟩) hg).trans hc')
            have hsa := same1_at hlt hlq
            generalize b[p + k] = x at *
            generalize b[p + k - off] = y at *
            clear hc hc'
            have i1 : (0 : Int) ≤ (p : Int) + (k : Int) := by omega
            have i2 : (0 : Int) ≤ (p : Int) + (k : Int) - (off : Int) := by omega
            have i3 : (p : Int) + (k : Int) - (off : Int) < (b.length : Int) := by omega
            have i4 : (p : Int) + (k : Int) < (b.length : Int) := by omega
            have t1 : ((p : Int) + (k : Int)).toNat = p + k := by omega
            have t2 : ((p : Int) + (k : Int) - (off : Int)).toNat = p + k - off := by omega
            cases hs : same1 b (p + k) (p + k - off)
            · have hend := hid (mlenAt_no hs)
              rw [hs] at hsa
              have e1 : ((x.toNat : Int) == (y.toNat : Int)) = false := hsa.symm
              clear hs hsa
              go_wp2_with fail
              refine wp_region_later (by kernel_rfl) (by kernel_rfl) ?_
              repeat (go_big_quiet_step (fail))
              refine wpQuiet_nil ?_
              rintro W5 ⟨⟨W5', hb5⟩, rfl⟩
              go_wp2
              go_ret
              exact ⟨by rw [hf.out, hend.out]; rfl, below_then hb5 hb⟩
            · obtain ⟨hn, _⟩ := mlenAt_yes hs
              have HN := hid hn
              rw [hs] at hsa
              have e1 : ((x.toNat : Int) == (y.toNat : Int)) = true := hsa.symm
              clear hs hsa hn
              go_wp2_with fail
              refine wp_region_later (by kernel_rfl) (by kernel_rfl) ?_
              repeat (go_big_quiet_step (fail))
              refine wpQuiet_nil ?_
              rintro W5 ⟨⟨W5', hb5⟩, rfl⟩
              clear t1 t2
              go_wp2
              go_roundw
              case rel => exact ⟨k + 1, by omega, by go_num, hid (by rw [hf.out, HN.out]), below_then hb5 hb⟩
              case measure => simp [intOf]; omega
          · have d5 : decide ((p : Int) + (k : Int) < (b.length : Int)) = false := by simp; omega
            have hs : same1 b (p + k) (p + k - off) = false := by simp [same1, hlt]
            have hend := hid (mlenAt_no hs)
            clear hs
            go_wp2_with fail
            refine wp_region_later (by kernel_rfl) (by kernel_rfl) ?_
            repeat (go_big_quiet_step (fail))
            refine wpQuiet_nil ?_
            rintro W5 ⟨⟨W5', hb5⟩, rfl⟩
            go_wp2
            go_ret
            exact ⟨by rw [hf.out, hend.out]; rfl, below_then hb5 hb⟩
      · have d3 : decide ((p : Int) < (off : Int)) = true := by simp; omega
        have hff := hid (mlen_zero (b := b) (p := p) (off := off) (by omega))
        go_enter Tryz.func290, Tryz.ntmps290
        go_wp2
        go_ret
        exact ⟨by rw [hff.out]; rfl, by (repeat (first | exact Below.refl _ _ | assumption | (refine below_alloc ?_ _) | (refine Below.setCell ?_ (by first | omega | (simp; done) | (simp; omega)) _) | (refine Below.drew ?_) | (refine below_drewN ?_ _) | (refine below_then (by assumption) ?_)))⟩
    · have d2 : decide ((off : Int) < 1) = true := by simp; omega
      have hff := hid (mlen_zero (b := b) (p := p) (off := off) (by omega))
      go_enter Tryz.func290, Tryz.ntmps290
      go_wp2
      go_ret
      exact ⟨by rw [hff.out]; rfl, by (repeat (first | exact Below.refl _ _ | assumption | (refine below_alloc ?_ _) | (refine Below.setCell ?_ (by first | omega | (simp; done) | (simp; omega)) _) | (refine Below.drew ?_) | (refine below_drewN ?_ _) | (refine below_then (by assumption) ?_)))⟩
  · have d1 : decide ((b.length : Int) ≤ (p : Int)) = true := by simp; omega
    have hff := hid (mlen_zero (b := b) (p := p) (off := off) (by omega))
    go_enter Tryz.func290, Tryz.ntmps290
    go_wp2
    go_ret
    exact ⟨by rw [hff.out]; rfl, by (repeat (first | exact Below.refl _ _ | assumption | (refine below_alloc ?_ _) | (refine Below.setCell ?_ (by first | omega | (simp; done) | (simp; omega)) _) | (refine Below.drew ?_) | (refine below_drewN ?_ _) | (refine below_then (by assumption) ?_)))⟩
theorem seek_match (b : List UInt8) (p off : Int) (h0 : 0 ≤ p) (h1 : 0 ≤ off) (a : Option Addr) (n c : Nat) (w : World) (hl : rBytes.r (· < w.heap.size) w [.slice a n c] b) (hlen : b.length ≤ 1048576) (hp : p ≤ 1048576) (ho : off ≤ 1048577) :
    Calls Tryz.prog 290 #[.slice a n c, .int .i64 p, .int .i64 off] w fun r w' => r = .returned (.int .i64 (mlen b p.toNat off.toNat)) ∧ Below w.heap.size w w' := by
  obtain ⟨p', rfl⟩ := Int.eq_ofNat_of_zero_le h0
  obtain ⟨q', rfl⟩ := Int.eq_ofNat_of_zero_le h1
  exact seek_match1 b p' q' a n c w hl hlen (by omega) (by omega)

theorem seek_taken (o n : Int) (w : World) : Calls Tryz.prog 291 #[.int .i64 o, .int .i64 n] w fun r w' => r = .returned (.tuple #[.int .i64 (if n < 4 then 0 else o), .int .i64 (if n < 4 then 0 else n)]) ∧ w = w' := by
  by_cases h : n < 4
  · rw [if_pos h, if_pos h]
    have d1 : decide (n < 4) = true := by simpa using h
    clear h
    go_enter Tryz.func291, Tryz.ntmps291
    go_wp2
    go_ret2
    exact ⟨rfl, rfl⟩
  · rw [if_neg h, if_neg h]
    have d1 : decide (n < 4) = false := by simpa using h
    clear h
    go_enter Tryz.func291, Tryz.ntmps291
    go_wp2
    go_ret2
    exact ⟨rfl, rfl⟩
end Go.Proofs.YtkipiefcnjfdjaaGreat
