/- The document's numbers, read. The document's numbers, read by its reader. The document's bounded numbers, and blobs. The document's token, read. Tokens, expanded: plain. Bytes once more. -/
import Derived.Test.YtgcdbnbdbjaijaaMA
import Derived.Deep.Cut
namespace Go.Proofs.Ytgcdbnbdbjaijaa
open Go.RowKit Go.Bs Go.Maps
set_option linter.unusedVariables false
set_option linter.unusedSimpArgs false

def dsum : List UInt8 → Nat
  | [] => 0
  | c :: l => c.toNat % 128 + 128 * dsum l
theorem dsum_snoc : ∀ (l : List UInt8) (c : UInt8), dsum (l ++ [c]) = dsum l + c.toNat % 128 * 128 ^ l.length
  | [], c => by simp [dsum]
  | d :: l, c => by
    simp only [List.cons_append, dsum, dsum_snoc l c, List.length_cons, Nat.pow_succ]
    rw [Nat.mul_add, Nat.mul_comm (128 ^ l.length) 128, Nat.mul_left_comm]
    omega
theorem dsum_lt : ∀ l : List UInt8, dsum l < 128 ^ l.length
  | [] => by simp [dsum]
  | c :: l => by
    have := dsum_lt l
    simp only [dsum, List.length_cons, Nat.pow_succ]
    omega
theorem dsum_drop : ∀ (l : List UInt8) (k : Nat), dsum (l.drop k) ≤ dsum l
  | [], k => by simp
  | c :: l, 0 => by simp
  | c :: l, k + 1 => by
    have := dsum_drop l k
    simp only [List.drop_succ_cons, dsum]
    omega
theorem dsum_at {l : List UInt8} {m : Nat} (h : m < l.length) : dsum (l.drop m) = l[m].toNat % 128 + 128 * dsum (l.drop (m + 1)) := by
  rw [List.drop_eq_getElem_cons h]; rfl
theorem dsum_take {l : List UInt8} {n : Nat} (h : n < l.length) : dsum (l.take (n + 1)) = dsum (l.take n) + l[n].toNat % 128 * 128 ^ n := by
  rw [List.take_succ_eq_append_getElem h, dsum_snoc, List.length_take, Nat.min_eq_left (by omega)]
theorem dsum_lt' (l : List UInt8) (n : Nat) : dsum (l.take n) < 128 ^ n := Nat.lt_of_lt_of_le (dsum_lt _) (Nat.pow_le_pow_right (by omega) (by simp; omega))
theorem digit_sum {i X c : Nat} (hi : i ≤ 9) (hX : X < 128 ^ i) (h : i = 9 → c ≤ 1) : X + c % 128 * 128 ^ i < 18446744073709551616 := by
  by_cases h9 : i = 9
  · subst h9
    have h1 : (128 : Nat) ^ 9 = 9223372036854775808 := by decide
    rw [h1] at *
    have := h rfl
    have h2 : c % 128 * 9223372036854775808 ≤ 1 * 9223372036854775808 := Nat.mul_le_mul_right _ (by omega)
    omega
  · have h1 : (128 : Nat) ^ i ≤ 128 ^ 8 := Nat.pow_le_pow_right (by omega) (by omega)
    have h3 : (128 : Nat) ^ 8 = 72057594037927936 := by decide
    have h2 : c % 128 * 128 ^ i ≤ 127 * 128 ^ i := Nat.mul_le_mul_right _ (by omega)
    omega
/-- What the document's Get tells. -/
def gfin (L : Nat) (r : Nat × Nat × Int) : Nat × Nat × Int × Int :=
  if r.2.2 = 0 then (r.1, r.2.1, 0, 0) else if r.2.2 = 1 then (0, 0, 1, (L : Int)) else (0, 0, r.2.2, (r.2.1 : Int) - 1)
def gget (b : List UInt8) : Nat × Nat × Int × Int := gfin b.length (vget 0 0 b)
theorem vget_at {b : List UInt8} {n : Nat} (h : n < b.length) : vget n (dsum (b.take n)) (b.drop n) =
    if n = 9 ∧ 1 < b[n].toNat then (0, n + 1, 5) else if 0 < n ∧ b[n].toNat = 0 then (0, n + 1, 4) else if b[n].toNat < 128 then (dsum (b.take n) + b[n].toNat * 128 ^ n, n + 1, 0) else vget (n + 1) (dsum (b.take (n + 1))) (b.drop (n + 1)) := by
  rw [List.drop_eq_getElem_cons h, vget_cons, dsum_take h]

set_option maxRecDepth 100000 in
set_option maxHeartbeats 3200000 in
theorem ref04_get (w : World) (b : List UInt8) (a : Option Addr) (n c : Nat) (hl : rBytes.r (· < w.heap.size) w [.slice a n c] b) (hB : b.length ≤ 1000000000000) :
    Calls Try.prog 112 #[.slice a n c] w fun r w' => r = .returned (.tuple #[.int .u64 ((gget b).1 : Int), .int .i64 ((gget b).2.1 : Int), .agg #[.int .i64 (gget b).2.2.1, .int .i64 (gget b).2.2.2]]) ∧ Below w.heap.size w w' := by
  obtain ⟨rfl, hm, _, _⟩ := sl_len hl
  have HL := hid hl
  clear hl
  go_enter Try.func112, Try.ntmps112
  go_wp2_with fail
  refine wp_world (fun W => Blk W w.heap.size 48 #[.int .i64 0, .int .i64 0] ∧ Below w.heap.size w W) ⟨by (repeat (first | assumption | exact Blk.newAt _ _ _ (by first | (simp; done) | (simp; omega)) | refine Blk.alloc ?_ _ | refine Blk.drew ?_ | refine Blk.drewN ?_ _ | refine Blk.far ?_ (by first | (simp; done) | (simp; omega)) _)), by (repeat (first | with_reducible exact Below.refl _ _ | with_reducible assumption | (with_reducible refine below_alloc ?_ _) | (with_reducible refine Below.setCell ?_ (by first | omega | (simp; done) | (simp; omega)) _) | (with_reducible refine Below.drew ?_) | (with_reducible refine below_drewN ?_ _) | (refine below_then (by with_reducible assumption) ?_)))⟩ ?_
  intro W ⟨hF, hbW⟩
  go_loopw [5] (fun i wr => ∃ n : Nat, n ≤ b.length ∧ n ≤ 9 ∧ i = .int .i64 n ∧ Hid (gget b = gfin b.length (vget n (dsum (b.take n)) (b.drop n))) ∧ wr = W) (fun i _ => b.length - (intOf i).toNat)
  case atStart => exact ⟨0, Nat.zero_le _, by omega, rfl, hid rfl, rfl⟩
  case round =>
    obtain ⟨n, hn, hn9, rfl, hg, rfl⟩ := hrel
    rcases Nat.lt_or_ge n b.length with hlt | hge
    · obtain ⟨ga, oa, hA, hga, hc⟩ := byte_at (lift HL.out hbW) hlt
      subst hA
      have d0 : decide ((n : Int) < (b.length : Int)) = true := decide_eq_true (by omega)
      have d0' : decide (n < b.length) = true := decide_eq_true hlt
      have i1 : (n : Int) < (b.length : Int) := by omega
      have hgv := hg.out
      have hvat := vget_at hlt
      have hdt := dsum_take hlt
      generalize b[n] = e at hvat hdt hc
      have hc255 := e.toNat_lt
      by_cases h9 : n = 9
      · have d1 : ((n : Int) == 9) = true := by rw [h9]; rfl
        have d3 : decide ((0 : Int) < (n : Int)) = true := decide_eq_true (by omega)
        have d3' : decide (0 < n) = true := decide_eq_true (by omega)
        by_cases hc1 : 1 < e.toNat
        · have d2 : decide ((1 : Int) < (e.toNat : Int)) = true := decide_eq_true (by omega)
          have d2' : decide (1 < e.toNat) = true := decide_eq_true (by omega)
          rw [hvat, if_pos ⟨h9, hc1⟩] at hgv
          have HG := hid hgv
          clear hgv hg hvat hdt
          (try clear h9); (try clear hc0); (try clear hc1); (try clear hn0); (try clear hc7)
          go_wp2_with fail
          refine (ref01_at wr 5 n (by omega)).mono ?_
          rintro r w1 ⟨rfl, hb1⟩
          obtain ⟨y0, y1, g0, g1, l1⟩ := f_blk (hF.later hb1)
          have hbw1 := below_then hb1 hbW
          go_wp2
          refine bodyPost_ret (v := .tuple #[.int .u64 0, .int .i64 0, .agg #[.int .i64 5, .int .i64 n]]) (by simp [results, Try.results112, go_sem, y0, y1, l1]) rfl ⟨?_, by (repeat (first | with_reducible exact Below.refl _ _ | with_reducible assumption | (with_reducible refine below_alloc ?_ _) | (with_reducible refine Below.setCell ?_ (by first | omega | (simp; done) | (simp; omega)) _) | (with_reducible refine Below.drew ?_) | (with_reducible refine below_drewN ?_ _) | (refine below_then (by with_reducible assumption) ?_)))⟩
          rw [HG.out]
          simp [gfin]
        · have d2 : decide ((1 : Int) < (e.toNat : Int)) = false := decide_eq_false (by omega)
          have d2' : decide (1 < e.toNat) = false := decide_eq_false (by omega)
          by_cases hc0 : e.toNat = 0
          · have d4 : ((e.toNat : Int) == 0) = true := by rw [hc0]; rfl
            rw [hvat, if_neg (fun e => hc1 e.2), if_pos ⟨by omega, hc0⟩] at hgv
            have HG := hid hgv
            clear hgv hg hvat hdt
            (try clear h9); (try clear hc0); (try clear hc1); (try clear hn0); (try clear hc7)
            go_wp2_with fail
            refine (ref01_at wr 4 n (by omega)).mono ?_
            rintro r w1 ⟨rfl, hb1⟩
            obtain ⟨y0, y1, g0, g1, l1⟩ := f_blk (hF.later hb1)
            have hbw1 := below_then hb1 hbW
            go_wp2
            refine bodyPost_ret (v := .tuple #[.int .u64 0, .int .i64 0, .agg #[.int .i64 4, .int .i64 n]]) (by simp [results, Try.results112, go_sem, y0, y1, l1]) rfl ⟨?_, by (repeat (first | with_reducible exact Below.refl _ _ | with_reducible assumption | (with_reducible refine below_alloc ?_ _) | (with_reducible refine Below.setCell ?_ (by first | omega | (simp; done) | (simp; omega)) _) | (with_reducible refine Below.drew ?_) | (with_reducible refine below_drewN ?_ _) | (refine below_then (by with_reducible assumption) ?_)))⟩
            rw [HG.out]
            simp [gfin]
          · have d4 : ((e.toNat : Int) == 0) = false := by rw [beq_eq_false_iff_ne]; omega
            have d5 : decide ((e.toNat : Int) < 128) = true := decide_eq_true (by omega)
            have d5' : decide (e.toNat < 128) = true := decide_eq_true (by omega)
            have hfit := digit_fits hn9 (dsum_lt' b n) (c := e.toNat) (fun _ => by omega)
            have hmod : e.toNat % 128 = e.toNat := Nat.mod_eq_of_lt (by omega)
            rw [hvat, if_neg (fun e => hc1 e.2), if_neg (fun e => hc0 e.2), if_pos (by omega)] at hgv
            have HDT := hid hdt
            have hL : dsum (b.take (n + 1)) < 18446744073709551616 := by
              rw [HDT.out]
              exact digit_sum hn9 (dsum_lt' b n) (fun _ => by omega)
            rw [← hmod, ← HDT.out] at hgv
            have HG := hid hgv
            have hn1 : Hid ((b.take (n + 1)).length = n + 1) := hid (by simp; omega)
            have HTK : Hid (∀ m, (h : m < n + 1) → (b.take (n + 1))[m]'(by rw [hn1.out]; exact h) = b[m]'(by omega)) := hid (fun m h => by simp)
            have hd0 : Hid (dsum ((b.take (n + 1)).drop (n + 1)) = 0) := hid (by rw [List.drop_eq_nil_of_le (by simp; omega)]; rfl)
            generalize b.take (n + 1) = L at *
            clear hgv hg hfit hmod HDT hvat hdt
            have H9 := hid h9; have h9n : n ≤ 9 ∧ 9 ≤ n := by omega
            have d09 : decide ((9 : Int) < (b.length : Int)) = true := decide_eq_true (by omega)
            have d09' : decide (9 < b.length) = true := decide_eq_true (by omega)
            have i19 : (9 : Int) < (b.length : Int) := by omega
            have hc9 := hc
            rw [show oa + n = oa + 9 by omega] at hc9
            (try clear h9); (try clear hc0); (try clear hc1); (try clear hn0); (try clear hc7)
            go_wp2_with fail

            go_loopw [6, 7] (fun x i w2 => ∃ (k : Nat) (j : Int), k ≤ n + 1 ∧ Hid (j = (k : Int) - 1) ∧ -1 ≤ j ∧ j ≤ n ∧ i = .int .i64 j ∧ x = .int .u64 ((dsum (L.drop k) : Nat) : Int) ∧ w2 = wr) (fun _ i _ => (intOf i + 1).toNat)
            case atStart => exact ⟨n + 1, n, by omega, hid (by omega), by omega, by omega, rfl, by rw [hd0.out]; rfl, rfl⟩
            case round =>
              obtain ⟨k, j, hk, hj, hj1, hj2, rfl, rfl, rfl⟩ := hrel
              rcases Nat.eq_zero_or_pos k with hk0 | hk0
              · have e1 : j = -1 := by have := hj.out; omega
                subst e1
                subst hk0
                have e2 : Hid (L.drop 0 = L) := hid rfl
                rw [e2.out]
                obtain ⟨y0, y1, g0, g1, l1⟩ := f_blk hF
                go_wp2
                refine bodyPost_ret (v := .tuple #[.int .u64 ((dsum L : Nat) : Int), .int .i64 (10), .agg #[.int .i64 0, .int .i64 0]]) (by simp [results, Try.results112, go_sem, y0, y1, l1]) rfl ⟨?_, by (repeat (first | with_reducible exact Below.refl _ _ | with_reducible assumption | (with_reducible refine below_alloc ?_ _) | (with_reducible refine Below.setCell ?_ (by first | omega | (simp; done) | (simp; omega)) _) | (with_reducible refine Below.drew ?_) | (with_reducible refine below_drewN ?_ _) | (refine below_then (by with_reducible assumption) ?_)))⟩
                rw [HG.out]
                simp [gfin, H9.out]
              · obtain ⟨m, rfl⟩ : ∃ m, k = m + 1 := ⟨k - 1, by omega⟩
                obtain rfl : j = (m : Int) := by have := hj.out; omega
                have hmb : m < b.length := by omega
                obtain ⟨gb, ob, hA, _, hcm⟩ := byte_at (lift HL.out hbW) hmb
                simp only [Option.some.injEq, Addr.mk.injEq, and_true] at hA
                obtain ⟨rfl, rfl⟩ := hA
                have HS : Hid (dsum (L.drop m) = b[m].toNat % 128 + 128 * dsum (L.drop (m + 1))) := hid (by rw [dsum_at (by rw [hn1.out]; omega), HTK.out m (by omega)])
                have hle : dsum (L.drop m) < 18446744073709551616 := Nat.lt_of_le_of_lt (dsum_drop L m) hL
                rw [HS.out] at hle
                generalize dsum (L.drop (m + 1)) = X at *
                generalize b[m] = d at *
                have i1 : (m : Int) < (b.length : Int) := by omega
                have i2 : (0 : Int) ≤ (m : Int) := by omega
                have hd := d.toNat_lt
                have hle2 : 128 * (X : Int) + (d.toNat : Int) % 128 ≤ 18446744073709551615 := by omega
                have hle3 : 128 * (X : Int) ≤ 18446744073709551615 := by omega
                have HSM := hid hj
                clear hj
                go_wp2
                go_roundw
                case rel => exact ⟨m, (m : Int) - 1, by omega, hid rfl, by omega, by omega, by go_num, by rw [HS.out]; go_num, by first | trivial | rfl⟩
                case measure => simp [intOf]
      · have d1 : ((n : Int) == 9) = false := by rw [beq_eq_false_iff_ne]; omega
        by_cases hc0 : e.toNat = 0
        · have d4 : ((e.toNat : Int) == 0) = true := by rw [hc0]; rfl
          by_cases hn0 : 0 < n
          · have d3 : decide ((0 : Int) < (n : Int)) = true := decide_eq_true (by omega)
            have d3' : decide (0 < n) = true := decide_eq_true (by omega)
            rw [hvat, if_neg (fun e => h9 e.1), if_pos ⟨hn0, hc0⟩] at hgv
            have HG := hid hgv
            clear hgv hg hvat hdt
            (try clear h9); (try clear hc0); (try clear hc1); (try clear hn0); (try clear hc7)
            go_wp2_with fail
            refine (ref01_at wr 4 n (by omega)).mono ?_
            rintro r w1 ⟨rfl, hb1⟩
            obtain ⟨y0, y1, g0, g1, l1⟩ := f_blk (hF.later hb1)
            have hbw1 := below_then hb1 hbW
            go_wp2
            refine bodyPost_ret (v := .tuple #[.int .u64 0, .int .i64 0, .agg #[.int .i64 4, .int .i64 n]]) (by simp [results, Try.results112, go_sem, y0, y1, l1]) rfl ⟨?_, by (repeat (first | with_reducible exact Below.refl _ _ | with_reducible assumption | (with_reducible refine below_alloc ?_ _) | (with_reducible refine Below.setCell ?_ (by first | omega | (simp; done) | (simp; omega)) _) | (with_reducible refine Below.drew ?_) | (with_reducible refine below_drewN ?_ _) | (refine below_then (by with_reducible assumption) ?_)))⟩
            rw [HG.out]
            simp [gfin]
          · have d3 : decide ((0 : Int) < (n : Int)) = false := decide_eq_false (by omega)
            have d3' : decide (0 < n) = false := decide_eq_false (by omega)
            have d5 : decide ((e.toNat : Int) < 128) = true := decide_eq_true (by omega)
            have d5' : decide (e.toNat < 128) = true := decide_eq_true (by omega)
            have hfit := digit_fits hn9 (dsum_lt' b n) (c := e.toNat) (fun e => absurd e h9)
            have hmod : e.toNat % 128 = e.toNat := Nat.mod_eq_of_lt (by omega)
            rw [hvat, if_neg (fun e => h9 e.1), if_neg (fun e => hn0 e.1), if_pos (by omega)] at hgv
            have HDT := hid hdt
            have hL : dsum (b.take (n + 1)) < 18446744073709551616 := by
              rw [HDT.out]
              exact digit_sum hn9 (dsum_lt' b n) (fun e => absurd e h9)
            rw [← hmod, ← HDT.out] at hgv
            have HG := hid hgv
            have hn1 : Hid ((b.take (n + 1)).length = n + 1) := hid (by simp; omega)
            have HTK : Hid (∀ m, (h : m < n + 1) → (b.take (n + 1))[m]'(by rw [hn1.out]; exact h) = b[m]'(by omega)) := hid (fun m h => by simp)
            have hd0 : Hid (dsum ((b.take (n + 1)).drop (n + 1)) = 0) := hid (by rw [List.drop_eq_nil_of_le (by simp; omega)]; rfl)
            generalize b.take (n + 1) = L at *
            clear hgv hg hfit hmod HDT hvat hdt
            (try clear h9); (try clear hc0); (try clear hc1); (try clear hn0); (try clear hc7)
            go_wp2_with fail

            go_loopw [6, 7] (fun x i w2 => ∃ (k : Nat) (j : Int), k ≤ n + 1 ∧ Hid (j = (k : Int) - 1) ∧ -1 ≤ j ∧ j ≤ n ∧ i = .int .i64 j ∧ x = .int .u64 ((dsum (L.drop k) : Nat) : Int) ∧ w2 = wr) (fun _ i _ => (intOf i + 1).toNat)
            case atStart => exact ⟨n + 1, n, by omega, hid (by omega), by omega, by omega, rfl, by rw [hd0.out]; rfl, rfl⟩
            case round =>
              obtain ⟨k, j, hk, hj, hj1, hj2, rfl, rfl, rfl⟩ := hrel
              rcases Nat.eq_zero_or_pos k with hk0 | hk0
              · have e1 : j = -1 := by have := hj.out; omega
                subst e1
                subst hk0
                have e2 : Hid (L.drop 0 = L) := hid rfl
                rw [e2.out]
                obtain ⟨y0, y1, g0, g1, l1⟩ := f_blk hF
                go_wp2
                refine bodyPost_ret (v := .tuple #[.int .u64 ((dsum L : Nat) : Int), .int .i64 ((n : Int) + 1), .agg #[.int .i64 0, .int .i64 0]]) (by simp [results, Try.results112, go_sem, y0, y1, l1]) rfl ⟨?_, by (repeat (first | with_reducible exact Below.refl _ _ | with_reducible assumption | (with_reducible refine below_alloc ?_ _) | (with_reducible refine Below.setCell ?_ (by first | omega | (simp; done) | (simp; omega)) _) | (with_reducible refine Below.drew ?_) | (with_reducible refine below_drewN ?_ _) | (refine below_then (by with_reducible assumption) ?_)))⟩
                rw [HG.out]
                simp [gfin]
              · obtain ⟨m, rfl⟩ : ∃ m, k = m + 1 := ⟨k - 1, by omega⟩
                obtain rfl : j = (m : Int) := by have := hj.out; omega
                have hmb : m < b.length := by omega
                obtain ⟨gb, ob, hA, _, hcm⟩ := byte_at (lift HL.out hbW) hmb
                simp only [Option.some.injEq, Addr.mk.injEq, and_true] at hA
                obtain ⟨rfl, rfl⟩ := hA
                have HS : Hid (dsum (L.drop m) = b[m].toNat % 128 + 128 * dsum (L.drop (m + 1))) := hid (by rw [dsum_at (by rw [hn1.out]; omega), HTK.out m (by omega)])
                have hle : dsum (L.drop m) < 18446744073709551616 := Nat.lt_of_le_of_lt (dsum_drop L m) hL
                rw [HS.out] at hle
                generalize dsum (L.drop (m + 1)) = X at *
                generalize b[m] = d at *
                have i1 : (m : Int) < (b.length : Int) := by omega
                have i2 : (0 : Int) ≤ (m : Int) := by omega
                have hd := d.toNat_lt
                have hle2 : 128 * (X : Int) + (d.toNat : Int) % 128 ≤ 18446744073709551615 := by omega
                have hle3 : 128 * (X : Int) ≤ 18446744073709551615 := by omega
                have HSM := hid hj
                clear hj
                go_wp2
                go_roundw
                case rel => exact ⟨m, (m : Int) - 1, by omega, hid rfl, by omega, by omega, by go_num, by rw [HS.out]; go_num, by first | trivial | rfl⟩
                case measure => simp [intOf]
        · have d4 : ((e.toNat : Int) == 0) = false := by rw [beq_eq_false_iff_ne]; omega
          by_cases hc7 : e.toNat < 128
          · have d5 : decide ((e.toNat : Int) < 128) = true := decide_eq_true (by omega)
            have d5' : decide (e.toNat < 128) = true := decide_eq_true (by omega)
            have HN0 : ∃ q, decide ((0 : Int) < (n : Int)) = q ∧ decide (0 < n) = q := ⟨_, rfl, by simp⟩
            obtain ⟨q, d3, d3'⟩ := HN0
            cases q
            all_goals
              have hfit := digit_fits hn9 (dsum_lt' b n) (c := e.toNat) (fun e => absurd e h9)
              have hmod : e.toNat % 128 = e.toNat := Nat.mod_eq_of_lt (by omega)
              rw [hvat, if_neg (fun e => h9 e.1), if_neg (fun e => hc0 e.2), if_pos hc7] at hgv
              have HDT := hid hdt
              have hL : dsum (b.take (n + 1)) < 18446744073709551616 := by
                rw [HDT.out]
                exact digit_sum hn9 (dsum_lt' b n) (fun e => absurd e h9)
              rw [← hmod, ← HDT.out] at hgv
              have HG := hid hgv
              have hn1 : Hid ((b.take (n + 1)).length = n + 1) := hid (by simp; omega)
              have HTK : Hid (∀ m, (h : m < n + 1) → (b.take (n + 1))[m]'(by rw [hn1.out]; exact h) = b[m]'(by omega)) := hid (fun m h => by simp)
              have hd0 : Hid (dsum ((b.take (n + 1)).drop (n + 1)) = 0) := hid (by rw [List.drop_eq_nil_of_le (by simp; omega)]; rfl)
              generalize b.take (n + 1) = L at *
              clear hgv hg hfit hmod HDT hvat hdt
              (try clear h9); (try clear hc0); (try clear hc1); (try clear hn0); (try clear hc7)
              go_wp2_with fail

              go_loopw [6, 7] (fun x i w2 => ∃ (k : Nat) (j : Int), k ≤ n + 1 ∧ Hid (j = (k : Int) - 1) ∧ -1 ≤ j ∧ j ≤ n ∧ i = .int .i64 j ∧ x = .int .u64 ((dsum (L.drop k) : Nat) : Int) ∧ w2 = wr) (fun _ i _ => (intOf i + 1).toNat)
              case atStart => exact ⟨n + 1, n, by omega, hid (by omega), by omega, by omega, rfl, by rw [hd0.out]; rfl, rfl⟩
              case round =>
                obtain ⟨k, j, hk, hj, hj1, hj2, rfl, rfl, rfl⟩ := hrel
                rcases Nat.eq_zero_or_pos k with hk0 | hk0
                · have e1 : j = -1 := by have := hj.out; omega
                  subst e1
                  subst hk0
                  have e2 : Hid (L.drop 0 = L) := hid rfl
                  rw [e2.out]
                  obtain ⟨y0, y1, g0, g1, l1⟩ := f_blk hF
                  go_wp2
                  refine bodyPost_ret (v := .tuple #[.int .u64 ((dsum L : Nat) : Int), .int .i64 ((n : Int) + 1), .agg #[.int .i64 0, .int .i64 0]]) (by simp [results, Try.results112, go_sem, y0, y1, l1]) rfl ⟨?_, by (repeat (first | with_reducible exact Below.refl _ _ | with_reducible assumption | (with_reducible refine below_alloc ?_ _) | (with_reducible refine Below.setCell ?_ (by first | omega | (simp; done) | (simp; omega)) _) | (with_reducible refine Below.drew ?_) | (with_reducible refine below_drewN ?_ _) | (refine below_then (by with_reducible assumption) ?_)))⟩
                  rw [HG.out]
                  simp [gfin]
                · obtain ⟨m, rfl⟩ : ∃ m, k = m + 1 := ⟨k - 1, by omega⟩
                  obtain rfl : j = (m : Int) := by have := hj.out; omega
                  have hmb : m < b.length := by omega
                  obtain ⟨gb, ob, hA, _, hcm⟩ := byte_at (lift HL.out hbW) hmb
                  simp only [Option.some.injEq, Addr.mk.injEq, and_true] at hA
                  obtain ⟨rfl, rfl⟩ := hA
                  have HS : Hid (dsum (L.drop m) = b[m].toNat % 128 + 128 * dsum (L.drop (m + 1))) := hid (by rw [dsum_at (by rw [hn1.out]; omega), HTK.out m (by omega)])
                  have hle : dsum (L.drop m) < 18446744073709551616 := Nat.lt_of_le_of_lt (dsum_drop L m) hL
                  rw [HS.out] at hle
                  generalize dsum (L.drop (m + 1)) = X at *
                  generalize b[m] = d at *
                  have i1 : (m : Int) < (b.length : Int) := by omega
                  have i2 : (0 : Int) ≤ (m : Int) := by omega
                  have hd := d.toNat_lt
                  have hle2 : 128 * (X : Int) + (d.toNat : Int) % 128 ≤ 18446744073709551615 := by omega
                  have hle3 : 128 * (X : Int) ≤ 18446744073709551615 := by omega
                  have HSM := hid hj
                  clear hj
                  go_wp2
                  go_roundw
                  case rel => exact ⟨m, (m : Int) - 1, by omega, hid rfl, by omega, by omega, by go_num, by rw [HS.out]; go_num, by first | trivial | rfl⟩
                  case measure => simp [intOf]
          · have d5 : decide ((e.toNat : Int) < 128) = false := decide_eq_false (by omega)
            have d5' : decide (e.toNat < 128) = false := decide_eq_false (by omega)
            rw [hvat, if_neg (fun e => h9 e.1), if_neg (fun e => hc0 e.2), if_neg hc7] at hgv
            have HG := hid hgv
            have hn8 : n + 1 ≤ 9 := by omega
            clear hgv hg h9 hc0 hc7 hvat hdt
            have HN0 : ∃ q, decide ((0 : Int) < (n : Int)) = q ∧ decide (0 < n) = q := ⟨_, rfl, by simp⟩
            obtain ⟨q, d3, d3'⟩ := HN0
            cases q
            all_goals
              go_wp2
              go_roundw
              case rel => exact ⟨n + 1, by omega, hn8, by go_num, HG, by first | trivial | rfl⟩
              case measure => simp [intOf]; omega
    · obtain rfl : n = b.length := by omega
      have hgv := hg.out
      rw [List.drop_length] at hgv
      have HG := hid hgv
      have d0 : decide ((b.length : Int) < (b.length : Int)) = false := decide_eq_false (by omega)
      clear hgv hg
      go_wp2_with fail
      refine (ref01_at wr 1 b.length (by omega)).mono ?_
      rintro r w1 ⟨rfl, hb1⟩
      obtain ⟨y0, y1, g0, g1, l1⟩ := f_blk (hF.later hb1)
      have hbw1 := below_then hb1 hbW
      go_wp2
      refine bodyPost_ret (v := .tuple #[.int .u64 0, .int .i64 0, .agg #[.int .i64 1, .int .i64 b.length]]) (by simp [results, Try.results112, go_sem, y0, y1, l1]) rfl ⟨?_, by (repeat (first | with_reducible exact Below.refl _ _ | with_reducible assumption | (with_reducible refine below_alloc ?_ _) | (with_reducible refine Below.setCell ?_ (by first | omega | (simp; done) | (simp; omega)) _) | (with_reducible refine Below.drew ?_) | (with_reducible refine below_drewN ?_ _) | (refine below_then (by with_reducible assumption) ?_)))⟩
      rw [HG.out]
      simp [gfin, vget]
end Go.Proofs.Ytgcdbnbdbjaijaa
namespace Go.Proofs.Ytgcdbnbdbjaijaa
open Go.RowKit Go.Bs Go.Maps
set_option linter.unusedVariables false
set_option linter.unusedSimpArgs false

theorem vget_bad : ∀ (l : List UInt8) (i x : Nat), (vget i x l).2.2 ≠ 0 → (vget i x l).1 = 0
  | [], i, x, _ => rfl
  | c :: l, i, x, h => by
    rw [vget_cons] at h ⊢
    by_cases h1 : i = 9 ∧ 1 < c.toNat
    · rw [if_pos h1]
    · rw [if_neg h1] at h ⊢
      by_cases h2 : 0 < i ∧ c.toNat = 0
      · rw [if_pos h2]
      · rw [if_neg h2] at h ⊢
        by_cases h3 : c.toNat < 128
        · rw [if_pos h3] at h; simp at h
        · rw [if_neg h3] at h ⊢
          exact vget_bad l _ _ h
set_option maxRecDepth 100000 in
set_option maxHeartbeats 3200000 in
theorem ref04_read (w : World) (a : Option Addr) (c : Nat) (B : List UInt8) (hl : rBytes.r (· < w.heap.size) w [.slice a B.length c] B) (s : Rs) (hs : s.ok B.length) (hB : B.length ≤ 1000000000000) :
    Calls Try.prog 75 #[CV a B.length c s] w fun r w' => r = .returned (.tuple #[CV a B.length c (s.num B).1, .int .u64 ((s.num B).2 : Int)]) ∧ Below w.heap.size w w' := by
  have hle := hs.le
  by_cases h0 : s.k = 0
  · have d0 : (s.k != (0 : Int)) = false := by simp [h0]
    obtain ⟨aD, cD, hsl, hsub⟩ := cut_to hl (lo := s.p) hle
    have hu := vget_used (B.drop s.p) 0 0
    have hln : (B.drop s.p).length = B.length - s.p := by simp
    have hGET := hid (fun (W : World) (hW : Below w.heap.size w W) => ref04_get W (B.drop s.p) aD _ cD (lift hsub hW) (by omega))
    have hnum : s.num B = (⟨s.p + (vget 0 0 (B.drop s.p)).2.1, (vget 0 0 (B.drop s.p)).2.2, if (vget 0 0 (B.drop s.p)).2.2 = 0 then 0 else if (vget 0 0 (B.drop s.p)).2.2 = 1 then B.length else s.p + (vget 0 0 (B.drop s.p)).2.1 - 1⟩, (vget 0 0 (B.drop s.p)).1) := by
      unfold Rs.num; rw [if_pos h0]
    unfold gget at hGET
    rw [hnum]
    have hsm := vget_small (B.drop s.p) 0 0 (by omega) (by simp)
    have hvx := vget_bad (B.drop s.p) 0 0
    generalize B.drop s.p = D at *
    generalize vget 0 0 D = R at *
    obtain ⟨x, u, k⟩ := R
    dsimp only at *
    have hz := hs.zero h0
    have H0 := hid h0; have HZ := hid hz
    clear hl hs h0 hz hsub hnum
    unfold CV
    by_cases hk0 : k = 0
    · subst hk0
      simp only [gfin, if_true] at hGET ⊢
      go_enter Try.func75, Try.ntmps75
      go_wp2_with fail
      refine (hGET.out _ (by (repeat (first | with_reducible exact Below.refl _ _ | with_reducible assumption | (with_reducible refine below_alloc ?_ _) | (with_reducible refine Below.setCell ?_ (by first | omega | (simp; done) | (simp; omega)) _) | (with_reducible refine Below.drew ?_) | (with_reducible refine below_drewN ?_ _) | (refine below_then (by with_reducible assumption) ?_))))).mono ?_
      rintro r w1 ⟨rfl, hb⟩
      have B0 : Blk w1 w.heap.size 61 #[.slice a B.length c, .int .i64 (s.p : Int), .int .i64 s.k, .int .i64 s.f] := Blk.later (by (repeat (first | assumption | exact Blk.newAt _ _ _ (by first | (simp; done) | (simp; omega)) | refine Blk.alloc ?_ _ | refine Blk.drew ?_ | refine Blk.drewN ?_ _ | refine Blk.far ?_ (by first | (simp; done) | (simp; omega)) _))) hb
      have B1 : Blk w1 (w.heap.size + 1) 61 #[.slice none 0 0, .int .i64 0, .int .i64 0, .int .i64 0] := Blk.later (by (repeat (first | assumption | exact Blk.newAt _ _ _ (by first | (simp; done) | (simp; omega)) | refine Blk.alloc ?_ _ | refine Blk.drew ?_ | refine Blk.drewN ?_ _ | refine Blk.far ?_ (by first | (simp; done) | (simp; omega)) _))) hb
      obtain ⟨x0, x1, x2, x3, e0, e1, e2, e3, l0⟩ := c_blk B0
      obtain ⟨y0, y1, y2, y3, g0, g1, g2, g3, l1⟩ := c_blk B1
      have hbw : Below w.heap.size w w1 := by (repeat (first | with_reducible exact Below.refl _ _ | with_reducible assumption | (with_reducible refine below_alloc ?_ _) | (with_reducible refine Below.setCell ?_ (by first | omega | (simp; done) | (simp; omega)) _) | (with_reducible refine Below.drew ?_) | (with_reducible refine below_drewN ?_ _) | (refine below_then (by with_reducible assumption) ?_)))
      clear B0 B1 hb
      go_wp2
      refine bodyPost_ret (v := .tuple #[.agg #[.slice a B.length c, .int .i64 ((s.p : Int) + (u : Int)), .int .i64 s.k, .int .i64 s.f], .int .u64 (x : Int)]) (by simp [results, Try.results75, go_sem, y0, y1, y2, y3, l1]) rfl ⟨?_, by (repeat (first | with_reducible exact Below.refl _ _ | with_reducible assumption | (with_reducible refine below_alloc ?_ _) | (with_reducible refine Below.setCell ?_ (by first | omega | (simp; done) | (simp; omega)) _) | (with_reducible refine Below.drew ?_) | (with_reducible refine below_drewN ?_ _) | (refine below_then (by with_reducible assumption) ?_)))⟩
      rw [H0.out, HZ.out]
      rfl
    · by_cases hk1 : k = 1
      · subst hk1
        have hu1 := hu.2.2.2.1 rfl
        have hx0 : x = 0 := by have := hvx; exact hvx (by omega)
        subst hx0
        have HP : Hid (((s.p + u : Nat) : Int) = (B.length : Int)) := hid (by omega)
        simp only [gfin, if_true, show ¬ ((1 : Int) = 0) by omega, if_false] at hGET ⊢
        rw [HP.out]
        go_enter Try.func75, Try.ntmps75
        go_wp2_with fail
        refine (hGET.out _ (by (repeat (first | with_reducible exact Below.refl _ _ | with_reducible assumption | (with_reducible refine below_alloc ?_ _) | (with_reducible refine Below.setCell ?_ (by first | omega | (simp; done) | (simp; omega)) _) | (with_reducible refine Below.drew ?_) | (with_reducible refine below_drewN ?_ _) | (refine below_then (by with_reducible assumption) ?_))))).mono ?_
        rintro r w1 ⟨rfl, hb⟩
        have B0 : Blk w1 w.heap.size 61 #[.slice a B.length c, .int .i64 (s.p : Int), .int .i64 s.k, .int .i64 s.f] := Blk.later (by (repeat (first | assumption | exact Blk.newAt _ _ _ (by first | (simp; done) | (simp; omega)) | refine Blk.alloc ?_ _ | refine Blk.drew ?_ | refine Blk.drewN ?_ _ | refine Blk.far ?_ (by first | (simp; done) | (simp; omega)) _))) hb
        have B1 : Blk w1 (w.heap.size + 1) 61 #[.slice none 0 0, .int .i64 0, .int .i64 0, .int .i64 0] := Blk.later (by (repeat (first | assumption | exact Blk.newAt _ _ _ (by first | (simp; done) | (simp; omega)) | refine Blk.alloc ?_ _ | refine Blk.drew ?_ | refine Blk.drewN ?_ _ | refine Blk.far ?_ (by first | (simp; done) | (simp; omega)) _))) hb
        have hbw : Below w.heap.size w w1 := by (repeat (first | with_reducible exact Below.refl _ _ | with_reducible assumption | (with_reducible refine below_alloc ?_ _) | (with_reducible refine Below.setCell ?_ (by first | omega | (simp; done) | (simp; omega)) _) | (with_reducible refine Below.drew ?_) | (with_reducible refine below_drewN ?_ _) | (refine below_then (by with_reducible assumption) ?_)))
        obtain ⟨x0, x1, x2, x3, e0, e1, e2, e3, l0⟩ := c_blk B0
        obtain ⟨y0, y1, y2, y3, g0, g1, g2, g3, l1⟩ := c_blk B1
        clear hb
        go_wp2_with fail
        refine (ref01_at _ 1 B.length (by omega)).mono ?_
        rintro r w2 ⟨rfl, hb2⟩
        have B0' : Blk w2 w.heap.size 61 #[.slice a B.length c, .int .i64 (B.length : Int), .int .i64 s.k, .int .i64 s.f] := Blk.later (Blk.alloc (Blk.set B0 1 (.int .i64 (B.length : Int))) _) hb2
        have B1' : Blk w2 (w.heap.size + 1) 61 #[.slice none 0 0, .int .i64 0, .int .i64 0, .int .i64 0] := Blk.later (Blk.alloc (Blk.far B1 (by simp) _) _) hb2
        have BF : Blk w2 w1.heap.size 48 #[.int .i64 1, .int .i64 ((B.length - s.p : Nat) : Int)] := Blk.later (Blk.newAt _ _ _ (by simp [World.setCell])) hb2
        have hbw2 : Below w.heap.size w w2 := by (repeat (first | with_reducible exact Below.refl _ _ | with_reducible assumption | (with_reducible refine below_alloc ?_ _) | (with_reducible refine Below.setCell ?_ (by first | omega | (simp; done) | (simp; omega)) _) | (with_reducible refine Below.drew ?_) | (with_reducible refine below_drewN ?_ _) | (refine below_then (by with_reducible assumption) ?_)))
        clear x0 x1 x2 x3 e0 e1 e2 e3 l0 y0 y1 y2 y3 g0 g1 g2 g3 l1 B0 B1 hb2
        obtain ⟨x0, x1, x2, x3, e0, e1, e2, e3, l0⟩ := c_blk B0'
        obtain ⟨y0, y1, y2, y3, g0, g1, g2, g3, l1⟩ := c_blk B1'
        obtain ⟨z0, z1, f0, f1, lz⟩ := f_blk BF
        clear B0' B1' BF
        go_wp2
        refine bodyPost_ret (v := .tuple #[.agg #[.slice a B.length c, .int .i64 (B.length : Int), .int .i64 1, .int .i64 (B.length : Int)], .int .u64 0]) (by simp [results, Try.results75, go_sem, y0, y1, y2, y3, l1]) rfl ⟨rfl, by (repeat (first | with_reducible exact Below.refl _ _ | with_reducible assumption | (with_reducible refine below_alloc ?_ _) | (with_reducible refine Below.setCell ?_ (by first | omega | (simp; done) | (simp; omega)) _) | (with_reducible refine Below.drew ?_) | (with_reducible refine below_drewN ?_ _) | (refine below_then (by with_reducible assumption) ?_)))⟩
      · have hk4 : k ≠ 0 ∧ k ≠ 1 := ⟨hk0, hk1⟩
        have hu5 := hu.2.2.2.2 hk1
        have d2 : (k == (0 : Int)) = false := by simp [hk0]
        have d3 : (k == (1 : Int)) = false := by simp [hk1]
        have d4 : (k != (1 : Int)) = true := by simp [hk1]
        have hx0 : x = 0 := hvx hk0
        subst hx0
        simp only [gfin, hk0, hk1, if_false] at hGET ⊢
        go_enter Try.func75, Try.ntmps75
        go_wp2_with fail
        refine (hGET.out _ (by (repeat (first | with_reducible exact Below.refl _ _ | with_reducible assumption | (with_reducible refine below_alloc ?_ _) | (with_reducible refine Below.setCell ?_ (by first | omega | (simp; done) | (simp; omega)) _) | (with_reducible refine Below.drew ?_) | (with_reducible refine below_drewN ?_ _) | (refine below_then (by with_reducible assumption) ?_))))).mono ?_
        rintro r w1 ⟨rfl, hb⟩
        have B0 : Blk w1 w.heap.size 61 #[.slice a B.length c, .int .i64 (s.p : Int), .int .i64 s.k, .int .i64 s.f] := Blk.later (by (repeat (first | assumption | exact Blk.newAt _ _ _ (by first | (simp; done) | (simp; omega)) | refine Blk.alloc ?_ _ | refine Blk.drew ?_ | refine Blk.drewN ?_ _ | refine Blk.far ?_ (by first | (simp; done) | (simp; omega)) _))) hb
        have B1 : Blk w1 (w.heap.size + 1) 61 #[.slice none 0 0, .int .i64 0, .int .i64 0, .int .i64 0] := Blk.later (by (repeat (first | assumption | exact Blk.newAt _ _ _ (by first | (simp; done) | (simp; omega)) | refine Blk.alloc ?_ _ | refine Blk.drew ?_ | refine Blk.drewN ?_ _ | refine Blk.far ?_ (by first | (simp; done) | (simp; omega)) _))) hb
        have hbw : Below w.heap.size w w1 := by (repeat (first | with_reducible exact Below.refl _ _ | with_reducible assumption | (with_reducible refine below_alloc ?_ _) | (with_reducible refine Below.setCell ?_ (by first | omega | (simp; done) | (simp; omega)) _) | (with_reducible refine Below.drew ?_) | (with_reducible refine below_drewN ?_ _) | (refine below_then (by with_reducible assumption) ?_)))
        obtain ⟨x0, x1, x2, x3, e0, e1, e2, e3, l0⟩ := c_blk B0
        obtain ⟨y0, y1, y2, y3, g0, g1, g2, g3, l1⟩ := c_blk B1
        clear hb
        go_wp2_with fail
        refine (ref01_at _ k _ hk0).mono ?_
        rintro r w2 ⟨rfl, hb2⟩
        have B0' : Blk w2 w.heap.size 61 #[.slice a B.length c, .int .i64 ((s.p : Int) + ((u : Int) - 1) + 1), .int .i64 s.k, .int .i64 s.f] := Blk.later (Blk.alloc (Blk.set B0 1 (.int .i64 ((s.p : Int) + ((u : Int) - 1) + 1))) _) hb2
        have B1' : Blk w2 (w.heap.size + 1) 61 #[.slice none 0 0, .int .i64 0, .int .i64 0, .int .i64 0] := Blk.later (Blk.alloc (Blk.far B1 (by simp) _) _) hb2
        have BF : Blk w2 w1.heap.size 48 #[.int .i64 k, .int .i64 ((u : Int) - 1)] := Blk.later (Blk.newAt _ _ _ (by simp [World.setCell])) hb2
        have hbw2 : Below w.heap.size w w2 := by (repeat (first | with_reducible exact Below.refl _ _ | with_reducible assumption | (with_reducible refine below_alloc ?_ _) | (with_reducible refine Below.setCell ?_ (by first | omega | (simp; done) | (simp; omega)) _) | (with_reducible refine Below.drew ?_) | (with_reducible refine below_drewN ?_ _) | (refine below_then (by with_reducible assumption) ?_)))
        clear x0 x1 x2 x3 e0 e1 e2 e3 l0 y0 y1 y2 y3 g0 g1 g2 g3 l1 B0 B1 hb2
        have HB0 := hid B0'
        have HB1 := hid B1'
        obtain ⟨x0, x1, x2, x3, e0, e1, e2, e3, l0⟩ := c_blk B0'
        obtain ⟨z0, z1, f0, f1, lz⟩ := f_blk BF
        clear B0' B1' BF
        have hK0 := hid hk0
        clear hk4 hk0 hk1
        go_upto_region 13 with (fail)
        refine wp_world (fun W => Blk W w.heap.size 61 #[.slice a B.length c, .int .i64 ((s.p : Int) + ((u : Int) - 1) + 1), .int .i64 k, .int .i64 ((s.p : Int) + ((u : Int) - 1))] ∧ Blk W (w.heap.size + 1) 61 #[.slice none 0 0, .int .i64 0, .int .i64 0, .int .i64 0] ∧ Below w.heap.size w W) ⟨?_, ?_, by (repeat (first | with_reducible exact Below.refl _ _ | with_reducible assumption | (with_reducible refine below_alloc ?_ _) | (with_reducible refine Below.setCell ?_ (by first | omega | (simp; done) | (simp; omega)) _) | (with_reducible refine Below.drew ?_) | (with_reducible refine below_drewN ?_ _) | (refine below_then (by with_reducible assumption) ?_)))⟩ ?_
        · exact Blk.set (Blk.set (Blk.set HB0.out 2 _) 3 _) 3 _
        · exact Blk.far (Blk.far (Blk.far HB1.out (by simp) _) (by simp) _) (by simp) _
        rintro W ⟨B0, B1, hbW⟩
        clear x0 x1 x2 x3 e0 e1 e2 e3 l0 z0 z1 f0 f1 lz
        obtain ⟨x0, x1, x2, x3, e0, e1, e2, e3, l0⟩ := c_blk B0
        obtain ⟨y0, y1, y2, y3, g0, g1, g2, g3, l1⟩ := c_blk B1
        clear B0 B1
        go_wp2
        refine bodyPost_ret (v := .tuple #[.agg #[.slice a B.length c, .int .i64 ((s.p : Int) + ((u : Int) - 1) + 1), .int .i64 k, .int .i64 ((s.p : Int) + ((u : Int) - 1))], .int .u64 0]) (by simp [results, Try.results75, go_sem, y0, y1, y2, y3, l1]) rfl ⟨by rw [show ((s.p : Int) + ((u : Int) - 1) + 1) = ((s.p + u : Nat) : Int) by omega, show (s.p : Int) + ((u : Int) - 1) = (s.p : Int) + (u : Int) - 1 by omega]; rfl, by (repeat (first | with_reducible exact Below.refl _ _ | with_reducible assumption | (with_reducible refine below_alloc ?_ _) | (with_reducible refine Below.setCell ?_ (by first | omega | (simp; done) | (simp; omega)) _) | (with_reducible refine Below.drew ?_) | (with_reducible refine below_drewN ?_ _) | (refine below_then (by with_reducible assumption) ?_)))⟩
  · have d0 : (s.k != (0 : Int)) = true := by simp [h0]
    have hnum : s.num B = (s, 0) := by unfold Rs.num; rw [if_neg h0]
    rw [hnum]
    clear hl hs h0 hnum
    unfold CV
    go_enter Try.func75, Try.ntmps75
    go_wp2
    refine bodyPost_ret (v := .tuple #[.agg #[.slice a B.length c, .int .i64 (s.p : Int), .int .i64 s.k, .int .i64 s.f], .int .u64 0]) (by simp [results, Try.results75, go_sem]) rfl ⟨rfl, by (repeat (first | with_reducible exact Below.refl _ _ | with_reducible assumption | (with_reducible refine below_alloc ?_ _) | (with_reducible refine Below.setCell ?_ (by first | omega | (simp; done) | (simp; omega)) _) | (with_reducible refine Below.drew ?_) | (with_reducible refine below_drewN ?_ _) | (refine below_then (by with_reducible assumption) ?_)))⟩
end Go.Proofs.Ytgcdbnbdbjaijaa
namespace Go.Proofs.Ytgcdbnbdbjaijaa
open Go.RowKit Go.Bs Go.Maps
set_option linter.unusedVariables false
set_option linter.unusedSimpArgs false

set_option maxRecDepth 100000 in
set_option maxHeartbeats 3200000 in
theorem ref04_most (w : World) (a : Option Addr) (c : Nat) (B : List UInt8) (hl : rBytes.r (· < w.heap.size) w [.slice a B.length c] B) (s : Rs) (hs : s.ok B.length) (hB : B.length ≤ 1000000000000) (m : Nat) :
    Calls Try.prog 125 #[CV a B.length c s, .int .u64 (m : Int)] w fun r w' => r = .returned (.tuple #[CV a B.length c (s.most B m).1, .int .u64 ((s.most B m).2 : Int)]) ∧ Below w.heap.size w w' := by
  have hR := hid (fun (W : World) (hW : Below w.heap.size w W) => ref04_read W a c B (lift hl hW) s hs hB)
  have hF := hid (fun (W : World) (t : Rs) => ref02_fail W a B.length c t 2 s.p (by omega))
  unfold Rs.most
  generalize s.num B = N at *
  obtain ⟨s1, x⟩ := N
  dsimp only at *
  clear hl hs
  unfold CV at *
  by_cases hm : m < x
  · have d1 : decide (m < x) = true := decide_eq_true hm
    have d1' : decide ((m : Int) < (x : Int)) = true := decide_eq_true (by omega)
    rw [if_pos hm]
    have HF := hid (fun (W : World) => hF.out W s1)
    dsimp only
    generalize s1.fail 2 s.p = s2 at *
    clear hm hF
    go_enter Try.func125, Try.ntmps125
    go_wp2_with fail
    refine (hR.out _ (by (repeat (first | with_reducible exact Below.refl _ _ | with_reducible assumption | (with_reducible refine below_alloc ?_ _) | (with_reducible refine Below.setCell ?_ (by first | omega | (simp; done) | (simp; omega)) _) | (with_reducible refine Below.drew ?_) | (with_reducible refine below_drewN ?_ _) | (refine below_then (by with_reducible assumption) ?_))))).mono ?_
    rintro r w1 ⟨rfl, hb⟩
    have B1 : Blk w1 (w.heap.size + 1) 61 #[.slice none 0 0, .int .i64 0, .int .i64 0, .int .i64 0] := Blk.later (by (repeat (first | assumption | exact Blk.newAt _ _ _ (by first | (simp; done) | (simp; omega)) | refine Blk.alloc ?_ _ | refine Blk.drew ?_ | refine Blk.drewN ?_ _ | refine Blk.far ?_ (by first | (simp; done) | (simp; omega)) _))) hb
    have hbw : Below w.heap.size w w1 := by (repeat (first | with_reducible exact Below.refl _ _ | with_reducible assumption | (with_reducible refine below_alloc ?_ _) | (with_reducible refine Below.setCell ?_ (by first | omega | (simp; done) | (simp; omega)) _) | (with_reducible refine Below.drew ?_) | (with_reducible refine below_drewN ?_ _) | (refine below_then (by with_reducible assumption) ?_)))
    clear hb
    go_wp2_with fail
    refine (HF.out _).mono ?_
    rintro r w2 ⟨rfl, hb2⟩
    have B1' : Blk w2 (w.heap.size + 1) 61 #[.slice none 0 0, .int .i64 0, .int .i64 0, .int .i64 0] := Blk.later (by (repeat (first | assumption | exact Blk.newAt _ _ _ (by first | (simp; done) | (simp; omega)) | refine Blk.alloc ?_ _ | refine Blk.drew ?_ | refine Blk.drewN ?_ _ | refine Blk.far ?_ (by first | (simp; done) | (simp; omega)) _))) hb2
    have hbw2 : Below w.heap.size w w2 := by (repeat (first | with_reducible exact Below.refl _ _ | with_reducible assumption | (with_reducible refine below_alloc ?_ _) | (with_reducible refine Below.setCell ?_ (by first | omega | (simp; done) | (simp; omega)) _) | (with_reducible refine Below.drew ?_) | (with_reducible refine below_drewN ?_ _) | (refine below_then (by with_reducible assumption) ?_)))
    obtain ⟨y0, y1, y2, y3, g0, g1, g2, g3, l1⟩ := c_blk B1'
    clear hb2 B1 B1'
    go_wp2
    refine bodyPost_ret (v := .tuple #[.agg #[.slice a B.length c, .int .i64 (s2.p : Int), .int .i64 s2.k, .int .i64 s2.f], .int .u64 0]) (by simp [results, Try.results125, go_sem, y0, y1, y2, y3, l1]) rfl ⟨rfl, by (repeat (first | with_reducible exact Below.refl _ _ | with_reducible assumption | (with_reducible refine below_alloc ?_ _) | (with_reducible refine Below.setCell ?_ (by first | omega | (simp; done) | (simp; omega)) _) | (with_reducible refine Below.drew ?_) | (with_reducible refine below_drewN ?_ _) | (refine below_then (by with_reducible assumption) ?_)))⟩
  · have d1 : decide (m < x) = false := decide_eq_false hm
    have d1' : decide ((m : Int) < (x : Int)) = false := decide_eq_false (by omega)
    rw [if_neg hm]
    dsimp only
    clear hm hF
    go_enter Try.func125, Try.ntmps125
    go_wp2_with fail
    refine (hR.out _ (by (repeat (first | with_reducible exact Below.refl _ _ | with_reducible assumption | (with_reducible refine below_alloc ?_ _) | (with_reducible refine Below.setCell ?_ (by first | omega | (simp; done) | (simp; omega)) _) | (with_reducible refine Below.drew ?_) | (with_reducible refine below_drewN ?_ _) | (refine below_then (by with_reducible assumption) ?_))))).mono ?_
    rintro r w1 ⟨rfl, hb⟩
    have B1 : Blk w1 (w.heap.size + 1) 61 #[.slice none 0 0, .int .i64 0, .int .i64 0, .int .i64 0] := Blk.later (by (repeat (first | assumption | exact Blk.newAt _ _ _ (by first | (simp; done) | (simp; omega)) | refine Blk.alloc ?_ _ | refine Blk.drew ?_ | refine Blk.drewN ?_ _ | refine Blk.far ?_ (by first | (simp; done) | (simp; omega)) _))) hb
    have hbw : Below w.heap.size w w1 := by (repeat (first | with_reducible exact Below.refl _ _ | with_reducible assumption | (with_reducible refine below_alloc ?_ _) | (with_reducible refine Below.setCell ?_ (by first | omega | (simp; done) | (simp; omega)) _) | (with_reducible refine Below.drew ?_) | (with_reducible refine below_drewN ?_ _) | (refine below_then (by with_reducible assumption) ?_)))
    obtain ⟨y0, y1, y2, y3, g0, g1, g2, g3, l1⟩ := c_blk B1
    clear hb B1
    go_wp2
    refine bodyPost_ret (v := .tuple #[.agg #[.slice a B.length c, .int .i64 (s1.p : Int), .int .i64 s1.k, .int .i64 s1.f], .int .u64 (x : Int)]) (by simp [results, Try.results125, go_sem, y0, y1, y2, y3, l1]) rfl ⟨rfl, by (repeat (first | with_reducible exact Below.refl _ _ | with_reducible assumption | (with_reducible refine below_alloc ?_ _) | (with_reducible refine Below.setCell ?_ (by first | omega | (simp; done) | (simp; omega)) _) | (with_reducible refine Below.drew ?_) | (with_reducible refine below_drewN ?_ _) | (refine below_then (by with_reducible assumption) ?_)))⟩

set_option maxRecDepth 100000 in
set_option maxHeartbeats 3200000 in
theorem ref04_int (w : World) (a : Option Addr) (c : Nat) (B : List UInt8) (hl : rBytes.r (· < w.heap.size) w [.slice a B.length c] B) (s : Rs) (hs : s.ok B.length) (hB : B.length ≤ 1000000000000) (m : Int) (hm : -9223372036854775808 ≤ m ∧ m ≤ 9223372036854775807) :
    Calls Try.prog 92 #[CV a B.length c s, .int .i64 m] w fun r w' => r = .returned (.tuple #[CV a B.length c (s.int B m).1, .int .i64 ((s.int B m).2 : Int)]) ∧ Below w.heap.size w w' := by
  by_cases h0 : 0 ≤ m
  · obtain ⟨n, rfl⟩ : ∃ n : Nat, m = n := ⟨m.toNat, by omega⟩
    have hM := hid (fun (W : World) (hW : Below w.heap.size w W) => ref04_most W a c B (lift hl hW) s hs hB n)
    have hle : (s.int B n).2 ≤ 9223372036854775807 := by have := Rs.int_le (B := B) (s := s) (m := (n : Int)); omega
    have e : s.int B n = s.most B n := by unfold Rs.int; rw [if_pos h0]; rfl
    rw [e] at hle ⊢
    have d1 : decide ((0 : Int) ≤ (n : Int)) = true := decide_eq_true h0
    generalize s.most B n = N at *
    obtain ⟨s1, x⟩ := N
    dsimp only at *
    clear hl hs e
    unfold CV at *
    go_enter Try.func92, Try.ntmps92
    go_wp2_with fail
    refine (hM.out _ (by (repeat (first | with_reducible exact Below.refl _ _ | with_reducible assumption | (with_reducible refine below_alloc ?_ _) | (with_reducible refine Below.setCell ?_ (by first | omega | (simp; done) | (simp; omega)) _) | (with_reducible refine Below.drew ?_) | (with_reducible refine below_drewN ?_ _) | (refine below_then (by with_reducible assumption) ?_))))).mono ?_
    rintro r w1 ⟨rfl, hb⟩
    have B1 : Blk w1 (w.heap.size + 1) 61 #[.slice none 0 0, .int .i64 0, .int .i64 0, .int .i64 0] := Blk.later (by (repeat (first | assumption | exact Blk.newAt _ _ _ (by first | (simp; done) | (simp; omega)) | refine Blk.alloc ?_ _ | refine Blk.drew ?_ | refine Blk.drewN ?_ _ | refine Blk.far ?_ (by first | (simp; done) | (simp; omega)) _))) hb
    have hbw : Below w.heap.size w w1 := by (repeat (first | with_reducible exact Below.refl _ _ | with_reducible assumption | (with_reducible refine below_alloc ?_ _) | (with_reducible refine Below.setCell ?_ (by first | omega | (simp; done) | (simp; omega)) _) | (with_reducible refine Below.drew ?_) | (with_reducible refine below_drewN ?_ _) | (refine below_then (by with_reducible assumption) ?_)))
    obtain ⟨y0, y1, y2, y3, g0, g1, g2, g3, l1⟩ := c_blk B1
    clear hb B1
    go_wp2
    refine bodyPost_ret (v := .tuple #[.agg #[.slice a B.length c, .int .i64 (s1.p : Int), .int .i64 s1.k, .int .i64 s1.f], .int .i64 (x : Int)]) (by simp [results, Try.results92, go_sem, y0, y1, y2, y3, l1]) rfl ⟨rfl, by (repeat (first | with_reducible exact Below.refl _ _ | with_reducible assumption | (with_reducible refine below_alloc ?_ _) | (with_reducible refine Below.setCell ?_ (by first | omega | (simp; done) | (simp; omega)) _) | (with_reducible refine Below.drew ?_) | (with_reducible refine below_drewN ?_ _) | (refine below_then (by with_reducible assumption) ?_)))⟩
  · have hR := hid (fun (W : World) (hW : Below w.heap.size w W) => ref04_read W a c B (lift hl hW) s hs hB)
    have e : s.int B m = ((s.num B).1.fail 2 s.p, 0) := by unfold Rs.int; rw [if_neg h0]
    have hF := hid (fun (W : World) => ref02_fail W a B.length c (s.num B).1 2 s.p (by omega))
    rw [e]
    have d1 : decide ((0 : Int) ≤ m) = false := decide_eq_false h0
    dsimp only at *
    generalize (s.num B).1.fail 2 s.p = s2 at *
    generalize s.num B = N at *
    obtain ⟨s1, x⟩ := N
    dsimp only at *
    clear hl hs e h0
    unfold CV at *
    go_enter Try.func92, Try.ntmps92
    go_wp2_with fail
    refine (hR.out _ (by (repeat (first | with_reducible exact Below.refl _ _ | with_reducible assumption | (with_reducible refine below_alloc ?_ _) | (with_reducible refine Below.setCell ?_ (by first | omega | (simp; done) | (simp; omega)) _) | (with_reducible refine Below.drew ?_) | (with_reducible refine below_drewN ?_ _) | (refine below_then (by with_reducible assumption) ?_))))).mono ?_
    rintro r w1 ⟨rfl, hb⟩
    have B0 : Blk w1 w.heap.size 61 #[.slice a B.length c, .int .i64 (s.p : Int), .int .i64 s.k, .int .i64 s.f] := Blk.later (by (repeat (first | assumption | exact Blk.newAt _ _ _ (by first | (simp; done) | (simp; omega)) | refine Blk.alloc ?_ _ | refine Blk.drew ?_ | refine Blk.drewN ?_ _ | refine Blk.far ?_ (by first | (simp; done) | (simp; omega)) _))) hb
    have B1 : Blk w1 (w.heap.size + 1) 61 #[.slice none 0 0, .int .i64 0, .int .i64 0, .int .i64 0] := Blk.later (by (repeat (first | assumption | exact Blk.newAt _ _ _ (by first | (simp; done) | (simp; omega)) | refine Blk.alloc ?_ _ | refine Blk.drew ?_ | refine Blk.drewN ?_ _ | refine Blk.far ?_ (by first | (simp; done) | (simp; omega)) _))) hb
    have hbw : Below w.heap.size w w1 := by (repeat (first | with_reducible exact Below.refl _ _ | with_reducible assumption | (with_reducible refine below_alloc ?_ _) | (with_reducible refine Below.setCell ?_ (by first | omega | (simp; done) | (simp; omega)) _) | (with_reducible refine Below.drew ?_) | (with_reducible refine below_drewN ?_ _) | (refine below_then (by with_reducible assumption) ?_)))
    obtain ⟨x0, x1, x2, x3, e0, e1, e2, e3, l0⟩ := c_blk B0
    clear hb
    go_wp2_with fail
    refine (hF.out _).mono ?_
    rintro r w2 ⟨rfl, hb2⟩
    have B1' : Blk w2 (w.heap.size + 1) 61 #[.slice none 0 0, .int .i64 0, .int .i64 0, .int .i64 0] := Blk.later (by (repeat (first | assumption | exact Blk.newAt _ _ _ (by first | (simp; done) | (simp; omega)) | refine Blk.alloc ?_ _ | refine Blk.drew ?_ | refine Blk.drewN ?_ _ | refine Blk.far ?_ (by first | (simp; done) | (simp; omega)) _))) hb2
    have hbw2 : Below w.heap.size w w2 := by (repeat (first | with_reducible exact Below.refl _ _ | with_reducible assumption | (with_reducible refine below_alloc ?_ _) | (with_reducible refine Below.setCell ?_ (by first | omega | (simp; done) | (simp; omega)) _) | (with_reducible refine Below.drew ?_) | (with_reducible refine below_drewN ?_ _) | (refine below_then (by with_reducible assumption) ?_)))
    obtain ⟨y0, y1, y2, y3, g0, g1, g2, g3, l1⟩ := c_blk B1'
    clear hb2 B1 B1' B0
    go_wp2
    refine bodyPost_ret (v := .tuple #[.agg #[.slice a B.length c, .int .i64 (s2.p : Int), .int .i64 s2.k, .int .i64 s2.f], .int .i64 0]) (by simp [results, Try.results92, go_sem, y0, y1, y2, y3, l1]) rfl ⟨rfl, by (repeat (first | with_reducible exact Below.refl _ _ | with_reducible assumption | (with_reducible refine below_alloc ?_ _) | (with_reducible refine Below.setCell ?_ (by first | omega | (simp; done) | (simp; omega)) _) | (with_reducible refine Below.drew ?_) | (with_reducible refine below_drewN ?_ _) | (refine below_then (by with_reducible assumption) ?_)))⟩

/-- A row of bytes, with how many there are ahead of it. -/
def Rs.blob (B : List UInt8) (s : Rs) (m : Int) : Rs × List UInt8 := (s.int B m).1.take B ((s.int B m).2 : Int)
set_option maxRecDepth 100000 in
set_option maxHeartbeats 3200000 in
theorem ref06_read (w : World) (a : Option Addr) (c : Nat) (B : List UInt8) (hl : rBytes.r (· < w.heap.size) w [.slice a B.length c] B) (s : Rs) (hs : s.ok B.length) (hB : B.length ≤ 1000000000000) (m : Int) (hm : -9223372036854775808 ≤ m ∧ m ≤ 9223372036854775807) :
    Calls Try.prog 94 #[CV a B.length c s, .int .i64 m] w fun r w' => ∃ v, r = .returned (.tuple #[CV a B.length c (s.blob B m).1, v]) ∧ rBytes.r (fun q => w.heap.size ≤ q ∧ q < w'.heap.size) w' [v] (s.blob B m).2 ∧ Below w.heap.size w w' := by
  have hI := hid (fun (W : World) (hW : Below w.heap.size w W) => ref04_int W a c B (lift hl hW) s hs hB m hm)
  have hok := Rs.int_ok (B := B) hs (m := m)
  have hle : ((s.int B m).2 : Int) ≤ 9223372036854775807 := by have := Rs.int_le (B := B) (s := s) (m := m); omega
  have hT := hid (fun (W : World) (hW : Below w.heap.size w W) => ref02_take W a c B (lift hl hW) (s.int B m).1 hok ((s.int B m).2 : Int) hle hB)
  unfold Rs.blob
  generalize (s.int B m).1.take B ((s.int B m).2 : Int) = T at *
  generalize s.int B m = N at *
  obtain ⟨s1, x⟩ := N
  obtain ⟨s2, D⟩ := T
  dsimp only at *
  clear hl hs hok
  unfold CV at *
  go_enter Try.func94, Try.ntmps94
  go_wp2_with fail
  refine (hI.out _ (by (repeat (first | with_reducible exact Below.refl _ _ | with_reducible assumption | (with_reducible refine below_alloc ?_ _) | (with_reducible refine Below.setCell ?_ (by first | omega | (simp; done) | (simp; omega)) _) | (with_reducible refine Below.drew ?_) | (with_reducible refine below_drewN ?_ _) | (refine below_then (by with_reducible assumption) ?_))))).mono ?_
  rintro r w1 ⟨rfl, hb⟩
  have B1 : Blk w1 (w.heap.size + 1) 61 #[.slice none 0 0, .int .i64 0, .int .i64 0, .int .i64 0] := Blk.later (by (repeat (first | assumption | exact Blk.newAt _ _ _ (by first | (simp; done) | (simp; omega)) | refine Blk.alloc ?_ _ | refine Blk.drew ?_ | refine Blk.drewN ?_ _ | refine Blk.far ?_ (by first | (simp; done) | (simp; omega)) _))) hb
  have hbw : Below w.heap.size w w1 := by (repeat (first | with_reducible exact Below.refl _ _ | with_reducible assumption | (with_reducible refine below_alloc ?_ _) | (with_reducible refine Below.setCell ?_ (by first | omega | (simp; done) | (simp; omega)) _) | (with_reducible refine Below.drew ?_) | (with_reducible refine below_drewN ?_ _) | (refine below_then (by with_reducible assumption) ?_)))
  have hs1 := hb.size
  simp at hs1
  clear hb
  go_wp2_with fail
  refine (hT.out _ (by (repeat (first | with_reducible exact Below.refl _ _ | with_reducible assumption | (with_reducible refine below_alloc ?_ _) | (with_reducible refine Below.setCell ?_ (by first | omega | (simp; done) | (simp; omega)) _) | (with_reducible refine Below.drew ?_) | (with_reducible refine below_drewN ?_ _) | (refine below_then (by with_reducible assumption) ?_))))).mono ?_
  rintro r w2 ⟨v, rfl, hr, hb2⟩
  have B1' : Blk w2 (w.heap.size + 1) 61 #[.slice none 0 0, .int .i64 0, .int .i64 0, .int .i64 0] := Blk.later (by (repeat (first | assumption | exact Blk.newAt _ _ _ (by first | (simp; done) | (simp; omega)) | refine Blk.alloc ?_ _ | refine Blk.drew ?_ | refine Blk.drewN ?_ _ | refine Blk.far ?_ (by first | (simp; done) | (simp; omega)) _))) hb2
  have hbw2 : Below w.heap.size w w2 := by (repeat (first | with_reducible exact Below.refl _ _ | with_reducible assumption | (with_reducible refine below_alloc ?_ _) | (with_reducible refine Below.setCell ?_ (by first | omega | (simp; done) | (simp; omega)) _) | (with_reducible refine Below.drew ?_) | (with_reducible refine below_drewN ?_ _) | (refine below_then (by with_reducible assumption) ?_)))
  obtain ⟨y0, y1, y2, y3, g0, g1, g2, g3, l1⟩ := c_blk B1'
  obtain ⟨a1, c1, hv1, hr2, _⟩ := sl_form hr
  simp only [List.cons.injEq, and_true] at hv1
  subst hv1
  have HR := hid hr2
  clear hr hr2 hb2 B1 B1'
  go_wp2
  refine bodyPost_ret (v := .tuple #[.agg #[.slice a B.length c, .int .i64 (s2.p : Int), .int .i64 s2.k, .int .i64 s2.f], .slice a1 D.length c1]) (by simp [results, Try.results94, go_sem, y0, y1, y2, y3, l1]) rfl ⟨_, rfl, ?_, by (repeat (first | with_reducible exact Below.refl _ _ | with_reducible assumption | (with_reducible refine below_alloc ?_ _) | (with_reducible refine Below.setCell ?_ (by first | omega | (simp; done) | (simp; omega)) _) | (with_reducible refine Below.drew ?_) | (with_reducible refine below_drewN ?_ _) | (refine below_then (by with_reducible assumption) ?_)))⟩
  refine rBytes.mono (rBytes.keep HR.out fun q hq => ?_) fun q hq => ⟨by have := hq.1; simp at this; omega, by simp [World.setCell]; exact hq.2⟩
  have := hq.1
  simp at this
  repeat (rw [Below.heap_setCell _ _ _ _ (by dsimp only; omega)])

set_option maxRecDepth 100000 in
theorem blob_read (w : World) {g : Nat} {B : List UInt8} {a : Option Addr} {s : Rs} (h : RdAt w g B a s) (hB : B.length ≤ 1000000000000) (m : Int) (hm : -9223372036854775808 ≤ m ∧ m ≤ 9223372036854775807) : Calls Try.prog 123 #[.pointer (some ⟨g, 0, none⟩), .int .i64 m] w fun r w' => ∃ v, r = .returned v ∧ rBytes.r (fun q => w.heap.size ≤ q ∧ q < w'.heap.size) w' [v] (s.blob B m).2 ∧ RdStep w g B a (s.blob B m).1 w' := by
  have HI := hid (varint_int w h hB m hm)
  have hle : ((s.int B m).2 : Int) ≤ 9223372036854775807 := by have := Rs.int_le (B := B) (s := s) (m := m); omega
  have hT := hid (fun (W : World) (h : RdAt W g B a (s.int B m).1) => rd_take W h ((s.int B m).2 : Int) hle hB)
  unfold Rs.blob
  generalize (s.int B m).1.take B ((s.int B m).2 : Int) = T at *
  generalize s.int B m = N at *
  obtain ⟨s1, x⟩ := N
  obtain ⟨s2, D⟩ := T
  dsimp only at *
  clear h
  go_enter Try.func123, Try.ntmps123
  go_wp2_with fail
  refine HI.out.mono ?_
  rintro r w1 ⟨rfl, hst⟩
  have HST := hid hst
  have hs1 := hst.size
  have HT := hid (hT.out w1 hst.1)
  clear hst
  go_wp2_with fail
  refine HT.out.mono ?_
  rintro r w2 ⟨v, rfl, hr, hst2⟩
  obtain ⟨a1, c1, hv1, hr2, _⟩ := sl_form hr
  simp only [List.cons.injEq, and_true] at hv1
  subst hv1
  have HR := hid hr2
  have HST2 := hid hst2
  clear hr hr2 hst2
  go_wp2
  go_ret
  exact ⟨_, rfl, rBytes.mono HR.out fun q hq => ⟨by omega, hq.2⟩, RdStep.trans HST.out.2 HST2.out⟩
end Go.Proofs.Ytgcdbnbdbjaijaa
namespace Go.Proofs.Ytgcdbnbdbjaijaa
open Go.RowKit Go.Bs Go.Maps
set_option linter.unusedVariables false
set_option linter.unusedSimpArgs false

theorem t_blk {w : World} {g : Nat} {t : TypeId} {v0 v1 v2 : Value} (h : Blk w g t #[v0, v1, v2]) : w.cell? ⟨g, 0, none⟩ = some v0 ∧ w.cell? ⟨g, 1, none⟩ = some v1 ∧ w.cell? ⟨g, 2, none⟩ = some v2 ∧ w.frozen? ⟨g, 0, none⟩ = false ∧ w.frozen? ⟨g, 1, none⟩ = false ∧ w.frozen? ⟨g, 2, none⟩ = false ∧ g < w.heap.size :=
  ⟨h.cell 0, h.cell 1, h.cell 2, h.free 0, h.free 1, h.free 2, h.lt⟩
def Rs.tok (B : List UInt8) (s : Rs) : Rs × Tok :=
  if (s.num B).1.k = 0 then
    (if (s.num B).2 % 2 = 0 then
      (if 1048576 < (s.num B).2 / 2 + 1 then ((s.num B).1.fail 2 s.p, ⟨[], 0, 0⟩)
      else if ((s.num B).1.take B (((s.num B).2 / 2 + 1 : Nat) : Int)).1.k = 0 then (((s.num B).1.take B (((s.num B).2 / 2 + 1 : Nat) : Int)).1, ⟨((s.num B).1.take B (((s.num B).2 / 2 + 1 : Nat) : Int)).2, 0, 0⟩)
      else (((s.num B).1.take B (((s.num B).2 / 2 + 1 : Nat) : Int)).1, ⟨[], 0, 0⟩))
    else if 1048572 < (s.num B).2 / 2 then ((s.num B).1.fail 2 s.p, ⟨[], 0, 0⟩)
    else if ((s.num B).1.num B).1.k = 0 then
      (if 65535 < ((s.num B).1.num B).2 then (((s.num B).1.num B).1.fail 10 (s.num B).1.p, ⟨[], 0, 0⟩)
      else (((s.num B).1.num B).1, ⟨[], ((((s.num B).1.num B).2 + 1 : Nat) : Int), (((s.num B).2 / 2 + 4 : Nat) : Int)⟩))
    else (((s.num B).1.num B).1, ⟨[], 0, 0⟩))
  else ((s.num B).1, ⟨[], 0, 0⟩)

set_option maxRecDepth 100000 in
set_option maxHeartbeats 6400000 in
theorem ref11_read (w : World) (a : Option Addr) (c : Nat) (B : List UInt8) (hl : rBytes.r (· < w.heap.size) w [.slice a B.length c] B) (s : Rs) (hs : s.ok B.length) (hB : B.length ≤ 1000000000000) :
    Calls Try.prog 77 #[CV a B.length c s] w fun r w' => ∃ v, r = .returned (.tuple #[CV a B.length c (s.tok B).1, .agg #[v, .int .i64 (s.tok B).2.off, .int .i64 (s.tok B).2.len]]) ∧ rBytes.r (fun q => w.heap.size ≤ q ∧ q < w'.heap.size) w' [v] (s.tok B).2.lit ∧ Below w.heap.size w w' := by
  have hR := hid (fun (W : World) (hW : Below w.heap.size w W) => ref04_read W a c B (lift hl hW) s hs hB)
  have hok := Rs.num_ok hs
  have hsm := Rs.num_small (B := B) (s := s)
  have hR2 := hid (fun (W : World) (hW : Below w.heap.size w W) => ref04_read W a c B (lift hl hW) (s.num B).1 hok hB)
  have hsm2 := Rs.num_small (B := B) (s := (s.num B).1)
  have hF := hid (fun (W : World) => ref02_fail W a B.length c (s.num B).1 2 s.p (by omega))
  have hF2 := hid (fun (W : World) => ref02_fail W a B.length c ((s.num B).1.num B).1 10 (s.num B).1.p (by omega))
  have hT := hid (fun (W : World) (hW : Below w.heap.size w W) (hn : (s.num B).2 / 2 + 1 ≤ 1048576) => ref02_take W a c B (lift hl hW) (s.num B).1 hok (((s.num B).2 / 2 + 1 : Nat) : Int) (by omega) hB)
  unfold Rs.tok
  generalize (s.num B).1.take B (((s.num B).2 / 2 + 1 : Nat) : Int) = T at *
  generalize ((s.num B).1.num B).1.fail 10 (s.num B).1.p = F2 at *
  generalize (s.num B).1.num B = M at *
  generalize (s.num B).1.fail 2 s.p = F1 at *
  generalize s.num B = N at *
  obtain ⟨s1, x⟩ := N
  obtain ⟨s2, D⟩ := T
  obtain ⟨s3, y⟩ := M
  dsimp only at *
  clear hl hs hok
  unfold CV at *
  by_cases hk : s1.k = 0
  · have dk : (s1.k != (0 : Int)) = false := by simp [hk]
    rw [if_pos hk]
    have HK := hid hk
    clear hk
    by_cases h2 : x % 2 = 0
    · have d2 : (((x : Int) % 2) == 0) = true := by rw [beq_iff_eq]; omega
      rw [if_pos h2]
      clear h2
      by_cases h3 : 1048576 < x / 2 + 1
      · have d3 : decide ((1048576 : Int) < (x : Int) / 2 + 1) = true := decide_eq_true (by omega)
        rw [if_pos h3]
        clear h3
        dsimp only
        go_enter Try.func77, Try.ntmps77
        go_wp2_with fail
        refine (hR.out _ (by (repeat (first | with_reducible exact Below.refl _ _ | with_reducible assumption | (with_reducible refine below_alloc ?_ _) | (with_reducible refine Below.setCell ?_ (by first | omega | (simp; done) | (simp; omega)) _) | (with_reducible refine Below.drew ?_) | (with_reducible refine below_drewN ?_ _) | (refine below_then (by with_reducible assumption) ?_))))).mono ?_
        rintro r w1 ⟨rfl, hb⟩
        have B1 : Blk w1 (w.heap.size + 1) 61 #[.slice none 0 0, .int .i64 0, .int .i64 0, .int .i64 0] := Blk.later (by (repeat (first | assumption | exact Blk.newAt _ _ _ (by first | (simp; done) | (simp; omega)) | refine Blk.alloc ?_ _ | refine Blk.drew ?_ | refine Blk.drewN ?_ _ | refine Blk.far ?_ (by first | (simp; done) | (simp; omega)) _))) hb
        have B2 : Blk w1 (w.heap.size + 1 + 1) 30 #[.slice none 0 0, .int .i64 0, .int .i64 0] := Blk.later (by (repeat (first | assumption | exact Blk.newAt _ _ _ (by first | (simp; done) | (simp; omega)) | refine Blk.alloc ?_ _ | refine Blk.drew ?_ | refine Blk.drewN ?_ _ | refine Blk.far ?_ (by first | (simp; done) | (simp; omega)) _))) hb
        have B0 : Blk w1 w.heap.size 61 #[.slice a B.length c, .int .i64 (s.p : Int), .int .i64 s.k, .int .i64 s.f] := Blk.later (by (repeat (first | assumption | exact Blk.newAt _ _ _ (by first | (simp; done) | (simp; omega)) | refine Blk.alloc ?_ _ | refine Blk.drew ?_ | refine Blk.drewN ?_ _ | refine Blk.far ?_ (by first | (simp; done) | (simp; omega)) _))) hb
        obtain ⟨x0, x1, x2, x3, e0, e1, e2, e3, l0⟩ := c_blk B0
        have hbw1 : Below w.heap.size w w1 := by (repeat (first | with_reducible exact Below.refl _ _ | with_reducible assumption | (with_reducible refine below_alloc ?_ _) | (with_reducible refine Below.setCell ?_ (by first | omega | (simp; done) | (simp; omega)) _) | (with_reducible refine Below.drew ?_) | (with_reducible refine below_drewN ?_ _) | (refine below_then (by with_reducible assumption) ?_)))
        have hsz1 := hb.size
        simp at hsz1
        clear hb
        go_wp2_with fail
        refine (hF.out _).mono ?_
        rintro r w2 ⟨rfl, hb⟩
        have B1 : Blk w2 (w.heap.size + 1) 61 #[.slice none 0 0, .int .i64 0, .int .i64 0, .int .i64 0] := Blk.later (by (repeat (first | assumption | exact Blk.newAt _ _ _ (by first | (simp; done) | (simp; omega)) | refine Blk.alloc ?_ _ | refine Blk.drew ?_ | refine Blk.drewN ?_ _ | refine Blk.far ?_ (by first | (simp; done) | (simp; omega)) _))) hb
        have B2 : Blk w2 (w.heap.size + 1 + 1) 30 #[.slice none 0 0, .int .i64 0, .int .i64 0] := Blk.later (by (repeat (first | assumption | exact Blk.newAt _ _ _ (by first | (simp; done) | (simp; omega)) | refine Blk.alloc ?_ _ | refine Blk.drew ?_ | refine Blk.drewN ?_ _ | refine Blk.far ?_ (by first | (simp; done) | (simp; omega)) _))) hb
        have hbw2 : Below w.heap.size w w2 := by (repeat (first | with_reducible exact Below.refl _ _ | with_reducible assumption | (with_reducible refine below_alloc ?_ _) | (with_reducible refine Below.setCell ?_ (by first | omega | (simp; done) | (simp; omega)) _) | (with_reducible refine Below.drew ?_) | (with_reducible refine below_drewN ?_ _) | (refine below_then (by with_reducible assumption) ?_)))
        have hsz2 := hb.size
        simp at hsz2
        clear hb
        obtain ⟨y0, y1, y2, y3, g0, g1, g2, g3, l1⟩ := c_blk B1
        obtain ⟨z0, z1, z2, f0, f1, f2, l2⟩ := t_blk B2
        clear B1 B2
        go_wp2
        refine bodyPost_ret (v := .tuple #[.agg #[.slice a B.length c, .int .i64 (F1.p : Int), .int .i64 F1.k, .int .i64 F1.f], .agg #[.slice none 0 0, .int .i64 0, .int .i64 0]]) (by simp [results, Try.results77, go_sem, y0, y1, y2, y3, l1, z0, z1, z2, l2]) rfl ⟨_, rfl, empty_bytes rfl rfl (by omega), by (repeat (first | with_reducible exact Below.refl _ _ | with_reducible assumption | (with_reducible refine below_alloc ?_ _) | (with_reducible refine Below.setCell ?_ (by first | omega | (simp; done) | (simp; omega)) _) | (with_reducible refine Below.drew ?_) | (with_reducible refine below_drewN ?_ _) | (refine below_then (by with_reducible assumption) ?_)))⟩
      · have d3 : decide ((1048576 : Int) < (x : Int) / 2 + 1) = false := decide_eq_false (by omega)
        rw [if_neg h3]
        have hT2 := hid (fun (W : World) (hW : Below w.heap.size w W) => hT.out W hW (by omega))
        rw [show ((x / 2 + 1 : Nat) : Int) = (x : Int) / 2 + 1 by omega] at hT2
        have hx2 : x / 2 + 1 ≤ 1048576 := by omega
        clear h3 hT
        by_cases h4 : s2.k = 0
        · have d4 : (s2.k != (0 : Int)) = false := by simp [h4]
          rw [if_pos h4]
          clear h4
          dsimp only
          go_enter Try.func77, Try.ntmps77
          go_wp2_with fail
          refine (hR.out _ (by (repeat (first | with_reducible exact Below.refl _ _ | with_reducible assumption | (with_reducible refine below_alloc ?_ _) | (with_reducible refine Below.setCell ?_ (by first | omega | (simp; done) | (simp; omega)) _) | (with_reducible refine Below.drew ?_) | (with_reducible refine below_drewN ?_ _) | (refine below_then (by with_reducible assumption) ?_))))).mono ?_
          rintro r w1 ⟨rfl, hb⟩
          have B1 : Blk w1 (w.heap.size + 1) 61 #[.slice none 0 0, .int .i64 0, .int .i64 0, .int .i64 0] := Blk.later (by (repeat (first | assumption | exact Blk.newAt _ _ _ (by first | (simp; done) | (simp; omega)) | refine Blk.alloc ?_ _ | refine Blk.drew ?_ | refine Blk.drewN ?_ _ | refine Blk.far ?_ (by first | (simp; done) | (simp; omega)) _))) hb
          have B2 : Blk w1 (w.heap.size + 1 + 1) 30 #[.slice none 0 0, .int .i64 0, .int .i64 0] := Blk.later (by (repeat (first | assumption | exact Blk.newAt _ _ _ (by first | (simp; done) | (simp; omega)) | refine Blk.alloc ?_ _ | refine Blk.drew ?_ | refine Blk.drewN ?_ _ | refine Blk.far ?_ (by first | (simp; done) | (simp; omega)) _))) hb
          have B0 : Blk w1 w.heap.size 61 #[.slice a B.length c, .int .i64 (s.p : Int), .int .i64 s.k, .int .i64 s.f] := Blk.later (by (repeat (first | assumption | exact Blk.newAt _ _ _ (by first | (simp; done) | (simp; omega)) | refine Blk.alloc ?_ _ | refine Blk.drew ?_ | refine Blk.drewN ?_ _ | refine Blk.far ?_ (by first | (simp; done) | (simp; omega)) _))) hb
          obtain ⟨x0, x1, x2, x3, e0, e1, e2, e3, l0⟩ := c_blk B0
          have hbw1 : Below w.heap.size w w1 := by (repeat (first | with_reducible exact Below.refl _ _ | with_reducible assumption | (with_reducible refine below_alloc ?_ _) | (with_reducible refine Below.setCell ?_ (by first | omega | (simp; done) | (simp; omega)) _) | (with_reducible refine Below.drew ?_) | (with_reducible refine below_drewN ?_ _) | (refine below_then (by with_reducible assumption) ?_)))
          have hsz1 := hb.size
          simp at hsz1
          clear hb
          go_wp2_with fail
          refine (hT2.out _ (by (repeat (first | with_reducible exact Below.refl _ _ | with_reducible assumption | (with_reducible refine below_alloc ?_ _) | (with_reducible refine Below.setCell ?_ (by first | omega | (simp; done) | (simp; omega)) _) | (with_reducible refine Below.drew ?_) | (with_reducible refine below_drewN ?_ _) | (refine below_then (by with_reducible assumption) ?_))))).mono ?_
          rintro r w2 ⟨v, rfl, hr, hb⟩
          have B1 : Blk w2 (w.heap.size + 1) 61 #[.slice none 0 0, .int .i64 0, .int .i64 0, .int .i64 0] := Blk.later (by (repeat (first | assumption | exact Blk.newAt _ _ _ (by first | (simp; done) | (simp; omega)) | refine Blk.alloc ?_ _ | refine Blk.drew ?_ | refine Blk.drewN ?_ _ | refine Blk.far ?_ (by first | (simp; done) | (simp; omega)) _))) hb
          have B2 : Blk w2 (w.heap.size + 1 + 1) 30 #[.slice none 0 0, .int .i64 0, .int .i64 0] := Blk.later (by (repeat (first | assumption | exact Blk.newAt _ _ _ (by first | (simp; done) | (simp; omega)) | refine Blk.alloc ?_ _ | refine Blk.drew ?_ | refine Blk.drewN ?_ _ | refine Blk.far ?_ (by first | (simp; done) | (simp; omega)) _))) hb
          have hbw2 : Below w.heap.size w w2 := by (repeat (first | with_reducible exact Below.refl _ _ | with_reducible assumption | (with_reducible refine below_alloc ?_ _) | (with_reducible refine Below.setCell ?_ (by first | omega | (simp; done) | (simp; omega)) _) | (with_reducible refine Below.drew ?_) | (with_reducible refine below_drewN ?_ _) | (refine below_then (by with_reducible assumption) ?_)))
          have hsz2 := hb.size
          simp at hsz2
          clear hb

          obtain ⟨a1, c1, hv1, hr2, _⟩ := sl_form hr
          simp only [List.cons.injEq, and_true] at hv1
          subst hv1
          have HR := hid hr2
          clear hr hr2
          obtain ⟨y0, y1, y2, y3, g0, g1, g2, g3, l1⟩ := c_blk B1
          obtain ⟨z0, z1, z2, f0, f1, f2, l2⟩ := t_blk B2
          clear B1 B2
          go_wp2
          refine bodyPost_ret (v := .tuple #[.agg #[.slice a B.length c, .int .i64 (s2.p : Int), .int .i64 s2.k, .int .i64 s2.f], .agg #[.slice a1 D.length c1, .int .i64 0, .int .i64 0]]) (by simp [results, Try.results77, go_sem, y0, y1, y2, y3, l1, z0, z1, z2, l2]) rfl ⟨_, rfl, ?_, by (repeat (first | with_reducible exact Below.refl _ _ | with_reducible assumption | (with_reducible refine below_alloc ?_ _) | (with_reducible refine Below.setCell ?_ (by first | omega | (simp; done) | (simp; omega)) _) | (with_reducible refine Below.drew ?_) | (with_reducible refine below_drewN ?_ _) | (refine below_then (by with_reducible assumption) ?_)))⟩

          refine rBytes.mono (rBytes.keep HR.out fun q hq => ?_) fun q hq => ⟨by have := hq.1; simp at this; omega, by have := hq.2; simp [World.setCell]; omega⟩
          have hq1 := hq.1
          have hq2 := hq.2
          simp at hq1
          repeat (first | rw [Below.heap_setCell _ _ _ _ (by dsimp only; omega)] | rw [Below.heap_alloc _ _ _ (by simp [World.setCell]; omega)])
        · have d4 : (s2.k != (0 : Int)) = true := by simp [h4]
          rw [if_neg h4]
          clear h4
          dsimp only
          go_enter Try.func77, Try.ntmps77
          go_wp2_with fail
          refine (hR.out _ (by (repeat (first | with_reducible exact Below.refl _ _ | with_reducible assumption | (with_reducible refine below_alloc ?_ _) | (with_reducible refine Below.setCell ?_ (by first | omega | (simp; done) | (simp; omega)) _) | (with_reducible refine Below.drew ?_) | (with_reducible refine below_drewN ?_ _) | (refine below_then (by with_reducible assumption) ?_))))).mono ?_
          rintro r w1 ⟨rfl, hb⟩
          have B1 : Blk w1 (w.heap.size + 1) 61 #[.slice none 0 0, .int .i64 0, .int .i64 0, .int .i64 0] := Blk.later (by (repeat (first | assumption | exact Blk.newAt _ _ _ (by first | (simp; done) | (simp; omega)) | refine Blk.alloc ?_ _ | refine Blk.drew ?_ | refine Blk.drewN ?_ _ | refine Blk.far ?_ (by first | (simp; done) | (simp; omega)) _))) hb
          have B2 : Blk w1 (w.heap.size + 1 + 1) 30 #[.slice none 0 0, .int .i64 0, .int .i64 0] := Blk.later (by (repeat (first | assumption | exact Blk.newAt _ _ _ (by first | (simp; done) | (simp; omega)) | refine Blk.alloc ?_ _ | refine Blk.drew ?_ | refine Blk.drewN ?_ _ | refine Blk.far ?_ (by first | (simp; done) | (simp; omega)) _))) hb
          have B0 : Blk w1 w.heap.size 61 #[.slice a B.length c, .int .i64 (s.p : Int), .int .i64 s.k, .int .i64 s.f] := Blk.later (by (repeat (first | assumption | exact Blk.newAt _ _ _ (by first | (simp; done) | (simp; omega)) | refine Blk.alloc ?_ _ | refine Blk.drew ?_ | refine Blk.drewN ?_ _ | refine Blk.far ?_ (by first | (simp; done) | (simp; omega)) _))) hb
          obtain ⟨x0, x1, x2, x3, e0, e1, e2, e3, l0⟩ := c_blk B0
          have hbw1 : Below w.heap.size w w1 := by (repeat (first | with_reducible exact Below.refl _ _ | with_reducible assumption | (with_reducible refine below_alloc ?_ _) | (with_reducible refine Below.setCell ?_ (by first | omega | (simp; done) | (simp; omega)) _) | (with_reducible refine Below.drew ?_) | (with_reducible refine below_drewN ?_ _) | (refine below_then (by with_reducible assumption) ?_)))
          have hsz1 := hb.size
          simp at hsz1
          clear hb
          go_wp2_with fail
          refine (hT2.out _ (by (repeat (first | with_reducible exact Below.refl _ _ | with_reducible assumption | (with_reducible refine below_alloc ?_ _) | (with_reducible refine Below.setCell ?_ (by first | omega | (simp; done) | (simp; omega)) _) | (with_reducible refine Below.drew ?_) | (with_reducible refine below_drewN ?_ _) | (refine below_then (by with_reducible assumption) ?_))))).mono ?_
          rintro r w2 ⟨v, rfl, hr, hb⟩
          have B1 : Blk w2 (w.heap.size + 1) 61 #[.slice none 0 0, .int .i64 0, .int .i64 0, .int .i64 0] := Blk.later (by (repeat (first | assumption | exact Blk.newAt _ _ _ (by first | (simp; done) | (simp; omega)) | refine Blk.alloc ?_ _ | refine Blk.drew ?_ | refine Blk.drewN ?_ _ | refine Blk.far ?_ (by first | (simp; done) | (simp; omega)) _))) hb
          have B2 : Blk w2 (w.heap.size + 1 + 1) 30 #[.slice none 0 0, .int .i64 0, .int .i64 0] := Blk.later (by (repeat (first | assumption | exact Blk.newAt _ _ _ (by first | (simp; done) | (simp; omega)) | refine Blk.alloc ?_ _ | refine Blk.drew ?_ | refine Blk.drewN ?_ _ | refine Blk.far ?_ (by first | (simp; done) | (simp; omega)) _))) hb
          have hbw2 : Below w.heap.size w w2 := by (repeat (first | with_reducible exact Below.refl _ _ | with_reducible assumption | (with_reducible refine below_alloc ?_ _) | (with_reducible refine Below.setCell ?_ (by first | omega | (simp; done) | (simp; omega)) _) | (with_reducible refine Below.drew ?_) | (with_reducible refine below_drewN ?_ _) | (refine below_then (by with_reducible assumption) ?_)))
          have hsz2 := hb.size
          simp at hsz2
          clear hb

          obtain ⟨a1, c1, hv1, hr2, _⟩ := sl_form hr
          simp only [List.cons.injEq, and_true] at hv1
          subst hv1
          have HR := hid hr2
          clear hr hr2
          obtain ⟨y0, y1, y2, y3, g0, g1, g2, g3, l1⟩ := c_blk B1
          obtain ⟨z0, z1, z2, f0, f1, f2, l2⟩ := t_blk B2
          clear B1 B2
          go_wp2
          refine bodyPost_ret (v := .tuple #[.agg #[.slice a B.length c, .int .i64 (s2.p : Int), .int .i64 s2.k, .int .i64 s2.f], .agg #[.slice none 0 0, .int .i64 0, .int .i64 0]]) (by simp [results, Try.results77, go_sem, y0, y1, y2, y3, l1, z0, z1, z2, l2]) rfl ⟨_, rfl, empty_bytes rfl rfl (by omega), by (repeat (first | with_reducible exact Below.refl _ _ | with_reducible assumption | (with_reducible refine below_alloc ?_ _) | (with_reducible refine Below.setCell ?_ (by first | omega | (simp; done) | (simp; omega)) _) | (with_reducible refine Below.drew ?_) | (with_reducible refine below_drewN ?_ _) | (refine below_then (by with_reducible assumption) ?_)))⟩
    · have d2 : (((x : Int) % 2) == 0) = false := by rw [beq_eq_false_iff_ne]; omega
      rw [if_neg h2]
      clear h2
      by_cases h3 : 1048572 < x / 2
      · have d3 : decide ((1048572 : Int) < (x : Int) / 2) = true := decide_eq_true (by omega)
        rw [if_pos h3]
        clear h3
        dsimp only
        go_enter Try.func77, Try.ntmps77
        go_wp2_with fail
        refine (hR.out _ (by (repeat (first | with_reducible exact Below.refl _ _ | with_reducible assumption | (with_reducible refine below_alloc ?_ _) | (with_reducible refine Below.setCell ?_ (by first | omega | (simp; done) | (simp; omega)) _) | (with_reducible refine Below.drew ?_) | (with_reducible refine below_drewN ?_ _) | (refine below_then (by with_reducible assumption) ?_))))).mono ?_
        rintro r w1 ⟨rfl, hb⟩
        have B1 : Blk w1 (w.heap.size + 1) 61 #[.slice none 0 0, .int .i64 0, .int .i64 0, .int .i64 0] := Blk.later (by (repeat (first | assumption | exact Blk.newAt _ _ _ (by first | (simp; done) | (simp; omega)) | refine Blk.alloc ?_ _ | refine Blk.drew ?_ | refine Blk.drewN ?_ _ | refine Blk.far ?_ (by first | (simp; done) | (simp; omega)) _))) hb
        have B2 : Blk w1 (w.heap.size + 1 + 1) 30 #[.slice none 0 0, .int .i64 0, .int .i64 0] := Blk.later (by (repeat (first | assumption | exact Blk.newAt _ _ _ (by first | (simp; done) | (simp; omega)) | refine Blk.alloc ?_ _ | refine Blk.drew ?_ | refine Blk.drewN ?_ _ | refine Blk.far ?_ (by first | (simp; done) | (simp; omega)) _))) hb
        have B0 : Blk w1 w.heap.size 61 #[.slice a B.length c, .int .i64 (s.p : Int), .int .i64 s.k, .int .i64 s.f] := Blk.later (by (repeat (first | assumption | exact Blk.newAt _ _ _ (by first | (simp; done) | (simp; omega)) | refine Blk.alloc ?_ _ | refine Blk.drew ?_ | refine Blk.drewN ?_ _ | refine Blk.far ?_ (by first | (simp; done) | (simp; omega)) _))) hb
        obtain ⟨x0, x1, x2, x3, e0, e1, e2, e3, l0⟩ := c_blk B0
        have hbw1 : Below w.heap.size w w1 := by (repeat (first | with_reducible exact Below.refl _ _ | with_reducible assumption | (with_reducible refine below_alloc ?_ _) | (with_reducible refine Below.setCell ?_ (by first | omega | (simp; done) | (simp; omega)) _) | (with_reducible refine Below.drew ?_) | (with_reducible refine below_drewN ?_ _) | (refine below_then (by with_reducible assumption) ?_)))
        have hsz1 := hb.size
        simp at hsz1
        clear hb
        go_wp2_with fail
        refine (hF.out _).mono ?_
        rintro r w2 ⟨rfl, hb⟩
        have B1 : Blk w2 (w.heap.size + 1) 61 #[.slice none 0 0, .int .i64 0, .int .i64 0, .int .i64 0] := Blk.later (by (repeat (first | assumption | exact Blk.newAt _ _ _ (by first | (simp; done) | (simp; omega)) | refine Blk.alloc ?_ _ | refine Blk.drew ?_ | refine Blk.drewN ?_ _ | refine Blk.far ?_ (by first | (simp; done) | (simp; omega)) _))) hb
        have B2 : Blk w2 (w.heap.size + 1 + 1) 30 #[.slice none 0 0, .int .i64 0, .int .i64 0] := Blk.later (by (repeat (first | assumption | exact Blk.newAt _ _ _ (by first | (simp; done) | (simp; omega)) | refine Blk.alloc ?_ _ | refine Blk.drew ?_ | refine Blk.drewN ?_ _ | refine Blk.far ?_ (by first | (simp; done) | (simp; omega)) _))) hb
        have hbw2 : Below w.heap.size w w2 := by (repeat (first | with_reducible exact Below.refl _ _ | with_reducible assumption | (with_reducible refine below_alloc ?_ _) | (with_reducible refine Below.setCell ?_ (by first | omega | (simp; done) | (simp; omega)) _) | (with_reducible refine Below.drew ?_) | (with_reducible refine below_drewN ?_ _) | (refine below_then (by with_reducible assumption) ?_)))
        have hsz2 := hb.size
        simp at hsz2
        clear hb
        obtain ⟨y0, y1, y2, y3, g0, g1, g2, g3, l1⟩ := c_blk B1
        obtain ⟨z0, z1, z2, f0, f1, f2, l2⟩ := t_blk B2
        clear B1 B2
        go_wp2
        refine bodyPost_ret (v := .tuple #[.agg #[.slice a B.length c, .int .i64 (F1.p : Int), .int .i64 F1.k, .int .i64 F1.f], .agg #[.slice none 0 0, .int .i64 0, .int .i64 0]]) (by simp [results, Try.results77, go_sem, y0, y1, y2, y3, l1, z0, z1, z2, l2]) rfl ⟨_, rfl, empty_bytes rfl rfl (by omega), by (repeat (first | with_reducible exact Below.refl _ _ | with_reducible assumption | (with_reducible refine below_alloc ?_ _) | (with_reducible refine Below.setCell ?_ (by first | omega | (simp; done) | (simp; omega)) _) | (with_reducible refine Below.drew ?_) | (with_reducible refine below_drewN ?_ _) | (refine below_then (by with_reducible assumption) ?_)))⟩
      · have d3 : decide ((1048572 : Int) < (x : Int) / 2) = false := decide_eq_false (by omega)
        rw [if_neg h3]
        have hx2 : x / 2 ≤ 1048572 := by omega
        clear h3
        by_cases h4 : s3.k = 0
        · have d4 : (s3.k != (0 : Int)) = false := by simp [h4]
          rw [if_pos h4]
          clear h4
          by_cases h5 : 65535 < y
          · have d5 : decide ((65535 : Int) < (y : Int)) = true := decide_eq_true (by omega)
            rw [if_pos h5]
            clear h5
            dsimp only
            go_enter Try.func77, Try.ntmps77
            go_wp2_with fail
            refine (hR.out _ (by (repeat (first | with_reducible exact Below.refl _ _ | with_reducible assumption | (with_reducible refine below_alloc ?_ _) | (with_reducible refine Below.setCell ?_ (by first | omega | (simp; done) | (simp; omega)) _) | (with_reducible refine Below.drew ?_) | (with_reducible refine below_drewN ?_ _) | (refine below_then (by with_reducible assumption) ?_))))).mono ?_
            rintro r w1 ⟨rfl, hb⟩
            have B1 : Blk w1 (w.heap.size + 1) 61 #[.slice none 0 0, .int .i64 0, .int .i64 0, .int .i64 0] := Blk.later (by (repeat (first | assumption | exact Blk.newAt _ _ _ (by first | (simp; done) | (simp; omega)) | refine Blk.alloc ?_ _ | refine Blk.drew ?_ | refine Blk.drewN ?_ _ | refine Blk.far ?_ (by first | (simp; done) | (simp; omega)) _))) hb
            have B2 : Blk w1 (w.heap.size + 1 + 1) 30 #[.slice none 0 0, .int .i64 0, .int .i64 0] := Blk.later (by (repeat (first | assumption | exact Blk.newAt _ _ _ (by first | (simp; done) | (simp; omega)) | refine Blk.alloc ?_ _ | refine Blk.drew ?_ | refine Blk.drewN ?_ _ | refine Blk.far ?_ (by first | (simp; done) | (simp; omega)) _))) hb
            have B0 : Blk w1 w.heap.size 61 #[.slice a B.length c, .int .i64 (s.p : Int), .int .i64 s.k, .int .i64 s.f] := Blk.later (by (repeat (first | assumption | exact Blk.newAt _ _ _ (by first | (simp; done) | (simp; omega)) | refine Blk.alloc ?_ _ | refine Blk.drew ?_ | refine Blk.drewN ?_ _ | refine Blk.far ?_ (by first | (simp; done) | (simp; omega)) _))) hb
            obtain ⟨x0, x1, x2, x3, e0, e1, e2, e3, l0⟩ := c_blk B0
            have hbw1 : Below w.heap.size w w1 := by (repeat (first | with_reducible exact Below.refl _ _ | with_reducible assumption | (with_reducible refine below_alloc ?_ _) | (with_reducible refine Below.setCell ?_ (by first | omega | (simp; done) | (simp; omega)) _) | (with_reducible refine Below.drew ?_) | (with_reducible refine below_drewN ?_ _) | (refine below_then (by with_reducible assumption) ?_)))
            have hsz1 := hb.size
            simp at hsz1
            clear hb
            go_wp2_with fail
            refine (hR2.out _ (by (repeat (first | with_reducible exact Below.refl _ _ | with_reducible assumption | (with_reducible refine below_alloc ?_ _) | (with_reducible refine Below.setCell ?_ (by first | omega | (simp; done) | (simp; omega)) _) | (with_reducible refine Below.drew ?_) | (with_reducible refine below_drewN ?_ _) | (refine below_then (by with_reducible assumption) ?_))))).mono ?_
            rintro r w2 ⟨rfl, hb⟩
            have B1 : Blk w2 (w.heap.size + 1) 61 #[.slice none 0 0, .int .i64 0, .int .i64 0, .int .i64 0] := Blk.later (by (repeat (first | assumption | exact Blk.newAt _ _ _ (by first | (simp; done) | (simp; omega)) | refine Blk.alloc ?_ _ | refine Blk.drew ?_ | refine Blk.drewN ?_ _ | refine Blk.far ?_ (by first | (simp; done) | (simp; omega)) _))) hb
            have B2 : Blk w2 (w.heap.size + 1 + 1) 30 #[.slice none 0 0, .int .i64 0, .int .i64 0] := Blk.later (by (repeat (first | assumption | exact Blk.newAt _ _ _ (by first | (simp; done) | (simp; omega)) | refine Blk.alloc ?_ _ | refine Blk.drew ?_ | refine Blk.drewN ?_ _ | refine Blk.far ?_ (by first | (simp; done) | (simp; omega)) _))) hb
            have BD : Blk w2 w1.heap.size 61 #[.slice a B.length c, .int .i64 (s1.p : Int), .int .i64 s1.k, .int .i64 s1.f] := Blk.later (by (repeat (first | assumption | exact Blk.newAt _ _ _ (by first | (simp; done) | (simp; omega)) | refine Blk.alloc ?_ _ | refine Blk.drew ?_ | refine Blk.drewN ?_ _ | refine Blk.far ?_ (by first | (simp; done) | (simp; omega)) _))) hb
            obtain ⟨v0, v1, v2, v3, q0, q1, q2, q3, l3⟩ := c_blk BD
            have hbw2 : Below w.heap.size w w2 := by (repeat (first | with_reducible exact Below.refl _ _ | with_reducible assumption | (with_reducible refine below_alloc ?_ _) | (with_reducible refine Below.setCell ?_ (by first | omega | (simp; done) | (simp; omega)) _) | (with_reducible refine Below.drew ?_) | (with_reducible refine below_drewN ?_ _) | (refine below_then (by with_reducible assumption) ?_)))
            have hsz2 := hb.size
            simp at hsz2
            clear hb
            go_wp2_with fail
            refine (hF2.out _).mono ?_
            rintro r w3 ⟨rfl, hb⟩
            have B1 : Blk w3 (w.heap.size + 1) 61 #[.slice none 0 0, .int .i64 0, .int .i64 0, .int .i64 0] := Blk.later (by (repeat (first | assumption | exact Blk.newAt _ _ _ (by first | (simp; done) | (simp; omega)) | refine Blk.alloc ?_ _ | refine Blk.drew ?_ | refine Blk.drewN ?_ _ | refine Blk.far ?_ (by first | (simp; done) | (simp; omega)) _))) hb
            have B2 : Blk w3 (w.heap.size + 1 + 1) 30 #[.slice none 0 0, .int .i64 0, .int .i64 0] := Blk.later (by (repeat (first | assumption | exact Blk.newAt _ _ _ (by first | (simp; done) | (simp; omega)) | refine Blk.alloc ?_ _ | refine Blk.drew ?_ | refine Blk.drewN ?_ _ | refine Blk.far ?_ (by first | (simp; done) | (simp; omega)) _))) hb
            have hbw3 : Below w.heap.size w w3 := by (repeat (first | with_reducible exact Below.refl _ _ | with_reducible assumption | (with_reducible refine below_alloc ?_ _) | (with_reducible refine Below.setCell ?_ (by first | omega | (simp; done) | (simp; omega)) _) | (with_reducible refine Below.drew ?_) | (with_reducible refine below_drewN ?_ _) | (refine below_then (by with_reducible assumption) ?_)))
            have hsz3 := hb.size
            simp at hsz3
            clear hb
            obtain ⟨y0, y1, y2, y3, g0, g1, g2, g3, l1⟩ := c_blk B1
            obtain ⟨z0, z1, z2, f0, f1, f2, l2⟩ := t_blk B2
            clear B1 B2
            go_wp2
            refine bodyPost_ret (v := .tuple #[.agg #[.slice a B.length c, .int .i64 (F2.p : Int), .int .i64 F2.k, .int .i64 F2.f], .agg #[.slice none 0 0, .int .i64 0, .int .i64 0]]) (by simp [results, Try.results77, go_sem, y0, y1, y2, y3, l1, z0, z1, z2, l2]) rfl ⟨_, rfl, empty_bytes rfl rfl (by omega), by (repeat (first | with_reducible exact Below.refl _ _ | with_reducible assumption | (with_reducible refine below_alloc ?_ _) | (with_reducible refine Below.setCell ?_ (by first | omega | (simp; done) | (simp; omega)) _) | (with_reducible refine Below.drew ?_) | (with_reducible refine below_drewN ?_ _) | (refine below_then (by with_reducible assumption) ?_)))⟩
          · have d5 : decide ((65535 : Int) < (y : Int)) = false := decide_eq_false (by omega)
            rw [if_neg h5]
            have hy2 : y ≤ 65535 := by omega
            clear h5
            dsimp only
            go_enter Try.func77, Try.ntmps77
            go_wp2_with fail
            refine (hR.out _ (by (repeat (first | with_reducible exact Below.refl _ _ | with_reducible assumption | (with_reducible refine below_alloc ?_ _) | (with_reducible refine Below.setCell ?_ (by first | omega | (simp; done) | (simp; omega)) _) | (with_reducible refine Below.drew ?_) | (with_reducible refine below_drewN ?_ _) | (refine below_then (by with_reducible assumption) ?_))))).mono ?_
            rintro r w1 ⟨rfl, hb⟩
            have B1 : Blk w1 (w.heap.size + 1) 61 #[.slice none 0 0, .int .i64 0, .int .i64 0, .int .i64 0] := Blk.later (by (repeat (first | assumption | exact Blk.newAt _ _ _ (by first | (simp; done) | (simp; omega)) | refine Blk.alloc ?_ _ | refine Blk.drew ?_ | refine Blk.drewN ?_ _ | refine Blk.far ?_ (by first | (simp; done) | (simp; omega)) _))) hb
            have B2 : Blk w1 (w.heap.size + 1 + 1) 30 #[.slice none 0 0, .int .i64 0, .int .i64 0] := Blk.later (by (repeat (first | assumption | exact Blk.newAt _ _ _ (by first | (simp; done) | (simp; omega)) | refine Blk.alloc ?_ _ | refine Blk.drew ?_ | refine Blk.drewN ?_ _ | refine Blk.far ?_ (by first | (simp; done) | (simp; omega)) _))) hb
            have B0 : Blk w1 w.heap.size 61 #[.slice a B.length c, .int .i64 (s.p : Int), .int .i64 s.k, .int .i64 s.f] := Blk.later (by (repeat (first | assumption | exact Blk.newAt _ _ _ (by first | (simp; done) | (simp; omega)) | refine Blk.alloc ?_ _ | refine Blk.drew ?_ | refine Blk.drewN ?_ _ | refine Blk.far ?_ (by first | (simp; done) | (simp; omega)) _))) hb
            obtain ⟨x0, x1, x2, x3, e0, e1, e2, e3, l0⟩ := c_blk B0
            have hbw1 : Below w.heap.size w w1 := by (repeat (first | with_reducible exact Below.refl _ _ | with_reducible assumption | (with_reducible refine below_alloc ?_ _) | (with_reducible refine Below.setCell ?_ (by first | omega | (simp; done) | (simp; omega)) _) | (with_reducible refine Below.drew ?_) | (with_reducible refine below_drewN ?_ _) | (refine below_then (by with_reducible assumption) ?_)))
            have hsz1 := hb.size
            simp at hsz1
            clear hb
            go_wp2_with fail
            refine (hR2.out _ (by (repeat (first | with_reducible exact Below.refl _ _ | with_reducible assumption | (with_reducible refine below_alloc ?_ _) | (with_reducible refine Below.setCell ?_ (by first | omega | (simp; done) | (simp; omega)) _) | (with_reducible refine Below.drew ?_) | (with_reducible refine below_drewN ?_ _) | (refine below_then (by with_reducible assumption) ?_))))).mono ?_
            rintro r w2 ⟨rfl, hb⟩
            have B1 : Blk w2 (w.heap.size + 1) 61 #[.slice none 0 0, .int .i64 0, .int .i64 0, .int .i64 0] := Blk.later (by (repeat (first | assumption | exact Blk.newAt _ _ _ (by first | (simp; done) | (simp; omega)) | refine Blk.alloc ?_ _ | refine Blk.drew ?_ | refine Blk.drewN ?_ _ | refine Blk.far ?_ (by first | (simp; done) | (simp; omega)) _))) hb
            have B2 : Blk w2 (w.heap.size + 1 + 1) 30 #[.slice none 0 0, .int .i64 0, .int .i64 0] := Blk.later (by (repeat (first | assumption | exact Blk.newAt _ _ _ (by first | (simp; done) | (simp; omega)) | refine Blk.alloc ?_ _ | refine Blk.drew ?_ | refine Blk.drewN ?_ _ | refine Blk.far ?_ (by first | (simp; done) | (simp; omega)) _))) hb
            have hbw2 : Below w.heap.size w w2 := by (repeat (first | with_reducible exact Below.refl _ _ | with_reducible assumption | (with_reducible refine below_alloc ?_ _) | (with_reducible refine Below.setCell ?_ (by first | omega | (simp; done) | (simp; omega)) _) | (with_reducible refine Below.drew ?_) | (with_reducible refine below_drewN ?_ _) | (refine below_then (by with_reducible assumption) ?_)))
            have hsz2 := hb.size
            simp at hsz2
            clear hb
            obtain ⟨y0, y1, y2, y3, g0, g1, g2, g3, l1⟩ := c_blk B1
            obtain ⟨z0, z1, z2, f0, f1, f2, l2⟩ := t_blk B2
            clear B1 B2
            go_wp2
            refine bodyPost_ret (v := .tuple #[.agg #[.slice a B.length c, .int .i64 (s3.p : Int), .int .i64 s3.k, .int .i64 s3.f], .agg #[.slice none 0 0, .int .i64 ((y : Int) + 1), .int .i64 ((x : Int) / 2 + 4)]]) (by simp [results, Try.results77, go_sem, y0, y1, y2, y3, l1, z0, z1, z2, l2]) rfl ⟨_, rfl, empty_bytes rfl rfl (by omega), by (repeat (first | with_reducible exact Below.refl _ _ | with_reducible assumption | (with_reducible refine below_alloc ?_ _) | (with_reducible refine Below.setCell ?_ (by first | omega | (simp; done) | (simp; omega)) _) | (with_reducible refine Below.drew ?_) | (with_reducible refine below_drewN ?_ _) | (refine below_then (by with_reducible assumption) ?_)))⟩
        · have d4 : (s3.k != (0 : Int)) = true := by simp [h4]
          rw [if_neg h4]
          clear h4
          dsimp only
          go_enter Try.func77, Try.ntmps77
          go_wp2_with fail
          refine (hR.out _ (by (repeat (first | with_reducible exact Below.refl _ _ | with_reducible assumption | (with_reducible refine below_alloc ?_ _) | (with_reducible refine Below.setCell ?_ (by first | omega | (simp; done) | (simp; omega)) _) | (with_reducible refine Below.drew ?_) | (with_reducible refine below_drewN ?_ _) | (refine below_then (by with_reducible assumption) ?_))))).mono ?_
          rintro r w1 ⟨rfl, hb⟩
          have B1 : Blk w1 (w.heap.size + 1) 61 #[.slice none 0 0, .int .i64 0, .int .i64 0, .int .i64 0] := Blk.later (by (repeat (first | assumption | exact Blk.newAt _ _ _ (by first | (simp; done) | (simp; omega)) | refine Blk.alloc ?_ _ | refine Blk.drew ?_ | refine Blk.drewN ?_ _ | refine Blk.far ?_ (by first | (simp; done) | (simp; omega)) _))) hb
          have B2 : Blk w1 (w.heap.size + 1 + 1) 30 #[.slice none 0 0, .int .i64 0, .int .i64 0] := Blk.later (by (repeat (first | assumption | exact Blk.newAt _ _ _ (by first | (simp; done) | (simp; omega)) | refine Blk.alloc ?_ _ | refine Blk.drew ?_ | refine Blk.drewN ?_ _ | refine Blk.far ?_ (by first | (simp; done) | (simp; omega)) _))) hb
          have B0 : Blk w1 w.heap.size 61 #[.slice a B.length c, .int .i64 (s.p : Int), .int .i64 s.k, .int .i64 s.f] := Blk.later (by (repeat (first | assumption | exact Blk.newAt _ _ _ (by first | (simp; done) | (simp; omega)) | refine Blk.alloc ?_ _ | refine Blk.drew ?_ | refine Blk.drewN ?_ _ | refine Blk.far ?_ (by first | (simp; done) | (simp; omega)) _))) hb
          obtain ⟨x0, x1, x2, x3, e0, e1, e2, e3, l0⟩ := c_blk B0
          have hbw1 : Below w.heap.size w w1 := by (repeat (first | with_reducible exact Below.refl _ _ | with_reducible assumption | (with_reducible refine below_alloc ?_ _) | (with_reducible refine Below.setCell ?_ (by first | omega | (simp; done) | (simp; omega)) _) | (with_reducible refine Below.drew ?_) | (with_reducible refine below_drewN ?_ _) | (refine below_then (by with_reducible assumption) ?_)))
          have hsz1 := hb.size
          simp at hsz1
          clear hb
          go_wp2_with fail
          refine (hR2.out _ (by (repeat (first | with_reducible exact Below.refl _ _ | with_reducible assumption | (with_reducible refine below_alloc ?_ _) | (with_reducible refine Below.setCell ?_ (by first | omega | (simp; done) | (simp; omega)) _) | (with_reducible refine Below.drew ?_) | (with_reducible refine below_drewN ?_ _) | (refine below_then (by with_reducible assumption) ?_))))).mono ?_
          rintro r w2 ⟨rfl, hb⟩
          have B1 : Blk w2 (w.heap.size + 1) 61 #[.slice none 0 0, .int .i64 0, .int .i64 0, .int .i64 0] := Blk.later (by (repeat (first | assumption | exact Blk.newAt _ _ _ (by first | (simp; done) | (simp; omega)) | refine Blk.alloc ?_ _ | refine Blk.drew ?_ | refine Blk.drewN ?_ _ | refine Blk.far ?_ (by first | (simp; done) | (simp; omega)) _))) hb
          have B2 : Blk w2 (w.heap.size + 1 + 1) 30 #[.slice none 0 0, .int .i64 0, .int .i64 0] := Blk.later (by (repeat (first | assumption | exact Blk.newAt _ _ _ (by first | (simp; done) | (simp; omega)) | refine Blk.alloc ?_ _ | refine Blk.drew ?_ | refine Blk.drewN ?_ _ | refine Blk.far ?_ (by first | (simp; done) | (simp; omega)) _))) hb
          have hbw2 : Below w.heap.size w w2 := by (repeat (first | with_reducible exact Below.refl _ _ | with_reducible assumption | (with_reducible refine below_alloc ?_ _) | (with_reducible refine Below.setCell ?_ (by first | omega | (simp; done) | (simp; omega)) _) | (with_reducible refine Below.drew ?_) | (with_reducible refine below_drewN ?_ _) | (refine below_then (by with_reducible assumption) ?_)))
          have hsz2 := hb.size
          simp at hsz2
          clear hb
          obtain ⟨y0, y1, y2, y3, g0, g1, g2, g3, l1⟩ := c_blk B1
          obtain ⟨z0, z1, z2, f0, f1, f2, l2⟩ := t_blk B2
          clear B1 B2
          go_wp2
          refine bodyPost_ret (v := .tuple #[.agg #[.slice a B.length c, .int .i64 (s3.p : Int), .int .i64 s3.k, .int .i64 s3.f], .agg #[.slice none 0 0, .int .i64 0, .int .i64 0]]) (by simp [results, Try.results77, go_sem, y0, y1, y2, y3, l1, z0, z1, z2, l2]) rfl ⟨_, rfl, empty_bytes rfl rfl (by omega), by (repeat (first | with_reducible exact Below.refl _ _ | with_reducible assumption | (with_reducible refine below_alloc ?_ _) | (with_reducible refine Below.setCell ?_ (by first | omega | (simp; done) | (simp; omega)) _) | (with_reducible refine Below.drew ?_) | (with_reducible refine below_drewN ?_ _) | (refine below_then (by with_reducible assumption) ?_)))⟩
  · have dk : (s1.k != (0 : Int)) = true := by simp [hk]
    rw [if_neg hk]
    clear hk
    dsimp only
    go_enter Try.func77, Try.ntmps77
    go_wp2_with fail
    refine (hR.out _ (by (repeat (first | with_reducible exact Below.refl _ _ | with_reducible assumption | (with_reducible refine below_alloc ?_ _) | (with_reducible refine Below.setCell ?_ (by first | omega | (simp; done) | (simp; omega)) _) | (with_reducible refine Below.drew ?_) | (with_reducible refine below_drewN ?_ _) | (refine below_then (by with_reducible assumption) ?_))))).mono ?_
    rintro r w1 ⟨rfl, hb⟩
    have B1 : Blk w1 (w.heap.size + 1) 61 #[.slice none 0 0, .int .i64 0, .int .i64 0, .int .i64 0] := Blk.later (by (repeat (first | assumption | exact Blk.newAt _ _ _ (by first | (simp; done) | (simp; omega)) | refine Blk.alloc ?_ _ | refine Blk.drew ?_ | refine Blk.drewN ?_ _ | refine Blk.far ?_ (by first | (simp; done) | (simp; omega)) _))) hb
    have B2 : Blk w1 (w.heap.size + 1 + 1) 30 #[.slice none 0 0, .int .i64 0, .int .i64 0] := Blk.later (by (repeat (first | assumption | exact Blk.newAt _ _ _ (by first | (simp; done) | (simp; omega)) | refine Blk.alloc ?_ _ | refine Blk.drew ?_ | refine Blk.drewN ?_ _ | refine Blk.far ?_ (by first | (simp; done) | (simp; omega)) _))) hb
    have B0 : Blk w1 w.heap.size 61 #[.slice a B.length c, .int .i64 (s.p : Int), .int .i64 s.k, .int .i64 s.f] := Blk.later (by (repeat (first | assumption | exact Blk.newAt _ _ _ (by first | (simp; done) | (simp; omega)) | refine Blk.alloc ?_ _ | refine Blk.drew ?_ | refine Blk.drewN ?_ _ | refine Blk.far ?_ (by first | (simp; done) | (simp; omega)) _))) hb
    obtain ⟨x0, x1, x2, x3, e0, e1, e2, e3, l0⟩ := c_blk B0
    have hbw1 : Below w.heap.size w w1 := by (repeat (first | with_reducible exact Below.refl _ _ | with_reducible assumption | (with_reducible refine below_alloc ?_ _) | (with_reducible refine Below.setCell ?_ (by first | omega | (simp; done) | (simp; omega)) _) | (with_reducible refine Below.drew ?_) | (with_reducible refine below_drewN ?_ _) | (refine below_then (by with_reducible assumption) ?_)))
    have hsz1 := hb.size
    simp at hsz1
    clear hb
    obtain ⟨y0, y1, y2, y3, g0, g1, g2, g3, l1⟩ := c_blk B1
    obtain ⟨z0, z1, z2, f0, f1, f2, l2⟩ := t_blk B2
    clear B1 B2
    go_wp2
    refine bodyPost_ret (v := .tuple #[.agg #[.slice a B.length c, .int .i64 (s1.p : Int), .int .i64 s1.k, .int .i64 s1.f], .agg #[.slice none 0 0, .int .i64 0, .int .i64 0]]) (by simp [results, Try.results77, go_sem, y0, y1, y2, y3, l1, z0, z1, z2, l2]) rfl ⟨_, rfl, empty_bytes rfl rfl (by omega), by (repeat (first | with_reducible exact Below.refl _ _ | with_reducible assumption | (with_reducible refine below_alloc ?_ _) | (with_reducible refine Below.setCell ?_ (by first | omega | (simp; done) | (simp; omega)) _) | (with_reducible refine Below.drew ?_) | (with_reducible refine below_drewN ?_ _) | (refine below_then (by with_reducible assumption) ?_)))⟩
end Go.Proofs.Ytgcdbnbdbjaijaa
namespace Go.Proofs.Ytgcdbnbdbjaijaa
open Go.RowKit Go.Bs Go.Maps
set_option linter.unusedVariables false
set_option linter.unusedSimpArgs false

def againL (off : Nat) : Nat → List UInt8 → List UInt8
  | 0, out => out
  | n + 1, out => againL off n (out ++ [out.getD (out.length - off) 0])
theorem againL_len (off : Nat) : ∀ (n : Nat) (out : List UInt8), (againL off n out).length = out.length + n
  | 0, out => rfl
  | n + 1, out => by simp only [againL, againL_len off n]; simp; omega
/-- One step of the program's. -/
def exStep (B : List UInt8) (bound : Int) (s : Rs) (out : List UInt8) : Rs × List UInt8 :=
  if bound - out.length < (s.head B).2.2 then ((s.head B).1.fail 11 s.p, out)
  else if (s.head B).2.1 = false then (((s.head B).1.take B ((s.head B).2.2 : Int)).1, out ++ ((s.head B).1.take B ((s.head B).2.2 : Int)).2)
  else
    if out.length < ((s.head B).1.offset B).2 then (((s.head B).1.offset B).1.fail 10 (s.head B).1.p, out)
    else if ((s.head B).1.offset B).1.k = 0 then (((s.head B).1.offset B).1, againL ((s.head B).1.offset B).2 (s.head B).2.2 out) else (((s.head B).1.offset B).1, out)
def exF (B : List UInt8) (bound : Int) : Nat → Rs → List UInt8 → Rs × List UInt8
  | 0, s, out => (s, out)
  | f + 1, s, out => if s.p < B.length ∧ s.k = 0 then exF B bound f (exStep B bound s out).1 (exStep B bound s out).2 else (s, out)
/-- What written tokens make: the bytes, the code, the place. -/
def exB (B : List UInt8) (bound : Int) : List UInt8 × Int × Int :=
  if (exF B bound B.length ⟨0, 0, 0⟩ []).1.k = 0 then ((exF B bound B.length ⟨0, 0, 0⟩ []).2, 0, 0) else ([], (exF B bound B.length ⟨0, 0, 0⟩ []).1.k, (exF B bound B.length ⟨0, 0, 0⟩ []).1.f)

theorem Rs.fail_k {s : Rs} {c at_ : Int} (hc : c ≠ 0) : (s.fail c at_).k ≠ 0 := by
  unfold Rs.fail; split
  · exact hc
  · assumption
theorem Rs.fail_p {s : Rs} {c at_ : Int} : (s.fail c at_).p = s.p := by unfold Rs.fail; split <;> rfl
theorem Rs.num_more {B : List UInt8} {s : Rs} (h : (s.num B).1.k = 0) : s.p < (s.num B).1.p ∧ s.k = 0 := by
  unfold Rs.num at *
  split
  · rename_i h0
    rw [if_pos h0] at h
    have := (vget_used (B.drop s.p) 0 0).2.2.2.2 (by dsimp only at h; omega)
    dsimp only; omega
  · rename_i h0; rw [if_neg h0] at h; exact absurd h h0
theorem Rs.head_more {B : List UInt8} {s : Rs} (h : (s.head B).1.k = 0) : s.p < (s.head B).1.p ∧ s.k = 0 ∧ (s.num B).1.k = 0 ∧ 1 ≤ (s.head B).2.2 ∧ (s.head B).2.2 ≤ 1048576 := by
  unfold Rs.head at *
  by_cases h0 : (s.num B).1.k = 0
  · have hm := Rs.num_more h0
    rw [if_pos h0] at h ⊢
    by_cases h1 : (s.num B).2 % 2 = 1
    · rw [if_pos h1] at h ⊢
      by_cases h2 : 1048572 < (s.num B).2 / 2
      · rw [if_pos h2] at h; exact absurd h (Rs.fail_k (by omega))
      · rw [if_neg h2]; exact ⟨hm.1, hm.2, h0, by dsimp only; omega, by dsimp only; omega⟩
    · rw [if_neg h1] at h ⊢
      by_cases h2 : 1048575 < (s.num B).2 / 2
      · rw [if_pos h2] at h; exact absurd h (Rs.fail_k (by omega))
      · rw [if_neg h2]; exact ⟨hm.1, hm.2, h0, by dsimp only; omega, by dsimp only; omega⟩
  · rw [if_neg h0] at h; exact absurd h h0
theorem Rs.head_bad {B : List UInt8} {s : Rs} (h : (s.head B).1.k ≠ 0) : (s.head B).2.1 = false ∧ (s.head B).2.2 = 0 := by
  unfold Rs.head at *
  by_cases h0 : (s.num B).1.k = 0
  · rw [if_pos h0] at h ⊢
    by_cases h1 : (s.num B).2 % 2 = 1
    · rw [if_pos h1] at h ⊢
      by_cases h2 : 1048572 < (s.num B).2 / 2
      · rw [if_pos h2]; exact ⟨rfl, rfl⟩
      · rw [if_neg h2] at h; exact absurd h0 h
    · rw [if_neg h1] at h ⊢
      by_cases h2 : 1048575 < (s.num B).2 / 2
      · rw [if_pos h2]; exact ⟨rfl, rfl⟩
      · rw [if_neg h2] at h; exact absurd h0 h
  · rw [if_neg h0]; exact ⟨rfl, rfl⟩
theorem Rs.take_more {B : List UInt8} {s : Rs} {n : Int} (h : (s.take B n).1.k = 0) : s.p ≤ (s.take B n).1.p ∧ s.k = 0 ∧ (s.take B n).2.length = n.toNat := by
  unfold Rs.take at *
  cases hk : (s.skip B.length n).1
  · exact absurd h (Rs.skip_false hk).1
  · have := Rs.skip_true hk
    rw [this.2.2.2]
    refine ⟨by dsimp only; omega, this.1, ?_⟩
    simp; omega
theorem Rs.take_bad {B : List UInt8} {s : Rs} {n : Int} (h : (s.take B n).1.k ≠ 0) : (s.take B n).2 = [] := by
  unfold Rs.take at *
  cases hk : (s.skip B.length n).1
  · simp
  · have := Rs.skip_true hk
    rw [this.2.2.2] at h; exact absurd rfl h
theorem Rs.offset_more {B : List UInt8} {s : Rs} (h : (s.offset B).1.k = 0) : s.p < (s.offset B).1.p ∧ s.k = 0 ∧ (s.num B).1.k = 0 ∧ (s.offset B).2 = (s.num B).2 + 1 ∧ (s.num B).2 < 65536 := by
  unfold Rs.offset at *
  dsimp only at *
  by_cases h1 : 65536 ≤ (s.num B).2
  · rw [if_pos h1] at h; exact absurd h (Rs.fail_k (by omega))
  · rw [if_neg h1] at h ⊢
    have := Rs.num_more h
    exact ⟨this.1, this.2, h, by rw [if_pos h], by omega⟩
theorem Rs.offset_bad {B : List UInt8} {s : Rs} (h : (s.offset B).1.k ≠ 0) : (s.offset B).2 = 0 := by
  unfold Rs.offset at *
  dsimp only at *
  rw [if_neg h]
theorem Rs.num_of_bad {B : List UInt8} {s : Rs} (h : s.k ≠ 0) : s.num B = (s, 0) := by unfold Rs.num; rw [if_neg h]
theorem Rs.skip_of_bad {L : Nat} {s : Rs} {n : Int} (h : s.k ≠ 0) : s.skip L n = (false, s) := by unfold Rs.skip; rw [if_neg h]
theorem Rs.fail_of_bad {s : Rs} {c a : Int} (h : s.k ≠ 0) : s.fail c a = s := by unfold Rs.fail; rw [if_neg h]
theorem Rs.take_of_bad {B : List UInt8} {s : Rs} {n : Int} (h : s.k ≠ 0) : s.take B n = (s, []) := by unfold Rs.take; rw [Rs.skip_of_bad h]; simp
theorem exStep_ok {B : List UInt8} {bound : Int} {s : Rs} {out : List UInt8} (h : s.ok B.length) : (exStep B bound s out).1.ok B.length := by
  unfold exStep
  split
  · exact Rs.fail_ok (Rs.head_ok h) (by omega)
  · split
    · exact Rs.take_ok (Rs.head_ok h) _
    · split
      · exact Rs.fail_ok (Rs.offset_ok (Rs.head_ok h)) (by omega)
      · split
        · exact Rs.offset_ok (Rs.head_ok h)
        · exact Rs.offset_ok (Rs.head_ok h)
/-- A step that leaves no fault goes on, and stays within the bound. -/
theorem exStep_more {B : List UInt8} {bound : Int} {s : Rs} {out : List UInt8} (h : (exStep B bound s out).1.k = 0) : s.p < (exStep B bound s out).1.p ∧ ((exStep B bound s out).2.length : Int) ≤ bound := by
  unfold exStep at *
  by_cases h1 : bound - out.length < (s.head B).2.2
  · rw [if_pos h1] at h; exact absurd h (Rs.fail_k (by omega))
  · rw [if_neg h1] at h ⊢
    by_cases h2 : (s.head B).2.1 = false
    · rw [if_pos h2] at h ⊢
      have ht := Rs.take_more h
      have hh := Rs.head_more ht.2.1
      refine ⟨by dsimp only; omega, ?_⟩
      simp only [List.length_append, ht.2.2]
      omega
    · rw [if_neg h2] at h ⊢
      by_cases h3 : out.length < ((s.head B).1.offset B).2
      · rw [if_pos h3] at h; exact absurd h (Rs.fail_k (by omega))
      · rw [if_neg h3] at h ⊢
        by_cases h4 : ((s.head B).1.offset B).1.k = 0
        · rw [if_pos h4]
          have ho := Rs.offset_more h4
          have hh := Rs.head_more ho.2.1
          refine ⟨by dsimp only; omega, ?_⟩
          simp only [againL_len]; omega
        · rw [if_neg h4] at h; exact absurd h h4
theorem exStep_len {B : List UInt8} {bound : Int} {s : Rs} {out : List UInt8} (h : (exStep B bound s out).1.k ≠ 0) : (exStep B bound s out).2 = out := by
  unfold exStep at *
  split
  · rfl
  · rename_i h1
    rw [if_neg h1] at h
    split
    · rename_i h2
      rw [if_pos h2] at h
      rw [Rs.take_bad h]; simp
    · rename_i h2
      rw [if_neg h2] at h
      split
      · rfl
      · rename_i h3
        rw [if_neg h3] at h
        split
        · rename_i h4
          rw [if_pos h4] at h; exact absurd h4 h
        · rfl
/-- The fuel is enough. -/
theorem exF_step {B : List UInt8} {bound : Int} : ∀ (f : Nat) (s : Rs) (out : List UInt8), s.ok B.length → B.length ≤ s.p + f → s.p < B.length → s.k = 0 → exF B bound f s out = exF B bound (f - 1) (exStep B bound s out).1 (exStep B bound s out).2
  | 0, s, out, _, h1, h2, _ => by omega
  | f + 1, s, out, _, _, h2, h3 => by simp only [exF]; rw [if_pos ⟨h2, h3⟩]; rfl
theorem exF_stop {B : List UInt8} {bound : Int} : ∀ (f : Nat) (s : Rs) (out : List UInt8), ¬ (s.p < B.length ∧ s.k = 0) → exF B bound f s out = (s, out)
  | 0, s, out, _ => rfl
  | f + 1, s, out, h => by simp only [exF]; rw [if_neg h]
theorem exF_any {B : List UInt8} {bound : Int} : ∀ (f g : Nat) (s : Rs) (out : List UInt8), s.ok B.length → B.length ≤ s.p + f → B.length ≤ s.p + g → exF B bound f s out = exF B bound g s out
  | 0, g, s, out, h, h1, h2 => by rw [exF_stop g s out (by have := h.le; omega)]; rfl
  | f + 1, 0, s, out, h, h1, h2 => by rw [exF_stop (f + 1) s out (by have := h.le; omega)]; rfl
  | f + 1, g + 1, s, out, h, h1, h2 => by
    simp only [exF]
    by_cases hc : s.p < B.length ∧ s.k = 0
    · rw [if_pos hc, if_pos hc]
      by_cases hk : (exStep B bound s out).1.k = 0
      · have := (exStep_more hk).1
        exact exF_any f g _ _ (exStep_ok h) (by omega) (by omega)
      · rw [exF_stop f _ _ (fun e => hk e.2), exF_stop g _ _ (fun e => hk e.2)]
    · rw [if_neg hc, if_neg hc]
/-- The rest, with fuel enough. -/
def exR (B : List UInt8) (bound : Int) (s : Rs) (out : List UInt8) : Rs × List UInt8 := exF B bound (B.length - s.p) s out
theorem exR_go {B : List UInt8} {bound : Int} {s : Rs} {out : List UInt8} (h : s.ok B.length) (h1 : s.p < B.length) (h2 : s.k = 0) : exR B bound s out = exR B bound (exStep B bound s out).1 (exStep B bound s out).2 := by
  unfold exR
  rw [exF_step _ s out h (by omega) h1 h2]
  by_cases hk : (exStep B bound s out).1.k = 0
  · have := (exStep_more hk).1
    exact exF_any _ _ _ _ (exStep_ok h) (by omega) (by omega)
  · rw [exF_stop _ _ _ (fun e => hk e.2), exF_stop _ _ _ (fun e => hk e.2)]
theorem exR_stop {B : List UInt8} {bound : Int} {s : Rs} {out : List UInt8} (h : ¬ (s.p < B.length ∧ s.k = 0)) : exR B bound s out = (s, out) := exF_stop _ _ _ h
theorem exB_is (B : List UInt8) (bound : Int) : exB B bound = if (exR B bound ⟨0, 0, 0⟩ []).1.k = 0 then ((exR B bound ⟨0, 0, 0⟩ []).2, 0, 0) else ([], (exR B bound ⟨0, 0, 0⟩ []).1.k, (exR B bound ⟨0, 0, 0⟩ []).1.f) := rfl
end Go.Proofs.Ytgcdbnbdbjaijaa
namespace Go.Proofs.Ytgcdbnbdbjaijaa
open Go.RowKit Go.Bs Go.Maps
set_option linter.unusedVariables false
set_option linter.unusedSimpArgs false

theorem byteCells_one1 (x : UInt8) : ∀ u ∈ [Value.int .u8 (x.toNat : Int)], u.oneCell' = true := by
  intro u hu; simp at hu; subst hu; rfl
theorem byteCells_snoc (l : List UInt8) (x : UInt8) : byteCells l ++ [Value.int .u8 (x.toNat : Int)] = byteCells (l ++ [x]) := by simp [byteCells]
set_option maxRecDepth 100000 in
set_option maxHeartbeats 1600000 in
theorem expand_again (w : World) {base : Nat} {a : Option Addr} {c : Nat} (out : List UInt8) (hown : w.ownsRow base 5 1 (.slice a out.length c) out.length (byteCells out)) (hbase : base ≤ w.heap.size) (off n : Nat) (h1 : 1 ≤ off) (h2 : off ≤ out.length) (hn : out.length + n ≤ 1000000000000) :
    Calls Try.prog 116 #[.slice a out.length c, .int .i64 (off : Int), .int .i64 (n : Int)] w fun r w' => ∃ a' c', r = .returned (.slice a' (out.length + n) c') ∧ w'.ownsRow base 5 1 (.slice a' (out.length + n) c') (out.length + n) (byteCells (againL off n out)) ∧ Below base w w' := by
  obtain ⟨i0, hi, hz0, hz1, hz2⟩ := info_parts info8
  have HO := hid hown
  clear hown
  go_enter Try.func116, Try.ntmps116
  go_wp2_with fail
  go_loopw [0, 8] (fun o i wr => ∃ (k : Nat) (J : List UInt8) (aJ : Option Addr) (cJ : Nat), k ≤ n ∧ i = .int .i64 k ∧ o = .slice aJ J.length cJ ∧ wr.ownsRow base 5 1 (.slice aJ J.length cJ) J.length (byteCells J) ∧ Hid (againL off n out = againL off (n - k) J) ∧ Hid (J.length = out.length + k) ∧ Below base w wr ∧ base ≤ wr.heap.size) (fun _ i _ => n - (intOf i).toNat)
  case atStart => exact ⟨0, out, a, c, Nat.zero_le _, rfl, rfl, HO.out, hid rfl, hid rfl, Below.refl _ _, hbase⟩
  case round =>
    obtain ⟨k, J, aJ, cJ, hk, rfl, rfl, ho, hJ, hln, hb, hbs⟩ := hrel
    have HJO := hid ho
    rcases Nat.lt_or_ge k n with hlt | hge
    · have d1 : decide ((k : Int) < (n : Int)) = true := decide_eq_true (by omega)
      have d1' : decide (k < n) = true := decide_eq_true hlt
      have hml : off ≤ J.length := by have := hln.out; omega
      have hJm : J.length + 1 ≤ 1000000000000 := by have := hln.out; omega
      have hst : Hid (againL off (n - k) J = againL off (n - (k + 1)) (J ++ [J.getD (J.length - off) 0])) := hid (by rw [show n - k = (n - (k + 1)) + 1 by omega]; rfl)
      have hgd : J.getD (J.length - off) 0 = J[J.length - off]'(by omega) := by rw [List.getD_eq_getElem?_getD, List.getElem?_eq_getElem (by omega)]; rfl
      rw [hgd] at hst
      obtain ⟨gb, ob, hA, hgb, hc⟩ := byte_at (own_bytes rfl ho) (i := J.length - off) (by omega)
      subst hA
      obtain ⟨m, hm⟩ : ∃ m, m = J.length - off := ⟨_, rfl⟩
      have e1 : (J.length : Int) - (off : Int) = (m : Int) := by omega
      generalize J[J.length - off]'(by omega) = x at *
      rw [← hm] at hc
      have i1 : (m : Int) < (J.length : Int) := by omega
      have i2 : (0 : Int) ≤ (m : Int) := by omega
      clear ho hgd hm
      go_wp2_with (at_builtin; go_loud (refine wpList_append_src rfl _ _ _ rfl base 5 i0 (.int .u8 0) 1 1 Try.underlying22 hi hz0 hz1 hz2 rfl (by decide) (.slice (some ⟨gb, ob, none⟩) J.length cJ) J.length (byteCells J) rfl (own_below HJO.out (by (repeat (first | exact Below.refl _ _ | assumption | (refine below_alloc ?_ _) | (refine Below.setCell ?_ (by first | omega | (simp; done) | (simp; omega)) _) | (refine Below.drew ?_) | (refine below_drewN ?_ _) | (refine below_then (by assumption) ?_))))) (some ⟨wr.heap.size, 0, none⟩) 1 1 [.int .u8 (x.toNat : Int)] rfl (src_new1 wr 5 _ rfl rfl rfl) (byteCells_one1 x) (by simp only [maxLen]; omega) (by omega) (by simp; omega) ?_; intro v' w3 hown3 hgrow3 hat3; obtain ⟨a3, c3, rfl⟩ := own_form hown3; have HO3 := hid hown3; have HG3 := hid hgrow3; clear hown3 hgrow3 hat3))
      have ho3 := HO3.out
      rw [byteCells_snoc, show J.length + 1 = (J ++ [x]).length by simp] at ho3
      have hb3 : Below base wr w3 := (Below.grown (Below.refl _ _) HG3.out (by simp; omega) (fun g e => (HJO.out.lt g e).1)) |> (fun h => (below_alloc (Below.refl _ _) _ |>.mono hbs).trans h)
      have HO4 := hid ho3
      have hs3 := hb3.size
      clear ho3 hc
      go_roundw
      case rel => exact ⟨k + 1, J ++ [x], a3, c3, by omega, by go_num, by simp, HO4.out, hid (hJ.out.trans hst.out), hid (by simp; have := hln.out; omega), hb.trans hb3, by omega⟩
      case measure => simp [intOf]; omega
    · obtain rfl : k = n := by omega
      have d1 : decide ((k : Int) < (k : Int)) = false := decide_eq_false (by omega)
      have hfin : Hid (againL off k out = J) := hid (by rw [hJ.out, Nat.sub_self]; rfl)
      clear ho
      go_wp2
      go_ret
      have hl : J.length = out.length + k := hln.out
      rw [hfin.out, ← hl]
      exact ⟨_, _, rfl, HJO.out, hb⟩

def headR (x : Nat) : Nat := if x % 2 = 0 ∧ x / 2 < 1048576 then x / 2 + 1 else if x % 2 = 1 ∧ x / 2 ≤ 1048572 then x / 2 + 4 else 0
theorem ref12_head (w : World) (x : Nat) (hx : x < 18446744073709551616) : Calls Try.prog 76 #[.int .u64 (x : Int)] w fun r w' => r = .returned (.int .i64 (headR x : Int)) ∧ w = w' := by
  unfold headR
  by_cases h2 : x % 2 = 0
  · have d2 : (((x : Int) % 2) == 0) = true := by rw [beq_iff_eq]; omega
    have d3 : (((x : Int) % 2) == 1) = false := by rw [beq_eq_false_iff_ne]; omega
    by_cases h3 : x / 2 < 1048576
    · have d4 : decide ((x : Int) / 2 < 1048576) = true := decide_eq_true (by omega)
      rw [if_pos ⟨h2, h3⟩]
      go_enter Try.func76, Try.ntmps76
      go_wp2
      go_ret
      exact ⟨by simp, rfl⟩
    · have d4 : decide ((x : Int) / 2 < 1048576) = false := decide_eq_false (by omega)
      rw [if_neg (fun e => h3 e.2), if_neg (fun e => by omega)]
      go_enter Try.func76, Try.ntmps76
      go_wp2
      go_ret
      exact ⟨rfl, rfl⟩
  · have d2 : (((x : Int) % 2) == 0) = false := by rw [beq_eq_false_iff_ne]; omega
    have d3 : (((x : Int) % 2) == 1) = true := by rw [beq_iff_eq]; omega
    by_cases h3 : x / 2 ≤ 1048572
    · have d4 : decide ((x : Int) / 2 ≤ 1048572) = true := decide_eq_true (by omega)
      rw [if_neg (fun e => h2 e.1), if_pos ⟨by omega, h3⟩]
      go_enter Try.func76, Try.ntmps76
      go_wp2
      go_ret
      exact ⟨by simp, rfl⟩
    · have d4 : decide ((x : Int) / 2 ≤ 1048572) = false := decide_eq_false (by omega)
      rw [if_neg (fun e => h2 e.1), if_neg (fun e => h3 e.2)]
      go_enter Try.func76, Try.ntmps76
      go_wp2
      go_ret
      exact ⟨rfl, rfl⟩
end Go.Proofs.Ytgcdbnbdbjaijaa
