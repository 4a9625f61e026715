/- The old logs, by the program: how many bytes, all entries. -/
import Derived.Test.YtlbchenleimopaaStS
import Derived.Test.YtlbchenleimopaaDatb
namespace Go.Proofs.Ytlbchenleimopaa
open Go.RowKit Go.Bs
set_option linter.unusedVariables false
set_option linter.unusedSimpArgs false

set_option maxHeartbeats 800000 in
theorem legacy_total (l : List Old) (a : Option Addr) (n c : Nat) (w : World) (hl : rOlds.r (· < w.heap.size) w [.slice a n c] l) (ht : totalO l ≤ 1000000000000) :
    Calls Try.prog 43 #[.slice a n c] w fun r w' => r = .returned (.int .i64 (totalO l : Nat)) ∧ Below w.heap.size w w' := by
  obtain ⟨rfl, hm, _, _⟩ := sl_len hl
  have HL := hid hl; clear hl
  go_enter Try.func43, Try.ntmps43
  go_wp2
  go_loopw [3, 8] (fun s i wr => ∃ k : Nat, k ≤ l.length ∧ i = .int .i64 k ∧ s = .int .i64 (totalO (l.take k) : Nat) ∧ Below w.heap.size w wr) (fun _ i _ => l.length - (intOf i).toNat)
  case atStart => exact ⟨0, Nat.zero_le _, rfl, rfl, Below.refl _ _⟩
  case round =>
    obtain ⟨k, hk, rfl, rfl, hb⟩ := hrel
    by_cases hlt : k < l.length
    · obtain ⟨b, o, hA, hbb, a1, c1, X0, X1, X2, X3, _, _, _⟩ := old_at (lift HL.out hb) hlt
      subst hA
      have hs := hid (totalO_step l k hlt)
      have h1 := totalO_take_le l (k + 1)
      rw [hs.out] at h1
      generalize l[k].data.length = n2 at *
      generalize l[k].stream = n3 at *
      generalize l[k].back = n4 at *
      generalize l[k].has = n5 at *
      generalize totalO (l.take k) = t at *
      go_wp2
      go_roundw
      case rel => exact ⟨k + 1, by omega, by go_num, by rw [hs.out]; simp only [Int.natCast_add], hb.alloc hb.size _⟩
      case measure => simp [intOf]; omega
    · obtain rfl : k = l.length := by omega
      rw [List.take_length]
      go_wp2
      go_ret
      exact ⟨rfl, hb⟩

set_option maxHeartbeats 800000 in
theorem right1_one (i : Nat) (x : Old) (e base : Int) (a : Option Addr) (n c : Nat) (blk : Nat) (w : World) (hlt : i ≤ 400) (h0 : 0 ≤ base) (h1 : base + i ≤ 4611686018427387904)
    (hc1 : w.cell? ⟨blk, 1, none⟩ = some (.int .u64 base)) :
    Calls Try.prog 45 #[.int .i64 i, .agg #[.int .u64 x.stream, .int .u64 x.back, .bool x.has, .slice a n c], .pointer (some ⟨blk, 0, none⟩)] w fun r w' => r = .returned (.bool (oldR (base + i) x)) ∧ Below w.heap.size w w' := by
  have hblk := World.block_lt_of_cell? w _ hc1
  cases hh : x.has
  · have hff : oldR (base + i) x = (x.back == 0) := by simp [oldR, hh]; rfl
    rw [hff]
    clear hff hh
    go_enter Try.func45, Try.ntmps45
    go_wp2
    go_ret
    exact ⟨rfl, by (repeat (first | exact Below.refl _ _ | assumption | (refine below_alloc ?_ _) | (refine Below.setCell ?_ (by first | omega | (simp; done) | (simp; omega)) _) | (refine Below.drew ?_) | (refine below_drewN ?_ _) | (refine below_then (by assumption) ?_)))⟩
  · have hff : oldR (base + i) x = decide (x.back < base + i) := by simp [oldR, hh]
    rw [hff]
    clear hff hh
    generalize x.back = bk
    generalize x.stream = st
    by_cases hd : bk < base + i
    · have d1 : decide (bk < base + i) = true := by simpa using hd
      rw [d1]
      clear hd
      go_enter Try.func45, Try.ntmps45
      go_wp2
      go_ret
      exact ⟨rfl, by (repeat (first | exact Below.refl _ _ | assumption | (refine below_alloc ?_ _) | (refine Below.setCell ?_ (by first | omega | (simp; done) | (simp; omega)) _) | (refine Below.drew ?_) | (refine below_drewN ?_ _) | (refine below_then (by assumption) ?_)))⟩
    · have d1 : decide (bk < base + i) = false := by simpa using hd
      rw [d1]
      clear hd
      go_enter Try.func45, Try.ntmps45
      go_wp2
      go_ret
      exact ⟨rfl, by (repeat (first | exact Below.refl _ _ | assumption | (refine below_alloc ?_ _) | (refine Below.setCell ?_ (by first | omega | (simp; done) | (simp; omega)) _) | (refine Below.drew ?_) | (refine below_drewN ?_ _) | (refine below_then (by assumption) ?_)))⟩

set_option maxHeartbeats 800000 in
theorem all_old (l : List Old) (a : Option Addr) (n c : Nat) (p : Nat → Old → Bool) (caps : Array Value) (w : World) (hl : rOlds.r (· < w.heap.size) w [.slice a n c] l)
    (hp : ∀ (k : Nat) x (a' : Option Addr) (c' : Nat) (W : World), l[k]? = some x → Below w.heap.size w W → Calls Try.prog 45 (#[.int .i64 k, .agg #[.int .u64 x.stream, .int .u64 x.back, .bool x.has, .slice a' x.data.length c']] ++ caps) W fun r w' => r = .returned (.bool (p k x)) ∧ Below W.heap.size W w') :
    Calls Try.prog 44 #[.slice a n c, .func (.func 45) #[] caps] w fun r w' => r = .returned (.bool (allI p 0 l)) ∧ Below w.heap.size w w' := by
  obtain ⟨rfl, hm, _, _⟩ := sl_len hl
  have HL := hid hl; clear hl
  have HP := hid hp; clear hp
  go_enter Try.func44, Try.ntmps44
  go_wp2
  go_loopw [9] (fun i wr => ∃ k : Nat, k ≤ l.length ∧ i = .int .i64 k ∧ Hid (allI p 0 l = allI p k (l.drop k)) ∧ Below w.heap.size w wr) (fun i _ => l.length - (intOf i).toNat)
  case atStart => exact ⟨0, Nat.zero_le _, rfl, hid rfl, Below.refl _ _⟩
  case round =>
    obtain ⟨k, hk, rfl, hf, hb⟩ := hrel
    by_cases hlt : k < l.length
    · obtain ⟨b, o, hA, hbb, a1, c1, X0, X1, X2, X3, _, _, _⟩ := old_at (lift HL.out hb) hlt
      subst hA
      have hst := hid (allI_step p l k hlt)
      have hk2 := hid (List.getElem?_eq_getElem hlt)
      generalize l[k] = x at *
      go_wp2_with fail
      refine (HP.out k x _ _ _ hk2.out (by (repeat (first | exact Below.refl _ _ | assumption | (refine below_alloc ?_ _) | (refine Below.setCell ?_ (by first | omega | (simp; done) | (simp; omega)) _) | (refine Below.drew ?_) | (refine below_drewN ?_ _) | (refine below_then (by assumption) ?_))))).mono ?_
      rintro e w1 ⟨rfl, hb1⟩
      have hb2 : Below w.heap.size w w1 := by (repeat (first | exact Below.refl _ _ | assumption | (refine below_alloc ?_ _) | (refine Below.setCell ?_ (by first | omega | (simp; done) | (simp; omega)) _) | (refine Below.drew ?_) | (refine below_drewN ?_ _) | (refine below_then (by assumption) ?_)))
      cases hr : p k x
      · have hff : Hid (allI p 0 l = false) := hid (by rw [hf.out, hst.out, hr]; rfl)
        clear hr
        go_wp2
        go_ret
        exact ⟨by rw [hff.out]; rfl, hb2⟩
      · have hff : Hid (allI p 0 l = allI p (k + 1) (l.drop (k + 1))) := hid (by rw [hf.out, hst.out, hr]; rfl)
        clear hr
        go_wp2
        go_roundw
        case rel => exact ⟨k + 1, by omega, by go_num, hff, hb2⟩
        case measure => simp [intOf]; omega
    · obtain rfl : k = l.length := by omega
      have hff : Hid (allI p 0 l = true) := hid (by rw [hf.out, List.drop_length]; rfl)
      go_wp2
      go_ret
      exact ⟨by rw [hff.out]; rfl, hb⟩
end Go.Proofs.Ytlbchenleimopaa
