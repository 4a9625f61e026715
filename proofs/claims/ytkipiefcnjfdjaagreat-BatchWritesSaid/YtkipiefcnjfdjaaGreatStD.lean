/- Links well-formed, by the program and by the reference; links compared. -/
import Derived.Test.YtkipiefcnjfdjaaGreatStC
namespace Go.Proofs.YtkipiefcnjfdjaaGreat
open Go.RowKit Go.Bs
set_option linter.unusedVariables false
set_option linter.unusedSimpArgs false

set_option maxHeartbeats 800000 in
theorem link_wrong (pos : Int) (x : Link) (a : Option Addr) (n c : Nat) (blk : Nat) (w : World) (hpos : 0 ≤ pos ∧ pos ≤ 18446744073709551615) (hx : rU64s.r (· < w.heap.size) w [.slice a n c] x.backs) (hlen : x.backs.length ≤ 1000000000000)
    (hc : w.cell? ⟨blk, 0, none⟩ = some (.int .u64 pos)) :
    Calls Tryz.prog 199 #[.agg #[.int .u64 x.stream, .slice a n c], .pointer (some ⟨blk, 0, none⟩)] w fun r w' => r = .returned (.bool (!linkR pos x)) ∧ Below w.heap.size w w' := by
  obtain ⟨rfl, hm, _, _⟩ := sl_len hx
  have hlt := World.block_lt_of_cell? w _ hc
  have X0 := (Later.mk _ ((Below.refl w.heap.size w).alloc (Nat.le_refl _) (.cells #[.int .u64 x.stream, .slice a x.backs.length c] 209))).cell hc
  by_cases h4 : 4 < x.backs.length
  · have hff : linkR pos x = false := by simp [linkR]; omega
    rw [hff]
    clear hff hx hc
    go_enter Tryz.func199, Tryz.ntmps199
    go_wp2
    go_ret
    exact ⟨rfl, by (repeat (first | exact Below.refl _ _ | assumption | (refine below_alloc ?_ _) | (refine Below.setCell ?_ (by first | omega | (simp; done) | (simp; omega)) _) | (refine Below.drew ?_) | (refine below_drewN ?_ _) | (refine below_then (by assumption) ?_)))⟩
  · have hff : linkR pos x = fallsB pos x.backs := by simp only [linkR]; rw [decide_eq_true (by omega)]; rfl
    rw [hff]
    have d4 : decide (4 < (x.backs.length : Int)) = false := by simp; omega
    have HX := hid hx; clear hx hff
    go_enter Tryz.func199, Tryz.ntmps199
    go_wp2_with fail
    refine (delta_falls pos x.backs _ _ _ _ hpos (lift HX.out (by (repeat (first | exact Below.refl _ _ | assumption | (refine below_alloc ?_ _) | (refine Below.setCell ?_ (by first | omega | (simp; done) | (simp; omega)) _) | (refine Below.drew ?_) | (refine below_drewN ?_ _) | (refine below_then (by assumption) ?_))))) hlen).mono ?_
    rintro e w1 ⟨rfl, hb1⟩
    go_wp2
    go_ret
    exact ⟨rfl, by (repeat (first | exact Below.refl _ _ | assumption | (refine below_alloc ?_ _) | (refine Below.setCell ?_ (by first | omega | (simp; done) | (simp; omega)) _) | (refine Below.drew ?_) | (refine below_drewN ?_ _) | (refine below_then (by assumption) ?_)))⟩

theorem takeWhile_step {α : Type} (p : α → Bool) (l : List α) (k : Nat) (h : k < l.length) : (l.drop k).takeWhile p = if p l[k] then l[k] :: (l.drop (k + 1)).takeWhile p else [] := by
  rw [List.drop_eq_getElem_cons h, List.takeWhile_cons]
theorem takeWhile_all {α : Type} (p : α → Bool) (l : List α) : decide ((l.takeWhile p).length = l.length) = l.all p := by
  induction l with
  | nil => rfl
  | cons x l ih =>
    rw [List.takeWhile_cons, List.all_cons]
    cases h : p x
    · simp
    · simp only [if_true, List.length_cons, Nat.add_right_cancel_iff, Bool.true_and]; exact ih

set_option maxHeartbeats 1600000 in
theorem link_place (pos : Int) (l : List Link) (a : Option Addr) (n c : Nat) (blk : Nat) (w : World) (hpos : 0 ≤ pos ∧ pos ≤ 18446744073709551615) (hl : rLinks.r (· < w.heap.size) w [.slice a n c] l) (hbk : ∀ x ∈ l, x.backs.length ≤ 1000000000000)
    (hc : w.cell? ⟨blk, 0, none⟩ = some (.int .u64 pos)) :
    Calls Tryz.prog 201 #[.slice a n c, .func (.func 199) #[] #[.pointer (some ⟨blk, 0, none⟩)]] w fun r w' => r = .returned (.int .i64 ((l.takeWhile (linkR pos)).length : Nat)) ∧ Below w.heap.size w w' := by
  obtain ⟨rfl, hm, _, _⟩ := sl_len hl
  have HL := hid hl; clear hl
  have HB := hid hbk; clear hbk
  have hblk := World.block_lt_of_cell? w _ hc
  have HC := hid hc; clear hc
  go_enter Tryz.func201, Tryz.ntmps201
  go_wp2
  go_loopw [9] (fun i wr => ∃ k : Nat, k ≤ l.length ∧ i = .int .i64 k ∧ Hid ((l.takeWhile (linkR pos)).length = k + ((l.drop k).takeWhile (linkR pos)).length) ∧ Below w.heap.size w wr) (fun i _ => l.length - (intOf i).toNat)
  case atStart => exact ⟨0, Nat.zero_le _, rfl, hid (by simp), Below.refl _ _⟩
  case round =>
    obtain ⟨k, hk, rfl, hf, hb⟩ := hrel
    by_cases hlt : k < l.length
    · obtain ⟨b, o, hA, hbb, a1, c1, hc0, hc1, _, hbs⟩ := link_at HL.out hlt
      subst hA
      have X0 := (hb.cell (p := ⟨b, o + k * 2, none⟩) hbb).trans hc0
      have X1 := (hb.cell (p := ⟨b, o + k * 2 + 1, none⟩) hbb).trans hc1
      clear hc0 hc1
      have hbl := HB.out _ (List.getElem_mem hlt)
      have hst := hid (takeWhile_step (linkR pos) l k hlt)
      have HBS := hid hbs; clear hbs
      generalize hlk : l[k] = x at *
      clear hlk
      have hzz := hb.size
      go_wp2_with fail
      refine (link_wrong pos x _ _ _ blk _ hpos (lift HBS.out (by (repeat (first | exact Below.refl _ _ | assumption | (refine below_alloc ?_ _) | (refine Below.setCell ?_ (by first | omega | (simp; done) | (simp; omega)) _) | (refine Below.drew ?_) | (refine below_drewN ?_ _) | (refine below_then (by assumption) ?_))))) hbl ?_).mono ?_
      · have := (Later.mk wr hb).cell HC.out
        exact (Later.mk _ ((Below.refl wr.heap.size wr).alloc (Nat.le_refl _) _)).cell this
      rintro e w1 ⟨rfl, hb1⟩
      have hb2 : Below w.heap.size w w1 := by (repeat (first | exact Below.refl _ _ | assumption | (refine below_alloc ?_ _) | (refine Below.setCell ?_ (by first | omega | (simp; done) | (simp; omega)) _) | (refine Below.drew ?_) | (refine below_drewN ?_ _) | (refine below_then (by assumption) ?_)))
      cases hr : linkR pos x
      · have hff : Hid ((l.takeWhile (linkR pos)).length = k) := hid (by rw [hf.out, hst.out, hr]; simp)
        clear hr
        go_wp2
        go_ret
        exact ⟨by rw [hff.out]; rfl, hb2⟩
      · have hff : Hid ((l.takeWhile (linkR pos)).length = (k + 1) + ((l.drop (k + 1)).takeWhile (linkR pos)).length) := hid (by rw [hf.out, hst.out, hr]; simp; omega)
        clear hr
        go_wp2
        go_roundw
        case rel => exact ⟨k + 1, by omega, by go_num, hff, hb2⟩
        case measure => simp [intOf]; omega
    · obtain rfl : k = l.length := by omega
      have hff : Hid ((l.takeWhile (linkR pos)).length = l.length) := hid (by rw [hf.out, List.drop_length]; simp)
      go_wp2
      go_ret
      exact ⟨by rw [hff.out]; rfl, hb⟩

set_option maxHeartbeats 800000 in
theorem link_right (pos : Int) (l : List Link) (a : Option Addr) (n c : Nat) (w : World) (hpos : 0 ≤ pos ∧ pos ≤ 18446744073709551615) (hl : rLinks.r (· < w.heap.size) w [.slice a n c] l) (hbk : ∀ x ∈ l, x.backs.length ≤ 1000000000000) :
    Calls Tryz.prog 138 #[.int .u64 pos, .slice a n c] w fun r w' => r = .returned (.bool (linksR pos l)) ∧ Below w.heap.size w w' := by
  obtain ⟨rfl, hm, _, _⟩ := sl_len hl
  have HL := hid hl; clear hl
  have HB := hid hbk; clear hbk
  by_cases h16 : 16 < l.length
  · have hff : Hid (linksR pos l = false) := hid (by simp [linksR]; omega)
    go_enter Tryz.func138, Tryz.ntmps138
    go_wp2
    go_ret
    exact ⟨by rw [hff.out]; rfl, by (repeat (first | exact Below.refl _ _ | assumption | (refine below_alloc ?_ _) | (refine Below.setCell ?_ (by first | omega | (simp; done) | (simp; omega)) _) | (refine Below.drew ?_) | (refine below_drewN ?_ _) | (refine below_then (by assumption) ?_)))⟩
  · have hff : Hid (linksR pos l = (risesB (l.map Link.stream) && l.all (linkR pos))) := hid (by simp only [linksR]; rw [decide_eq_true (by omega)]; rfl)
    have hta := hid (takeWhile_all (linkR pos) l)
    go_enter Tryz.func138, Tryz.ntmps138
    go_wp2_with fail
    refine (link_rises l _ _ _ _ (lift HL.out (by (repeat (first | exact Below.refl _ _ | assumption | (refine below_alloc ?_ _) | (refine Below.setCell ?_ (by first | omega | (simp; done) | (simp; omega)) _) | (refine Below.drew ?_) | (refine below_drewN ?_ _) | (refine below_then (by assumption) ?_)))))).mono ?_
    rintro e w1 ⟨rfl, hb1⟩
    have hb2 : Below w.heap.size w w1 := by (repeat (first | exact Below.refl _ _ | assumption | (refine below_alloc ?_ _) | (refine Below.setCell ?_ (by first | omega | (simp; done) | (simp; omega)) _) | (refine Below.drew ?_) | (refine below_drewN ?_ _) | (refine below_then (by assumption) ?_)))
    cases hr : risesB (l.map Link.stream)
    · have hf2 : Hid (linksR pos l = false) := hid (by rw [hff.out, hr]; rfl)
      clear hr
      go_wp2
      go_ret
      exact ⟨by rw [hf2.out]; rfl, hb2⟩
    · have hf2 : Hid (linksR pos l = l.all (linkR pos)) := hid (by rw [hff.out, hr]; rfl)
      clear hr
      go_wp2_with fail
      refine (link_place pos l _ _ _ w.heap.size _ hpos (lift HL.out hb2) HB.out ?_).mono ?_
      · exact (Later.mk w1 hb1).cell (by go_simp)
      rintro e w3 ⟨rfl, hb3⟩
      have hlt := (List.takeWhile_sublist (l := l) (linkR pos)).length_le
      generalize hg : (l.takeWhile (linkR pos)).length = t at *
      have hg' := hid hg; clear hg
      go_wp2
      go_ret
      refine ⟨?_, by (repeat (first | exact Below.refl _ _ | assumption | (refine below_alloc ?_ _) | (refine Below.setCell ?_ (by first | omega | (simp; done) | (simp; omega)) _) | (refine Below.drew ?_) | (refine below_drewN ?_ _) | (refine below_then (by assumption) ?_)))⟩
      rw [hf2.out, ← hta.out]
      by_cases h : t = l.length
      · subst h; simp
      · have : ¬ ((t : Int) = (l.length : Int)) := by omega
        simp [h, this]
end Go.Proofs.YtkipiefcnjfdjaaGreat
