/- Needed by segmentWrites_walk, part 5: texts put together by shake.py; no condition. -/
import Derived.Test.YtkipiefcnjfdjaaGreatF5
import Derived.Test.YtkipiefcnjfdjaaGreatE4
import Derived.BigRegion
import Derived.Test.YtkipiefcnjfdjaaGreatE2
import Derived.Deep.RegionHeld3
import Derived.Test.YtkipiefcnjfdjaaGreatE3
namespace Go.Proofs.YtkipiefcnjfdjaaGreat
open Go.RowKit Go.Bs Go.Maps
set_option linter.unusedVariables false
set_option linter.unusedSimpArgs false

theorem written_f (W : World) (x u f0 f1 f2 f3 f4 f5 f6 : Value) : (Instr.field 153 (.agg #[x, u, f0, f1, f2, f3, f4, f5, f6]) 2).run Tryz.prog W = .ok (.agg #[f0, f1, f2, f3, f4, f5, f6]) W := by kernel_rfl

set_option maxRecDepth 100000 in
set_option maxHeartbeats 3200000 in
theorem segment_footer (ep : Int) (l : List Batch) (a : Option Addr) (n c : Nat) (w : World) (h0 : 0 ≤ ep ∧ ep ≤ 18446744073709551615) (hl : rBatches.r (· < w.heap.size) w [.slice a n c] l) (hbn : ∀ b ∈ l, batchN b) (htm : ∀ b ∈ l, TameE b.entries) :
    Calls Tryz.prog 58 #[.agg #[.int .u64 ep, .slice a n c]] w fun r w' => r = .returned (.tuple #[.agg (if segR ⟨ep, l⟩ = true then (segF ep l).val else #[.int .u64 0, .int .i64 0, .int .i64 0, .int .u64 0, .int .u64 0, .int .i64 0, .int .i64 0]), .bool (segR ⟨ep, l⟩)]) ∧ Below w.heap.size w w' := by
  obtain ⟨rfl, hm, _, _⟩ := sl_len hl
  have HR := hid (fun (W : World) (hW : Below w.heap.size w W) => segment_right ep l a _ c W h0 (lift hl hW) (fun x hx => (htm x hx).fair))
  have HL := hid hl
  have kf := written_f
  have HB0 := hid ((Blk.new w 62 #[.int .u64 ep, .slice a l.length c]).alloc (.cells #[.int .u64 0, .int .i64 0, .int .i64 0, .int .u64 0, .int .u64 0, .int .i64 0, .int .i64 0] 91))
  have HF0 := hid (Blk.new1 w (.cells #[.int .u64 ep, .slice a l.length c] 62) 91 #[.int .u64 0, .int .i64 0, .int .i64 0, .int .u64 0, .int .u64 0, .int .i64 0, .int .i64 0])
  clear hl
  cases hs : segR ⟨ep, l⟩
  · rw [hs] at HR
    simp only [Bool.false_eq_true, if_false]
    clear hs
    go_enter Tryz.func58, Tryz.ntmps58
    go_wp2_with fail
    refine (HR.out _ (by (repeat (first | exact Below.refl _ _ | assumption | (refine below_alloc ?_ _) | (refine Below.setCell ?_ (by first | omega | (simp; done) | (simp; omega)) _) | (refine Below.drew ?_) | (refine below_drewN ?_ _) | (refine below_then (by assumption) ?_))))).mono ?_
    rintro r w1 ⟨rfl, hb1⟩
    have hbw : Below w.heap.size w w1 := by (repeat (first | exact Below.refl _ _ | assumption | (refine below_alloc ?_ _) | (refine Below.setCell ?_ (by first | omega | (simp; done) | (simp; omega)) _) | (refine Below.drew ?_) | (refine below_drewN ?_ _) | (refine below_then (by assumption) ?_)))
    have hF := HF0.out.later hb1
    have z0 : w1.cell? ⟨w.heap.size + 1, 0, none⟩ = some (.int .u64 0) := hF.cell 0
    have g0 := hF.free 0
    have z1 : w1.cell? ⟨w.heap.size + 1, 1, none⟩ = some (.int .i64 0) := hF.cell 1
    have g1 := hF.free 1
    have z2 : w1.cell? ⟨w.heap.size + 1, 2, none⟩ = some (.int .i64 0) := hF.cell 2
    have g2 := hF.free 2
    have z3 : w1.cell? ⟨w.heap.size + 1, 3, none⟩ = some (.int .u64 0) := hF.cell 3
    have g3 := hF.free 3
    have z4 : w1.cell? ⟨w.heap.size + 1, 4, none⟩ = some (.int .u64 0) := hF.cell 4
    have g4 := hF.free 4
    have z5 : w1.cell? ⟨w.heap.size + 1, 5, none⟩ = some (.int .i64 0) := hF.cell 5
    have g5 := hF.free 5
    have z6 : w1.cell? ⟨w.heap.size + 1, 6, none⟩ = some (.int .i64 0) := hF.cell 6
    have g6 := hF.free 6
    clear hF hb1
    go_wp2
    refine bodyPost_ret (v := .tuple #[.agg #[.int .u64 0, .int .i64 0, .int .i64 0, .int .u64 0, .int .u64 0, .int .i64 0, .int .i64 0], .bool false]) (by simp [results, Tryz.results58, go_sem, World.cell?_setCell_far, z0, z1, z2, z3, z4, z5, z6]) rfl ⟨rfl, ?_⟩
    (repeat (first | with_reducible exact Below.refl _ _ | with_reducible assumption | (with_reducible refine below_alloc ?_ _) | (with_reducible refine Below.setCell ?_ (by first | omega | (simp; done) | (simp; omega)) _) | (with_reducible refine Below.drew ?_) | (with_reducible refine below_drewN ?_ _) | (refine below_then (by with_reducible assumption) ?_)))
  · rw [hs] at HR
    simp only [if_true]
    have HW := hid (fun (W : World) (hW : Below w.heap.size w W) => seg_write ep l a _ c W (lift HL.out hW) hs hbn htm)
    have hfe : Hid ((segF ep l).val = #[.int .u64 (segF ep l).ep, .int .i64 (segF ep l).n, .int .i64 (segF ep l).en, .int .u64 (segF ep l).first, .int .u64 (segF ep l).fin, .int .i64 (segF ep l).at_, .int .i64 (segF ep l).size]) := hid rfl
    generalize (segF ep l).val = FV at *
    generalize (segF ep l).ep = f0 at *
    generalize (segF ep l).n = f1 at *
    generalize (segF ep l).en = f2 at *
    generalize (segF ep l).first = f3 at *
    generalize (segF ep l).fin = f4 at *
    generalize (segF ep l).at_ = f5 at *
    generalize (segF ep l).size = f6 at *
    clear hs
    go_enter Tryz.func58, Tryz.ntmps58
    go_wp2_with fail
    refine (HR.out _ (by (repeat (first | exact Below.refl _ _ | assumption | (refine below_alloc ?_ _) | (refine Below.setCell ?_ (by first | omega | (simp; done) | (simp; omega)) _) | (refine Below.drew ?_) | (refine below_drewN ?_ _) | (refine below_then (by assumption) ?_))))).mono ?_
    rintro r w1 ⟨rfl, hb1⟩
    have hB := HB0.out.later hb1
    have hF1 := hid (HF0.out.later hb1)
    have c0 : w1.cell? ⟨w.heap.size, 0, none⟩ = some (.int .u64 ep) := hB.cell 0
    have c1 : w1.cell? ⟨w.heap.size, 1, none⟩ = some (.slice a l.length c) := hB.cell 1
    have hbw : Below w.heap.size w w1 := by (repeat (first | exact Below.refl _ _ | assumption | (refine below_alloc ?_ _) | (refine Below.setCell ?_ (by first | omega | (simp; done) | (simp; omega)) _) | (refine Below.drew ?_) | (refine below_drewN ?_ _) | (refine below_then (by assumption) ?_)))
    clear hB hb1
    go_wp2_with fail
    refine (HW.out w1 hbw).mono ?_
    rintro r w2 ⟨v, u, rfl, _, _, hb2⟩
    have hF := hF1.out.later hb2
    have hbw2 := below_then hb2 hbw
    have z0 : w2.cell? ⟨w.heap.size + 1, 0, none⟩ = some (.int .u64 0) := hF.cell 0
    have g0 := hF.free 0
    have z1 : w2.cell? ⟨w.heap.size + 1, 1, none⟩ = some (.int .i64 0) := hF.cell 1
    have g1 := hF.free 1
    have z2 : w2.cell? ⟨w.heap.size + 1, 2, none⟩ = some (.int .i64 0) := hF.cell 2
    have g2 := hF.free 2
    have z3 : w2.cell? ⟨w.heap.size + 1, 3, none⟩ = some (.int .u64 0) := hF.cell 3
    have g3 := hF.free 3
    have z4 : w2.cell? ⟨w.heap.size + 1, 4, none⟩ = some (.int .u64 0) := hF.cell 4
    have g4 := hF.free 4
    have z5 : w2.cell? ⟨w.heap.size + 1, 5, none⟩ = some (.int .i64 0) := hF.cell 5
    have g5 := hF.free 5
    have z6 : w2.cell? ⟨w.heap.size + 1, 6, none⟩ = some (.int .i64 0) := hF.cell 6
    have g6 := hF.free 6
    clear hF hb2 hbw c0 c1
    go_wp2
    refine bodyPost_ret (v := .tuple #[.agg #[.int .u64 f0, .int .i64 f1, .int .i64 f2, .int .u64 f3, .int .u64 f4, .int .i64 f5, .int .i64 f6], .bool true]) (by simp [results, Tryz.results58, go_sem, World.cell?_setCell_far, z0, z1, z2, z3, z4, z5, z6]) rfl ⟨by rw [hfe.out], ?_⟩
    (repeat (first | with_reducible exact Below.refl _ _ | with_reducible assumption | (with_reducible refine below_alloc ?_ _) | (with_reducible refine Below.setCell ?_ (by first | omega | (simp; done) | (simp; omega)) _) | (with_reducible refine Below.drew ?_) | (with_reducible refine below_drewN ?_ _) | (refine below_then (by with_reducible assumption) ?_)))
end Go.Proofs.YtkipiefcnjfdjaaGreat
namespace Go.Bs
end Go.Bs
namespace Go.Proofs.YtkipiefcnjfdjaaGreat
open Go.RowKit Go.Bs Go.Maps
set_option linter.unusedVariables false
set_option linter.unusedSimpArgs false

instance : DecidableEq MarkD := fun x y => decidable_of_iff _ markD_eq.symm
set_option maxRecDepth 100000 in
set_option maxHeartbeats 1600000 in
theorem ref32_same (x y : List MarkD) (a a' : Option Addr) (n c n' c' : Nat) (w : World) (hx : rMarks.r (· < w.heap.size) w [.slice a n c] x) (hy : rMarks.r (· < w.heap.size) w [.slice a' n' c'] y) (he : x = y) :
    Calls Tryz.prog 62 #[.slice a n c, .slice a' n' c'] w fun r w' => r = .returned (.bool true) ∧ Below w.heap.size w w' := by
  obtain ⟨rfl, hm, _, _⟩ := sl_len hx
  obtain ⟨rfl, hm', _, _⟩ := sl_len hy
  subst he
  have HX := hid hx; have HY := hid hy
  clear hx hy
  go_enter Tryz.func62, Tryz.ntmps62
  go_wp2_with fail
  go_loopw [5] (fun i wr => ∃ k : Nat, k ≤ x.length ∧ i = .int .i64 k ∧ Below w.heap.size w wr) (fun i _ => x.length - (intOf i).toNat)
  case atStart => exact ⟨0, Nat.zero_le _, rfl, Below.refl _ _⟩
  case round =>
    obtain ⟨k, hk, rfl, hb⟩ := hrel
    by_cases hlt : k < x.length
    · obtain ⟨b, o, hA, _, x0, x1, x2, hN⟩ := mark_at (lift HX.out hb) hlt
      obtain ⟨b', o', hA', _, y0, y1, y2, _⟩ := mark_at (lift HY.out hb) hlt
      subst hA hA'
      generalize x[k] = m at *
      have i1 : (k : Int) < (x.length : Int) := by omega
      have X0 := fun s : Later wr => s.cell x0
      have X1 := fun s : Later wr => s.cell x1
      have X2 := fun s : Later wr => s.cell x2
      have Y0 := fun s : Later wr => s.cell y0
      have Y1 := fun s : Later wr => s.cell y1
      have Y2 := fun s : Later wr => s.cell y2
      go_wp2_with fail
      refine wp_region_later (by kernel_rfl) (by kernel_rfl) ?_
      repeat (go_big_quiet_step (fail))
      refine wpQuiet_nil ?_
      rintro W5 ⟨⟨W5', hb5⟩, rfl⟩
      go_wp2
      go_roundw
      case rel => exact ⟨k + 1, by omega, by go_num, below_then hb5 hb⟩
      case measure => simp [intOf]; omega
    · obtain rfl : k = x.length := by omega
      go_wp2
      go_ret
      exact ⟨rfl, hb⟩
end Go.Proofs.YtkipiefcnjfdjaaGreat
namespace Go.Proofs.YtkipiefcnjfdjaaGreat
open Go.RowKit Go.Bs Go.Maps
set_option linter.unusedVariables false
set_option linter.unusedSimpArgs false

set_option maxRecDepth 100000 in
set_option maxHeartbeats 1600000 in
theorem law34_as (f0 f1 f2 f3 f4 f5 f6 : Int) (w : World) :
    Calls Tryz.prog 63 #[.agg #[.int .u64 f0, .int .i64 f1, .int .i64 f2, .int .u64 f3, .int .u64 f4, .int .i64 f5, .int .i64 f6]] w fun r w' => r = .returned (.agg #[.int .u64 f0, .int .i64 f1, .int .i64 f2, .int .u64 f3, .int .u64 f4, .int .i64 f5, .int .i64 f6]) ∧ Below w.heap.size w w' := by
  go_enter Tryz.func63, Tryz.ntmps63
  go_wp2
  refine bodyPost_ret (v := .agg #[.int .u64 f0, .int .i64 f1, .int .i64 f2, .int .u64 f3, .int .u64 f4, .int .i64 f5, .int .i64 f6]) (by simp [results, Tryz.results63, go_sem]) rfl ⟨rfl, ?_⟩
  (repeat (first | with_reducible exact Below.refl _ _ | with_reducible assumption | (with_reducible refine below_alloc ?_ _) | (with_reducible refine Below.setCell ?_ (by first | omega | (simp; done) | (simp; omega)) _) | (with_reducible refine Below.drew ?_) | (with_reducible refine below_drewN ?_ _) | (refine below_then (by with_reducible assumption) ?_)))

theorem then_world' {K : Act → World → Prop} {Q : Exit → Act → World → Prop} {a : Act} {w : World} (I : World → Prop) (h : I w) (k : ∀ V, I V → Exit.then K Q .normal a V) : Exit.then K Q .normal a w := k w h
theorem foot_blk {w : World} {b : Nat} {f0 f1 f2 f3 f4 f5 f6 : Int} (h : Blk w b 96 #[.int .u64 f0, .int .i64 f1, .int .i64 f2, .int .u64 f3, .int .u64 f4, .int .i64 f5, .int .i64 f6]) :
    w.cell? ⟨b, 0, none⟩ = some (.int .u64 f0) ∧ w.cell? ⟨b, 1, none⟩ = some (.int .i64 f1) ∧ w.cell? ⟨b, 2, none⟩ = some (.int .i64 f2) ∧ w.cell? ⟨b, 3, none⟩ = some (.int .u64 f3) ∧ w.cell? ⟨b, 4, none⟩ = some (.int .u64 f4) ∧ w.cell? ⟨b, 5, none⟩ = some (.int .i64 f5) ∧ w.cell? ⟨b, 6, none⟩ = some (.int .i64 f6) ∧ w.frozen? ⟨b, 0, none⟩ = false ∧ w.frozen? ⟨b, 1, none⟩ = false ∧ w.frozen? ⟨b, 2, none⟩ = false ∧ w.frozen? ⟨b, 3, none⟩ = false ∧ w.frozen? ⟨b, 4, none⟩ = false ∧ w.frozen? ⟨b, 5, none⟩ = false ∧ w.frozen? ⟨b, 6, none⟩ = false :=
  ⟨h.cell 0, h.cell 1, h.cell 2, h.cell 3, h.cell 4, h.cell 5, h.cell 6, h.free 0, h.free 1, h.free 2, h.free 3, h.free 4, h.free 5, h.free 6⟩

set_option maxRecDepth 100000 in
set_option maxHeartbeats 3200000 in
theorem ref34_foot (ep : Int) (M : List MarkD) (at_ size : Int) (al : Option Addr) (nl cl : Nat) (w : World) (hl : rMarks.r (· < w.heap.size) w [.slice al nl cl] M) (hR : marksR M = true) :
    Calls Tryz.prog 118 #[.int .u64 ep, .slice al nl cl, .int .i64 at_, .int .i64 size] w fun r w' => r = .returned (.agg (footM ep M at_ size).val) ∧ Below w.heap.size w w' := by
  obtain ⟨rfl, hm, _, _⟩ := sl_len hl
  have hR' := hR
  simp only [marksR, Bool.and_eq_true, decide_eq_true_eq] at hR'
  have HM := hid (fun m hm => riseM_mem M 0 0 hR'.1 m hm)
  have h16 := hR'.2
  have hff : Hid ((footM ep M at_ size).val = #[.int .u64 ep, .int .i64 M.length, .int .i64 (countM M), .int .u64 (endsM M).1, .int .u64 (endsM M).2, .int .i64 at_, .int .i64 size]) := hid rfl
  have HL := hid hl
  clear hl hR hR'
  go_enter Tryz.func118, Tryz.ntmps118
  go_wp2_with fail
  refine wp_world (fun W => Below w.heap.size w W ∧ Blk W w.heap.size 96 #[.int .u64 0, .int .i64 0, .int .i64 0, .int .u64 0, .int .u64 0, .int .i64 0, .int .i64 0] ∧ Blk W (w.heap.size + 1) 96 #[.int .u64 ep, .int .i64 M.length, .int .i64 0, .int .u64 0, .int .u64 0, .int .i64 at_, .int .i64 size]) ⟨by (repeat (first | exact Below.refl _ _ | assumption | (refine below_alloc ?_ _) | (refine Below.setCell ?_ (by first | omega | (simp; done) | (simp; omega)) _) | (refine Below.drew ?_) | (refine below_drewN ?_ _) | (refine below_then (by assumption) ?_))), (Blk.new w _ _).alloc _, Blk.new1 w _ _ _⟩ ?_
  rintro W ⟨hbW, hB0, hB1⟩
  have HB0 := hid hB0; have HB1 := hid hB1
  have hzW : w.heap.size + 1 < W.heap.size := hB1.lt
  clear hB0 hB1
  go_loopw [10] (fun i wr => ∃ (k : Nat) (s : Int), k ≤ M.length ∧ i = .int .i64 k ∧ Hid (countM (M.take k) = s) ∧ 0 ≤ s ∧ s ≤ 16 * k ∧ Blk wr (w.heap.size + 1) 96 #[.int .u64 ep, .int .i64 M.length, .int .i64 s, .int .u64 0, .int .u64 0, .int .i64 at_, .int .i64 size] ∧ Blk wr w.heap.size 96 #[.int .u64 0, .int .i64 0, .int .i64 0, .int .u64 0, .int .u64 0, .int .i64 0, .int .i64 0] ∧ Below w.heap.size w wr) (fun i _ => M.length - (intOf i).toNat)
  case atStart => exact ⟨0, 0, Nat.zero_le _, rfl, hid rfl, by omega, by omega, HB1.out, HB0.out, hbW⟩
  case round =>
    obtain ⟨k, s, hk, rfl, hs, hs0, hs1, hB, hB0, hb⟩ := hrel
    have HB := hid hB; have HB0 := hid hB0
    have hzr : w.heap.size + 1 < wr.heap.size := hB.lt
    clear hB hB0
    by_cases hlt : k < M.length
    · obtain ⟨b, o, hA, hbb, x0, x1, x2, hN⟩ := mark_at (lift HL.out hb) hlt
      have hbo : b < w.heap.size := by
        obtain ⟨b2, o2, hA2, hbb2, _⟩ := mark_at HL.out hlt
        rw [hA] at hA2; simp at hA2; omega
      subst hA
      have hst := hid (countM_step M k hlt)
      obtain ⟨g1, g2, _⟩ := HM.out _ (List.getElem_mem hlt)
      generalize M[k] = m at *
      have i1 : (k : Int) < (M.length : Int) := by omega
      have f2 : wr.cell? ⟨w.heap.size + 1, 2, none⟩ = some (.int .i64 s) := HB.out.cell 2
      have f3 : wr.frozen? ⟨w.heap.size + 1, 2, none⟩ = false := HB.out.free 2
      go_wp2_with fail
      refine wp_region_last_held (fun w' => w'.cell? ⟨w.heap.size + 1, 2, none⟩ = some (.int .i64 s) ∧ w'.cell? ⟨b, o + k * 3 + 1, none⟩ = some (.int .i64 m.count)) _ (by kernel_rfl) rfl (by kernel_rfl) ⟨f2, x1⟩ (fun hHeld => ?_)
      simp only [noopLast, noopOf]
      refine wpAnyH_take (i := 0) (oi := _) (v := ?_) rfl (by decide +kernel) (by decide +kernel) (by decide +kernel) (fun _ _ _ h => h) (Or.inl ⟨by rfl, ?_⟩) (by assumption) ?_
      rotate_left
      · (intro w hSw; (try dsimp only at hSw); go_simp <;> with_reducible rfl)
      (try simp only [Act.put, List.setIfInBounds_toArray, List.set_cons_zero, List.set_cons_succ])
      refine wpAnyH_take (i := 1) (oi := _) (v := ?_) rfl (by decide +kernel) (by decide +kernel) (by decide +kernel) (fun _ _ _ h => h) (Or.inl ⟨by rfl, ?_⟩) (by assumption) ?_
      rotate_left
      · (intro w hSw; (try dsimp only at hSw); go_simp <;> with_reducible rfl)
      (try simp only [Act.put, List.setIfInBounds_toArray, List.set_cons_zero, List.set_cons_succ])
      refine wpAnyH_take (i := 2) (oi := _) (v := ?_) rfl (by decide +kernel) (by decide +kernel) (by decide +kernel) (fun _ _ _ h => h) (Or.inl ⟨by rfl, ?_⟩) (by assumption) ?_
      rotate_left
      · (intro w hSw; (try dsimp only at hSw); go_simp <;> with_reducible rfl)
      (try simp only [Act.put, List.setIfInBounds_toArray, List.set_cons_zero, List.set_cons_succ])
      refine wpAnyH_take (i := 3) (oi := _) (v := ?_) rfl (by decide +kernel) (by decide +kernel) (by decide +kernel) (fun _ _ _ h => h) (Or.inl ⟨by rfl, ?_⟩) (by assumption) ?_
      rotate_left
      · (intro w hSw; (try dsimp only at hSw); go_simp <;> with_reducible rfl)
      (try simp only [Act.put, List.setIfInBounds_toArray, List.set_cons_zero, List.set_cons_succ])
      refine wpAnyH_take (i := 4) (oi := _) (v := ?_) rfl (by decide +kernel) (by decide +kernel) (by decide +kernel) (fun _ _ _ h => h) (Or.inl ⟨by rfl, ?_⟩) (by assumption) ?_
      rotate_left
      · (intro w hSw; (try dsimp only at hSw); go_simp <;> with_reducible rfl)
      (try simp only [Act.put, List.setIfInBounds_toArray, List.set_cons_zero, List.set_cons_succ])
      refine wpAnyH_take (i := 5) (oi := _) (v := ?_) rfl (by decide +kernel) (by decide +kernel) (by decide +kernel) (fun _ _ _ h => h) (Or.inl ⟨by rfl, ?_⟩) (by assumption) ?_
      rotate_left
      · (intro w hSw; (try dsimp only at hSw); go_simp <;> with_reducible rfl)
      (try simp only [Act.put, List.setIfInBounds_toArray, List.set_cons_zero, List.set_cons_succ])
      refine wpAnyH_take (i := 6) (oi := _) (v := ?_) rfl (by decide +kernel) (by decide +kernel) (by decide +kernel) (fun _ _ _ h => h) (Or.inl ⟨by rfl, ?_⟩) (by assumption) ?_
      rotate_left
      · (intro w hSw; (try dsimp only at hSw); go_simp <;> with_reducible rfl)
      (try simp only [Act.put, List.setIfInBounds_toArray, List.set_cons_zero, List.set_cons_succ])
      refine wpAnyH_take (i := 7) (oi := _) (v := ?_) rfl (by decide +kernel) (by decide +kernel) (by decide +kernel) (fun _ _ _ h => h) (Or.inl ⟨by rfl, ?_⟩) (by assumption) ?_
      rotate_left
      · (intro w hSw; (try dsimp only at hSw); go_simp <;> with_reducible rfl)
      (try simp only [Act.put, List.setIfInBounds_toArray, List.set_cons_zero, List.set_cons_succ])
      refine wpAnyH_take (i := 8) (oi := _) (v := ?_) rfl (by decide +kernel) (by decide +kernel) (by decide +kernel) (fun _ _ _ h => h) (Or.inl ⟨by rfl, ?_⟩) (by assumption) ?_
      rotate_left
      · (intro w hSw; (try dsimp only at hSw); go_simp <;> with_reducible rfl)
      (try simp only [Act.put, List.setIfInBounds_toArray, List.set_cons_zero, List.set_cons_succ])
      refine wpAnyH_take (i := 9) (oi := _) (v := ?_) rfl (by decide +kernel) (by decide +kernel) (by decide +kernel) (fun _ _ _ h => h) (Or.inl ⟨by rfl, ?_⟩) (by assumption) ?_
      rotate_left
      · (intro w hSw; (try dsimp only at hSw); go_simp <;> with_reducible rfl)
      (try simp only [Act.put, List.setIfInBounds_toArray, List.set_cons_zero, List.set_cons_succ])
      refine wpAnyH_done (by kernel_rfl) ?_ _
      show wpList _ _ _ _ _ _
      go_wp2_with fail
      refine ⟨⟨k + 1, _, by omega, by go_num, hid (by rw [hst.out, hs.out]), by omega, by omega, (HB.out.set 2 _).drew, (HB0.out.far (by dsimp only; omega) _).drew, (hb.setCell (by dsimp only; omega) _).drew⟩, by simp [intOf]; omega⟩
    · obtain rfl : k = M.length := by omega
      have hff2 : Hid (countM M = s) := hid (by rw [← hs.out, List.take_length])
      have hf3 := hff.out
      rw [hff2.out] at hf3
      have hbw := hb
      clear hs hff2 hff hlt hs0 hs1
      rcases Nat.eq_zero_or_pos M.length with h0 | h0
      · obtain rfl := List.eq_nil_of_length_eq_zero h0
        obtain ⟨x0, x1, x2, x3, x4, x5, x6, _⟩ := foot_blk HB.out
        obtain ⟨z0, z1, z2, z3, z4, z5, z6, y0, y1, y2, y3, y4, y5, y6⟩ := foot_blk HB0.out
        go_wp2_with fail
        have ZB := ((((((HB0.out.set 0 (.int .u64 ep)).set 1 (.int .i64 0)).set 2 (.int .i64 s)).set 3 (.int .u64 0)).set 4 (.int .u64 0)).set 5 (.int .i64 at_)).set 6 (.int .i64 size)
        simp only [List.setIfInBounds_toArray, List.set_cons_zero, List.set_cons_succ] at ZB
        obtain ⟨p0, p1, p2, p3, p4, p5, p6, _⟩ := foot_blk ZB
        refine bodyPost_ret (v := .agg #[.int .u64 ep, .int .i64 0, .int .i64 s, .int .u64 0, .int .u64 0, .int .i64 at_, .int .i64 size]) (by simp [results, Tryz.results118, go_sem, p0, p1, p2, p3, p4, p5, p6]) rfl ⟨by rw [hf3]; rfl, ?_⟩
        (repeat (first | with_reducible exact Below.refl _ _ | with_reducible assumption | (with_reducible refine below_alloc ?_ _) | (with_reducible refine Below.setCell ?_ (by first | omega | (simp; done) | (simp; omega)) _) | (with_reducible refine Below.drew ?_) | (with_reducible refine below_drewN ?_ _) | (refine below_then (by with_reducible assumption) ?_)))
      · obtain ⟨b, o, hA, hbb, v0, v1, _, hN⟩ := mark_at (lift HL.out hb) (i := M.length - 1) (by omega)
        obtain ⟨b2, o2, hA2, hbb2, u0, _, _, _⟩ := mark_at (lift HL.out hb) h0
        have hbo : b < w.heap.size := by
          obtain ⟨b2, o2, hA2, hbb2, _⟩ := mark_at HL.out h0
          rw [hA] at hA2; simp at hA2; omega
        subst hA
        simp only [Option.some.injEq, Addr.mk.injEq, and_true] at hA2
        obtain ⟨rfl, rfl⟩ := hA2
        obtain ⟨q1, q2, q3⟩ := HM.out _ (List.getElem_mem (show M.length - 1 < M.length by omega))
        rw [endsM_some h0] at hf3
        dsimp only at hf3
        have HF := hid hf3
        clear hf3
        generalize M[0] = m0 at *
        generalize M[M.length - 1] = m1 at *
        simp only [Nat.zero_mul, Nat.add_zero] at u0
        obtain ⟨n, hn⟩ : ∃ n, M.length = n + 1 := ⟨M.length - 1, by omega⟩
        clear HL
        generalize M.length = L at *
        subst hn
        simp only [Nat.add_sub_cancel] at v0 v1
        have d1 : ((n + 1 : Nat) : Int) = (n : Int) + 1 := by omega
        have hw : wrap64 (n : Int) = n := by
          unfold wrap64; omega
        have i1 : (n : Int) < (n : Int) + 1 := by omega
        have i0 : (0 : Int) < (n : Int) + 1 := by omega
        obtain ⟨_, _, _, t3, t4, _, _, _, _, _, s3, s4, _, _⟩ := foot_blk HB.out
        clear HM
        go_wp2_with fail
        go_big_region
        have hwu : IntKind.u64.wrap (m1.pos + m1.count) = m1.pos + m1.count := by
          have := hN.p.1
          simp only [IntKind.wrap_u64]; omega
        rw [hwu]
        refine then_world' (fun V => Below w.heap.size w V ∧ Blk V (w.heap.size + 1) 96 #[.int .u64 ep, .int .i64 ((n + 1 : Nat) : Int), .int .i64 s, .int .u64 m0.pos, .int .u64 (m1.pos + m1.count), .int .i64 at_, .int .i64 size] ∧ Blk V w.heap.size 96 #[.int .u64 0, .int .i64 0, .int .i64 0, .int .u64 0, .int .u64 0, .int .i64 0, .int .i64 0]) ⟨((hb.setCell (by dsimp only; omega) _).setCell (by dsimp only; omega) _).drew, ((HB.out.set 3 _).set 4 _).drew, ((HB0.out.far (by dsimp only; omega) _).far (by dsimp only; omega) _).drew⟩ ?_
        intro V ⟨hbV, hBV, hZV⟩
        have HZ := hid hZV
        have hzV : w.heap.size + 1 < V.heap.size := hBV.lt
        clear t3 t4 s3 s4 u0 v0 v1 hwu hb hbw HB HB0 hzr
        obtain ⟨x0, x1, x2, x3, x4, x5, x6, _⟩ := foot_blk hBV
        obtain ⟨z0, z1, z2, z3, z4, z5, z6, y0, y1, y2, y3, y4, y5, y6⟩ := foot_blk hZV
        clear hBV hZV d1 i1 i0 hk
        generalize ((n + 1 : Nat) : Int) = N1 at *
        go_wp2_with fail
        have ZB := ((((((HZ.out.set 0 (.int .u64 ep)).set 1 (.int .i64 N1)).set 2 (.int .i64 s)).set 3 (.int .u64 m0.pos)).set 4 (.int .u64 (m1.pos + m1.count))).set 5 (.int .i64 at_)).set 6 (.int .i64 size)
        simp only [List.setIfInBounds_toArray, List.set_cons_zero, List.set_cons_succ] at ZB
        obtain ⟨p0, p1, p2, p3, p4, p5, p6, _⟩ := foot_blk ZB
        refine bodyPost_ret (v := .agg #[.int .u64 ep, .int .i64 N1, .int .i64 s, .int .u64 m0.pos, .int .u64 (m1.pos + m1.count), .int .i64 at_, .int .i64 size]) (by simp [results, Tryz.results118, go_sem, p0, p1, p2, p3, p4, p5, p6]) rfl ⟨by rw [HF.out], ?_⟩
        (repeat (first | with_reducible exact Below.refl _ _ | with_reducible assumption | (with_reducible refine below_alloc ?_ _) | (with_reducible refine Below.setCell ?_ (by first | omega | (simp; done) | (simp; omega)) _) | (with_reducible refine Below.drew ?_) | (with_reducible refine below_drewN ?_ _) | (refine below_then (by with_reducible assumption) ?_)))
end Go.Proofs.YtkipiefcnjfdjaaGreat
namespace Go.Proofs.YtkipiefcnjfdjaaGreat
open Go.RowKit Go.Bs Go.Maps
set_option linter.unusedVariables false
set_option linter.unusedSimpArgs false

theorem varB_cells {n : Nat} (h : n < 128) : byteCells (varB n) = [.int .u8 (n : Int)] := by
  rw [varB_small h]
  simp [byteCells]
  omega
theorem link_parts (pos : Int) (l : List Link) : ∃ Z : List (List UInt8), lnkF pos none l = Z.flatten ∧ Z.length = l.length ∧ (∀ k, (Z.take k).flatten.length ≤ Z.flatten.length) ∧ ∀ (k : Nat) (h : k < l.length), (Z.take (k + 1)).flatten = (Z.take k).flatten ++ (varB ((upsL none l)[k]'(by rw [upsL_len]; exact h)).toNat ++ deltaB pos l[k].backs) := by
  refine ⟨linkZ pos none l, linksF_zip pos l none, linkZ_len pos none l, fun k => flat_take_le _ k, fun k h => ?_⟩
  have := flat_step (linkZ pos none l) k (by rw [linkZ_len]; exact h)
  rw [linkZ_get pos l k h] at this
  exact this
set_option maxRecDepth 100000 in
set_option maxHeartbeats 6400000 in
theorem ref23_bytes (w : World) (pos : Int) (hpos : 0 ≤ pos ∧ pos ≤ 18446744073709551615) (l : List Link) (al : Option Addr) (nl cl : Nat) (hl : rLinks.r (· < w.heap.size) w [.slice al nl cl] l) (hR : linksR pos l = true) (hbk : ∀ x ∈ l, x.backs.length ≤ 1000000) :
    Calls Tryz.prog 205 #[.int .u64 pos, .slice al nl cl] w fun r w' => ∃ v, r = .returned v ∧ OwnB w' w.heap.size v (linksB pos l) ∧ Below w.heap.size w w' := by
  obtain ⟨rfl, hm, _, _⟩ := sl_len hl
  obtain ⟨i0, hi, hz0, hz1, hz2⟩ := info_parts info8
  have hN := links_bounds hl
  have hR' := hR
  simp only [linksR, Bool.and_eq_true, decide_eq_true_eq, List.all_eq_true] at hR'
  have hlk : ∀ x ∈ l, fallsB pos x.backs = true := fun x hx => by have := hR'.2.2 x hx; simp only [linkR, Bool.and_eq_true] at this; exact this.2
  have HLK := hid hlk
  have HBK := hid hbk
  have hup := hid (upsL_bounds l hR'.2.1 (fun x hx => (hN x hx).1))
  have hul := upsL_len none l
  have hle := linkZ_len_le pos l hR
  have HL := hid hl
  have hvl := varB_len_small (x := l.length) (by omega)
  have HVC := hid (varB_cells (n := l.length) (by omega))
  have HU := hid (fun (k : Nat) (h : k < l.length) => upsL_get l none k h)
  have HRI := hid (fun (k : Nat) (h : k + 1 < l.length) => (by have := rises_at (l.map Link.stream) k (by simpa using h) hR'.2.1; simpa using this : l[k].stream < l[k + 1].stream))
  obtain ⟨Z, hZ, hzl, hmo0, hns0⟩ := link_parts pos l
  have HMO := hid hmo0
  have HNS := hid hns0
  rw [hZ] at hle
  unfold linksB
  rw [hZ]
  have hll : l.length ≤ 16 := hR'.1
  generalize varB l.length = VL at *
  clear hl hR hR' hlk hbk hN hZ hmo0 hns0
  go_enter Tryz.func205, Tryz.ntmps205
  go_wp2_with fail
  have HOS : Hid ((w.alloc (.cells #[.int .u8 (l.length : Int)] 5)).ownsRow w.heap.size 5 1 (.slice (some ⟨w.heap.size, 0, none⟩) VL.length 1) VL.length (byteCells VL)) := hid (by rw [HVC.out, hvl]; exact own_new1 (Nat.le_refl _) (World.alloc_heap_new w _))
  have hb0 : Below w.heap.size w (w.alloc (.cells #[.int .u8 (l.length : Int)] 5)) := by (repeat (first | with_reducible exact Below.refl _ _ | with_reducible assumption | (with_reducible refine below_alloc ?_ _) | (with_reducible refine Below.setCell ?_ (by first | omega | (simp; done) | (simp; omega)) _) | (with_reducible refine Below.drew ?_) | (with_reducible refine below_drewN ?_ _) | (refine below_then (by with_reducible assumption) ?_)))
  go_loopw [5, 6] (fun v i wr => ∃ (k : Nat) (J : List UInt8), k ≤ l.length ∧ i = .int .i64 k ∧ OwnB wr w.heap.size v J ∧ Hid (J = VL ++ (Z.take k).flatten) ∧ (∃ aJ cJ, v = .slice aJ J.length cJ) ∧ Below w.heap.size w wr) (fun _ i _ => l.length - (intOf i).toNat)
  case atStart => exact ⟨0, VL, Nat.zero_le _, rfl, by rw [hvl] at HOS; exact (by unfold OwnB; rw [hvl]; exact HOS.out), hid (by simp), ⟨_, _, by rw [hvl]⟩, hb0⟩
  case round =>
    obtain ⟨k, J, hk, rfl, hown, hJ, ⟨aJ, cJ, rfl⟩, hb⟩ := hrel
    rcases Nat.lt_or_ge k l.length with hlt | hge
    · obtain ⟨b, o, hA, hbb, a2, c2, u0, u1, hx, xl⟩ := link_at HL.out hlt
      subst hA
      have hst := HNS.out k hlt
      have hmo := HMO.out (k + 1)
      have hub := hup.out k hlt
      have hu := HU.out k hlt
      rw [hst, List.length_append, List.length_append] at hmo
      have hJl : J.length + (varB ((upsL none l)[k]'(by omega)).toNat).length + (deltaB pos l[k].backs).length ≤ 20000000 := by have := congrArg List.length hJ.out; rw [List.length_append] at this; omega
      have hN0 : ∀ W : World, Calls Tryz.prog 144 #[.int .u64 ((upsL none l)[k]'(by omega))] W fun r w' => ∃ v, r = .returned v ∧ w'.ownsRow W.heap.size 5 1 v (varB ((upsL none l)[k]'(by omega)).toNat).length (byteCells (varB ((upsL none l)[k]'(by omega)).toNat)) ∧ Below W.heap.size W w' := fun W => by
        have := ref04_own ((upsL none l)[k]'(by omega)).toNat (by omega) W
        rw [toNat_cast hub.1] at this
        exact this
      have hJ1 : (J ++ varB ((upsL none l)[k]'(by omega)).toNat) ++ deltaB pos l[k].backs = VL ++ (Z.take (k + 1)).flatten := by rw [hst, hJ.out]; simp only [List.append_assoc]
      have HBY := hid (fun (W : World) (hW : Below w.heap.size w W) => ref22_bytes W pos hpos l[k].backs a2 _ c2 (lift xl hW) (HLK.out l[k] (List.getElem_mem hlt)) (HBK.out l[k] (List.getElem_mem hlt)))
      have HO := hid hown
      have i1 : (k : Int) < (l.length : Int) := by omega
      have d1 : decide ((k : Int) < (l.length : Int)) = true := decide_eq_true i1
      have X0 := (hb.cell (p := ⟨b, o + k * 2, none⟩) hbb).trans u0
      have X1 := (hb.cell (p := ⟨b, o + k * 2 + 1, none⟩) hbb).trans u1
      rcases Nat.eq_zero_or_pos k with rfl | hk0
      · rw [dif_pos rfl] at hu
        (try dsimp only at hu)
        rw [hu] at hJl hJ1
        have hN1 := fun W => hu ▸ hN0 W
        simp only [Nat.zero_mul, Nat.add_zero, Nat.zero_add] at X0 X1 u1
        have HN := hid hN1
        have HJ1 := hid hJ1
        generalize varB l[0].stream.toNat = VK at *
        generalize deltaB pos l[0].backs = DK at *
        have HONE := hid (byteCells_one VK)
        have HOND := hid (byteCells_one DK)
        generalize l[0] = y at *
        clear hst hmo hub hu hJ1 hN0 hN1 hown hJ u0 xl
        go_wp2_with fail
        refine (HN.out _).mono ?_
        rintro r w3 ⟨v3, rfl, hv3, hb3⟩
        obtain ⟨a3, c3, rfl⟩ := own_form hv3
        have HS3 := hid (src_bytes (own_bytes rfl hv3))
        have HO3 := hid (own_below HO.out hb3)
        have hz := hb.size
        have hz3 := hb3.size
        clear hv3
        go_wp2_with (at_builtin; go_loud (refine wpList_append_src rfl _ _ _ rfl w.heap.size 5 i0 (.int .u8 0) 1 1 Tryz.underlying28 hi hz0 hz1 hz2 rfl (by decide) (.slice aJ J.length cJ) J.length (byteCells J) rfl HO3.out a3 VK.length c3 (byteCells VK) rfl HS3.out HONE.out (by simp only [maxLen]; omega) (by omega) (by omega) ?_; intro v' w4 hown4 hgrow4 hat4; obtain ⟨a4, c4, rfl⟩ := own_form hown4; have HO4 := hid (OwnB.app hown4); have hbg4 : Below w.heap.size w3 w4 := (Below.grown (Below.refl _ _) hgrow4 (by omega) (fun g e => (HO3.out.lt g e).1)); have hb4 : Below w.heap.size w w4 := hb.trans ((hb3.mono hb.size).trans hbg4); have Y1 : w4.cell? ⟨b, o + 1, none⟩ = some (.slice a2 y.backs.length c2) := (hb4.cell (p := ⟨b, o + 1, none⟩) hbb).trans u1; clear hown4 hgrow4 hat4))
        have hz4 := hbg4.size
        have HB4 := hid (HBY.out w4 hb4)
        have hlJ : (J ++ VK).length = J.length + VK.length := List.length_append
        generalize J ++ VK = J4 at *
        have HOB4 := hid HO4.out
        rw [← hlJ] at HOB4 ⊢
        have hJ4l : J4.length + DK.length ≤ 20000000 := by omega
        clear hlJ
        clear X0 X1
        refine HB4.out.mono ?_
        rintro r w5 ⟨v5, rfl, hv5, hb5⟩
        obtain ⟨a5, c5, rfl⟩ := own_form hv5
        have HS5 := hid (src_bytes (own_bytes rfl hv5))
        have HO5 := hid (own_below HOB4.out hb5)
        have hz5 := hb5.size
        clear hv5 Y1
        go_wp2_with (at_builtin; go_loud (refine wpList_append_src rfl _ _ _ rfl w.heap.size 5 i0 (.int .u8 0) 1 1 Tryz.underlying28 hi hz0 hz1 hz2 rfl (by decide) (.slice a4 J4.length c4) J4.length (byteCells J4) rfl HO5.out a5 DK.length c5 (byteCells DK) rfl HS5.out HOND.out (by simp only [maxLen]; omega) (by omega) (by omega) ?_; intro v' w6 hown6 hgrow6 hat6; obtain ⟨a6, c6, rfl⟩ := own_form hown6; have HO6 := hid (OwnB.app hown6); have hbg6 : Below w.heap.size w5 w6 := (Below.grown (Below.refl _ _) hgrow6 (by omega) (fun g e => (HO5.out.lt g e).1)); clear hown6 hgrow6 hat6))
        have hbe : Below w.heap.size w w6 := hb4.trans ((hb5.mono hb4.size).trans hbg6)
        go_roundw
        case rel => exact ⟨1, J4 ++ DK, by omega, by go_num, HO6.out, HJ1, ⟨_, _, by rw [List.length_append]⟩, hbe⟩
        case measure => simp [intOf]; omega
      · obtain ⟨m, rfl⟩ : ∃ m, k = m + 1 := ⟨k - 1, by omega⟩
        obtain ⟨b', o', hA', hbb', a3', c3', t0, t1, hty, tl⟩ := link_at HL.out (show m < l.length by omega)
        simp only [Option.some.injEq, Addr.mk.injEq] at hA'
        obtain ⟨rfl, rfl, _⟩ := hA'
        have T0 := (hb.cell (p := ⟨b, o + m * 2, none⟩) hbb).trans t0
        have hri := HRI.out m hlt
        rw [dif_neg (by omega)] at hu
        simp only [Nat.add_sub_cancel] at hu
        rw [hu] at hJl hJ1
        have hN1 := fun W => hu ▸ hN0 W
        have HN := hid hN1
        have HJ1 := hid hJ1
        have i1' : (m : Int) + 1 < (l.length : Int) := by omega
        have i2 : (m : Int) < (l.length : Int) := by omega
        have d2 : decide ((m : Int) + 1 < (l.length : Int)) = true := decide_eq_true i1'
        have d3 : decide (m + 1 < l.length) = true := decide_eq_true hlt
        generalize varB (l[m + 1].stream - (l[m]'(by omega)).stream - 1).toNat = VK at *
        generalize deltaB pos l[m + 1].backs = DK at *
        have HONE := hid (byteCells_one VK)
        have HOND := hid (byteCells_one DK)
        generalize l[m + 1] = y at *
        generalize l[m]'(by omega) = z at *
        have w1 : 0 ≤ y.stream - z.stream := by omega
        have w2 : 0 ≤ y.stream - z.stream - 1 := by omega
        clear hst hmo hub hu hJ1 hN0 hN1 hown hJ u0 xl t0 t1 tl
        go_wp2_with fail
        refine (HN.out _).mono ?_
        rintro r w3 ⟨v3, rfl, hv3, hb3⟩
        obtain ⟨a3, c3, rfl⟩ := own_form hv3
        have HS3 := hid (src_bytes (own_bytes rfl hv3))
        have HO3 := hid (own_below HO.out hb3)
        have hz := hb.size
        have hz3 := hb3.size
        clear hv3
        go_wp2_with (at_builtin; go_loud (refine wpList_append_src rfl _ _ _ rfl w.heap.size 5 i0 (.int .u8 0) 1 1 Tryz.underlying28 hi hz0 hz1 hz2 rfl (by decide) (.slice aJ J.length cJ) J.length (byteCells J) rfl HO3.out a3 VK.length c3 (byteCells VK) rfl HS3.out HONE.out (by simp only [maxLen]; omega) (by omega) (by omega) ?_; intro v' w4 hown4 hgrow4 hat4; obtain ⟨a4, c4, rfl⟩ := own_form hown4; have HO4 := hid (OwnB.app hown4); have hbg4 : Below w.heap.size w3 w4 := (Below.grown (Below.refl _ _) hgrow4 (by omega) (fun g e => (HO3.out.lt g e).1)); have hb4 : Below w.heap.size w w4 := hb.trans ((hb3.mono hb.size).trans hbg4); have Y1 : w4.cell? ⟨b, o + (m + 1) * 2 + 1, none⟩ = some (.slice a2 y.backs.length c2) := (hb4.cell (p := ⟨b, o + (m + 1) * 2 + 1, none⟩) hbb).trans u1; clear hown4 hgrow4 hat4))
        have hz4 := hbg4.size
        have HB4 := hid (HBY.out w4 hb4)
        have hlJ : (J ++ VK).length = J.length + VK.length := List.length_append
        generalize J ++ VK = J4 at *
        have HOB4 := hid HO4.out
        rw [← hlJ] at HOB4 ⊢
        have hJ4l : J4.length + DK.length ≤ 20000000 := by omega
        clear hlJ
        clear X0 X1 T0
        refine HB4.out.mono ?_
        rintro r w5 ⟨v5, rfl, hv5, hb5⟩
        obtain ⟨a5, c5, rfl⟩ := own_form hv5
        have HS5 := hid (src_bytes (own_bytes rfl hv5))
        have HO5 := hid (own_below HOB4.out hb5)
        have hz5 := hb5.size
        clear hv5 Y1
        go_wp2_with (at_builtin; go_loud (refine wpList_append_src rfl _ _ _ rfl w.heap.size 5 i0 (.int .u8 0) 1 1 Tryz.underlying28 hi hz0 hz1 hz2 rfl (by decide) (.slice a4 J4.length c4) J4.length (byteCells J4) rfl HO5.out a5 DK.length c5 (byteCells DK) rfl HS5.out HOND.out (by simp only [maxLen]; omega) (by omega) (by omega) ?_; intro v' w6 hown6 hgrow6 hat6; obtain ⟨a6, c6, rfl⟩ := own_form hown6; have HO6 := hid (OwnB.app hown6); have hbg6 : Below w.heap.size w5 w6 := (Below.grown (Below.refl _ _) hgrow6 (by omega) (fun g e => (HO5.out.lt g e).1)); clear hown6 hgrow6 hat6))
        have hbe : Below w.heap.size w w6 := hb4.trans ((hb5.mono hb4.size).trans hbg6)
        go_roundw
        case rel => exact ⟨m + 1 + 1, J4 ++ DK, by omega, by go_num, HO6.out, HJ1, ⟨_, _, by rw [List.length_append]⟩, hbe⟩
        case measure => simp [intOf]; omega
    · obtain rfl : k = l.length := by omega
      have d1 : decide ((l.length : Int) < (l.length : Int)) = false := decide_eq_false (by omega)
      have hfin : Hid (J = VL ++ Z.flatten) := hid (by have := hJ.out; rwa [List.take_of_length_le (by omega)] at this)
      have HO := hid hown
      clear hown hJ
      go_wp2
      go_ret
      rw [← hfin.out]
      exact ⟨_, rfl, HO.out, hb⟩
end Go.Proofs.YtkipiefcnjfdjaaGreat
namespace Go.Proofs.YtkipiefcnjfdjaaGreat
open Go.RowKit Go.Bs Go.Maps
set_option linter.unusedVariables false
set_option linter.unusedSimpArgs false

theorem own_base {w : World} {b b' : Nat} (h : b ≤ b') {v : Value} {L : List UInt8} (ho : OwnB w b' v L) : OwnB w b v L := by
  refine ⟨ho.1, ?_⟩
  rcases ho.2 with h0 | ⟨g, cap, cur, h1, h2, h3⟩
  · exact .inl h0
  · exact .inr ⟨g, cap, cur, h1, by omega, h3⟩

set_option maxRecDepth 100000 in
set_option maxHeartbeats 6400000 in
theorem ref24_head (w : World) (pos : Int) (hpos : 0 ≤ pos ∧ pos ≤ 18446744073709551615) (e : Entry) (a1 a2 : Option Addr) (n1 c1 n2 c2 : Nat)
    (hl : rLinks.r (· < w.heap.size) w [.slice a1 n1 c1] e.links) (hd : rBytes.r (· < w.heap.size) w [.slice a2 n2 c2] e.data) (hR : entryR pos e = true) (hbk : ∀ x ∈ e.links, x.backs.length ≤ 1000000) :
    Calls Tryz.prog 145 #[.int .u64 pos, .agg #[.slice a1 n1 c1, .slice a2 n2 c2]] w fun r w' => ∃ v, r = .returned v ∧ OwnB w' w.heap.size v (headB pos e) ∧ Below w.heap.size w w' := by
  obtain ⟨rfl, hm1, _, _⟩ := sl_len hl
  obtain ⟨rfl, hm2, _, _⟩ := sl_len hd
  obtain ⟨i0, hi, hz0, hz1, hz2⟩ := info_parts info8
  have hle := headN_le pos e
  unfold headN at hle
  rw [if_pos hR] at hle
  have hR' := hR
  simp only [entryR, Bool.and_eq_true, decide_eq_true_eq] at hR'
  have hhb : headB pos e = linksB pos e.links ++ varB e.data.length := rfl
  rw [hhb] at hle ⊢
  rw [List.length_append] at hle
  have HLB := hid (fun (W : World) (hW : Below w.heap.size w W) => ref23_bytes W pos hpos e.links a1 _ c1 (lift hl hW) hR'.1 hbk)
  have HVB := hid (fun (W : World) => ref04_own e.data.length (by omega) W)
  have hdl := hR'.2
  have HWL : Hid (IntKind.u64.wrap (e.data.length : Int) = (e.data.length : Int)) := hid (by simp only [IntKind.wrap_u64]; omega)
  generalize varB e.data.length = VD at *
  generalize linksB pos e.links = LB at *
  have HONE := hid (byteCells_one VD)
  clear hl hd hR hR' hhb
  go_enter Tryz.func145, Tryz.ntmps145
  go_wp2_with fail
  refine wp_world (fun W => Below w.heap.size w W ∧ W.cell? ⟨w.heap.size, 0, none⟩ = some (.slice a1 e.links.length c1) ∧ W.cell? ⟨w.heap.size, 1, none⟩ = some (.slice a2 e.data.length c2) ∧ w.heap.size < W.heap.size) ⟨by (repeat (first | with_reducible exact Below.refl _ _ | with_reducible assumption | (with_reducible refine below_alloc ?_ _) | (with_reducible refine Below.setCell ?_ (by first | omega | (simp; done) | (simp; omega)) _) | (with_reducible refine Below.drew ?_) | (with_reducible refine below_drewN ?_ _) | (refine below_then (by with_reducible assumption) ?_))), by go_simp, by go_simp, by simp⟩ ?_
  rintro V ⟨hbV, x0, x1, lV⟩
  refine wp_region_held_drew (S := fun w' => w'.cell? ⟨w.heap.size, 0, none⟩ = some (.slice a1 e.links.length c1) ∧ w'.cell? ⟨w.heap.size, 1, none⟩ = some (.slice a2 e.data.length c2)) (by kernel_rfl) ⟨x0, x1⟩ (fun hHeld => ?_)
  refine wpAnyH_take (i := 0) (oi := _) (v := ?_) rfl (by decide +kernel) (by decide +kernel) (by decide +kernel) (fun _ _ _ h => h) (Or.inl ⟨by rfl, ?_⟩) (by assumption) ?_
  rotate_left
  · (intro w hSw; (try dsimp only at hSw); go_simp <;> with_reducible rfl)
  (try simp only [Act.put, List.setIfInBounds_toArray, List.set_cons_zero, List.set_cons_succ])
  refine wpAnyH_take (i := 1) (oi := _) (v := ?_) rfl (by decide +kernel) (by decide +kernel) (by decide +kernel) (fun _ _ _ h => h) (Or.inl ⟨by rfl, ?_⟩) (by assumption) ?_
  rotate_left
  · (intro w hSw; (try dsimp only at hSw); go_simp <;> with_reducible rfl)
  (try simp only [Act.put, List.setIfInBounds_toArray, List.set_cons_zero, List.set_cons_succ])
  refine wpAnyH_take (i := 2) (oi := _) (v := ?_) rfl (by decide +kernel) (by decide +kernel) (by decide +kernel) (fun _ _ _ h => h) (Or.inl ⟨by rfl, ?_⟩) (by assumption) ?_
  rotate_left
  · (intro w hSw; (try dsimp only at hSw); go_simp <;> with_reducible rfl)
  (try simp only [Act.put, List.setIfInBounds_toArray, List.set_cons_zero, List.set_cons_succ])
  refine wpAnyH_take (i := 4) (oi := _) (v := ?_) rfl (by decide +kernel) (by decide +kernel) (by decide +kernel) (fun _ _ _ h => h) (Or.inl ⟨by rfl, ?_⟩) (by assumption) ?_
  rotate_left
  · (intro w hSw; (try dsimp only at hSw); go_simp <;> with_reducible rfl)
  (try simp only [Act.put, List.setIfInBounds_toArray, List.set_cons_zero, List.set_cons_succ])
  refine wpAnyH_take (i := 5) (oi := _) (v := ?_) rfl (by decide +kernel) (by decide +kernel) (by decide +kernel) (fun _ _ _ h => h) (Or.inl ⟨by rfl, ?_⟩) (by assumption) ?_
  rotate_left
  · (intro w hSw; (try dsimp only at hSw); go_simp <;> with_reducible rfl)
  (try simp only [Act.put, List.setIfInBounds_toArray, List.set_cons_zero, List.set_cons_succ])
  refine wpAnyH_take (i := 6) (oi := _) (v := ?_) rfl (by decide +kernel) (by decide +kernel) (by decide +kernel) (fun _ _ _ h => h) (Or.inl ⟨by rfl, ?_⟩) (by assumption) ?_
  rotate_left
  · (intro w hSw; (try dsimp only at hSw); go_simp <;> with_reducible rfl)
  (try simp only [Act.put, List.setIfInBounds_toArray, List.set_cons_zero, List.set_cons_succ])
  refine wpAnyH_take (i := 7) (oi := _) (v := ?_) rfl (by decide +kernel) (by decide +kernel) (by decide +kernel) (fun _ _ _ h => h) (Or.inl ⟨by rfl, ?_⟩) (by assumption) ?_
  rotate_left
  · (intro w hSw; (try dsimp only at hSw); go_simp <;> with_reducible rfl)
  (try simp only [Act.put, List.setIfInBounds_toArray, List.set_cons_zero, List.set_cons_succ])
  refine wpAnyH_ready (rs := [3]) (by decide +kernel) (by simp) ?_
  refine AllReadyH.cons (o := _) rfl (fun K hK => ?_) AllReadyH.nil
  (go_simp; go_at_call 205; refine (HLB.out _ (by (repeat (first | with_reducible exact Below.refl _ _ | with_reducible assumption | (with_reducible refine below_alloc ?_ _) | (with_reducible refine Below.setCell ?_ (by first | omega | (simp; done) | (simp; omega)) _) | (with_reducible refine Below.drew ?_) | (with_reducible refine below_drewN ?_ _) | (refine below_then (by with_reducible assumption) ?_))))).mono ?_; rintro e1 w3 ⟨v3, rfl, hv3, hb3⟩; obtain ⟨a3, c3, rfl⟩ := own_form hv3; have hbv3 : Below V.heap.size V w3 := below_then hb3 (Below.refl _ _).drew; have k03 := (hbv3.cell (p := ⟨w.heap.size, 0, none⟩) lV).trans x0; have k13 := (hbv3.cell (p := ⟨w.heap.size, 1, none⟩) lV).trans x1; have HO3 : Hid (w3.ownsRow V.heap.size 5 1 (.slice a3 LB.length c3) LB.length (byteCells LB)) := hid hv3; have hs3 := hbv3.size; clear hv3 hb3; (try dsimp only))
  refine hK.out _ _ ?_ (fun hHeld => ?_)
  · ((try dsimp only); first | assumption | (refine ⟨?_, ?_⟩ <;> assumption) | (refine ⟨?_, ?_, ?_⟩ <;> assumption) | (refine ⟨?_, ?_, ?_, ?_⟩ <;> assumption))
  clear hK K
  (try simp only [Act.put, List.setIfInBounds_toArray, List.set_cons_zero, List.set_cons_succ])
  refine wpAnyH_ready (rs := [8]) (by decide +kernel) (by simp) ?_
  refine AllReadyH.cons (o := _) rfl (fun K hK => ?_) AllReadyH.nil
  (go_simp; rw [HWL.out]; go_at_call 144; refine (HVB.out _).mono ?_; rintro e1 w4 ⟨v4, rfl, hv4, hb4⟩; obtain ⟨a4, c4, rfl⟩ := own_form hv4; have k04 := (hb4.cell (p := ⟨w.heap.size, 0, none⟩) (by dsimp only; omega)).trans k03; have k14 := (hb4.cell (p := ⟨w.heap.size, 1, none⟩) (by dsimp only; omega)).trans k13; have HO4 := hid (own_below HO3.out hb4); have HS4 := hid (src_bytes (own_bytes rfl hv4)); have hs4 := hb4.size; clear hv4; (try dsimp only))
  refine hK.out _ _ ?_ (fun hHeld => ?_)
  · ((try dsimp only); first | assumption | (refine ⟨?_, ?_⟩ <;> assumption) | (refine ⟨?_, ?_, ?_⟩ <;> assumption) | (refine ⟨?_, ?_, ?_, ?_⟩ <;> assumption))
  clear hK K
  (try simp only [Act.put, List.setIfInBounds_toArray, List.set_cons_zero, List.set_cons_succ])
  refine wpAnyH_ready (rs := [9]) (by decide +kernel) (by simp) ?_
  refine AllReadyH.cons (o := _) rfl (fun K hK => ?_) AllReadyH.nil
  (go_loud (refine step_append_src (by rfl) _ _ _ (by rfl) V.heap.size 5 i0 (.int .u8 0) 1 1 Tryz.underlying28 hi hz0 hz1 hz2 rfl (by decide) (.slice a3 LB.length c3) LB.length (byteCells LB) (by rfl) HO4.out a4 VD.length c4 (byteCells VD) (by rfl) HS4.out HONE.out (by simp only [maxLen]; omega) (by omega) (by omega) ?_; intro a5 c5 w5 hown5 hgrow5 hat5; have HO5 := hid (OwnB.app hown5); have hbg5 : Below V.heap.size w4 w5 := (Below.grown (Below.refl _ _) hgrow5 (by omega) (fun g e => (HO4.out.lt g e).1)); have k05 := (hbg5.cell (p := ⟨w.heap.size, 0, none⟩) (by dsimp only; omega)).trans k04; have k15 := (hbg5.cell (p := ⟨w.heap.size, 1, none⟩) (by dsimp only; omega)).trans k14; clear hown5 hgrow5 hat5; (try dsimp only)))
  refine hK.out _ _ ?_ (fun hHeld => ?_)
  · ((try dsimp only); first | assumption | (refine ⟨?_, ?_⟩ <;> assumption) | (refine ⟨?_, ?_, ?_⟩ <;> assumption) | (refine ⟨?_, ?_, ?_, ?_⟩ <;> assumption))
  clear hK K
  (try simp only [Act.put, List.setIfInBounds_toArray, List.set_cons_zero, List.set_cons_succ])
  refine wpAnyH_take (i := 10) (oi := _) (v := ?_) rfl (by decide +kernel) (by decide +kernel) (by decide +kernel) (fun _ _ _ h => h) (Or.inl ⟨by rfl, ?_⟩) (by assumption) ?_
  rotate_left
  · (intro w hSw; (try dsimp only at hSw); go_simp <;> with_reducible rfl)
  (try simp only [Act.put, List.setIfInBounds_toArray, List.set_cons_zero, List.set_cons_succ])
  simp only [List.getElem_toArray, List.getElem_cons_zero, List.getElem_cons_succ, Act.put, List.setIfInBounds_toArray, List.set_cons_zero, List.set_cons_succ]
  refine wpAnyH_done (by kernel_rfl) ?_ _
  have hbe : Below w.heap.size w w5 := (hbV.trans ((hbv3.mono hbV.size).trans ((hb4.mono (by omega)).trans (hbg5.mono (by omega)))))
  have HOE := hid (own_base (by omega : w.heap.size ≤ V.heap.size) HO5.out)
  go_wp2
  go_ret
  exact ⟨_, rfl, HOE.out, hbe⟩
end Go.Proofs.YtkipiefcnjfdjaaGreat
namespace Go.Proofs.YtkipiefcnjfdjaaGreat
open Go.RowKit Go.Bs Go.Maps
set_option linter.unusedVariables false
set_option linter.unusedSimpArgs false

set_option maxRecDepth 100000 in
set_option maxHeartbeats 6400000 in
theorem ref25_heads (w : World) (b : Batch) (a : Option Addr) (n c : Nat) (hN : batchN b) (hl : rEntries.r (· < w.heap.size) w [.slice a n c] b.entries) (hR : batchR b = true) (ht : TameE b.entries) :
    Calls Tryz.prog 89 #[.agg #[.int .u64 b.epoch, .int .u64 b.base, .slice a n c]] w fun r w' => ∃ v, r = .returned v ∧ OwnB w' w.heap.size v (aheadB b) ∧ Below w.heap.size w w' := by
  obtain ⟨rfl, hm, _, _⟩ := sl_len hl
  obtain ⟨i0, hi, hz0, hz1, hz2⟩ := info_parts info8
  obtain ⟨h0, h1, _⟩ := hN
  have hlen := (batchB_len hR).2.2
  have hR' := hR
  simp only [batchR, Bool.and_eq_true, fitsR, decide_eq_true_eq] at hR'
  obtain ⟨_, ⟨_, hl16, hb62, hbn⟩, _, hent⟩ := hR'
  have HL := hid hl
  have HBK := hid ht.backs
  have HEA := hid (fun (k : Nat) (hk : k < b.entries.length) => entriesR_at b.entries b.base k hk hent)
  have HHS := hid (fun (k : Nat) (hk : k < b.entries.length) => headsB_step b.entries b.base k hk)
  have HHL := hid (fun k => headsB_le b.entries b.base k)
  have HE := hid (fun (W : World) => (by have := ref04_own b.epoch.toNat (by omega) W; rw [toNat_cast h0.1] at this; exact this : Calls Tryz.prog 144 #[.int .u64 b.epoch] W fun r w' => ∃ v, r = .returned v ∧ w'.ownsRow W.heap.size 5 1 v (varB b.epoch.toNat).length (byteCells (varB b.epoch.toNat)) ∧ Below W.heap.size W w'))
  have HB := hid (fun (W : World) => (by have := ref04_own b.base.toNat (by omega) W; rw [toNat_cast h1.1] at this; exact this : Calls Tryz.prog 144 #[.int .u64 b.base] W fun r w' => ∃ v, r = .returned v ∧ w'.ownsRow W.heap.size 5 1 v (varB b.base.toNat).length (byteCells (varB b.base.toNat)) ∧ Below W.heap.size W w'))
  have HNN := hid (fun (W : World) => ref04_own b.entries.length (by omega) W)
  have hv1 := (varB_len b.epoch.toNat).1
  have hv2 := (varB_len b.base.toNat).1
  have hv3 := (varB_len b.entries.length).1
  unfold aheadB
  obtain ⟨ep, bs, l⟩ := b
  dsimp only at *
  generalize varB ep.toNat = VE at *
  generalize varB bs.toNat = VB at *
  generalize varB l.length = VN at *
  have HOB := hid (byteCells_one VB)
  have HON := hid (byteCells_one VN)
  clear hl hR hent ht
  go_enter Tryz.func89, Tryz.ntmps89
  go_wp2_with fail
  refine wp_world (fun W => Below w.heap.size w W ∧ Blk W w.heap.size 25 #[.int .u64 ep, .int .u64 bs, .slice a l.length c] ∧ w.heap.size + 1 ≤ W.heap.size) ⟨by (repeat (first | with_reducible exact Below.refl _ _ | with_reducible assumption | (with_reducible refine below_alloc ?_ _) | (with_reducible refine Below.setCell ?_ (by first | omega | (simp; done) | (simp; omega)) _) | (with_reducible refine Below.drew ?_) | (with_reducible refine below_drewN ?_ _) | (refine below_then (by with_reducible assumption) ?_))), Blk.newAt _ _ _ rfl, by simp⟩ ?_
  rintro V ⟨hbV, BV, lV⟩
  obtain ⟨x0, x1, x2, _, _, _, lb⟩ := b_blk BV
  have HBV := hid BV
  clear BV
  refine wp_region_held_drew (S := fun w' => w'.cell? ⟨w.heap.size, 0, none⟩ = some (.int .u64 ep) ∧ w'.cell? ⟨w.heap.size, 1, none⟩ = some (.int .u64 bs)) (by kernel_rfl) ⟨x0, x1⟩ (fun hHeld => ?_)
  refine wpAnyH_take (i := 0) (oi := _) (v := ?_) rfl (by decide +kernel) (by decide +kernel) (by decide +kernel) (fun _ _ _ h => h) (Or.inl ⟨by rfl, ?_⟩) (by assumption) ?_
  rotate_left
  · (intro w hSw; (try dsimp only at hSw); go_simp <;> with_reducible rfl)
  (try simp only [Act.put, List.setIfInBounds_toArray, List.set_cons_zero, List.set_cons_succ])
  refine wpAnyH_take (i := 1) (oi := _) (v := ?_) rfl (by decide +kernel) (by decide +kernel) (by decide +kernel) (fun _ _ _ h => h) (Or.inl ⟨by rfl, ?_⟩) (by assumption) ?_
  rotate_left
  · (intro w hSw; (try dsimp only at hSw); go_simp <;> with_reducible rfl)
  (try simp only [Act.put, List.setIfInBounds_toArray, List.set_cons_zero, List.set_cons_succ])
  refine wpAnyH_take (i := 3) (oi := _) (v := ?_) rfl (by decide +kernel) (by decide +kernel) (by decide +kernel) (fun _ _ _ h => h) (Or.inl ⟨by rfl, ?_⟩) (by assumption) ?_
  rotate_left
  · (intro w hSw; (try dsimp only at hSw); go_simp <;> with_reducible rfl)
  (try simp only [Act.put, List.setIfInBounds_toArray, List.set_cons_zero, List.set_cons_succ])
  refine wpAnyH_take (i := 4) (oi := _) (v := ?_) rfl (by decide +kernel) (by decide +kernel) (by decide +kernel) (fun _ _ _ h => h) (Or.inl ⟨by rfl, ?_⟩) (by assumption) ?_
  rotate_left
  · (intro w hSw; (try dsimp only at hSw); go_simp <;> with_reducible rfl)
  (try simp only [Act.put, List.setIfInBounds_toArray, List.set_cons_zero, List.set_cons_succ])
  refine wpAnyH_ready (rs := [2]) (by decide +kernel) (by simp) ?_
  refine AllReadyH.cons (o := _) rfl (fun K hK => ?_) AllReadyH.nil
  (go_simp; go_at_call 144; refine (HE.out _).mono ?_; rintro e1 w3 ⟨v3, rfl, hv3, hb3⟩; obtain ⟨a3, c3, rfl⟩ := own_form hv3; have hbv3 : Below V.heap.size V w3 := below_then hb3 (Below.refl _ _).drew; have k03 := (hbv3.cell (p := ⟨w.heap.size, 0, none⟩) lb).trans x0; have k13 := (hbv3.cell (p := ⟨w.heap.size, 1, none⟩) lb).trans x1; have HO3 : Hid (w3.ownsRow V.heap.size 5 1 (.slice a3 VE.length c3) VE.length (byteCells VE)) := hid hv3; have hs3 := hbv3.size; clear hv3 hb3; (try dsimp only))
  refine hK.out _ _ ?_ (fun hHeld => ?_)
  · ((try dsimp only); first | assumption | (refine ⟨?_, ?_⟩ <;> assumption) | (refine ⟨?_, ?_, ?_⟩ <;> assumption) | (refine ⟨?_, ?_, ?_, ?_, ?_⟩ <;> assumption))
  clear hK K
  (try simp only [Act.put, List.setIfInBounds_toArray, List.set_cons_zero, List.set_cons_succ])
  refine wpAnyH_ready (rs := [5]) (by decide +kernel) (by simp) ?_
  refine AllReadyH.cons (o := _) rfl (fun K hK => ?_) AllReadyH.nil
  (go_simp; go_at_call 144; refine (HB.out _).mono ?_; rintro e1 w4 ⟨v4, rfl, hv4, hb4⟩; obtain ⟨a4, c4, rfl⟩ := own_form hv4; have k04 := (hb4.cell (p := ⟨w.heap.size, 0, none⟩) (by dsimp only; omega)).trans k03; have k14 := (hb4.cell (p := ⟨w.heap.size, 1, none⟩) (by dsimp only; omega)).trans k13; have HO4 := hid (own_below HO3.out hb4); have HS4 := hid (src_bytes (own_bytes rfl hv4)); have hs4 := hb4.size; clear hv4; (try dsimp only))
  refine hK.out _ _ ?_ (fun hHeld => ?_)
  · ((try dsimp only); first | assumption | (refine ⟨?_, ?_⟩ <;> assumption) | (refine ⟨?_, ?_, ?_⟩ <;> assumption) | (refine ⟨?_, ?_, ?_, ?_, ?_⟩ <;> assumption))
  clear hK K
  (try simp only [Act.put, List.setIfInBounds_toArray, List.set_cons_zero, List.set_cons_succ])
  refine wpAnyH_ready (rs := [6]) (by decide +kernel) (by simp) ?_
  refine AllReadyH.cons (o := _) rfl (fun K hK => ?_) AllReadyH.nil
  (go_loud (refine step_append_src (by rfl) _ _ _ (by rfl) V.heap.size 5 i0 (.int .u8 0) 1 1 Tryz.underlying28 hi hz0 hz1 hz2 rfl (by decide) (.slice a3 VE.length c3) VE.length (byteCells VE) (by rfl) HO4.out a4 VB.length c4 (byteCells VB) (by rfl) HS4.out HOB.out (by simp only [maxLen]; omega) (by omega) (by omega) ?_; intro a5 c5 w5 hown5 hgrow5 hat5; have HO5 := hid (OwnB.app hown5); have hbg5 : Below V.heap.size w4 w5 := (Below.grown (Below.refl _ _) hgrow5 (by omega) (fun g e => (HO4.out.lt g e).1)); have k05 := (hbg5.cell (p := ⟨w.heap.size, 0, none⟩) (by dsimp only; omega)).trans k04; have k15 := (hbg5.cell (p := ⟨w.heap.size, 1, none⟩) (by dsimp only; omega)).trans k14; clear hown5 hgrow5 hat5; (try dsimp only)))
  refine hK.out _ _ ?_ (fun hHeld => ?_)
  · ((try dsimp only); first | assumption | (refine ⟨?_, ?_⟩ <;> assumption) | (refine ⟨?_, ?_, ?_⟩ <;> assumption) | (refine ⟨?_, ?_, ?_, ?_, ?_⟩ <;> assumption))
  clear hK K
  (try simp only [Act.put, List.setIfInBounds_toArray, List.set_cons_zero, List.set_cons_succ])
  refine wpAnyH_take (i := 7) (oi := _) (v := ?_) rfl (by decide +kernel) (by decide +kernel) (by decide +kernel) (fun _ _ _ h => h) (Or.inl ⟨by rfl, ?_⟩) (by assumption) ?_
  rotate_left
  · (intro w hSw; (try dsimp only at hSw); go_simp <;> with_reducible rfl)
  (try simp only [Act.put, List.setIfInBounds_toArray, List.set_cons_zero, List.set_cons_succ])
  simp only [List.getElem_toArray, List.getElem_cons_zero, List.getElem_cons_succ, Act.put, List.setIfInBounds_toArray, List.set_cons_zero, List.set_cons_succ]
  refine wpAnyH_done (by kernel_rfl) ?_ _
  have hbV5 : Below V.heap.size V w5 := hbv3.trans ((hb4.mono hs3).trans hbg5)
  have B5 := HBV.out.later hbV5
  have hz5 := hbV5.size
  have HO6 := hid HO5.out
  have hlJ : (VE ++ VB).length = VE.length + VB.length := List.length_append
  have hfin0 : VE ++ VB ++ VN ++ headsB bs l = (VE ++ VB) ++ VN ++ headsB bs l := rfl
  obtain ⟨y0, y1, y2, _, _, _, lb5⟩ := b_blk B5
  have HB5 := hid B5
  have hbw5 := below_then hbV5 hbV
  clear x0 x1 x2 k03 k13 k04 k14 k05 k15 B5 hHeld
  generalize hj0 : VE ++ VB = J0 at *
  have HJ0 := hid hj0
  clear hj0
  rw [← hlJ] at HO6 ⊢
  have hJ0 : J0.length ≤ 20 := by omega
  clear hlJ hfin0
  go_wp2_with fail
  refine (HNN.out _).mono ?_
  rintro r w6 ⟨v6, rfl, hv6, hb6⟩
  obtain ⟨a6, c6, rfl⟩ := own_form hv6
  have HS6 := hid (src_bytes (own_bytes rfl hv6))
  have HO6b := hid (own_below HO6.out hb6)
  have hz6 := hb6.size
  have HB6 := hid (HB5.out.later hb6)
  clear hv6 y0 y1 y2
  go_wp2_with (at_builtin; go_loud (refine wpList_append_src rfl _ _ _ rfl V.heap.size 5 i0 (.int .u8 0) 1 1 Tryz.underlying28 hi hz0 hz1 hz2 rfl (by decide) (.slice a5 J0.length c5) J0.length (byteCells J0) rfl HO6b.out a6 VN.length c6 (byteCells VN) rfl HS6.out HON.out (by simp only [maxLen]; omega) (by omega) (by omega) ?_; intro v' w7 hown7 hgrow7 hat7; obtain ⟨a7, c7, rfl⟩ := own_form hown7; have HO7 := hid (OwnB.app hown7); have hbg7 : Below V.heap.size w6 w7 := (Below.grown (Below.refl _ _) hgrow7 (by omega) (fun g e => (HO6b.out.lt g e).1)); clear hown7 hgrow7 hat7))
  have hz7 := hbg7.size
  have B7 := HB6.out.below hbg7 lb
  have hbV7 : Below V.heap.size V w7 := (hbV5.trans (hb6.mono hz5)).trans hbg7
  have hbw7 := below_then hbV7 hbV
  clear HB6
  go_loopw [3, 4] (fun v i wr => ∃ (k : Nat) (J : List UInt8), k ≤ l.length ∧ i = .int .i64 k ∧ OwnB wr V.heap.size v J ∧ Hid (J = J0 ++ VN ++ headsB bs (l.take k)) ∧ (∃ aJ cJ, v = .slice aJ J.length cJ) ∧ Below w.heap.size w wr ∧ V.heap.size ≤ wr.heap.size ∧ Blk wr w.heap.size 25 #[.int .u64 ep, .int .u64 bs, .slice a l.length c]) (fun _ i _ => l.length - (intOf i).toNat)
  case atStart => exact ⟨0, J0 ++ VN, Nat.zero_le _, rfl, HO7.out, hid (by simp [headsB]), ⟨_, _, by rw [List.length_append]⟩, hbw7, by omega, B7⟩
  case round =>
    obtain ⟨k, J, hk, rfl, hown, hJ, ⟨aJ, cJ, rfl⟩, hb, hsz, hB⟩ := hrel
    obtain ⟨x0, x1, x2, _, _, _, lr⟩ := b_blk hB
    have hhl := HHL.out (k + 1)
    rcases Nat.lt_or_ge k l.length with hlt | hge
    · obtain ⟨bb, o, hA, hbb, a8, c8, a9, c9, u0, u1, hlk, hd⟩ := entry_at HL.out hlt
      subst hA
      have X0 := (hb.cell (p := ⟨bb, o + k * 2, none⟩) hbb).trans u0
      have X1 := (hb.cell (p := ⟨bb, o + k * 2 + 1, none⟩) hbb).trans u1
      have hst := HHS.out k hlt
      rw [hst, List.length_append] at hhl
      have hJl : J.length + (headB (bs + k) l[k]).length ≤ 20000000 := by have := congrArg List.length hJ.out; simp only [List.length_append] at this; omega
      have HHD := hid (fun (W : World) (hW : Below w.heap.size w W) => ref24_head W (bs + k) (by omega) l[k] a8 a9 _ c8 _ c9 (lift hlk hW) (lift hd hW) (HEA.out k hlt) (HBK.out l[k] (List.getElem_mem hlt)))
      have hJ1 : J ++ headB (bs + k) l[k] = J0 ++ VN ++ headsB bs (l.take (k + 1)) := by rw [hst, hJ.out, List.append_assoc (J0 ++ VN)]
      have HJ1 := hid hJ1
      have HO := hid hown
      have i1 : (k : Int) < (l.length : Int) := by omega
      have d1 : decide ((k : Int) < (l.length : Int)) = true := decide_eq_true i1
      have HWK : Hid (IntKind.u64.wrap (k : Int) = (k : Int)) := hid (by simp only [IntKind.wrap_u64]; omega)
      have HWB : Hid (IntKind.u64.wrap (bs + (k : Int)) = bs + (k : Int)) := hid (by simp only [IntKind.wrap_u64]; omega)
      generalize headB (bs + (k : Int)) l[k] = DK at *
      have HOND := hid (byteCells_one DK)
      generalize l[k] = y at *
      have HBR := hid hB
      have lbv : bb < V.heap.size := by have := hbV.size; have hbb' : bb < w.heap.size := hbb; omega
      have lbb : bb < wr.heap.size := by have := hb.size; have hbb' : bb < w.heap.size := hbb; omega
      clear hst hhl hJ1 hown hJ hB u0 u1 hlk hd
      go_wp2_with fail
      refine wp_world (fun W => W = wr) rfl ?_
      rintro W rfl
      refine wp_region_held_drew (S := fun w' => w'.cell? ⟨w.heap.size, 1, none⟩ = some (.int .u64 bs) ∧ w'.cell? ⟨w.heap.size, 2, none⟩ = some (.slice (some ⟨bb, o, none⟩) l.length c) ∧ w'.cell? ⟨bb, o + k * 2, none⟩ = some (.slice a8 y.links.length c8) ∧ w'.cell? ⟨bb, o + k * 2 + 1, none⟩ = some (.slice a9 y.data.length c9) ∧ True) (by kernel_rfl) ⟨x1, x2, X0, X1, trivial⟩ (fun hHeld => ?_)
      refine wpAnyH_take (i := 0) (oi := _) (v := ?_) rfl (by decide +kernel) (by decide +kernel) (by decide +kernel) (fun _ _ _ h => h) (Or.inl ⟨by rfl, ?_⟩) (by assumption) ?_
      rotate_left
      · (intro w hSw; (try dsimp only at hSw); go_simp <;> with_reducible rfl)
      (try simp only [Act.put, List.setIfInBounds_toArray, List.set_cons_zero, List.set_cons_succ])
      refine wpAnyH_take (i := 1) (oi := _) (v := ?_) rfl (by decide +kernel) (by decide +kernel) (by decide +kernel) (fun _ _ _ h => h) (Or.inl ⟨by rfl, ?_⟩) (by assumption) ?_
      rotate_left
      · (intro w hSw; (try dsimp only at hSw); go_simp <;> with_reducible rfl)
      (try simp only [Act.put, List.setIfInBounds_toArray, List.set_cons_zero, List.set_cons_succ])
      refine wpAnyH_take (i := 2) (oi := _) (v := ?_) rfl (by decide +kernel) (by decide +kernel) (by decide +kernel) (fun _ _ _ h => h) (Or.inl ⟨by rfl, ?_⟩) (by assumption) ?_
      rotate_left
      · (intro w hSw; (try dsimp only at hSw); go_simp <;> with_reducible rfl)
      (try simp only [Act.put, List.setIfInBounds_toArray, List.set_cons_zero, List.set_cons_succ])
      refine wpAnyH_take (i := 3) (oi := _) (v := ?_) rfl (by decide +kernel) (by decide +kernel) (by decide +kernel) (fun _ _ _ h => h) (Or.inl ⟨by rfl, ?_⟩) (by assumption) ?_
      rotate_left
      · (intro w hSw; (try dsimp only at hSw); go_simp <;> with_reducible rfl)
      (try simp only [Act.put, List.setIfInBounds_toArray, List.set_cons_zero, List.set_cons_succ])
      refine wpAnyH_take (i := 4) (oi := _) (v := ?_) rfl (by decide +kernel) (by decide +kernel) (by decide +kernel) (fun _ _ _ h => h) (Or.inl ⟨by rfl, ?_⟩) (by assumption) ?_
      rotate_left
      · (intro w hSw; (try dsimp only at hSw); go_simp <;> with_reducible rfl)
      (try simp only [Act.put, List.setIfInBounds_toArray, List.set_cons_zero, List.set_cons_succ])
      refine wpAnyH_take (i := 5) (oi := _) (v := ?_) rfl (by decide +kernel) (by decide +kernel) (by decide +kernel) (fun _ _ _ h => h) (Or.inl ⟨by rfl, ?_⟩) (by assumption) ?_
      rotate_left
      · (intro w hSw; (try dsimp only at hSw); go_simp <;> with_reducible rfl)
      (try simp only [Act.put, List.setIfInBounds_toArray, List.set_cons_zero, List.set_cons_succ])
      refine wpAnyH_take (i := 6) (oi := _) (v := ?_) rfl (by decide +kernel) (by decide +kernel) (by decide +kernel) (fun _ _ _ h => h) (Or.inl ⟨by rfl, ?_⟩) (by assumption) ?_
      rotate_left
      · (intro w hSw; (try dsimp only at hSw); go_simp <;> with_reducible rfl)
      (try simp only [Act.put, List.setIfInBounds_toArray, List.set_cons_zero, List.set_cons_succ])
      refine wpAnyH_take (i := 7) (oi := _) (v := ?_) rfl (by decide +kernel) (by decide +kernel) (by decide +kernel) (fun _ _ _ h => h) (Or.inl ⟨by rfl, ?_⟩) (by assumption) ?_
      rotate_left
      · (intro w hSw; (try dsimp only at hSw); go_simp <;> with_reducible rfl)
      (try simp only [Act.put, List.setIfInBounds_toArray, List.set_cons_zero, List.set_cons_succ])
      refine wpAnyH_take (i := 8) (oi := _) (v := ?_) rfl (by decide +kernel) (by decide +kernel) (by decide +kernel) (fun _ _ _ h => h) (Or.inl ⟨by rfl, ?_⟩) (by assumption) ?_
      rotate_left
      · (intro w hSw; (try dsimp only at hSw); go_simp <;> with_reducible rfl)
      (try simp only [Act.put, List.setIfInBounds_toArray, List.set_cons_zero, List.set_cons_succ])
      refine wpAnyH_take (i := 9) (oi := _) (v := ?_) rfl (by decide +kernel) (by decide +kernel) (by decide +kernel) (fun _ _ _ h => h) (Or.inl ⟨by rfl, ?_⟩) (by assumption) ?_
      rotate_left
      · (intro w hSw; (try dsimp only at hSw); go_simp <;> with_reducible rfl)
      (try simp only [Act.put, List.setIfInBounds_toArray, List.set_cons_zero, List.set_cons_succ])
      refine wpAnyH_take (i := 10) (oi := _) (v := ?_) rfl (by decide +kernel) (by decide +kernel) (by decide +kernel) (fun _ _ _ h => h) (Or.inl ⟨by rfl, ?_⟩) (by assumption) ?_
      rotate_left
      · (intro w hSw; (try dsimp only at hSw); go_simp <;> with_reducible rfl)
      (try simp only [Act.put, List.setIfInBounds_toArray, List.set_cons_zero, List.set_cons_succ])
      refine wpAnyH_ready (rs := [11]) (by decide +kernel) (by simp) ?_
      refine AllReadyH.cons (o := _) rfl (fun K hK => ?_) AllReadyH.nil
      (go_simp; rw [HWK.out, HWB.out]; go_at_call 145; refine (HHD.out _ (by (repeat (first | with_reducible exact Below.refl _ _ | with_reducible assumption | (with_reducible refine below_alloc ?_ _) | (with_reducible refine Below.setCell ?_ (by first | omega | (simp; done) | (simp; omega)) _) | (with_reducible refine Below.drew ?_) | (with_reducible refine below_drewN ?_ _) | (refine below_then (by with_reducible assumption) ?_))))).mono ?_; rintro e1 w3 ⟨v3, rfl, hv3, hb3⟩; obtain ⟨a3, c3, rfl⟩ := own_form hv3; have hbv3 : Below W.heap.size W w3 := below_then hb3 (Below.refl _ _).drew; have k13 := (hbv3.cell (p := ⟨w.heap.size, 1, none⟩) lr).trans x1; have k23 := (hbv3.cell (p := ⟨w.heap.size, 2, none⟩) lr).trans x2; have k33 := (hbv3.cell (p := ⟨bb, o + k * 2, none⟩) lbb).trans X0; have k43 := (hbv3.cell (p := ⟨bb, o + k * 2 + 1, none⟩) lbb).trans X1; have HO3 := hid (own_below HO.out hbv3); have HS3 := hid (src_bytes (own_bytes rfl hv3)); have hs3 := hbv3.size; have ktr : True := trivial; clear hv3 hb3; (try dsimp only))
      refine hK.out _ _ ?_ (fun hHeld => ?_)
      · ((try dsimp only); first | assumption | (refine ⟨?_, ?_⟩ <;> assumption) | (refine ⟨?_, ?_, ?_⟩ <;> assumption) | (refine ⟨?_, ?_, ?_, ?_, ?_⟩ <;> assumption))
      clear hK K
      (try simp only [Act.put, List.setIfInBounds_toArray, List.set_cons_zero, List.set_cons_succ])
      refine wpAnyH_ready (rs := [12]) (by decide +kernel) (by simp) ?_
      refine AllReadyH.cons (o := _) rfl (fun K hK => ?_) AllReadyH.nil
      (go_loud (refine step_append_src (by rfl) _ _ _ (by rfl) V.heap.size 5 i0 (.int .u8 0) 1 1 Tryz.underlying28 hi hz0 hz1 hz2 rfl (by decide) (.slice aJ J.length cJ) J.length (byteCells J) (by rfl) HO3.out a3 DK.length c3 (byteCells DK) (by rfl) HS3.out HOND.out (by simp only [maxLen]; omega) (by omega) (by omega) ?_; intro a5 c5 w5 hown5 hgrow5 hat5; have HO5 := hid (OwnB.app hown5); have hbg5 : Below V.heap.size w3 w5 := (Below.grown (Below.refl _ _) hgrow5 (by omega) (fun g e => (HO3.out.lt g e).1)); have k15 := (hbg5.cell (p := ⟨w.heap.size, 1, none⟩) (by dsimp only; omega)).trans k13; have k25 := (hbg5.cell (p := ⟨w.heap.size, 2, none⟩) (by dsimp only; omega)).trans k23; have k35 := (hbg5.cell (p := ⟨bb, o + k * 2, none⟩) (by dsimp only; omega)).trans k33; have k45 := (hbg5.cell (p := ⟨bb, o + k * 2 + 1, none⟩) (by dsimp only; omega)).trans k43; clear hown5 hgrow5 hat5; (try dsimp only)))
      refine hK.out _ _ ?_ (fun hHeld => ?_)
      · ((try dsimp only); first | assumption | (refine ⟨?_, ?_⟩ <;> assumption) | (refine ⟨?_, ?_, ?_⟩ <;> assumption) | (refine ⟨?_, ?_, ?_, ?_, ?_⟩ <;> assumption))
      clear hK K
      (try simp only [Act.put, List.setIfInBounds_toArray, List.set_cons_zero, List.set_cons_succ])
      refine wpAnyH_take (i := 13) (oi := _) (v := ?_) rfl (by decide +kernel) (by decide +kernel) (by decide +kernel) (fun _ _ _ h => h) (Or.inl ⟨by rfl, ?_⟩) (by assumption) ?_
      rotate_left
      · (intro w hSw; (try dsimp only at hSw); go_simp <;> with_reducible rfl)
      (try simp only [Act.put, List.setIfInBounds_toArray, List.set_cons_zero, List.set_cons_succ])
      simp only [List.getElem_toArray, List.getElem_cons_zero, List.getElem_cons_succ, Act.put, List.setIfInBounds_toArray, List.set_cons_zero, List.set_cons_succ]
      refine wpAnyH_done (by kernel_rfl) ?_ _
      have hbe : Below w.heap.size w w5 := hb.trans ((hbv3.mono hb.size).trans (hbg5.mono (by have := hbV.size; omega)))
      have B5 := HBR.out.below (hbv3.mono (Nat.le_of_lt lr |> fun _ => hsz) |>.trans hbg5) lb
      have hz9 := hbg5.size
      have HOE := hid HO5.out
      have HB5' := hid B5
      clear x0 x1 x2 X0 X1 k13 k23 k33 k43 B5 hHeld
      go_wp2
      go_roundw
      case rel => exact ⟨k + 1, J ++ DK, by omega, by go_num, HOE.out, HJ1, ⟨_, _, by rw [List.length_append]⟩, hbe, by omega, HB5'.out⟩
      case measure => simp [intOf]; omega
    · obtain rfl : k = l.length := by omega
      have d1 : decide ((l.length : Int) < (l.length : Int)) = false := decide_eq_false (by omega)
      have hfin : Hid (J = J0 ++ VN ++ headsB bs l) := hid (by have := hJ.out; rwa [List.take_length] at this)
      have HO := hid (own_base (by omega : w.heap.size ≤ V.heap.size) hown)
      clear hown hJ
      go_wp2
      go_ret
      rw [HJ0.out, ← hfin.out]
      exact ⟨_, rfl, HO.out, hb⟩
end Go.Proofs.YtkipiefcnjfdjaaGreat
namespace Go.Proofs.YtkipiefcnjfdjaaGreat
open Go.RowKit Go.Bs Go.Maps
set_option linter.unusedVariables false
set_option linter.unusedSimpArgs false

set_option maxRecDepth 100000 in
set_option maxHeartbeats 6400000 in
theorem ref25_bytes (w : World) (b : Batch) (a : Option Addr) (n c : Nat) (hN : batchN b) (hl : rEntries.r (· < w.heap.size) w [.slice a n c] b.entries) (hR : batchR b = true) (ht : TameE b.entries) :
    Calls Tryz.prog 28 #[.agg #[.int .u64 b.epoch, .int .u64 b.base, .slice a n c]] w fun r w' => ∃ v, r = .returned v ∧ OwnB w' w.heap.size v (batchB b) ∧ Below w.heap.size w w' := by
  obtain ⟨rfl, hm, _, _⟩ := sl_len hl
  obtain ⟨i0, hi, hz0, hz1, hz2⟩ := info_parts info8
  have hlen := batchB_len hR
  have hR' := hR
  simp only [batchR, Bool.and_eq_true, fitsR, decide_eq_true_eq] at hR'
  have hjl := joined_length b.entries
  have hbl := blockB_len (joined b.entries)
  have hvl := (varB_len (joined b.entries).length).1
  have HHD := hid (fun (W : World) (hW : Below w.heap.size w W) => ref25_heads W b a _ c hN (lift hl hW) hR ht)
  have HJN := hid (fun (W : World) (hW : Below w.heap.size w W) => ref24_join b.entries a _ c W (lift hl hW) (by have := ht.tot; omega))
  have HBK := hid (fun (W : World) (aD : Option Addr) (cD : Nat) (h : rBytes.r (· < W.heap.size) W [.slice aD (joined b.entries).length cD] (joined b.entries)) => ref16_bytes W (joined b.entries) aD _ cD h (by omega))
  have hbb : batchB b = aheadB b ++ blockB (joined b.entries) := rfl
  rw [hbb] at hlen ⊢
  rw [List.length_append] at hlen
  generalize aheadB b = AB at *
  generalize blockB (joined b.entries) = BB at *
  generalize joined b.entries = JJ at *
  obtain ⟨ep, bs, l⟩ := b
  dsimp only at *
  have HON := hid (byteCells_one BB)
  have hsz : AB.length + BB.length ≤ 100000000 := by omega
  unfold BytesRet at HJN
  clear hl hR hR' ht hbb hlen hbl hvl hjl hN
  go_enter Tryz.func28, Tryz.ntmps28
  go_wp2_with fail
  refine wp_world (fun W => Below w.heap.size w W ∧ Blk W w.heap.size 25 #[.int .u64 ep, .int .u64 bs, .slice a l.length c] ∧ w.heap.size + 1 ≤ W.heap.size) ⟨by (repeat (first | with_reducible exact Below.refl _ _ | with_reducible assumption | (with_reducible refine below_alloc ?_ _) | (with_reducible refine Below.setCell ?_ (by first | omega | (simp; done) | (simp; omega)) _) | (with_reducible refine Below.drew ?_) | (with_reducible refine below_drewN ?_ _) | (refine below_then (by with_reducible assumption) ?_))), Blk.newAt _ _ _ rfl, by simp⟩ ?_
  rintro V ⟨hbV, BV, lV⟩
  obtain ⟨x0, x1, x2, _, _, _, lb⟩ := b_blk BV
  clear BV
  refine wp_region_held_drew (S := fun w' => w'.cell? ⟨w.heap.size, 0, none⟩ = some (.int .u64 ep) ∧ w'.cell? ⟨w.heap.size, 1, none⟩ = some (.int .u64 bs) ∧ w'.cell? ⟨w.heap.size, 2, none⟩ = some (.slice a l.length c)) (by kernel_rfl) ⟨x0, x1, x2⟩ (fun hHeld => ?_)
  refine wpAnyH_take (i := 0) (oi := _) (v := ?_) rfl (by decide +kernel) (by decide +kernel) (by decide +kernel) (fun _ _ _ h => h) (Or.inl ⟨by rfl, ?_⟩) (by assumption) ?_
  rotate_left
  · (intro w hSw; (try dsimp only at hSw); go_simp <;> with_reducible rfl)
  (try simp only [Act.put, List.setIfInBounds_toArray, List.set_cons_zero, List.set_cons_succ])
  refine wpAnyH_take (i := 2) (oi := _) (v := ?_) rfl (by decide +kernel) (by decide +kernel) (by decide +kernel) (fun _ _ _ h => h) (Or.inl ⟨by rfl, ?_⟩) (by assumption) ?_
  rotate_left
  · (intro w hSw; (try dsimp only at hSw); go_simp <;> with_reducible rfl)
  (try simp only [Act.put, List.setIfInBounds_toArray, List.set_cons_zero, List.set_cons_succ])
  refine wpAnyH_take (i := 3) (oi := _) (v := ?_) rfl (by decide +kernel) (by decide +kernel) (by decide +kernel) (fun _ _ _ h => h) (Or.inl ⟨by rfl, ?_⟩) (by assumption) ?_
  rotate_left
  · (intro w hSw; (try dsimp only at hSw); go_simp <;> with_reducible rfl)
  (try simp only [Act.put, List.setIfInBounds_toArray, List.set_cons_zero, List.set_cons_succ])
  refine wpAnyH_ready (rs := [1]) (by decide +kernel) (by simp) ?_
  refine AllReadyH.cons (o := _) rfl (fun K hK => ?_) AllReadyH.nil
  (go_simp; go_at_call 89; refine (HHD.out _ (by (repeat (first | with_reducible exact Below.refl _ _ | with_reducible assumption | (with_reducible refine below_alloc ?_ _) | (with_reducible refine Below.setCell ?_ (by first | omega | (simp; done) | (simp; omega)) _) | (with_reducible refine Below.drew ?_) | (with_reducible refine below_drewN ?_ _) | (refine below_then (by with_reducible assumption) ?_))))).mono ?_; rintro e1 w3 ⟨v3, rfl, hv3, hb3⟩; obtain ⟨a3, c3, rfl⟩ := own_form hv3; have hbv3 : Below V.heap.size V w3 := below_then hb3 (Below.refl _ _).drew; have k03 := (hbv3.cell (p := ⟨w.heap.size, 0, none⟩) lb).trans x0; have k13 := (hbv3.cell (p := ⟨w.heap.size, 1, none⟩) lb).trans x1; have k23 := (hbv3.cell (p := ⟨w.heap.size, 2, none⟩) lb).trans x2; have HO3 : Hid (w3.ownsRow V.heap.size 5 1 (.slice a3 AB.length c3) AB.length (byteCells AB)) := hid hv3; have hs3 := hbv3.size; have hbw3 := below_then hbv3 hbV; clear hv3 hb3; (try dsimp only))
  refine hK.out _ _ ?_ (fun hHeld => ?_)
  · ((try dsimp only); first | assumption | (refine ⟨?_, ?_, ?_⟩ <;> assumption))
  clear hK K
  (try simp only [Act.put, List.setIfInBounds_toArray, List.set_cons_zero, List.set_cons_succ])
  refine wpAnyH_ready (rs := [4]) (by decide +kernel) (by simp) ?_
  refine AllReadyH.cons (o := _) rfl (fun K hK => ?_) AllReadyH.nil
  (go_simp; go_at_call 84; refine (HJN.out _ hbw3).mono ?_; rintro e1 w4 ⟨v4, rfl, hv4, hb4⟩; obtain ⟨a4, c4, hve, hv4', _⟩ := sl_form hv4; simp only [List.cons.injEq, and_true] at hve; subst hve; have k04 := (hb4.cell (p := ⟨w.heap.size, 0, none⟩) (by dsimp only; omega)).trans k03; have k14 := (hb4.cell (p := ⟨w.heap.size, 1, none⟩) (by dsimp only; omega)).trans k13; have k24 := (hb4.cell (p := ⟨w.heap.size, 2, none⟩) (by dsimp only; omega)).trans k23; have HO4 := hid (own_below HO3.out hb4); have HJ4 := hid hv4'; have hs4 := hb4.size; have hbw4 := below_then hb4 hbw3; clear hv4 hv4'; (try dsimp only))
  refine hK.out _ _ ?_ (fun hHeld => ?_)
  · ((try dsimp only); first | assumption | (refine ⟨?_, ?_, ?_⟩ <;> assumption))
  clear hK K
  (try simp only [Act.put, List.setIfInBounds_toArray, List.set_cons_zero, List.set_cons_succ])
  refine wpAnyH_ready (rs := [5]) (by decide +kernel) (by simp) ?_
  refine AllReadyH.cons (o := _) rfl (fun K hK => ?_) AllReadyH.nil
  (go_simp; go_at_call 90; refine (HBK.out _ a4 c4 HJ4.out).mono ?_; rintro e1 w5 ⟨v5, rfl, hv5, hb5⟩; obtain ⟨a5, c5, hve, hv5', _⟩ := sl_form hv5; simp only [List.cons.injEq, and_true] at hve; subst hve; have k05 := (hb5.cell (p := ⟨w.heap.size, 0, none⟩) (by dsimp only; omega)).trans k04; have k15 := (hb5.cell (p := ⟨w.heap.size, 1, none⟩) (by dsimp only; omega)).trans k14; have k25 := (hb5.cell (p := ⟨w.heap.size, 2, none⟩) (by dsimp only; omega)).trans k24; have HO5 := hid (own_below HO4.out hb5); have HS5 := hid (src_bytes hv5'); have hs5 := hb5.size; have hbw5 := below_then hb5 hbw4; clear hv5 hv5'; (try dsimp only))
  refine hK.out _ _ ?_ (fun hHeld => ?_)
  · ((try dsimp only); first | assumption | (refine ⟨?_, ?_, ?_⟩ <;> assumption))
  clear hK K
  (try simp only [Act.put, List.setIfInBounds_toArray, List.set_cons_zero, List.set_cons_succ])
  refine wpAnyH_ready (rs := [6]) (by decide +kernel) (by simp) ?_
  refine AllReadyH.cons (o := _) rfl (fun K hK => ?_) AllReadyH.nil
  (go_loud (refine step_append_src (by rfl) _ _ _ (by rfl) V.heap.size 5 i0 (.int .u8 0) 1 1 Tryz.underlying28 hi hz0 hz1 hz2 rfl (by decide) (.slice a3 AB.length c3) AB.length (byteCells AB) (by rfl) HO5.out a5 BB.length c5 (byteCells BB) (by rfl) HS5.out HON.out (by simp only [maxLen]; omega) (by omega) (by omega) ?_; intro a6 c6 w6 hown6 hgrow6 hat6; have HO6 := hid (OwnB.app hown6); have hbg6 : Below V.heap.size w5 w6 := (Below.grown (Below.refl _ _) hgrow6 (by omega) (fun g e => (HO5.out.lt g e).1)); have k06 := (hbg6.cell (p := ⟨w.heap.size, 0, none⟩) (by dsimp only; omega)).trans k05; have k16 := (hbg6.cell (p := ⟨w.heap.size, 1, none⟩) (by dsimp only; omega)).trans k15; have k26 := (hbg6.cell (p := ⟨w.heap.size, 2, none⟩) (by dsimp only; omega)).trans k25; clear hown6 hgrow6 hat6; (try dsimp only)))
  refine hK.out _ _ ?_ (fun hHeld => ?_)
  · ((try dsimp only); first | assumption | (refine ⟨?_, ?_, ?_⟩ <;> assumption))
  clear hK K
  (try simp only [Act.put, List.setIfInBounds_toArray, List.set_cons_zero, List.set_cons_succ])
  refine wpAnyH_take (i := 7) (oi := _) (v := ?_) rfl (by decide +kernel) (by decide +kernel) (by decide +kernel) (fun _ _ _ h => h) (Or.inl ⟨by rfl, ?_⟩) (by assumption) ?_
  rotate_left
  · (intro w hSw; (try dsimp only at hSw); go_simp <;> with_reducible rfl)
  (try simp only [Act.put, List.setIfInBounds_toArray, List.set_cons_zero, List.set_cons_succ])
  simp only [List.getElem_toArray, List.getElem_cons_zero, List.getElem_cons_succ, Act.put, List.setIfInBounds_toArray, List.set_cons_zero, List.set_cons_succ]
  refine wpAnyH_done (by kernel_rfl) ?_ _
  have hbe : Below w.heap.size w w6 := hbw5.trans (hbg6.mono hbV.size)
  have HOE := hid (own_base (by have := hbV.size; exact this : w.heap.size ≤ V.heap.size) HO6.out)
  go_wp2
  go_ret
  exact ⟨_, rfl, HOE.out, hbe⟩

theorem bytes_equal2 (x y : List UInt8) (a a' : Option Addr) (n c n' c' : Nat) (w : World) (hx : rBytes.r (· < w.heap.size) w [.slice a n c] x) (hy : rBytes.r (· < w.heap.size) w [.slice a' n' c'] y) :
    Calls Tryz.prog 161 #[.slice a n c, .slice a' n' c'] w fun r w' => r = .returned (.bool (decide (x = y))) ∧ w = w' := by
  obtain ⟨rfl, _, _, _⟩ := sl_len hx
  obtain ⟨rfl, _, _, _⟩ := sl_len hy
  have h1 := bytes_str (P := Tryz.prog) 28 9 5 Tryz.underlying28 Tryz.underlying5 Tryz.underlying9 hx
  have h2 := bytes_str (P := Tryz.prog) 28 9 5 Tryz.underlying28 Tryz.underlying5 Tryz.underlying9 hy
  have he : (x == y) = decide (x = y) := by
    by_cases h : x = y
    · simp [h]
    · simp [h]
  have HE := hid he; clear he hx hy
  go_enter Tryz.func161, Tryz.ntmps161
  go_wp2
  go_ret
  refine ⟨?_, rfl⟩
  rw [← HE.out]
  simp [go_sem]
theorem el_take_eq {α : Type} {xs ys : List α} {k : Nat} (h : xs.take k = ys.take k) (h1 : k < xs.length) (h2 : k < ys.length) (he : xs[k] = ys[k]) : xs.take (k + 1) = ys.take (k + 1) := by
  rw [List.take_succ_eq_append_getElem h1, List.take_succ_eq_append_getElem h2, h, he]
theorem el_ne {α : Type} {xs ys : List α} {k : Nat} (h1 : k < xs.length) (h2 : k < ys.length) (he : xs[k] ≠ ys[k]) : xs ≠ ys := fun e => he (by subst e; rfl)

set_option maxRecDepth 100000 in
set_option maxHeartbeats 3200000 in
theorem equal_u64s (xs ys : List Int) (a a' : Option Addr) (n c n' c' : Nat) (w : World) (hl : rU64s.r (· < w.heap.size) w [.slice a n c] xs) (hl' : rU64s.r (· < w.heap.size) w [.slice a' n' c'] ys) :
    Calls Tryz.prog 249 #[.slice a n c, .slice a' n' c'] w fun r w' => r = .returned (.bool (decide (xs = ys))) ∧ Below w.heap.size w w' := by
  obtain ⟨rfl, hm, _, _⟩ := sl_len hl
  obtain ⟨rfl, hm', _, _⟩ := sl_len hl'
  have HL := hid hl; have HL' := hid hl'; clear hl hl'
  by_cases hlen : xs.length = ys.length
  · have e0 : ((xs.length : Int) != (ys.length : Int)) = false := by rw [hlen]; simp
    have HLN := hid hlen; clear hlen
    go_enter Tryz.func249, Tryz.ntmps249
    go_wp2_with fail
    go_loopw [13] (fun i wr => ∃ k : Nat, k ≤ xs.length ∧ i = .int .i64 k ∧ Hid (xs.take k = ys.take k) ∧ Below w.heap.size w wr) (fun i _ => xs.length - (intOf i).toNat)
    case atStart => exact ⟨0, Nat.zero_le _, rfl, hid rfl, Below.refl _ _⟩
    case round =>
      obtain ⟨k, hk, rfl, heq, hb⟩ := hrel
      rcases Nat.lt_or_ge k xs.length with hlt | hge
      · have hlt' : k < ys.length := by rw [← HLN.out]; exact hlt
        obtain ⟨b, o, hA, hbb, x0, _, _⟩ := u64_at HL.out hlt
        obtain ⟨b', o', hA', hbb', y0, _, _⟩ := u64_at HL'.out hlt'
        subst hA
        subst hA'
        have X0 := fun s : Later wr => s.cell ((hb.cell (p := ⟨b, o + k, none⟩) hbb).trans x0)
        have Y0 := fun s : Later wr => s.cell ((hb.cell (p := ⟨b', o' + k, none⟩) hbb').trans y0)
        have hno := hid (el_ne hlt hlt')
        have hyes := hid (el_take_eq heq.out hlt hlt')
        clear x0 y0
        generalize xs[k] = x at *
        generalize ys[k] = y at *
        have i1 : (k : Int) < (xs.length : Int) := by omega
        have i2 : (k : Int) < (ys.length : Int) := by omega
        have d1 : decide ((k : Int) < (xs.length : Int)) = true := decide_eq_true i1
        have d1' : decide (k < xs.length) = true := decide_eq_true hlt
        by_cases hxy : x = y
        · have e2 : (x != y) = false := by simp [hxy]
          have hnx : Hid (xs.take (k + 1) = ys.take (k + 1)) := hid (hyes.out hxy)
          subst hxy
          clear hno hyes
          go_wp2_with fail
          refine wp_region_later (by kernel_rfl) (by kernel_rfl) ?_
          repeat (go_big_quiet_step (fail))
          refine wpQuiet_nil ?_
          rintro W5 ⟨⟨W5', hb5⟩, rfl⟩
          go_wp2
          go_roundw
          case rel => exact ⟨k + 1, by omega, by go_num, hnx, below_then hb5 hb⟩
          case measure => simp [intOf]; omega
        · have e2 : (x != y) = true := by simpa using hxy
          have hfin : Hid (decide (xs = ys) = false) := hid (decide_eq_false (hno.out hxy))
          clear hno hyes hxy
          go_wp2_with fail
          refine wp_region_later (by kernel_rfl) (by kernel_rfl) ?_
          repeat (go_big_quiet_step (fail))
          refine wpQuiet_nil ?_
          rintro W5 ⟨⟨W5', hb5⟩, rfl⟩
          go_wp2
          go_ret
          exact ⟨by rw [hfin.out]; rfl, below_then hb5 hb⟩
      · obtain rfl : k = xs.length := by omega
        have hfin : Hid (decide (xs = ys) = true) := hid (decide_eq_true (by have h := heq.out; rw [List.take_length, HLN.out, List.take_length] at h; exact h))
        go_wp2
        go_ret
        exact ⟨by rw [hfin.out]; rfl, hb⟩
  · have e0 : ((xs.length : Int) != (ys.length : Int)) = true := by simp; omega
    have hfin : Hid (decide (xs = ys) = false) := hid (decide_eq_false (fun e => hlen (by rw [e])))
    clear hlen
    go_enter Tryz.func249, Tryz.ntmps249
    go_wp2
    go_ret
    exact ⟨by rw [hfin.out]; rfl, by (repeat (first | exact Below.refl _ _ | assumption | (refine below_alloc ?_ _) | (refine Below.setCell ?_ (by first | omega | (simp; done) | (simp; omega)) _) | (refine Below.drew ?_) | (refine below_drewN ?_ _) | (refine below_then (by assumption) ?_)))⟩

set_option maxRecDepth 100000 in
set_option maxHeartbeats 3200000 in
theorem link_same1 (x y : Link) (a a' : Option Addr) (c c' : Nat) (w : World) (hx : rU64s.r (· < w.heap.size) w [.slice a x.backs.length c] x.backs) (hy : rU64s.r (· < w.heap.size) w [.slice a' y.backs.length c'] y.backs) :
    Calls Tryz.prog 248 #[.agg #[.int .u64 x.stream, .slice a x.backs.length c], .agg #[.int .u64 y.stream, .slice a' y.backs.length c']] w fun r w' => r = .returned (.bool (decide (x = y))) ∧ Below w.heap.size w w' := by
  obtain ⟨s, D⟩ := x
  obtain ⟨s', D'⟩ := y
  dsimp only at *
  have HB := hid (fun (W : World) (hW : Below w.heap.size w W) => equal_u64s D D' a a' _ c _ c' W (lift hx hW) (lift hy hW))
  by_cases hs : s = s'
  · subst hs
    have e1 : (s == s) = true := by simp
    have hfin : Hid (decide ((⟨s, D⟩ : Link) = ⟨s, D'⟩) = decide (D = D')) := hid (by by_cases h : D = D' <;> simp [h])
    generalize decide (D = D') = R at *
    clear hx hy
    cases R
    all_goals
      go_enter Tryz.func248, Tryz.ntmps248
      go_wp2_with fail
      refine (HB.out _ (by (repeat (first | with_reducible exact Below.refl _ _ | with_reducible assumption | (with_reducible refine below_alloc ?_ _) | (with_reducible refine Below.setCell ?_ (by first | omega | (simp; done) | (simp; omega)) _) | (with_reducible refine Below.drew ?_) | (with_reducible refine below_drewN ?_ _) | (refine below_then (by with_reducible assumption) ?_))))).mono ?_
      rintro r w1 ⟨rfl, hb1⟩
      go_wp2
      go_ret
      exact ⟨by rw [hfin.out]; rfl, by (repeat (first | with_reducible exact Below.refl _ _ | with_reducible assumption | (with_reducible refine below_alloc ?_ _) | (with_reducible refine Below.setCell ?_ (by first | omega | (simp; done) | (simp; omega)) _) | (with_reducible refine Below.drew ?_) | (with_reducible refine below_drewN ?_ _) | (refine below_then (by with_reducible assumption) ?_)))⟩
  · have e1 : (s == s') = false := by simpa using hs
    have hfin : Hid (decide ((⟨s, D⟩ : Link) = ⟨s', D'⟩) = false) := hid (by simp [hs])
    clear hx hy
    go_enter Tryz.func248, Tryz.ntmps248
    go_wp2
    go_ret
    exact ⟨by rw [hfin.out]; rfl, by (repeat (first | with_reducible exact Below.refl _ _ | with_reducible assumption | (with_reducible refine below_alloc ?_ _) | (with_reducible refine Below.setCell ?_ (by first | omega | (simp; done) | (simp; omega)) _) | (with_reducible refine Below.drew ?_) | (with_reducible refine below_drewN ?_ _) | (refine below_then (by with_reducible assumption) ?_)))⟩

set_option maxRecDepth 100000 in
set_option maxHeartbeats 3200000 in
theorem equal_links (xs ys : List Link) (a a' : Option Addr) (n c n' c' : Nat) (w : World) (hl : rLinks.r (· < w.heap.size) w [.slice a n c] xs) (hl' : rLinks.r (· < w.heap.size) w [.slice a' n' c'] ys) :
    Calls Tryz.prog 247 #[.slice a n c, .slice a' n' c', .func (Fn.func 248) #[] #[]] w fun r w' => r = .returned (.bool (decide (xs = ys))) ∧ Below w.heap.size w w' := by
  obtain ⟨rfl, hm, _, _⟩ := sl_len hl
  obtain ⟨rfl, hm', _, _⟩ := sl_len hl'
  have HL := hid hl; have HL' := hid hl'; clear hl hl'
  by_cases hlen : xs.length = ys.length
  · have e0 : ((xs.length : Int) != (ys.length : Int)) = false := by rw [hlen]; simp
    have HLN := hid hlen; clear hlen
    go_enter Tryz.func247, Tryz.ntmps247
    go_wp2_with fail
    go_loopw [17] (fun i wr => ∃ k : Nat, k ≤ xs.length ∧ i = .int .i64 k ∧ Hid (xs.take k = ys.take k) ∧ Below w.heap.size w wr) (fun i _ => xs.length - (intOf i).toNat)
    case atStart => exact ⟨0, Nat.zero_le _, rfl, hid rfl, Below.refl _ _⟩
    case round =>
      obtain ⟨k, hk, rfl, heq, hb⟩ := hrel
      rcases Nat.lt_or_ge k xs.length with hlt | hge
      · have hlt' : k < ys.length := by rw [← HLN.out]; exact hlt
        obtain ⟨b, o, hA, hbb, ax, cx, x0, x1, _, xl⟩ := link_at HL.out hlt
        obtain ⟨b', o', hA', hbb', ay, cy, y0, y1, _, yl⟩ := link_at HL'.out hlt'
        subst hA
        subst hA'
        have X0 := (hb.cell (p := ⟨b, o + k * 2, none⟩) hbb).trans x0
        have X1 := (hb.cell (p := ⟨b, o + k * 2 + 1, none⟩) hbb).trans x1
        have Y0 := (hb.cell (p := ⟨b', o' + k * 2, none⟩) hbb').trans y0
        have Y1 := (hb.cell (p := ⟨b', o' + k * 2 + 1, none⟩) hbb').trans y1
        have hbl' : b' < wr.heap.size := World.block_lt_of_cell? _ _ Y0
        have hbl : b < wr.heap.size := World.block_lt_of_cell? _ _ X0
        have hno := hid (el_ne hlt hlt')
        have hyes := hid (el_take_eq heq.out hlt hlt')
        have HS := hid (fun (W : World) (hW : Below wr.heap.size wr W) => link_same1 xs[k] ys[k] ax ay cx cy W (lift xl (below_then hW hb)) (lift yl (below_then hW hb)))
        clear x0 x1 y0 y1 xl yl
        generalize xs[k] = x at *
        generalize ys[k] = y at *
        have i1 : (k : Int) < (xs.length : Int) := by omega
        have i2 : (k : Int) < (ys.length : Int) := by omega
        have d1 : decide ((k : Int) < (xs.length : Int)) = true := decide_eq_true i1
        have d1' : decide (k < xs.length) = true := decide_eq_true hlt
        by_cases hxy : x = y
        · have hdd : decide (x = y) = true := decide_eq_true hxy
          rw [hdd] at HS
          have hnx : Hid (xs.take (k + 1) = ys.take (k + 1)) := hid (hyes.out hxy)
          clear hno hyes hxy hdd
          go_wp2_with fail
          refine (HS.out _ (by (repeat (first | with_reducible exact Below.refl _ _ | with_reducible assumption | (with_reducible refine below_alloc ?_ _) | (with_reducible refine Below.setCell ?_ (by first | omega | (simp; done) | (simp; omega)) _) | (with_reducible refine Below.drew ?_) | (with_reducible refine below_drewN ?_ _) | (refine below_then (by with_reducible assumption) ?_))))).mono ?_
          rintro r w5 ⟨rfl, hb5⟩
          have hbw5 : Below w.heap.size w w5 := by (repeat (first | with_reducible exact Below.refl _ _ | with_reducible assumption | (with_reducible refine below_alloc ?_ _) | (with_reducible refine Below.setCell ?_ (by first | omega | (simp; done) | (simp; omega)) _) | (with_reducible refine Below.drew ?_) | (with_reducible refine below_drewN ?_ _) | (refine below_then (by with_reducible assumption) ?_)))
          go_wp2
          go_roundw
          case rel => exact ⟨k + 1, by omega, by go_num, hnx, hbw5⟩
          case measure => simp [intOf]; omega
        · have hdd : decide (x = y) = false := decide_eq_false hxy
          rw [hdd] at HS
          have hfin : Hid (decide (xs = ys) = false) := hid (decide_eq_false (hno.out hxy))
          clear hno hyes hxy hdd
          go_wp2_with fail
          refine (HS.out _ (by (repeat (first | with_reducible exact Below.refl _ _ | with_reducible assumption | (with_reducible refine below_alloc ?_ _) | (with_reducible refine Below.setCell ?_ (by first | omega | (simp; done) | (simp; omega)) _) | (with_reducible refine Below.drew ?_) | (with_reducible refine below_drewN ?_ _) | (refine below_then (by with_reducible assumption) ?_))))).mono ?_
          rintro r w5 ⟨rfl, hb5⟩
          have hbw5 : Below w.heap.size w w5 := by (repeat (first | with_reducible exact Below.refl _ _ | with_reducible assumption | (with_reducible refine below_alloc ?_ _) | (with_reducible refine Below.setCell ?_ (by first | omega | (simp; done) | (simp; omega)) _) | (with_reducible refine Below.drew ?_) | (with_reducible refine below_drewN ?_ _) | (refine below_then (by with_reducible assumption) ?_)))
          go_wp2
          go_ret
          exact ⟨by rw [hfin.out]; rfl, hbw5⟩
      · obtain rfl : k = xs.length := by omega
        have hfin : Hid (decide (xs = ys) = true) := hid (decide_eq_true (by have h := heq.out; rw [List.take_length, HLN.out, List.take_length] at h; exact h))
        go_wp2
        go_ret
        exact ⟨by rw [hfin.out]; rfl, hb⟩
  · have e0 : ((xs.length : Int) != (ys.length : Int)) = true := by simp; omega
    have hfin : Hid (decide (xs = ys) = false) := hid (decide_eq_false (fun e => hlen (by rw [e])))
    clear hlen
    go_enter Tryz.func247, Tryz.ntmps247
    go_wp2
    go_ret
    exact ⟨by rw [hfin.out]; rfl, by (repeat (first | exact Below.refl _ _ | assumption | (refine below_alloc ?_ _) | (refine Below.setCell ?_ (by first | omega | (simp; done) | (simp; omega)) _) | (refine Below.drew ?_) | (refine below_drewN ?_ _) | (refine below_then (by assumption) ?_)))⟩

theorem link_same (xs ys : List Link) (a a' : Option Addr) (n c n' c' : Nat) (w : World) (hl : rLinks.r (· < w.heap.size) w [.slice a n c] xs) (hl' : rLinks.r (· < w.heap.size) w [.slice a' n' c'] ys) :
    Calls Tryz.prog 203 #[.slice a n c, .slice a' n' c'] w fun r w' => r = .returned (.bool (decide (xs = ys))) ∧ Below w.heap.size w w' := by
  obtain ⟨rfl, hm, _, _⟩ := sl_len hl
  obtain ⟨rfl, hm', _, _⟩ := sl_len hl'
  have HE := hid (equal_links xs ys a a' _ c _ c' w hl hl')
  generalize decide (xs = ys) = R at *
  clear hl hl'
  go_enter Tryz.func203, Tryz.ntmps203
  go_wp2_with fail
  refine HE.out.mono ?_
  rintro r w5 ⟨rfl, hb5⟩
  go_wp2
  go_ret
  exact ⟨rfl, by (repeat (first | with_reducible exact Below.refl _ _ | with_reducible assumption | (with_reducible refine below_alloc ?_ _) | (with_reducible refine Below.setCell ?_ (by first | omega | (simp; done) | (simp; omega)) _) | (with_reducible refine Below.drew ?_) | (with_reducible refine below_drewN ?_ _) | (refine below_then (by with_reducible assumption) ?_)))⟩
set_option maxRecDepth 100000 in
set_option maxHeartbeats 3200000 in
theorem entry_same (x y : Entry) (a1 a2 a3 a4 : Option Addr) (c1 c2 c3 c4 : Nat) (w : World) (hx : rLinks.r (· < w.heap.size) w [.slice a1 x.links.length c1] x.links) (hx' : rBytes.r (· < w.heap.size) w [.slice a3 x.data.length c3] x.data)
    (hy : rLinks.r (· < w.heap.size) w [.slice a2 y.links.length c2] y.links) (hy' : rBytes.r (· < w.heap.size) w [.slice a4 y.data.length c4] y.data) :
    Calls Tryz.prog 142 #[.agg #[.slice a1 x.links.length c1, .slice a3 x.data.length c3], .agg #[.slice a2 y.links.length c2, .slice a4 y.data.length c4]] w fun r w' => r = .returned (.bool (decide (x = y))) ∧ Below w.heap.size w w' := by
  obtain ⟨L, D⟩ := x
  obtain ⟨L', D'⟩ := y
  dsimp only at *
  have HLS := hid (fun (W : World) (hW : Below w.heap.size w W) => link_same L L' a1 a2 _ c1 _ c2 W (lift hx hW) (lift hy hW))
  have HBE := hid (fun (W : World) (hW : Below w.heap.size w W) => bytes_equal2 D D' a3 a4 _ c3 _ c4 W (lift hx' hW) (lift hy' hW))
  have hfin : Hid (decide ((⟨L, D⟩ : Entry) = ⟨L', D'⟩) = (decide (L = L') && decide (D = D'))) := hid (by by_cases h : L = L' <;> by_cases h' : D = D' <;> simp [h, h'])
  generalize decide (L = L') = R at *
  generalize decide (D = D') = Q at *
  clear hx hy hx' hy'
  cases R
  · rw [show (false && Q) = false from rfl] at hfin
    go_enter Tryz.func142, Tryz.ntmps142
    go_wp2_with fail
    refine (HLS.out _ (by (repeat (first | with_reducible exact Below.refl _ _ | with_reducible assumption | (with_reducible refine below_alloc ?_ _) | (with_reducible refine Below.setCell ?_ (by first | omega | (simp; done) | (simp; omega)) _) | (with_reducible refine Below.drew ?_) | (with_reducible refine below_drewN ?_ _) | (refine below_then (by with_reducible assumption) ?_))))).mono ?_
    rintro r w1 ⟨rfl, hb1⟩
    go_wp2
    go_ret
    exact ⟨by rw [hfin.out]; rfl, by (repeat (first | with_reducible exact Below.refl _ _ | with_reducible assumption | (with_reducible refine below_alloc ?_ _) | (with_reducible refine Below.setCell ?_ (by first | omega | (simp; done) | (simp; omega)) _) | (with_reducible refine Below.drew ?_) | (with_reducible refine below_drewN ?_ _) | (refine below_then (by with_reducible assumption) ?_)))⟩
  · rw [show (true && Q) = Q from rfl] at hfin
    go_enter Tryz.func142, Tryz.ntmps142
    go_wp2_with fail
    refine (HLS.out _ (by (repeat (first | with_reducible exact Below.refl _ _ | with_reducible assumption | (with_reducible refine below_alloc ?_ _) | (with_reducible refine Below.setCell ?_ (by first | omega | (simp; done) | (simp; omega)) _) | (with_reducible refine Below.drew ?_) | (with_reducible refine below_drewN ?_ _) | (refine below_then (by with_reducible assumption) ?_))))).mono ?_
    rintro r w1 ⟨rfl, hb1⟩
    have B0 : Blk w1 w.heap.size 75 #[.slice a1 L.length c1, .slice a3 D.length c3] := Blk.later (by (repeat (first | assumption | exact Blk.newAt _ _ _ (by first | (simp; done) | (simp; omega)) | refine Blk.alloc ?_ _ | refine Blk.drew ?_ | refine Blk.drewN ?_ _ | refine Blk.far ?_ (by first | (simp; done) | (simp; omega)) _))) hb1
    have B1 : Blk w1 (w.heap.size + 1) 75 #[.slice a2 L'.length c2, .slice a4 D'.length c4] := Blk.later (by (repeat (first | assumption | exact Blk.newAt _ _ _ (by first | (simp; done) | (simp; omega)) | refine Blk.alloc ?_ _ | refine Blk.drew ?_ | refine Blk.drewN ?_ _ | refine Blk.far ?_ (by first | (simp; done) | (simp; omega)) _))) hb1
    obtain ⟨x0, x1, l0⟩ := e_blk B0
    obtain ⟨y0, y1, l1⟩ := e_blk B1
    have hbw : Below w.heap.size w w1 := by (repeat (first | with_reducible exact Below.refl _ _ | with_reducible assumption | (with_reducible refine below_alloc ?_ _) | (with_reducible refine Below.setCell ?_ (by first | omega | (simp; done) | (simp; omega)) _) | (with_reducible refine Below.drew ?_) | (with_reducible refine below_drewN ?_ _) | (refine below_then (by with_reducible assumption) ?_)))
    clear B0 B1 hb1
    go_wp2_with fail
    refine (HBE.out _ hbw).mono ?_
    rintro r w2 ⟨rfl, rfl⟩
    go_wp2
    go_ret
    exact ⟨by rw [hfin.out]; cases Q <;> rfl, by (repeat (first | with_reducible exact Below.refl _ _ | with_reducible assumption | (with_reducible refine below_alloc ?_ _) | (with_reducible refine Below.setCell ?_ (by first | omega | (simp; done) | (simp; omega)) _) | (with_reducible refine Below.drew ?_) | (with_reducible refine below_drewN ?_ _) | (refine below_then (by with_reducible assumption) ?_)))⟩

set_option maxRecDepth 100000 in
set_option maxHeartbeats 3200000 in
theorem equal_entries (xs ys : List Entry) (a a' : Option Addr) (n c n' c' : Nat) (w : World) (hl : rEntries.r (· < w.heap.size) w [.slice a n c] xs) (hl' : rEntries.r (· < w.heap.size) w [.slice a' n' c'] ys) :
    Calls Tryz.prog 141 #[.slice a n c, .slice a' n' c', .func (Fn.func 142) #[] #[]] w fun r w' => r = .returned (.bool (decide (xs = ys))) ∧ Below w.heap.size w w' := by
  obtain ⟨rfl, hm, _, _⟩ := sl_len hl
  obtain ⟨rfl, hm', _, _⟩ := sl_len hl'
  have HL := hid hl; have HL' := hid hl'; clear hl hl'
  by_cases hlen : xs.length = ys.length
  · have e0 : ((xs.length : Int) != (ys.length : Int)) = false := by rw [hlen]; simp
    have HLN := hid hlen; clear hlen
    go_enter Tryz.func141, Tryz.ntmps141
    go_wp2_with fail
    go_loopw [17] (fun i wr => ∃ k : Nat, k ≤ xs.length ∧ i = .int .i64 k ∧ Hid (xs.take k = ys.take k) ∧ Below w.heap.size w wr) (fun i _ => xs.length - (intOf i).toNat)
    case atStart => exact ⟨0, Nat.zero_le _, rfl, hid rfl, Below.refl _ _⟩
    case round =>
      obtain ⟨k, hk, rfl, heq, hb⟩ := hrel
      rcases Nat.lt_or_ge k xs.length with hlt | hge
      · have hlt' : k < ys.length := by rw [← HLN.out]; exact hlt
        obtain ⟨b, o, hA, hbb, ax, cx, px, qx, x0, x1, xl, xd⟩ := entry_at HL.out hlt
        obtain ⟨b', o', hA', hbb', ay, cy, py, qy, y0, y1, yl, yd⟩ := entry_at HL'.out hlt'
        subst hA
        subst hA'
        have X0 := (hb.cell (p := ⟨b, o + k * 2, none⟩) hbb).trans x0
        have X1 := (hb.cell (p := ⟨b, o + k * 2 + 1, none⟩) hbb).trans x1
        have Y0 := (hb.cell (p := ⟨b', o' + k * 2, none⟩) hbb').trans y0
        have Y1 := (hb.cell (p := ⟨b', o' + k * 2 + 1, none⟩) hbb').trans y1
        have hbl' : b' < wr.heap.size := World.block_lt_of_cell? _ _ Y0
        have hbl : b < wr.heap.size := World.block_lt_of_cell? _ _ X0
        have hno := hid (el_ne hlt hlt')
        have hyes := hid (el_take_eq heq.out hlt hlt')
        have HS := hid (fun (W : World) (hW : Below wr.heap.size wr W) => entry_same xs[k] ys[k] ax ay px py cx cy qx qy W (lift xl (below_then hW hb)) (lift xd (below_then hW hb)) (lift yl (below_then hW hb)) (lift yd (below_then hW hb)))
        clear x0 x1 y0 y1 xl yl xd yd
        generalize xs[k] = x at *
        generalize ys[k] = y at *
        have i1 : (k : Int) < (xs.length : Int) := by omega
        have i2 : (k : Int) < (ys.length : Int) := by omega
        have d1 : decide ((k : Int) < (xs.length : Int)) = true := decide_eq_true i1
        have d1' : decide (k < xs.length) = true := decide_eq_true hlt
        by_cases hxy : x = y
        · have hdd : decide (x = y) = true := decide_eq_true hxy
          rw [hdd] at HS
          have hnx : Hid (xs.take (k + 1) = ys.take (k + 1)) := hid (hyes.out hxy)
          clear hno hyes hxy hdd
          go_wp2_with fail
          refine (HS.out _ (by (repeat (first | with_reducible exact Below.refl _ _ | with_reducible assumption | (with_reducible refine below_alloc ?_ _) | (with_reducible refine Below.setCell ?_ (by first | omega | (simp; done) | (simp; omega)) _) | (with_reducible refine Below.drew ?_) | (with_reducible refine below_drewN ?_ _) | (refine below_then (by with_reducible assumption) ?_))))).mono ?_
          rintro r w5 ⟨rfl, hb5⟩
          have hbw5 : Below w.heap.size w w5 := by (repeat (first | with_reducible exact Below.refl _ _ | with_reducible assumption | (with_reducible refine below_alloc ?_ _) | (with_reducible refine Below.setCell ?_ (by first | omega | (simp; done) | (simp; omega)) _) | (with_reducible refine Below.drew ?_) | (with_reducible refine below_drewN ?_ _) | (refine below_then (by with_reducible assumption) ?_)))
          go_wp2
          go_roundw
          case rel => exact ⟨k + 1, by omega, by go_num, hnx, hbw5⟩
          case measure => simp [intOf]; omega
        · have hdd : decide (x = y) = false := decide_eq_false hxy
          rw [hdd] at HS
          have hfin : Hid (decide (xs = ys) = false) := hid (decide_eq_false (hno.out hxy))
          clear hno hyes hxy hdd
          go_wp2_with fail
          refine (HS.out _ (by (repeat (first | with_reducible exact Below.refl _ _ | with_reducible assumption | (with_reducible refine below_alloc ?_ _) | (with_reducible refine Below.setCell ?_ (by first | omega | (simp; done) | (simp; omega)) _) | (with_reducible refine Below.drew ?_) | (with_reducible refine below_drewN ?_ _) | (refine below_then (by with_reducible assumption) ?_))))).mono ?_
          rintro r w5 ⟨rfl, hb5⟩
          have hbw5 : Below w.heap.size w w5 := by (repeat (first | with_reducible exact Below.refl _ _ | with_reducible assumption | (with_reducible refine below_alloc ?_ _) | (with_reducible refine Below.setCell ?_ (by first | omega | (simp; done) | (simp; omega)) _) | (with_reducible refine Below.drew ?_) | (with_reducible refine below_drewN ?_ _) | (refine below_then (by with_reducible assumption) ?_)))
          go_wp2
          go_ret
          exact ⟨by rw [hfin.out]; rfl, hbw5⟩
      · obtain rfl : k = xs.length := by omega
        have hfin : Hid (decide (xs = ys) = true) := hid (decide_eq_true (by have h := heq.out; rw [List.take_length, HLN.out, List.take_length] at h; exact h))
        go_wp2
        go_ret
        exact ⟨by rw [hfin.out]; rfl, hb⟩
  · have e0 : ((xs.length : Int) != (ys.length : Int)) = true := by simp; omega
    have hfin : Hid (decide (xs = ys) = false) := hid (decide_eq_false (fun e => hlen (by rw [e])))
    clear hlen
    go_enter Tryz.func141, Tryz.ntmps141
    go_wp2
    go_ret
    exact ⟨by rw [hfin.out]; rfl, by (repeat (first | exact Below.refl _ _ | assumption | (refine below_alloc ?_ _) | (refine Below.setCell ?_ (by first | omega | (simp; done) | (simp; omega)) _) | (refine Below.drew ?_) | (refine below_drewN ?_ _) | (refine below_then (by assumption) ?_)))⟩

theorem entry_all (xs ys : List Entry) (a a' : Option Addr) (n c n' c' : Nat) (w : World) (hl : rEntries.r (· < w.heap.size) w [.slice a n c] xs) (hl' : rEntries.r (· < w.heap.size) w [.slice a' n' c'] ys) :
    Calls Tryz.prog 86 #[.slice a n c, .slice a' n' c'] w fun r w' => r = .returned (.bool (decide (xs = ys))) ∧ Below w.heap.size w w' := by
  obtain ⟨rfl, hm, _, _⟩ := sl_len hl
  obtain ⟨rfl, hm', _, _⟩ := sl_len hl'
  have HE := hid (equal_entries xs ys a a' _ c _ c' w hl hl')
  generalize decide (xs = ys) = R at *
  clear hl hl'
  go_enter Tryz.func86, Tryz.ntmps86
  go_wp2_with fail
  refine HE.out.mono ?_
  rintro r w5 ⟨rfl, hb5⟩
  go_wp2
  go_ret
  exact ⟨rfl, by (repeat (first | with_reducible exact Below.refl _ _ | with_reducible assumption | (with_reducible refine below_alloc ?_ _) | (with_reducible refine Below.setCell ?_ (by first | omega | (simp; done) | (simp; omega)) _) | (with_reducible refine Below.drew ?_) | (with_reducible refine below_drewN ?_ _) | (refine below_then (by with_reducible assumption) ?_)))⟩
set_option maxRecDepth 100000 in
set_option maxHeartbeats 3200000 in
theorem batch_same (x y : Batch) (a a' : Option Addr) (n c n' c' : Nat) (w : World) (hx : rEntries.r (· < w.heap.size) w [.slice a n c] x.entries) (hy : rEntries.r (· < w.heap.size) w [.slice a' n' c'] y.entries) :
    Calls Tryz.prog 25 #[.agg #[.int .u64 x.epoch, .int .u64 x.base, .slice a n c], .agg #[.int .u64 y.epoch, .int .u64 y.base, .slice a' n' c']] w fun r w' => r = .returned (.bool (decide (x = y))) ∧ Below w.heap.size w w' := by
  obtain ⟨rfl, hm, _, _⟩ := sl_len hx
  obtain ⟨rfl, hm', _, _⟩ := sl_len hy
  obtain ⟨p, q, D⟩ := x
  obtain ⟨p', q', D'⟩ := y
  dsimp only at *
  have HB := hid (fun (W : World) (hW : Below w.heap.size w W) => entry_all D D' a a' _ c _ c' W (lift hx hW) (lift hy hW))
  by_cases hp : p = p'
  · subst hp
    have e1 : (p == p) = true := by simp
    by_cases hq : q = q'
    · subst hq
      have e2 : (q == q) = true := by simp
      have hfin : Hid (decide ((⟨p, q, D⟩ : Batch) = ⟨p, q, D'⟩) = decide (D = D')) := hid (by by_cases h : D = D' <;> simp [h])
      generalize decide (D = D') = R at *
      clear hx hy
      cases R
      all_goals
        go_enter Tryz.func25, Tryz.ntmps25
        go_wp2_with fail
        refine (HB.out _ (by (repeat (first | with_reducible exact Below.refl _ _ | with_reducible assumption | (with_reducible refine below_alloc ?_ _) | (with_reducible refine Below.setCell ?_ (by first | omega | (simp; done) | (simp; omega)) _) | (with_reducible refine Below.drew ?_) | (with_reducible refine below_drewN ?_ _) | (refine below_then (by with_reducible assumption) ?_))))).mono ?_
        rintro r w1 ⟨rfl, hb1⟩
        go_wp2
        go_ret
        exact ⟨by rw [hfin.out]; rfl, by (repeat (first | with_reducible exact Below.refl _ _ | with_reducible assumption | (with_reducible refine below_alloc ?_ _) | (with_reducible refine Below.setCell ?_ (by first | omega | (simp; done) | (simp; omega)) _) | (with_reducible refine Below.drew ?_) | (with_reducible refine below_drewN ?_ _) | (refine below_then (by with_reducible assumption) ?_)))⟩
    · have e2 : (q == q') = false := by simpa using hq
      have hfin : Hid (decide ((⟨p, q, D⟩ : Batch) = ⟨p, q', D'⟩) = false) := hid (by simp [hq])
      clear hx hy
      go_enter Tryz.func25, Tryz.ntmps25
      go_wp2
      go_ret
      exact ⟨by rw [hfin.out]; rfl, by (repeat (first | with_reducible exact Below.refl _ _ | with_reducible assumption | (with_reducible refine below_alloc ?_ _) | (with_reducible refine Below.setCell ?_ (by first | omega | (simp; done) | (simp; omega)) _) | (with_reducible refine Below.drew ?_) | (with_reducible refine below_drewN ?_ _) | (refine below_then (by with_reducible assumption) ?_)))⟩
  · have e1 : (p == p') = false := by simpa using hp
    have hfin : Hid (decide ((⟨p, q, D⟩ : Batch) = ⟨p', q', D'⟩) = false) := hid (by simp [hp])
    clear hx hy
    go_enter Tryz.func25, Tryz.ntmps25
    go_wp2
    go_ret
    exact ⟨by rw [hfin.out]; rfl, by (repeat (first | with_reducible exact Below.refl _ _ | with_reducible assumption | (with_reducible refine below_alloc ?_ _) | (with_reducible refine Below.setCell ?_ (by first | omega | (simp; done) | (simp; omega)) _) | (with_reducible refine Below.drew ?_) | (with_reducible refine below_drewN ?_ _) | (refine below_then (by with_reducible assumption) ?_)))⟩
end Go.Proofs.YtkipiefcnjfdjaaGreat
namespace Go.Proofs.YtkipiefcnjfdjaaGreat
open Go.RowKit Go.Bs Go.Maps
set_option linter.unusedVariables false
set_option linter.unusedSimpArgs false

set_option maxRecDepth 100000 in
set_option maxHeartbeats 3200000 in
theorem equal_batches (xs ys : List Batch) (a a' : Option Addr) (n c n' c' : Nat) (w : World) (hl : rBatches.r (· < w.heap.size) w [.slice a n c] xs) (hl' : rBatches.r (· < w.heap.size) w [.slice a' n' c'] ys) :
    Calls Tryz.prog 114 #[.slice a n c, .slice a' n' c', .func (Fn.func 25) #[] #[]] w fun r w' => r = .returned (.bool (decide (xs = ys))) ∧ Below w.heap.size w w' := by
  obtain ⟨rfl, hm, _, _⟩ := sl_len hl
  obtain ⟨rfl, hm', _, _⟩ := sl_len hl'
  have HL := hid hl; have HL' := hid hl'; clear hl hl'
  by_cases hlen : xs.length = ys.length
  · have e0 : ((xs.length : Int) != (ys.length : Int)) = false := by rw [hlen]; simp
    have HLN := hid hlen; clear hlen
    go_enter Tryz.func114, Tryz.ntmps114
    go_wp2_with fail
    go_loopw [17] (fun i wr => ∃ k : Nat, k ≤ xs.length ∧ i = .int .i64 k ∧ Hid (xs.take k = ys.take k) ∧ Below w.heap.size w wr) (fun i _ => xs.length - (intOf i).toNat)
    case atStart => exact ⟨0, Nat.zero_le _, rfl, hid rfl, Below.refl _ _⟩
    case round =>
      obtain ⟨k, hk, rfl, heq, hb⟩ := hrel
      rcases Nat.lt_or_ge k xs.length with hlt | hge
      · have hlt' : k < ys.length := by rw [← HLN.out]; exact hlt
        obtain ⟨b, o, hA, hbb, ax, cx, x0, x1, x2, _, _, xl⟩ := batch_at HL.out hlt
        obtain ⟨b', o', hA', hbb', ay, cy, y0, y1, y2, _, _, yl⟩ := batch_at HL'.out hlt'
        subst hA
        subst hA'
        have X0 := (hb.cell (p := ⟨b, o + k * 3, none⟩) hbb).trans x0
        have X1 := (hb.cell (p := ⟨b, o + k * 3 + 1, none⟩) hbb).trans x1
        have X2 := (hb.cell (p := ⟨b, o + k * 3 + 2, none⟩) hbb).trans x2
        have Y0 := (hb.cell (p := ⟨b', o' + k * 3, none⟩) hbb').trans y0
        have Y1 := (hb.cell (p := ⟨b', o' + k * 3 + 1, none⟩) hbb').trans y1
        have Y2 := (hb.cell (p := ⟨b', o' + k * 3 + 2, none⟩) hbb').trans y2
        have hbl' : b' < wr.heap.size := World.block_lt_of_cell? _ _ Y0
        have hbl : b < wr.heap.size := World.block_lt_of_cell? _ _ X0
        have hno := hid (el_ne hlt hlt')
        have hyes := hid (el_take_eq heq.out hlt hlt')
        have HS := hid (fun (W : World) (hW : Below wr.heap.size wr W) => batch_same xs[k] ys[k] ax ay _ cx _ cy W (lift xl (below_then hW hb)) (lift yl (below_then hW hb)))
        clear x0 x1 x2 y0 y1 y2 xl yl
        generalize xs[k] = x at *
        generalize ys[k] = y at *
        have i1 : (k : Int) < (xs.length : Int) := by omega
        have i2 : (k : Int) < (ys.length : Int) := by omega
        have d1 : decide ((k : Int) < (xs.length : Int)) = true := decide_eq_true i1
        have d1' : decide (k < xs.length) = true := decide_eq_true hlt
        by_cases hxy : x = y
        · have hdd : decide (x = y) = true := decide_eq_true hxy
          rw [hdd] at HS
          have hnx : Hid (xs.take (k + 1) = ys.take (k + 1)) := hid (hyes.out hxy)
          clear hno hyes hxy hdd
          go_wp2_with fail
          refine (HS.out _ (by (repeat (first | with_reducible exact Below.refl _ _ | with_reducible assumption | (with_reducible refine below_alloc ?_ _) | (with_reducible refine Below.setCell ?_ (by first | omega | (simp; done) | (simp; omega)) _) | (with_reducible refine Below.drew ?_) | (with_reducible refine below_drewN ?_ _) | (refine below_then (by with_reducible assumption) ?_))))).mono ?_
          rintro r w5 ⟨rfl, hb5⟩
          have hbw5 : Below w.heap.size w w5 := by (repeat (first | with_reducible exact Below.refl _ _ | with_reducible assumption | (with_reducible refine below_alloc ?_ _) | (with_reducible refine Below.setCell ?_ (by first | omega | (simp; done) | (simp; omega)) _) | (with_reducible refine Below.drew ?_) | (with_reducible refine below_drewN ?_ _) | (refine below_then (by with_reducible assumption) ?_)))
          go_wp2
          go_roundw
          case rel => exact ⟨k + 1, by omega, by go_num, hnx, hbw5⟩
          case measure => simp [intOf]; omega
        · have hdd : decide (x = y) = false := decide_eq_false hxy
          rw [hdd] at HS
          have hfin : Hid (decide (xs = ys) = false) := hid (decide_eq_false (hno.out hxy))
          clear hno hyes hxy hdd
          go_wp2_with fail
          refine (HS.out _ (by (repeat (first | with_reducible exact Below.refl _ _ | with_reducible assumption | (with_reducible refine below_alloc ?_ _) | (with_reducible refine Below.setCell ?_ (by first | omega | (simp; done) | (simp; omega)) _) | (with_reducible refine Below.drew ?_) | (with_reducible refine below_drewN ?_ _) | (refine below_then (by with_reducible assumption) ?_))))).mono ?_
          rintro r w5 ⟨rfl, hb5⟩
          have hbw5 : Below w.heap.size w w5 := by (repeat (first | with_reducible exact Below.refl _ _ | with_reducible assumption | (with_reducible refine below_alloc ?_ _) | (with_reducible refine Below.setCell ?_ (by first | omega | (simp; done) | (simp; omega)) _) | (with_reducible refine Below.drew ?_) | (with_reducible refine below_drewN ?_ _) | (refine below_then (by with_reducible assumption) ?_)))
          go_wp2
          go_ret
          exact ⟨by rw [hfin.out]; rfl, hbw5⟩
      · obtain rfl : k = xs.length := by omega
        have hfin : Hid (decide (xs = ys) = true) := hid (decide_eq_true (by have h := heq.out; rw [List.take_length, HLN.out, List.take_length] at h; exact h))
        go_wp2
        go_ret
        exact ⟨by rw [hfin.out]; rfl, hb⟩
  · have e0 : ((xs.length : Int) != (ys.length : Int)) = true := by simp; omega
    have hfin : Hid (decide (xs = ys) = false) := hid (decide_eq_false (fun e => hlen (by rw [e])))
    clear hlen
    go_enter Tryz.func114, Tryz.ntmps114
    go_wp2
    go_ret
    exact ⟨by rw [hfin.out]; rfl, by (repeat (first | exact Below.refl _ _ | assumption | (refine below_alloc ?_ _) | (refine Below.setCell ?_ (by first | omega | (simp; done) | (simp; omega)) _) | (refine Below.drew ?_) | (refine below_drewN ?_ _) | (refine below_then (by assumption) ?_)))⟩


set_option maxRecDepth 100000 in
set_option maxHeartbeats 3200000 in
theorem segment_same (ex ey : Int) (x y : List Batch) (a a' : Option Addr) (n c n' c' : Nat) (w : World) (hx : rBatches.r (· < w.heap.size) w [.slice a n c] x) (hy : rBatches.r (· < w.heap.size) w [.slice a' n' c'] y) :
    Calls Tryz.prog 59 #[.agg #[.int .u64 ex, .slice a n c], .agg #[.int .u64 ey, .slice a' n' c']] w fun r w' => r = .returned (.bool (decide ((⟨ex, x⟩ : Seg) = ⟨ey, y⟩))) ∧ Below w.heap.size w w' := by
  obtain ⟨rfl, hm, _, _⟩ := sl_len hx
  obtain ⟨rfl, hm', _, _⟩ := sl_len hy
  have HB := hid (fun (W : World) (hW : Below w.heap.size w W) => equal_batches x y a a' _ c _ c' W (lift hx hW) (lift hy hW))
  by_cases hp : ex = ey
  · subst hp
    have e1 : (ex == ex) = true := by simp
    have hfin : Hid (decide ((⟨ex, x⟩ : Seg) = ⟨ex, y⟩) = decide (x = y)) := hid (by by_cases h : x = y <;> simp [h])
    generalize decide (x = y) = R at *
    generalize decide ((⟨ex, x⟩ : Seg) = ⟨ex, y⟩) = R2 at *
    obtain rfl := hfin.out
    clear hx hy
    cases R2
    all_goals
      go_enter Tryz.func59, Tryz.ntmps59
      go_wp2_with fail
      refine (HB.out _ (by (repeat (first | with_reducible exact Below.refl _ _ | with_reducible assumption | (with_reducible refine below_alloc ?_ _) | (with_reducible refine Below.setCell ?_ (by first | omega | (simp; done) | (simp; omega)) _) | (with_reducible refine Below.drew ?_) | (with_reducible refine below_drewN ?_ _) | (refine below_then (by with_reducible assumption) ?_))))).mono ?_
      rintro r w1 ⟨rfl, hb1⟩
      go_wp2
      go_ret
      exact ⟨rfl, by (repeat (first | with_reducible exact Below.refl _ _ | with_reducible assumption | (with_reducible refine below_alloc ?_ _) | (with_reducible refine Below.setCell ?_ (by first | omega | (simp; done) | (simp; omega)) _) | (with_reducible refine Below.drew ?_) | (with_reducible refine below_drewN ?_ _) | (refine below_then (by with_reducible assumption) ?_)))⟩
  · have e1 : (ex == ey) = false := by simpa using hp
    have hfin : Hid (decide ((⟨ex, x⟩ : Seg) = ⟨ey, y⟩) = false) := hid (by simp [hp])
    clear hx hy
    go_enter Tryz.func59, Tryz.ntmps59
    go_wp2
    go_ret
    exact ⟨by rw [hfin.out]; rfl, by (repeat (first | with_reducible exact Below.refl _ _ | with_reducible assumption | (with_reducible refine below_alloc ?_ _) | (with_reducible refine Below.setCell ?_ (by first | omega | (simp; done) | (simp; omega)) _) | (with_reducible refine Below.drew ?_) | (with_reducible refine below_drewN ?_ _) | (refine below_then (by with_reducible assumption) ?_)))⟩
end Go.Proofs.YtkipiefcnjfdjaaGreat
namespace Go.Proofs.YtkipiefcnjfdjaaGreat
open Go.RowKit Go.Bs Go.Maps
set_option linter.unusedVariables false
set_option linter.unusedSimpArgs false

theorem written_m (W : World) (x u f0 f1 f2 f3 f4 f5 f6 : Value) : (Instr.field 153 (.agg #[x, u, f0, f1, f2, f3, f4, f5, f6]) 1).run Tryz.prog W = .ok u W := by kernel_rfl

set_option maxRecDepth 100000 in
set_option maxHeartbeats 1600000 in
theorem segment_marks (ep : Int) (l : List Batch) (a : Option Addr) (n c : Nat) (w : World) (h0 : 0 ≤ ep ∧ ep ≤ 18446744073709551615) (hl : rBatches.r (· < w.heap.size) w [.slice a n c] l) (hbn : ∀ b ∈ l, batchN b) (htm : ∀ b ∈ l, TameE b.entries) :
    Calls Tryz.prog 57 #[.agg #[.int .u64 ep, .slice a n c]] w fun r w' => ∃ v, r = .returned (.tuple #[v, .bool (segR ⟨ep, l⟩)]) ∧ rMarks.r (fun q => w.heap.size ≤ q ∧ q < w'.heap.size) w' [v] (if segR ⟨ep, l⟩ = true then (segW ep l).2 else []) ∧ Below w.heap.size w w' := by
  obtain ⟨rfl, hm, _, _⟩ := sl_len hl
  have HR := hid (fun (W : World) (hW : Below w.heap.size w W) => segment_right ep l a _ c W h0 (lift hl hW) (fun x hx => (htm x hx).fair))
  have HL := hid hl
  have kf := written_m
  clear hl
  cases hs : segR ⟨ep, l⟩
  · rw [hs] at HR
    simp only [Bool.false_eq_true, if_false]
    clear hs
    go_enter Tryz.func57, Tryz.ntmps57
    go_wp2_with fail
    refine (HR.out _ (by (repeat (first | exact Below.refl _ _ | assumption | (refine below_alloc ?_ _) | (refine Below.setCell ?_ (by first | omega | (simp; done) | (simp; omega)) _) | (refine Below.drew ?_) | (refine below_drewN ?_ _) | (refine below_then (by assumption) ?_))))).mono ?_
    rintro r w1 ⟨rfl, hb1⟩
    have hbw : Below w.heap.size w w1 := by (repeat (first | exact Below.refl _ _ | assumption | (refine below_alloc ?_ _) | (refine Below.setCell ?_ (by first | omega | (simp; done) | (simp; omega)) _) | (refine Below.drew ?_) | (refine below_drewN ?_ _) | (refine below_then (by assumption) ?_)))
    go_wp2
    go_ret2
    exact ⟨_, rfl, rSl_mk (xs := []) rfl (Nat.le_refl _) (Nat.zero_le _) (.inl rfl), hbw⟩
  · rw [hs] at HR
    simp only [if_true]
    have HW := hid (fun (W : World) (hW : Below w.heap.size w W) => seg_write ep l a _ c W (lift HL.out hW) hs hbn htm)
    clear hs
    go_enter Tryz.func57, Tryz.ntmps57
    go_wp2_with fail
    refine (HR.out _ (by (repeat (first | exact Below.refl _ _ | assumption | (refine below_alloc ?_ _) | (refine Below.setCell ?_ (by first | omega | (simp; done) | (simp; omega)) _) | (refine Below.drew ?_) | (refine below_drewN ?_ _) | (refine below_then (by assumption) ?_))))).mono ?_
    rintro r w1 ⟨rfl, hb1⟩
    have hB := (Blk.new w 62 #[.int .u64 ep, .slice a l.length c]).later hb1
    have c0 : w1.cell? ⟨w.heap.size, 0, none⟩ = some (.int .u64 ep) := hB.cell 0
    have c1 : w1.cell? ⟨w.heap.size, 1, none⟩ = some (.slice a l.length c) := hB.cell 1
    have hbw : Below w.heap.size w w1 := by (repeat (first | exact Below.refl _ _ | assumption | (refine below_alloc ?_ _) | (refine Below.setCell ?_ (by first | omega | (simp; done) | (simp; omega)) _) | (refine Below.drew ?_) | (refine below_drewN ?_ _) | (refine below_then (by assumption) ?_)))
    clear hB
    go_wp2_with fail
    refine (HW.out w1 hbw).mono ?_
    rintro r w2 ⟨v0, v, rfl, _, hr, hb2⟩
    obtain ⟨a2, c2, hv2, hr2, _⟩ := sl_form hr
    simp only [List.cons.injEq, and_true] at hv2
    subst hv2
    have HV := hid hr2
    clear hr hr2
    go_wp2
    go_ret2
    exact ⟨_, rfl, rMarks.mono HV.out fun q hq => ⟨by have := hbw.size; omega, hq.2⟩, below_then hb2 hbw⟩

set_option maxRecDepth 100000 in
set_option maxHeartbeats 1600000 in
theorem ref07_into (c : Nat) (hc : c < 4294967296) (x : UInt8) (w : World) :
    Calls Tryz.prog 266 #[.int .u32 c, .int .u8 (x.toNat : Int)] w fun r w' => r = .returned (.int .u32 (crcByte c x : Nat)) ∧ w = w' := by
  have e1 := into_u32 hc x
  have hcb : Hid (crcByte c x = iter4 8 (c ^^^ x.toNat)) := hid rfl
  have hy : c ^^^ x.toNat < 4294967296 := xor_lt32 hc (by have := x.toNat_lt; omega)
  generalize c ^^^ x.toNat = y at *
  go_enter Tryz.func266, Tryz.ntmps266
  go_wp2_with fail
  go_loopw [0, 5] (fun s i wr => ∃ k : Nat, k ≤ 8 ∧ i = .int .i64 k ∧ s = .int .u32 (iter4 k y : Nat) ∧ wr = w) (fun _ i _ => 8 - (intOf i).toNat)
  case atStart => exact ⟨0, by omega, rfl, rfl, rfl⟩
  case round =>
    obtain ⟨k, hk, rfl, rfl, rfl⟩ := hrel
    by_cases hlt : k < 8
    · have hd := iter4_lt hy k
      have hst : Hid (iter4 (k + 1) y = crcStep (iter4 k y)) := hid rfl
      have i1 : (k : Int) < 8 := by omega
      generalize iter4 k y = d at *
      by_cases h1 : d % 2 = 1
      · have d1 : ((d : Int) % 2 == 1) = true := by simp; omega
        have hff : Hid (((crcStep d : Nat) : Int) = bits BinOp.xor IntKind.u32 ((d : Int) / 2) 2197175160) := hid (by rw [poly_u32 hd]; unfold crcStep; rw [if_pos h1])
        clear h1
        go_wp2
        go_roundw
        case rel => exact ⟨k + 1, by omega, by go_num, by rw [hst.out, hff.out], trivial⟩
        case measure => simp [intOf]; omega
      · have d1 : ((d : Int) % 2 == 1) = false := beq_eq_false_iff_ne.2 (by omega)
        have hff : Hid (((crcStep d : Nat) : Int) = (d : Int) / 2) := hid (by unfold crcStep; rw [if_neg h1]; rfl)
        clear h1
        go_wp2
        go_roundw
        case rel => exact ⟨k + 1, by omega, by go_num, by rw [hst.out, hff.out], trivial⟩
        case measure => simp [intOf]; omega
    · obtain rfl : k = 8 := by omega
      go_wp2
      go_ret
      exact ⟨by rw [hcb.out]; rfl, rfl⟩

set_option maxRecDepth 100000 in
set_option maxHeartbeats 1600000 in
theorem ref07_sum (D : List UInt8) (ad : Option Addr) (nd cd : Nat) (w : World) (hD : rBytes.r (· < w.heap.size) w [.slice ad nd cd] D) :
    Calls Tryz.prog 180 #[.slice ad nd cd] w fun r w' => r = .returned (.int .u32 (crcSum D : Nat)) ∧ w = w' := by
  obtain ⟨rfl, hm, _, _⟩ := sl_len hD
  have HD := hid hD; clear hD
  have hlt := crcAdd_lt D (c := 4294967295) (by decide)
  have hff : Hid (crcSum D = 4294967295 - crcAdd 4294967295 D) := hid rfl
  have HA : Hid (Calls Tryz.prog 230 #[.int .u32 4294967295, .slice ad D.length cd] w fun r w' => r = .returned (.int .u32 (crcAdd 4294967295 D : Nat)) ∧ w = w') := hid (by
    clear hff hlt
    go_enter Tryz.func230, Tryz.ntmps230
    go_wp2_with fail
    go_loopw [0, 5] (fun s i wr => ∃ (k d : Nat), k ≤ D.length ∧ i = .int .i64 k ∧ s = .int .u32 d ∧ d < 4294967296 ∧ Hid (crcAdd 4294967295 D = crcAdd d (D.drop k)) ∧ wr = w) (fun _ i _ => D.length - (intOf i).toNat)
    case atStart => exact ⟨0, 4294967295, Nat.zero_le _, rfl, rfl, by decide, hid rfl, rfl⟩
    case round =>
      obtain ⟨k, d, hk, rfl, rfl, hd, hf, rfl⟩ := hrel
      by_cases hlt : k < D.length
      · obtain ⟨b, o, hA, hbb, hx⟩ := byte_at HD.out hlt
        subst hA
        have hst := hid (show crcAdd d (D.drop k) = crcAdd (crcByte d D[k]) (D.drop (k + 1)) by rw [List.drop_eq_getElem_cons hlt]; rfl)
        generalize D[k] = x at *
        have i1 : (k : Int) < (D.length : Int) := by omega
        have hb1 := crcByte_lt (x := x) hd
        have HI := hid (ref07_into d hd x wr)
        generalize crcByte d x = q at *
        go_wp2_with fail
        refine HI.out.mono ?_
        rintro r w1 ⟨rfl, rfl⟩
        go_wp2
        go_roundw
        case rel => exact ⟨k + 1, q, by omega, by go_num, rfl, hb1, hid (by rw [hf.out, hst.out]), trivial⟩
        case measure => simp [intOf]; omega
      · obtain rfl : k = D.length := by omega
        have hff : Hid (crcAdd 4294967295 D = d) := hid (by rw [hf.out, List.drop_length]; rfl)
        go_wp2
        go_ret
        exact ⟨by rw [hff.out]; rfl, rfl⟩)
  generalize crcAdd 4294967295 D = s at *
  go_enter Tryz.func180, Tryz.ntmps180
  go_wp2_with fail
  refine HA.out.mono ?_
  rintro r w1 ⟨rfl, rfl⟩
  have e2 : 0 ≤ 4294967295 - (s : Int) := by omega
  go_wp2
  go_ret
  exact ⟨by rw [hff.out]; simp; omega, rfl⟩
end Go.Proofs.YtkipiefcnjfdjaaGreat
