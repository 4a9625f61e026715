/- The reference's Sum. -/
import Derived.Test.YtkhopikmejnfeaaTallyH
namespace Go.Proofs.Ytkhopikmejnfeaa
open Go.RowKit Fl Go.Bs
set_option linter.unusedVariables false
set_option linter.unusedSimpArgs false
attribute [local go_sem] unary_neg_float floatOfInt_fI

def tN (p : Int × Int) : Int := if rt p.1 p.2 then p.1 else 0
def tB (p : Int × Int) : Int := if rt p.1 p.2 then p.2 else 0
def tBad (p : Int × Int) : Bool := !rt p.1 p.2

theorem sumGo_rt (l : List (Int × Int)) : ∀ s : Int × Int, rt s.1 s.2 = true → rt (sumGo s l).1 (sumGo s l).2 = true := by
  induction l with
  | nil => intro s h; exact h
  | cons x l ih =>
    intro s h
    unfold sumGo
    split
    · split
      · rename_i h2; exact ih _ h2
      · decide
    · decide

set_option maxHeartbeats 1600000 in
theorem rsum_any (l : List (Int × Int)) (A : Option Addr) (c : Nat) (w : World) (hlen : l.length ≤ 1000000)
    (hr : ∀ k, (hk : k < l.length) → ∃ b o, A = some ⟨b, o, none⟩ ∧ b < w.heap.size ∧ w.cell? ⟨b, o + k * 3, none⟩ = some (.int .i64 (tN l[k])) ∧ w.cell? ⟨b, o + k * 3 + 1, none⟩ = some (.int .i64 (tB l[k])) ∧ w.cell? ⟨b, o + k * 3 + 2, none⟩ = some (.bool (tBad l[k]))) :
    Calls Try.prog 19 #[.slice A l.length c] w fun e w' => e = .returned (rT (sumGo (0, 0) l).1 (sumGo (0, 0) l).2 false) ∧ Below w.heap.size w w' := by
  have HR := hid hr; clear hr
  go_enter Try.func19, Try.ntmps19
  go_wp2
  go_loopw [4] (fun i wr => ∃ k : Nat, ∃ x y : Int, k ≤ l.length ∧ i = .int .i64 k ∧ Hid (rt x y = true) ∧ Hid (sumGo (0, 0) l = sumGo (x, y) (l.drop k)) ∧ Below w.heap.size w wr ∧ w.heap.size + 1 < wr.heap.size ∧
      Blk wr w.heap.size 33 #[.int .i64 0, .int .i64 0, .bool false] ∧
      Blk wr (w.heap.size + 1) 33 #[.int .i64 x, .int .i64 y, .bool false]) (fun i _ => l.length - (intOf i).toNat)
  case atStart =>
    refine ⟨0, 0, 0, Nat.zero_le _, rfl, hid (by decide), hid rfl, ?_, ?_, ?_, ?_⟩
    · (repeat (first | exact Below.refl _ _ | assumption | (refine below_alloc ?_ _) | (refine Below.setCell ?_ (by first | omega | (simp; done) | (simp; omega)) _) | (refine Below.drew ?_) | (refine below_drewN ?_ _) | (refine below_then (by assumption) ?_)))
    · simp
    · exact (Blk.new _ _ _).alloc _
    · exact Blk.new1 _ _ _ _
  case round =>
    obtain ⟨k, x, y, hk, rfl, hrt, hs, hb, hsz, hB0, hB1⟩ := hrel
    obtain ⟨x0, x1, y0, y1, _⟩ := rt_bound hrt.out
    have d0 : wr.cell? ⟨w.heap.size + 1, 0, none⟩ = some (.int .i64 x) := hB1.cell 0
    have d1 : wr.cell? ⟨w.heap.size + 1, 1, none⟩ = some (.int .i64 y) := hB1.cell 1
    have d2 : wr.cell? ⟨w.heap.size + 1, 2, none⟩ = some (.bool false) := hB1.cell 2
    have r0 : wr.cell? ⟨w.heap.size, 0, none⟩ = some (.int .i64 0) := hB0.cell 0
    have r1 : wr.cell? ⟨w.heap.size, 1, none⟩ = some (.int .i64 0) := hB0.cell 1
    have r2 : wr.cell? ⟨w.heap.size, 2, none⟩ = some (.bool false) := hB0.cell 2
    by_cases hlt : k < l.length
    · obtain ⟨b, o, hA, hbb, hc0, hc1, hc2⟩ := HR.out k hlt
      subst hA
      obtain ⟨u, v, huv⟩ : ∃ u v, l[k] = (u, v) := ⟨_, _, rfl⟩
      have hd : l.drop k = (u, v) :: l.drop (k + 1) := by rw [← huv]; exact List.drop_eq_getElem_cons hlt
      rw [hd] at hs
      rw [huv] at hc0 hc1 hc2
      have q0 := (hb.cell (p := ⟨b, o + k * 3, none⟩) hbb).trans hc0
      have q1 := (hb.cell (p := ⟨b, o + k * 3 + 1, none⟩) hbb).trans hc1
      have q2 := (hb.cell (p := ⟨b, o + k * 3 + 2, none⟩) hbb).trans hc2
      clear hc0 hc1 hc2 huv hd
      simp only [tN, tB, tBad] at q0 q1 q2
      have D0 := fun s : Later wr => s.cell d0
      have D1 := fun s : Later wr => s.cell d1
      have i0 : (0 : Int) ≤ (k : Int) := by omega
      have i1 : (k : Int) < (l.length : Int) := by omega
      cases g1 : rt u v
      · rw [g1] at q0 q1 q2
        simp only [Bool.not_false] at q2
        have D2 := fun s : Later wr => s.cell q2
        have G1 := hid g1; clear g1 q0 q1 q2
        go_wp2_with fail
        refine wp_region_later (by kernel_rfl) (by kernel_rfl) ?_
        repeat (go_big_quiet_step (fail))
        refine wpQuiet_nil ?_
        rintro W5 ⟨⟨W5', hb5⟩, rfl⟩
        have z0 := hB0.later hb5
        have zz := z0.lt
        have e0 := z0.cell 0
        have e1 := z0.cell 1
        have e2 := z0.cell 2
        have f0 := z0.free 0
        have f1 := z0.free 1
        have f2 := z0.free 2
        simp only [List.size_toArray, List.length_cons, List.length_nil, List.getElem?_toArray, List.getElem?_cons_zero, List.getElem?_cons_succ] at e0 e1 e2
        go_wp2
        refine bodyPost_ret (v := .agg #[.int .i64 0, .int .i64 0, .bool false]) (by simp [results, Try.results19, go_sem, e0, e1, e2, f0, f1, f2]) rfl ⟨?_, ?_⟩
        · rw [hs.out]
          simp only [sumGo, G1.out]
          rfl
        · have hb6 := hb.trans (hb5.mono hb.size)
          (repeat (first | exact Below.refl _ _ | assumption | (refine below_alloc ?_ _) | (refine Below.setCell ?_ (by first | omega | (simp; done) | (simp; omega)) _) | (refine Below.drew ?_) | (refine below_drewN ?_ _) | (refine below_then (by assumption) ?_)))
      · rw [g1] at q0 q1 q2
        simp only [Bool.not_true, if_true] at q0 q1 q2
        obtain ⟨u0, u1, v0, v1, _⟩ := rt_bound g1
        have D2 := fun s : Later wr => s.cell q2
        have D3 := fun s : Later wr => s.cell q0
        have D4 := fun s : Later wr => s.cell q1
        have G1 := hid g1; clear g1
        have hq := rright_any (x + u) (y + v)
        cases g2 : rt (x + u) (y + v)
        · rw [g2] at hq
          have HQ := hid hq; clear hq
          have G2 := hid g2; clear g2 q0 q1 q2
          go_wp2_with fail
          refine wp_region_later (by kernel_rfl) (by kernel_rfl) ?_
          repeat (go_big_quiet_step ((go_at_call 21; exact later_same (HQ.out _))))
          refine wpQuiet_nil ?_
          rintro W5 ⟨⟨W5', hb5⟩, rfl⟩
          have z0 := hB0.later hb5
          have zz := z0.lt
          have e0 := z0.cell 0
          have e1 := z0.cell 1
          have e2 := z0.cell 2
          have f0 := z0.free 0
          have f1 := z0.free 1
          have f2 := z0.free 2
          simp only [List.size_toArray, List.length_cons, List.length_nil, List.getElem?_toArray, List.getElem?_cons_zero, List.getElem?_cons_succ] at e0 e1 e2
          go_wp2
          refine bodyPost_ret (v := .agg #[.int .i64 0, .int .i64 0, .bool false]) (by simp [results, Try.results19, go_sem, e0, e1, e2, f0, f1, f2]) rfl ⟨?_, ?_⟩
          · rw [hs.out]
            simp only [sumGo, G1.out, G2.out]
            rfl
          · have hb6 := hb.trans (hb5.mono hb.size)
            (repeat (first | exact Below.refl _ _ | assumption | (refine below_alloc ?_ _) | (refine Below.setCell ?_ (by first | omega | (simp; done) | (simp; omega)) _) | (refine Below.drew ?_) | (refine below_drewN ?_ _) | (refine below_then (by assumption) ?_)))
        · rw [g2] at hq
          have HQ := hid hq; clear hq
          have G2 := hid g2; clear g2
          go_wp2_with fail
          refine wp_region_later (by kernel_rfl) (by kernel_rfl) ?_
          repeat (go_big_quiet_step ((go_at_call 21; exact later_same (HQ.out _))))
          refine wpQuiet_nil ?_
          rintro W5 ⟨⟨W5', hb5⟩, rfl⟩
          have z0 := hB0.later hb5
          have z1 := hB1.later hb5
          have zz := z1.lt
          have c0 : W5.cell? ⟨w.heap.size + 1, 0, none⟩ = some (.int .i64 x) := z1.cell 0
          have c1 : W5.cell? ⟨w.heap.size + 1, 1, none⟩ = some (.int .i64 y) := z1.cell 1
          have c2 : W5.frozen? ⟨w.heap.size + 1, 0, none⟩ = false := z1.free 0
          have c3 : W5.frozen? ⟨w.heap.size + 1, 1, none⟩ = false := z1.free 1
          have p0 : W5.cell? ⟨b, o + k * 3, none⟩ = some (.int .i64 u) := (Later.mk W5 hb5).cell q0
          have p1 : W5.cell? ⟨b, o + k * 3 + 1, none⟩ = some (.int .i64 v) := (Later.mk W5 hb5).cell q1
          clear q0 q1 q2 d0 d1 d2 r0 r1 r2 D0 D1 D2 D3 D4
          have hne : b ≠ w.heap.size + 1 := by omega
          go_wp2_with fail
          have w1 : IntKind.i64.wrap (x + u) = x + u := IntWalk.i64_in _ (by omega)
          have w2 : IntKind.i64.wrap (y + v) = y + v := IntWalk.i64_in _ (by omega)
          go_region
          go_wp2
          go_roundw
          case rel =>
            refine ⟨k + 1, x + u, y + v, by omega, by go_num, G2, hid ?_, ?_, ?_, ?_, ?_⟩
            · rw [hs.out]
              simp only [sumGo, G1.out, G2.out, if_true]
            · have hb6 := hb.trans (hb5.mono hb.size)
              (repeat (first | exact Below.refl _ _ | assumption | (refine below_alloc ?_ _) | (refine Below.setCell ?_ (by first | omega | (simp; done) | (simp; omega)) _) | (refine Below.drew ?_) | (refine below_drewN ?_ _) | (refine below_then (by assumption) ?_)))
            · first | omega | (simp; omega)
            · exact ((z0.drew.far (p := ⟨w.heap.size + 1, 0, none⟩) (by simp) _).far (p := ⟨w.heap.size + 1, 1, none⟩) (by simp) _)
            · exact ((z1.drew.set 0 _).set 1 _)
          case measure => simp [intOf]; omega
    · obtain rfl : k = l.length := by omega
      have hzz := hB0.free 0
      have hz1 := hB0.free 1
      have hz2 := hB0.free 2
      have hlt0 := hB0.lt
      go_wp2
      refine bodyPost_ret (v := .agg #[.int .i64 x, .int .i64 y, .bool false]) (by simp [results, Try.results19, go_sem, r0, r1, r2, d0, d1, d2]) rfl ⟨?_, ?_⟩
      · rw [hs.out, List.drop_length]
        rfl
      · (repeat (first | exact Below.refl _ _ | assumption | (refine below_alloc ?_ _) | (refine Below.setCell ?_ (by first | omega | (simp; done) | (simp; omega)) _) | (refine Below.drew ?_) | (refine below_drewN ?_ _) | (refine below_then (by assumption) ?_)))
end Go.Proofs.Ytkhopikmejnfeaa
