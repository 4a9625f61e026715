/- UpgradeTwos: for every input the law returns true. -/
import Derived.Test.YtlbchenleimopaaSuK
import Derived.Test.YtlbchenleimopaaOpenb
namespace Go.Proofs.Ytlbchenleimopaa
open Go.RowKit Go.Bs
set_option linter.unusedVariables false
set_option linter.unusedSimpArgs false

theorem fair_of {l : List Batch} (g : ∀ b ∈ l, b.entries.length ≤ 30 ∧ total b.entries ≤ 300 ∧ ∀ x ∈ b.entries, x.data.length ≤ 500 ∧ x.links.length ≤ 50 ∧ ∀ y ∈ x.links, y.backs.length ≤ 50) : ∀ x ∈ l, Fair x.entries := fun x hx => by
  obtain ⟨h1, h2, h3⟩ := g x hx
  refine ⟨by omega, by omega, fun e he y hy => ?_⟩
  have := (h3 e he).2.2 y hy
  omega
theorem mild_of {l : List Batch} (g : ∀ b ∈ l, b.entries.length ≤ 30 ∧ total b.entries ≤ 300 ∧ ∀ x ∈ b.entries, x.data.length ≤ 500 ∧ x.links.length ≤ 50 ∧ ∀ y ∈ x.links, y.backs.length ≤ 50) : ∀ z ∈ l, MildB z := fun x hx => by
  obtain ⟨h1, h2, h3⟩ := g x hx
  refine ⟨by omega, fun e he => ?_⟩
  obtain ⟨h4, h5, h6⟩ := h3 e he
  refine ⟨by omega, by omega, fun y hy => ?_⟩
  have := h6 y hy
  omega

set_option maxRecDepth 100000 in
set_option maxHeartbeats 3200000 in
theorem upgradeTwos_c (e : Int) (l : List Batch) (a : Option Addr) (n c : Nat) (w : World) (h0 : 0 ≤ e ∧ e ≤ 18446744073709551615) (hl : rBatches.r (· < w.heap.size) w [.slice a n c] l) :
    Calls Try.prog 4 #[.agg #[.int .u64 e, .slice a n c]] w fun r w' => r = .returned (.bool true) ∧ Below w.heap.size w w' := by
  obtain ⟨rfl, hm, _, _⟩ := sl_len hl
  have HL1 := hid (fun (W : World) (hW : Below w.heap.size w W) => law35_long2 e l a _ c W (lift hl hW))
  have HL := hid hl; clear hl
  cases hlong : long2 l
  · rw [hlong] at HL1
    obtain ⟨g1, g2⟩ := long2_no hlong
    clear hlong
    have hfair := fair_of g2
    have hmild := mild_of g2
    have HU1 := hid (fun (W : World) (hW : Below w.heap.size w W) => upgrade_Up2 e l a _ c W (lift HL.out hW) hfair (by omega) hmild)
    have HU2 := hid (fun (W : World) (hW : Below w.heap.size w W) => ref36_up2 e l a _ c W h0.1 (lift HL.out hW) hfair)
    have hcs := hid (up2R_cases e l)
    generalize hx : up2R ⟨e, l⟩ = x at *
    have HX := hid hx; clear hx
    obtain ⟨⟨xe, xl⟩, xc⟩ := x
    have HFA := hid hfair; have HMI := hid hmild; clear hfair hmild g2
    go_enter Try.func4, Try.ntmps4
    go_wp2_with fail
    refine (HL1.out _ (by (repeat (first | exact Below.refl _ _ | assumption | (refine below_alloc ?_ _) | (refine Below.setCell ?_ (by first | omega | (simp; done) | (simp; omega)) _) | (refine Below.drew ?_) | (refine below_drewN ?_ _) | (refine below_then (by assumption) ?_))))).mono ?_
    rintro r w1 ⟨rfl, hb1⟩
    have hbw1 : Below w.heap.size w w1 := by (repeat (first | exact Below.refl _ _ | assumption | (refine below_alloc ?_ _) | (refine Below.setCell ?_ (by first | omega | (simp; done) | (simp; omega)) _) | (refine Below.drew ?_) | (refine below_drewN ?_ _) | (refine below_then (by assumption) ?_)))
    have hz1 : w.heap.size < w1.heap.size := by have := hb1.size; simp at this; omega
    have p0 : w1.cell? ⟨w.heap.size, 0, none⟩ = some (.int .u64 e) := (Later.mk w1 hb1).cell (by go_simp)
    have p1 : w1.cell? ⟨w.heap.size, 1, none⟩ = some (.slice a l.length c) := (Later.mk w1 hb1).cell (by go_simp)
    go_wp2_with fail
    refine (HU1.out _ hbw1).mono ?_
    rintro r w2 ⟨v2, hr, hrep2, hb2⟩
    simp only at hr hrep2
    subst hr
    obtain ⟨a2, c2, hv2, _, _⟩ := sl_form hrep2
    simp only [List.cons.injEq, and_true] at hv2
    subst hv2
    have HR2 := hid hrep2; clear hrep2
    have hb12 : Below w1.heap.size w1 w2 := by (repeat (first | exact Below.refl _ _ | assumption | (refine below_alloc ?_ _) | (refine Below.setCell ?_ (by first | omega | (simp; done) | (simp; omega)) _) | (refine Below.drew ?_) | (refine below_drewN ?_ _) | (refine below_then (by assumption) ?_)))
    have hbw2 : Below w.heap.size w w2 := below_then hb12 hbw1
    have hz2 : w.heap.size < w2.heap.size := by have := hb12.size; omega
    have q0 : w2.cell? ⟨w.heap.size, 0, none⟩ = some (.int .u64 e) := (Later.mk w2 hb12).cell p0
    have q1 : w2.cell? ⟨w.heap.size, 1, none⟩ = some (.slice a l.length c) := (Later.mk w2 hb12).cell p1
    go_wp2_with fail
    refine (HU2.out _ (by (repeat (first | exact Below.refl _ _ | assumption | (refine below_alloc ?_ _) | (refine Below.setCell ?_ (by first | omega | (simp; done) | (simp; omega)) _) | (refine Below.drew ?_) | (refine below_drewN ?_ _) | (refine below_then (by assumption) ?_))))).mono ?_
    rintro r w3 ⟨v3, hr, hrep3, hb3⟩
    simp only at hr hrep3
    subst hr
    obtain ⟨a3, c3, hv3, _, _⟩ := sl_form hrep3
    simp only [List.cons.injEq, and_true] at hv3
    subst hv3
    have HR3 := hid hrep3; clear hrep3
    have hb23 : Below w2.heap.size w2 w3 := by (repeat (first | exact Below.refl _ _ | assumption | (refine below_alloc ?_ _) | (refine Below.setCell ?_ (by first | omega | (simp; done) | (simp; omega)) _) | (refine Below.drew ?_) | (refine below_drewN ?_ _) | (refine below_then (by assumption) ?_)))
    have hbw3 : Below w.heap.size w w3 := below_then hb23 hbw2
    have hz3 : w2.heap.size < w3.heap.size := by have := hb3.size; simp at this; omega
    have hz3' : w.heap.size < w3.heap.size := by omega
    have s0 : w3.cell? ⟨w.heap.size, 0, none⟩ = some (.int .u64 e) := (Later.mk w3 hb23).cell q0
    have s1 : w3.cell? ⟨w.heap.size, 1, none⟩ = some (.slice a l.length c) := (Later.mk w3 hb23).cell q1
    have s3 : w3.cell? ⟨w2.heap.size, 0, none⟩ = some (.int .u64 xe) := (Later.mk w3 hb3).cell (by go_simp)
    have s4 : w3.cell? ⟨w2.heap.size, 1, none⟩ = some (.slice a2 xl.length c2) := (Later.mk w3 hb3).cell (by go_simp)
    clear p0 p1 q0 q1
    have e5 : (xc != xc) = false := by simp
    go_wp2_with fail
    refine (ref34_same xe xe xl xl _ _ _ _ _ _ _ (lift (lift HR2.out hb23) (by (repeat (first | exact Below.refl _ _ | assumption | (refine below_alloc ?_ _) | (refine Below.setCell ?_ (by first | omega | (simp; done) | (simp; omega)) _) | (refine Below.drew ?_) | (refine below_drewN ?_ _) | (refine below_then (by assumption) ?_))))) (lift HR3.out (by (repeat (first | exact Below.refl _ _ | assumption | (refine below_alloc ?_ _) | (refine Below.setCell ?_ (by first | omega | (simp; done) | (simp; omega)) _) | (refine Below.drew ?_) | (refine below_drewN ?_ _) | (refine below_then (by assumption) ?_)))))).mono ?_
    rintro r w4 ⟨hr, hb4⟩
    rw [decide_eq_true rfl] at hr
    subst hr
    have hb34 : Below w3.heap.size w3 w4 := by (repeat (first | exact Below.refl _ _ | assumption | (refine below_alloc ?_ _) | (refine Below.setCell ?_ (by first | omega | (simp; done) | (simp; omega)) _) | (refine Below.drew ?_) | (refine below_drewN ?_ _) | (refine below_then (by assumption) ?_)))
    have hbw4 : Below w.heap.size w w4 := below_then hb34 hbw3
    have hz4 : w2.heap.size < w4.heap.size := by have := hb34.size; omega
    have hz4' : w.heap.size < w4.heap.size := by omega
    have t0 : w4.cell? ⟨w.heap.size, 0, none⟩ = some (.int .u64 e) := (Later.mk w4 hb34).cell s0
    have t1 : w4.cell? ⟨w.heap.size, 1, none⟩ = some (.slice a l.length c) := (Later.mk w4 hb34).cell s1
    have t3 : w4.cell? ⟨w2.heap.size, 0, none⟩ = some (.int .u64 xe) := (Later.mk w4 hb34).cell s3
    have t4 : w4.cell? ⟨w2.heap.size, 1, none⟩ = some (.slice a2 xl.length c2) := (Later.mk w4 hb34).cell s4
    have hb24 : Below w2.heap.size w2 w4 := below_then hb34 hb23
    clear s0 s1 s3 s4 HR3
    rcases hcs.out with ⟨hc, hok, h16⟩ | hc | hc
    · simp only [Prod.mk.injEq, Seg.mk.injEq] at hc
      obtain ⟨⟨rfl, rfl⟩, rfl⟩ := hc
      have hrt := hid (seg2_right hok h16)
      have HD := hid (fun (W : World) (hW : Below w2.heap.size w2 W) => upgrade_down xe xl a2 _ c2 W h0 (lift HR2.out hW) HFA.out HMI.out)
      rw [down_same hok h16] at HD
      clear hok hcs HX HU1 HU2 HL1
      go_wp2_with fail
      refine (HD.out _ hb24).mono ?_
      rintro r w5 ⟨v5, hr, hrep5, hb5⟩
      simp only at hr hrep5
      subst hr
      obtain ⟨a5, c5, hv5, _, _⟩ := sl_form hrep5
      simp only [List.cons.injEq, and_true] at hv5
      subst hv5
      have HR5 := hid hrep5; clear hrep5
      have hb25 : Below w2.heap.size w2 w5 := below_then hb5 hb24
      have hbw5 : Below w.heap.size w w5 := below_then hb5 hbw4
      have hz5 : w2.heap.size < w5.heap.size := by have := hb5.size; omega
      have hz5' : w.heap.size < w5.heap.size := by omega
      have r0 : w5.cell? ⟨w.heap.size, 0, none⟩ = some (.int .u64 xe) := (Later.mk w5 hb5).cell t0
      have r1 : w5.cell? ⟨w.heap.size, 1, none⟩ = some (.slice a xl.length c) := (Later.mk w5 hb5).cell t1
      have r3 : w5.cell? ⟨w2.heap.size, 0, none⟩ = some (.int .u64 xe) := (Later.mk w5 hb5).cell t3
      have r4 : w5.cell? ⟨w2.heap.size, 1, none⟩ = some (.slice a2 xl.length c2) := (Later.mk w5 hb5).cell t4
      clear t0 t1 t3 t4
      go_wp2_with fail
      refine (ref34_right xe xl _ _ _ _ h0 (lift (lift HR2.out hb25) (by (repeat (first | exact Below.refl _ _ | assumption | (refine below_alloc ?_ _) | (refine Below.setCell ?_ (by first | omega | (simp; done) | (simp; omega)) _) | (refine Below.drew ?_) | (refine below_drewN ?_ _) | (refine below_then (by assumption) ?_))))) HFA.out).mono ?_
      rintro r w6 ⟨hr, hb6⟩
      rw [hrt.out] at hr
      subst hr
      have hb56 : Below w5.heap.size w5 w6 := by (repeat (first | exact Below.refl _ _ | assumption | (refine below_alloc ?_ _) | (refine Below.setCell ?_ (by first | omega | (simp; done) | (simp; omega)) _) | (refine Below.drew ?_) | (refine below_drewN ?_ _) | (refine below_then (by assumption) ?_)))
      have hbw6 : Below w.heap.size w w6 := below_then hb56 hbw5
      have hz6 : w5.heap.size < w6.heap.size := by have := hb6.size; simp at this; omega
      have hz6' : w.heap.size < w6.heap.size := by omega
      have m0 : w6.cell? ⟨w.heap.size, 0, none⟩ = some (.int .u64 xe) := (Later.mk w6 hb56).cell r0
      have m1 : w6.cell? ⟨w.heap.size, 1, none⟩ = some (.slice a xl.length c) := (Later.mk w6 hb56).cell r1
      have m3 : w6.cell? ⟨w5.heap.size, 0, none⟩ = some (.int .u64 xe) := (Later.mk w6 hb6).cell (by go_simp)
      have m4 : w6.cell? ⟨w5.heap.size, 1, none⟩ = some (.slice a5 xl.length c5) := (Later.mk w6 hb6).cell (by go_simp)
      clear r0 r1 r3 r4
      go_wp2_with fail
      refine (ref35_same2 xe xe xl xl _ _ _ _ _ _ _ (lift (lift HR5.out hb56) (by (repeat (first | exact Below.refl _ _ | assumption | (refine below_alloc ?_ _) | (refine Below.setCell ?_ (by first | omega | (simp; done) | (simp; omega)) _) | (refine Below.drew ?_) | (refine below_drewN ?_ _) | (refine below_then (by assumption) ?_))))) (lift HL.out hbw6)).mono ?_
      rintro r w7 ⟨hr, hb7⟩
      rw [decide_eq_true rfl] at hr
      subst hr
      have hbw7 : Below w.heap.size w w7 := below_then hb7 hbw6
      go_wp2_with fail
      refine (live36 _).mono ?_
      rintro r w9 ⟨rfl, hb9⟩
      go_wp2
      go_ret
      exact ⟨rfl, by (repeat (first | exact Below.refl _ _ | assumption | (refine below_alloc ?_ _) | (refine Below.setCell ?_ (by first | omega | (simp; done) | (simp; omega)) _) | (refine Below.drew ?_) | (refine below_drewN ?_ _) | (refine below_then (by assumption) ?_)))⟩
    · simp only [Prod.mk.injEq, Seg.mk.injEq] at hc
      obtain ⟨⟨rfl, rfl⟩, rfl⟩ := hc
      go_wp2_with fail
      refine (live36 _).mono ?_
      rintro r w9 ⟨rfl, hb9⟩
      go_wp2
      go_ret
      exact ⟨rfl, by (repeat (first | exact Below.refl _ _ | assumption | (refine below_alloc ?_ _) | (refine Below.setCell ?_ (by first | omega | (simp; done) | (simp; omega)) _) | (refine Below.drew ?_) | (refine below_drewN ?_ _) | (refine below_then (by assumption) ?_)))⟩
    · simp only [Prod.mk.injEq, Seg.mk.injEq] at hc
      obtain ⟨⟨rfl, rfl⟩, rfl⟩ := hc
      go_wp2_with fail
      refine (live36 _).mono ?_
      rintro r w9 ⟨rfl, hb9⟩
      go_wp2
      go_ret
      exact ⟨rfl, by (repeat (first | exact Below.refl _ _ | assumption | (refine below_alloc ?_ _) | (refine Below.setCell ?_ (by first | omega | (simp; done) | (simp; omega)) _) | (refine Below.drew ?_) | (refine below_drewN ?_ _) | (refine below_then (by assumption) ?_)))⟩
  · rw [hlong] at HL1
    clear hlong
    go_enter Try.func4, Try.ntmps4
    go_wp2_with fail
    refine (HL1.out _ (by (repeat (first | exact Below.refl _ _ | assumption | (refine below_alloc ?_ _) | (refine Below.setCell ?_ (by first | omega | (simp; done) | (simp; omega)) _) | (refine Below.drew ?_) | (refine below_drewN ?_ _) | (refine below_then (by assumption) ?_))))).mono ?_
    rintro r w1 ⟨rfl, hb1⟩
    go_wp2_with fail
    refine (live36 _).mono ?_
    rintro r w9 ⟨rfl, hb9⟩
    go_wp2
    go_ret
    exact ⟨rfl, by (repeat (first | exact Below.refl _ _ | assumption | (refine below_alloc ?_ _) | (refine Below.setCell ?_ (by first | omega | (simp; done) | (simp; omega)) _) | (refine Below.drew ?_) | (refine below_drewN ?_ _) | (refine below_then (by assumption) ?_)))⟩

set_option maxRecDepth 100000 in
theorem upgradeTwos_walk {H : Type} (enc : TypeId × Value → H) (W : World) (base : Nat) (v0 : Value) (d0 : DataW H) (p0 : List MemPlace)
    (k0 : DataW.Trod enc Try.prog W 0 (fun _ => true) true 50 v0 d0 p0) (o0 : Value.okWide Try.prog W .any base 50 v0) :
    Calls Try.prog 4 #[v0] W fun e w' => e = .returned (.bool true) ∧ Below W.heap.size W w' := by
  obtain ⟨fuel, hf⟩ := k0
  obtain ⟨cs, rfl, hsz⟩ := Go.WideShapes.okWide_struct Try.underlying50 o0
  obtain ⟨u, hu⟩ := o_seg2 enc W fuel _ _ hf
  obtain ⟨a, c, hcs, h0, hl⟩ := seg_cells hu
  have e : cs = #[.int .u64 u.epoch, .slice a u.batches.length c] := by
    have := hcs
    simp only [Value.cells] at this
    exact Array.ext' this
  rw [e]
  exact upgradeTwos_c _ _ a _ c W h0 hl
end Go.Proofs.Ytlbchenleimopaa
