/- UpgradeOnes: for every input the law returns true. -/
import Derived.Test.YtlbchenleimopaaSuC
import Derived.Test.YtlbchenleimopaaOpenb
namespace Go.Proofs.Ytlbchenleimopaa
open Go.RowKit Go.Bs
set_option linter.unusedVariables false
set_option linter.unusedSimpArgs false

theorem totalO_bound {l : List Old} {k : Nat} (h : ∀ x ∈ l, x.data.length ≤ k) : totalO l ≤ k * l.length := by
  induction l with
  | nil => exact Nat.zero_le _
  | cons x l ih =>
    have h1 := ih fun y hy => h y (List.mem_cons_of_mem _ hy)
    have h2 := h x (List.mem_cons_self ..)
    simp only [totalO, List.map_cons, List.sum_cons, List.length_cons] at *
    rw [Nat.mul_succ]; omega
/-- Either all is well, or there is a code. -/
theorem up1R_cases (u : Seg1) : (up1R u = (⟨u.epoch, upL u.epoch u.base u.entries⟩, 0) ∧ seg1R u = true ∧ u.entries.length ≤ 256) ∨ (up1R u = (⟨0, []⟩, 3)) ∨ (up1R u = (⟨0, []⟩, 15)) := by
  unfold up1R
  cases h : seg1R u
  · exact .inr (.inl rfl)
  · by_cases h2 : u.entries.length ≤ 256
    · exact .inl ⟨by rw [if_pos rfl, if_pos h2], rfl, h2⟩
    · exact .inr (.inr (by rw [if_pos rfl, if_neg h2]))
theorem nBytes_fair {e base : Int} {l : List Old} (ht : totalO l ≤ 200000) (hlen : l.length ≤ 450) : nBytes (upL e base l) ≤ 1000000000000 := by
  have h1 : ∀ b ∈ upL e base l, total b.entries ≤ 200000 := fun b hb => by
    obtain ⟨j, rfl⟩ := upL_mem hb
    have := totalO_part l (16 * j) 16
    simp only [upB]
    rw [total_up]; omega
  have h2 := upL_length e base l
  have h3 : ∀ (L : List Batch), (∀ b ∈ L, total b.entries ≤ 200000) → nBytes L ≤ 200000 * L.length := by
    intro L
    induction L with
    | nil => intro _; exact Nat.zero_le _
    | cons b L ih =>
      intro h
      have i1 := ih fun y hy => h y (List.mem_cons_of_mem _ hy)
      have i2 := h b (List.mem_cons_self ..)
      simp only [nBytes, List.map_cons, List.sum_cons, List.length_cons] at *
      rw [Nat.mul_succ]; omega
  have := h3 _ h1
  rw [h2] at this
  omega

set_option maxRecDepth 100000 in
set_option maxHeartbeats 3200000 in
theorem upgradeOnes_c (u : Seg1) (a : Option Addr) (n c : Nat) (w : World) (h0 : 0 ≤ u.epoch ∧ u.epoch ≤ 18446744073709551615) (h1 : 0 ≤ u.base ∧ u.base ≤ 18446744073709551615) (hl : rOlds.r (· < w.heap.size) w [.slice a n c] u.entries) :
    Calls Try.prog 3 #[.agg #[.int .u64 u.epoch, .int .u64 u.base, .slice a n c]] w fun r w' => r = .returned (.bool true) ∧ Below w.heap.size w w' := by
  obtain ⟨rfl, hm, _, _⟩ := sl_len hl
  have HL1 := hid (fun (W : World) (hW : Below w.heap.size w W) => law35_long1 u a _ c W (lift hl hW))
  have HL := hid hl; clear hl
  cases hlong : long1 u.entries
  · rw [hlong] at HL1
    obtain ⟨g1, g2⟩ := long1_no hlong
    clear hlong
    have ht := totalO_bound g2
    have ht2 : totalO u.entries ≤ 200000 := by omega
    have HU1 := hid (fun (W : World) (hW : Below w.heap.size w W) => upgrade_Up1 u a _ c W h0 h1 (lift HL.out hW) (by omega))
    have HU2 := hid (fun (W : World) (hW : Below w.heap.size w W) => ref36_up1 u a _ c W h0 h1 (lift HL.out hW) (by omega) (by omega))
    have hcs := hid (up1R_cases u)
    generalize hx : up1R u = x at *
    have HX := hid hx; clear hx
    obtain ⟨⟨xe, xl⟩, xc⟩ := x
    have g2' := hid g2; clear g2
    have ht' := hid ht; clear ht
    go_enter Try.func3, Try.ntmps3
    go_wp2_with fail
    refine (HL1.out _ (by (repeat (first | exact Below.refl _ _ | assumption | (refine below_alloc ?_ _) | (refine Below.setCell ?_ (by first | omega | (simp; done) | (simp; omega)) _) | (refine Below.drew ?_) | (refine below_drewN ?_ _) | (refine below_then (by assumption) ?_))))).mono ?_
    rintro r w1 ⟨rfl, hb1⟩
    have hbw1 : Below w.heap.size w w1 := by (repeat (first | exact Below.refl _ _ | assumption | (refine below_alloc ?_ _) | (refine Below.setCell ?_ (by first | omega | (simp; done) | (simp; omega)) _) | (refine Below.drew ?_) | (refine below_drewN ?_ _) | (refine below_then (by assumption) ?_)))
    have hz1 : w.heap.size < w1.heap.size := by have := hb1.size; simp at this; omega
    have p0 : w1.cell? ⟨w.heap.size, 0, none⟩ = some (.int .u64 u.epoch) := (Later.mk w1 hb1).cell (by go_simp)
    have p1 : w1.cell? ⟨w.heap.size, 1, none⟩ = some (.int .u64 u.base) := (Later.mk w1 hb1).cell (by go_simp)
    have p2 : w1.cell? ⟨w.heap.size, 2, none⟩ = some (.slice a u.entries.length c) := (Later.mk w1 hb1).cell (by go_simp)
    go_wp2_with fail
    refine (HU1.out _ hbw1).mono ?_
    rintro r w2 ⟨v2, hr, hrep2, hb2⟩
    simp only at hr hrep2
    subst hr
    obtain ⟨a2, c2, hv2, _, _⟩ := sl_form hrep2
    simp only [List.cons.injEq, and_true] at hv2
    subst hv2
    have HR2 := hid hrep2; clear hrep2
    have hb12 : Below w1.heap.size w1 w2 := by (repeat (first | exact Below.refl _ _ | assumption | (refine below_alloc ?_ _) | (refine Below.setCell ?_ (by first | omega | (simp; done) | (simp; omega)) _) | (refine Below.drew ?_) | (refine below_drewN ?_ _) | (refine below_then (by assumption) ?_)))
    have hbw2 : Below w.heap.size w w2 := below_then hb12 hbw1
    have hz2 : w.heap.size < w2.heap.size := by have := hb12.size; omega
    have q0 : w2.cell? ⟨w.heap.size, 0, none⟩ = some (.int .u64 u.epoch) := (Later.mk w2 hb12).cell p0
    have q1 : w2.cell? ⟨w.heap.size, 1, none⟩ = some (.int .u64 u.base) := (Later.mk w2 hb12).cell p1
    have q2 : w2.cell? ⟨w.heap.size, 2, none⟩ = some (.slice a u.entries.length c) := (Later.mk w2 hb12).cell p2
    go_wp2_with fail
    refine (HU2.out _ (by (repeat (first | exact Below.refl _ _ | assumption | (refine below_alloc ?_ _) | (refine Below.setCell ?_ (by first | omega | (simp; done) | (simp; omega)) _) | (refine Below.drew ?_) | (refine below_drewN ?_ _) | (refine below_then (by assumption) ?_))))).mono ?_
    rintro r w3 ⟨v3, hr, hrep3, hb3⟩
    simp only at hr hrep3
    subst hr
    obtain ⟨a3, c3, hv3, _, _⟩ := sl_form hrep3
    simp only [List.cons.injEq, and_true] at hv3
    subst hv3
    have HR3 := hid hrep3; clear hrep3
    have hb23 : Below w2.heap.size w2 w3 := by (repeat (first | exact Below.refl _ _ | assumption | (refine below_alloc ?_ _) | (refine Below.setCell ?_ (by first | omega | (simp; done) | (simp; omega)) _) | (refine Below.drew ?_) | (refine below_drewN ?_ _) | (refine below_then (by assumption) ?_)))
    have hbw3 : Below w.heap.size w w3 := below_then hb23 hbw2
    have hz3 : w2.heap.size < w3.heap.size := by have := hb3.size; simp at this; omega
    have hz3' : w.heap.size < w3.heap.size := by omega
    have s0 : w3.cell? ⟨w.heap.size, 0, none⟩ = some (.int .u64 u.epoch) := (Later.mk w3 hb23).cell q0
    have s1 : w3.cell? ⟨w.heap.size, 1, none⟩ = some (.int .u64 u.base) := (Later.mk w3 hb23).cell q1
    have s2 : w3.cell? ⟨w.heap.size, 2, none⟩ = some (.slice a u.entries.length c) := (Later.mk w3 hb23).cell q2
    have s3 : w3.cell? ⟨w2.heap.size, 0, none⟩ = some (.int .u64 xe) := (Later.mk w3 hb3).cell (by go_simp)
    have s4 : w3.cell? ⟨w2.heap.size, 1, none⟩ = some (.slice a2 xl.length c2) := (Later.mk w3 hb3).cell (by go_simp)
    clear p0 p1 p2 q0 q1 q2
    have e5 : (xc != xc) = false := by simp
    go_wp2_with fail
    refine (ref34_same xe xe xl xl _ _ _ _ _ _ _ (lift (lift HR2.out hb23) (by (repeat (first | exact Below.refl _ _ | assumption | (refine below_alloc ?_ _) | (refine Below.setCell ?_ (by first | omega | (simp; done) | (simp; omega)) _) | (refine Below.drew ?_) | (refine below_drewN ?_ _) | (refine below_then (by assumption) ?_))))) (lift HR3.out (by (repeat (first | exact Below.refl _ _ | assumption | (refine below_alloc ?_ _) | (refine Below.setCell ?_ (by first | omega | (simp; done) | (simp; omega)) _) | (refine Below.drew ?_) | (refine below_drewN ?_ _) | (refine below_then (by assumption) ?_)))))).mono ?_
    rintro r w4 ⟨hr, hb4⟩
    rw [decide_eq_true rfl] at hr
    subst hr
    have hb34 : Below w3.heap.size w3 w4 := by (repeat (first | exact Below.refl _ _ | assumption | (refine below_alloc ?_ _) | (refine Below.setCell ?_ (by first | omega | (simp; done) | (simp; omega)) _) | (refine Below.drew ?_) | (refine below_drewN ?_ _) | (refine below_then (by assumption) ?_)))
    have hbw4 : Below w.heap.size w w4 := below_then hb34 hbw3
    have hz4 : w2.heap.size < w4.heap.size := by have := hb34.size; omega
    have hz4' : w.heap.size < w4.heap.size := by omega
    have t0 : w4.cell? ⟨w.heap.size, 0, none⟩ = some (.int .u64 u.epoch) := (Later.mk w4 hb34).cell s0
    have t1 : w4.cell? ⟨w.heap.size, 1, none⟩ = some (.int .u64 u.base) := (Later.mk w4 hb34).cell s1
    have t2 : w4.cell? ⟨w.heap.size, 2, none⟩ = some (.slice a u.entries.length c) := (Later.mk w4 hb34).cell s2
    have t3 : w4.cell? ⟨w2.heap.size, 0, none⟩ = some (.int .u64 xe) := (Later.mk w4 hb34).cell s3
    have t4 : w4.cell? ⟨w2.heap.size, 1, none⟩ = some (.slice a2 xl.length c2) := (Later.mk w4 hb34).cell s4
    have hb24 : Below w2.heap.size w2 w4 := below_then hb34 hb23
    clear s0 s1 s2 s3 s4 HR3
    rcases hcs.out with ⟨hc, hok, h256⟩ | hc | hc
    · simp only [Prod.mk.injEq, Seg.mk.injEq] at hc
      obtain ⟨⟨rfl, rfl⟩, rfl⟩ := hc
      have HOK := hid hok
      obtain ⟨f1, f2, f3, f4, f5⟩ := seg1R_facts hok
      have hne := hid (upL_entries u.epoch u.base u.entries)
      have hrt := hid (upL_right hok h256)
      clear hok
      have hfair : ∀ x ∈ upL u.epoch u.base u.entries, Fair x.entries := fun x hx => by
        obtain ⟨j, rfl⟩ := upL_mem hx
        exact upB_fair _ _ _ j (by omega)
      have hmild : ∀ x ∈ upL u.epoch u.base u.entries, ∀ z ∈ x.entries, Mild z := fun x hx => by
        obtain ⟨j, rfl⟩ := upL_mem hx
        exact upB_mild _ _ _ j (fun y hy => by have := totalO_mem hy; omega)
      have HFA := hid hfair; have HMI := hid hmild; clear hfair hmild
      have hnb := hid (nBytes_fair (e := u.epoch) (base := u.base) ht2 (show u.entries.length ≤ 450 by omega))
      have hfind := hid (fun i (hi : i < u.entries.length) => findS_upL u.epoch u.base u.entries i hi)
      generalize hL : upL u.epoch u.base u.entries = L at *
      clear hL hcs HX HU1 HU2 HL1
      go_wp2_with fail
      refine (ref34_counts u.epoch L _ _ _ _ (lift HR2.out (by (repeat (first | exact Below.refl _ _ | assumption | (refine below_alloc ?_ _) | (refine Below.setCell ?_ (by first | omega | (simp; done) | (simp; omega)) _) | (refine Below.drew ?_) | (refine below_drewN ?_ _) | (refine below_then (by assumption) ?_))))) (by rw [hne.out]; omega) hnb.out).mono ?_
      rintro r w5 ⟨hr, hb5⟩
      rw [hne.out] at hr
      subst hr
      have hb25 : Below w2.heap.size w2 w5 := below_then hb5 hb24
      have hbw5 : Below w.heap.size w w5 := below_then hb5 hbw4
      have hz5 : w2.heap.size < w5.heap.size := by have := hb5.size; omega
      have hz5' : w.heap.size < w5.heap.size := by omega
      have r1 : w5.cell? ⟨w.heap.size, 1, none⟩ = some (.int .u64 u.base) := (Later.mk w5 hb5).cell t1
      have r2 : w5.cell? ⟨w.heap.size, 2, none⟩ = some (.slice a u.entries.length c) := (Later.mk w5 hb5).cell t2
      have r3 : w5.cell? ⟨w2.heap.size, 0, none⟩ = some (.int .u64 u.epoch) := (Later.mk w5 hb5).cell t3
      have r4 : w5.cell? ⟨w2.heap.size, 1, none⟩ = some (.slice a2 L.length c2) := (Later.mk w5 hb5).cell t4
      have e6 : ((u.entries.length : Int) != (u.entries.length : Int)) = false := by simp
      go_wp2_with fail
      refine (ref34_right u.epoch L _ _ _ _ h0 (lift HR2.out (by (repeat (first | exact Below.refl _ _ | assumption | (refine below_alloc ?_ _) | (refine Below.setCell ?_ (by first | omega | (simp; done) | (simp; omega)) _) | (refine Below.drew ?_) | (refine below_drewN ?_ _) | (refine below_then (by assumption) ?_))))) HFA.out).mono ?_
      rintro r w6 ⟨hr, hb6⟩
      rw [hrt.out] at hr
      subst hr
      have hb26 : Below w2.heap.size w2 w6 := below_then hb6 hb25
      have hbw6 : Below w.heap.size w w6 := below_then hb6 hbw5
      have hz6 : w2.heap.size < w6.heap.size := by have := hb6.size; omega
      have hz6' : w.heap.size < w6.heap.size := by omega
      have m1 : w6.cell? ⟨w.heap.size, 1, none⟩ = some (.int .u64 u.base) := (Later.mk w6 hb6).cell r1
      have m2 : w6.cell? ⟨w.heap.size, 2, none⟩ = some (.slice a u.entries.length c) := (Later.mk w6 hb6).cell r2
      have m3 : w6.cell? ⟨w2.heap.size, 0, none⟩ = some (.int .u64 u.epoch) := (Later.mk w6 hb6).cell r3
      have m4 : w6.cell? ⟨w2.heap.size, 1, none⟩ = some (.slice a2 L.length c2) := (Later.mk w6 hb6).cell r4
      go_wp2_with fail
      refine (segment_right u.epoch L _ _ _ _ h0 (lift HR2.out (by (repeat (first | exact Below.refl _ _ | assumption | (refine below_alloc ?_ _) | (refine Below.setCell ?_ (by first | omega | (simp; done) | (simp; omega)) _) | (refine Below.drew ?_) | (refine below_drewN ?_ _) | (refine below_then (by assumption) ?_))))) HFA.out).mono ?_
      rintro r w7 ⟨hr, hb7⟩
      rw [hrt.out] at hr
      subst hr
      have hb27 : Below w2.heap.size w2 w7 := below_then hb7 hb26
      have hbw7 : Below w.heap.size w w7 := below_then hb7 hbw6
      have hz7 : w2.heap.size < w7.heap.size := by have := hb7.size; omega
      have hz7' : w.heap.size < w7.heap.size := by omega
      have n1 : w7.cell? ⟨w.heap.size, 1, none⟩ = some (.int .u64 u.base) := (Later.mk w7 hb7).cell m1
      have n2 : w7.cell? ⟨w.heap.size, 2, none⟩ = some (.slice a u.entries.length c) := (Later.mk w7 hb7).cell m2
      have n3 : w7.cell? ⟨w2.heap.size, 0, none⟩ = some (.int .u64 u.epoch) := (Later.mk w7 hb7).cell m3
      have n4 : w7.cell? ⟨w2.heap.size, 1, none⟩ = some (.slice a2 L.length c2) := (Later.mk w7 hb7).cell m4
      clear t0 t1 t2 t3 t4 r1 r2 r3 r4 m1 m2 m3 m4
      go_wp2_with fail
      go_loopw [9] (fun i wr => ∃ k : Nat, k ≤ u.entries.length ∧ k ≤ 40 ∧ i = .int .i64 k ∧ Below w7.heap.size w7 wr) (fun i _ => u.entries.length - (intOf i).toNat)
      case atStart => exact ⟨0, Nat.zero_le _, Nat.zero_le _, rfl, Below.refl _ _⟩
      case round =>
        obtain ⟨k, hk, hk40, rfl, hb⟩ := hrel
        have hbwr : Below w.heap.size w wr := below_then hb hbw7
        have hzr : w2.heap.size < wr.heap.size := by have := hb.size; omega
        have hzr' : w.heap.size < wr.heap.size := by omega
        have kk1 : wr.cell? ⟨w.heap.size, 1, none⟩ = some (.int .u64 u.base) := (Later.mk wr hb).cell n1
        have kk2 : wr.cell? ⟨w.heap.size, 2, none⟩ = some (.slice a u.entries.length c) := (Later.mk wr hb).cell n2
        have kk3 : wr.cell? ⟨w2.heap.size, 0, none⟩ = some (.int .u64 u.epoch) := (Later.mk wr hb).cell n3
        have kk4 : wr.cell? ⟨w2.heap.size, 1, none⟩ = some (.slice a2 L.length c2) := (Later.mk wr hb).cell n4
        by_cases hlt : k < u.entries.length
        · by_cases h40 : k < 40
          · have d40 : decide ((k : Int) < 40) = true := by simp; omega
            have hfk := hid (hfind.out k hlt)
            have hE := segment_entry u.epoch L (u.base + k) a2 L.length c2 wr h0 (lift HR2.out (below_then hb hb27)) HFA.out HMI.out ⟨by omega, by omega⟩
            rw [hrt.out, if_pos rfl, hfk.out] at hE
            have HE := hid hE; clear hE
            obtain ⟨b, o, hA, hbb, a1, c1, xx0, xx1, xx2, xx3, y0, y1, yD⟩ := old_at HL.out hlt
            subst hA
            have HD := hid yD; clear yD
            generalize u.entries[k] = z at *
            go_wp2_with fail
            refine HE.out.mono ?_
            rintro r w8 ⟨v4, v5, hr, hr4, hr5, hb8⟩
            subst hr
            have hl4 : (upE z).links.length = 1 := rfl
            have hd5 : (upE z).data = z.data := rfl
            obtain ⟨a4, c4, hv4, _, _⟩ := sl_form hr4
            simp only [List.cons.injEq, and_true] at hv4
            subst hv4
            obtain ⟨a5, c5, hv5, _, _⟩ := sl_form hr5
            simp only [List.cons.injEq, and_true] at hv5
            subst hv5
            rw [hd5] at hr5 ⊢
            rw [hl4] at hr4 ⊢
            obtain ⟨b4, o4, hA4, hS4, a6, c6, z0, z1, _, _⟩ := link_at hr4 (i := 0) (by rw [hl4]; decide)
            subst hA4
            have hl0 : (upE z).links[0]'(by rw [hl4]; decide) = ⟨z.stream, backsO z⟩ := rfl
            rw [hl0] at z0 z1
            have HR5 := hid hr5; clear hr5 hr4 hl0
            have hlt4 : b4 < w8.heap.size := hS4.2
            have hb8' : Below wr.heap.size wr w8 := hb8
            have hz8 : w.heap.size < w8.heap.size := by have := hb8'.size; omega
            have u2' : w8.cell? ⟨w.heap.size, 2, none⟩ = some (.slice (some ⟨b, o, none⟩) u.entries.length c) := (Later.mk w8 hb8').cell kk2
            have hbw8 : Below w.heap.size w w8 := below_then hb8' hbwr
            have x0 := (hbw8.cell (p := ⟨b, o + k * 4, none⟩) hbb).trans xx0
            have x2 := (hbw8.cell (p := ⟨b, o + k * 4 + 2, none⟩) hbb).trans xx2
            have x3 := (hbw8.cell (p := ⟨b, o + k * 4 + 3, none⟩) hbb).trans xx3
            have hbb8 : b < w8.heap.size := by omega
            clear xx0 xx1 xx2 xx3 kk1 kk2 kk3 kk4 hS4
            go_wp2_with fail
            refine wp_world (fun W => Below w8.heap.size w8 W ∧ w8.heap.size < W.heap.size ∧ W.cell? ⟨w8.heap.size, 0, none⟩ = some (.slice (some ⟨b4, o4, none⟩) 1 c4) ∧ W.cell? ⟨w8.heap.size, 1, none⟩ = some (.slice a5 z.data.length c5)) ⟨by (repeat (first | exact Below.refl _ _ | assumption | (refine below_alloc ?_ _) | (refine Below.setCell ?_ (by first | omega | (simp; done) | (simp; omega)) _) | (refine Below.drew ?_) | (refine below_drewN ?_ _) | (refine below_then (by assumption) ?_))), by simp, by go_simp, by go_simp⟩ ?_
            intro W ⟨hbW, hzW, f0, f1⟩
            have F0 := fun s : Later W => s.cell f0
            have F1 := fun s : Later W => s.cell f1
            have F2 := fun s : Later W => s.cell ((hbW.cell (p := ⟨w.heap.size, 2, none⟩) hz8).trans u2')
            have F3 := fun s : Later W => s.cell ((hbW.cell (p := ⟨b, o + k * 4, none⟩) hbb8).trans x0)
            have F4 := fun s : Later W => s.cell ((hbW.cell (p := ⟨b, o + k * 4 + 2, none⟩) hbb8).trans x2)
            have F5 := fun s : Later W => s.cell ((hbW.cell (p := ⟨b, o + k * 4 + 3, none⟩) hbb8).trans x3)
            have F6 := fun s : Later W => s.cell ((hbW.cell (p := ⟨b4, o4 + 0 * 2, none⟩) hlt4).trans z0)
            have F7 := fun s : Later W => s.cell ((hbW.cell (p := ⟨b4, o4 + 0 * 2 + 1, none⟩) hlt4).trans z1)
            simp only [Nat.zero_mul, Nat.add_zero] at F6 F7
            have hS := fun s : Later W => same_bytes z.data z.data a5 a1 _ c5 _ c1 s.at_ (lift (lift (lift (rBytes.mono HR5.out (S' := (· < w8.heap.size)) fun b hb => hb.2) hbW) s.below) (Below.refl _ _)) (lift HD.out (below_then s.below (below_then hbW hbw8)))
            simp only [decide_true] at hS
            have HS := hid hS; clear hS
            have i1 : (k : Int) < (u.entries.length : Int) := by omega
            have i2 : (0 : Int) ≤ (k : Int) := by omega
            have e7 : ((1 : Int) != 1) = false := by simp
            have e8 : (z.stream != z.stream) = false := by simp
            have hb9 : Below w7.heap.size w7 W := below_then (below_then hbW hb8') hb
            clear u2' x0 x2 x3 z0 z1 f0 f1
            cases hh : z.has
            · rw [hh] at F4
              have hbk : (backsO z).length = 0 := by simp [backsO, hh]
              rw [hbk] at F7
              clear hh hbk
              go_wp2_with fail
              refine wp_region_later (by kernel_rfl) (by kernel_rfl) ?_
              repeat (go_big_quiet_step (((go_at_call 15; exact later_same (HS.out _)))))
              refine wpQuiet_nil ?_
              rintro W5 ⟨⟨W5', hb5'⟩, rfl⟩
              go_wp2
              go_roundw
              case rel => exact ⟨k + 1, by omega, by omega, by go_num, below_then hb5' hb9⟩
              case measure => simp [intOf]; omega
            · rw [hh] at F4
              have hbk : (backsO z).length = 1 := by simp [backsO, hh]
              rw [hbk] at F7
              clear hh hbk
              go_wp2_with fail
              refine wp_region_later (by kernel_rfl) (by kernel_rfl) ?_
              repeat (go_big_quiet_step (((go_at_call 15; exact later_same (HS.out _)))))
              refine wpQuiet_nil ?_
              rintro W5 ⟨⟨W5', hb5'⟩, rfl⟩
              go_wp2
              go_roundw
              case rel => exact ⟨k + 1, by omega, by omega, by go_num, below_then hb5' hb9⟩
              case measure => simp [intOf]; omega
          · have d40 : decide ((k : Int) < 40) = false := by simp; omega
            go_wp2_with fail
            refine (live36 _).mono ?_
            rintro r w9 ⟨rfl, hb9⟩
            go_wp2
            go_ret
            exact ⟨rfl, by (repeat (first | exact Below.refl _ _ | assumption | (refine below_alloc ?_ _) | (refine Below.setCell ?_ (by first | omega | (simp; done) | (simp; omega)) _) | (refine Below.drew ?_) | (refine below_drewN ?_ _) | (refine below_then (by assumption) ?_)))⟩
        · go_wp2_with fail
          refine (live36 _).mono ?_
          rintro r w9 ⟨rfl, hb9⟩
          go_wp2
          go_ret
          exact ⟨rfl, by (repeat (first | exact Below.refl _ _ | assumption | (refine below_alloc ?_ _) | (refine Below.setCell ?_ (by first | omega | (simp; done) | (simp; omega)) _) | (refine Below.drew ?_) | (refine below_drewN ?_ _) | (refine below_then (by assumption) ?_)))⟩
    · simp only [Prod.mk.injEq, Seg.mk.injEq] at hc
      obtain ⟨⟨rfl, rfl⟩, rfl⟩ := hc
      go_wp2_with fail
      refine (live36 _).mono ?_
      rintro r w9 ⟨rfl, hb9⟩
      go_wp2
      go_ret
      exact ⟨rfl, by (repeat (first | exact Below.refl _ _ | assumption | (refine below_alloc ?_ _) | (refine Below.setCell ?_ (by first | omega | (simp; done) | (simp; omega)) _) | (refine Below.drew ?_) | (refine below_drewN ?_ _) | (refine below_then (by assumption) ?_)))⟩
    · simp only [Prod.mk.injEq, Seg.mk.injEq] at hc
      obtain ⟨⟨rfl, rfl⟩, rfl⟩ := hc
      go_wp2_with fail
      refine (live36 _).mono ?_
      rintro r w9 ⟨rfl, hb9⟩
      go_wp2
      go_ret
      exact ⟨rfl, by (repeat (first | exact Below.refl _ _ | assumption | (refine below_alloc ?_ _) | (refine Below.setCell ?_ (by first | omega | (simp; done) | (simp; omega)) _) | (refine Below.drew ?_) | (refine below_drewN ?_ _) | (refine below_then (by assumption) ?_)))⟩
  · rw [hlong] at HL1
    clear hlong
    go_enter Try.func3, Try.ntmps3
    go_wp2_with fail
    refine (HL1.out _ (by (repeat (first | exact Below.refl _ _ | assumption | (refine below_alloc ?_ _) | (refine Below.setCell ?_ (by first | omega | (simp; done) | (simp; omega)) _) | (refine Below.drew ?_) | (refine below_drewN ?_ _) | (refine below_then (by assumption) ?_))))).mono ?_
    rintro r w1 ⟨rfl, hb1⟩
    go_wp2_with fail
    refine (live36 _).mono ?_
    rintro r w9 ⟨rfl, hb9⟩
    go_wp2
    go_ret
    exact ⟨rfl, by (repeat (first | exact Below.refl _ _ | assumption | (refine below_alloc ?_ _) | (refine Below.setCell ?_ (by first | omega | (simp; done) | (simp; omega)) _) | (refine Below.drew ?_) | (refine below_drewN ?_ _) | (refine below_then (by assumption) ?_)))⟩

set_option maxRecDepth 100000 in
theorem upgradeOnes_walk {H : Type} (enc : TypeId × Value → H) (W : World) (base : Nat) (v0 : Value) (d0 : DataW H) (p0 : List MemPlace)
    (k0 : DataW.Trod enc Try.prog W 0 (fun _ => true) true 25 v0 d0 p0) (o0 : Value.okWide Try.prog W .any base 25 v0) :
    Calls Try.prog 3 #[v0] W fun e w' => e = .returned (.bool true) ∧ Below W.heap.size W w' := by
  obtain ⟨fuel, hf⟩ := k0
  obtain ⟨cs, rfl, hsz⟩ := Go.WideShapes.okWide_struct Try.underlying25 o0
  obtain ⟨u, hu⟩ := o_seg1 enc W fuel _ _ hf
  obtain ⟨a, c, hcs, h0, h1, hl⟩ := seg1_cells hu
  have e : cs = #[.int .u64 u.epoch, .int .u64 u.base, .slice a u.entries.length c] := by
    have := hcs
    simp only [Value.cells] at this
    exact Array.ext' this
  rw [e]
  exact upgradeOnes_c u a _ c W h0 h1 hl
end Go.Proofs.Ytlbchenleimopaa
