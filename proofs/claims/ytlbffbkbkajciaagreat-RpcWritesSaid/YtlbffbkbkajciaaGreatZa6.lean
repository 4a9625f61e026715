/- Needed by bodyWrites_walk, part 6: texts put together by shake.py; no condition. -/
import Derived.Test.YtlbffbkbkajciaaGreatZa5
import Derived.Test.YtlbffbkbkajciaaGreatZa3
import Derived.Scope
import Derived.Test.YtlbffbkbkajciaaGreatZa1
namespace Go.Proofs.YtlbffbkbkajciaaGreat
open Go.RowKit Go.Bs Go.Maps
set_option linter.unusedVariables false
set_option linter.unusedSimpArgs false

set_option maxRecDepth 100000 in
set_option maxHeartbeats 6400000 in
theorem ref05_bytes (w : World) (l : List Int) (al : Option Addr) (nl cl : Nat) (hl : rU64s.r (· < w.heap.size) w [.slice al nl cl] l) (hri : risesB l = true) (hlen : l.length ≤ 1000000) :
    Calls Tryz.prog 105 #[.slice al nl cl] w fun r w' => ∃ v, r = .returned v ∧ OwnB w' w.heap.size v (upsB l) ∧ Below w.heap.size w w' := by
  obtain ⟨rfl, hm, _, _⟩ := sl_len hl
  obtain ⟨i0, hi, hz0, hz1, hz2⟩ := info_parts info8
  have hul := upsN_len none l
  have hnb := numsB_len (upsN none l)
  have hup := hid (fun (k : Nat) (h : k < l.length) => upsN_bounds l hri (u64s_bounds hl) k h)
  have HL := hid hl
  have HU := hid (fun (k : Nat) (h : k < l.length) => upsN_get l none k h)
  have HRI := hid (fun (k : Nat) (h : k + 1 < l.length) => rises_at l k h hri)
  have HMO := hid (fun k => numsB_take_le (upsN none l) k)
  have HNS := hid (fun (k : Nat) (h : k < (upsN none l).length) => numsB_step (upsN none l) k h)
  unfold upsB
  clear hl hri
  go_enter Tryz.func105, Tryz.ntmps105
  go_wp2_with fail
  go_loopw [3, 4] (fun v i wr => ∃ (k : Nat) (J : List UInt8), k ≤ l.length ∧ i = .int .i64 k ∧ OwnB wr w.heap.size v J ∧ Hid (J = numsB ((upsN none l).take k)) ∧ (∃ aJ cJ, v = .slice aJ J.length cJ) ∧ Below w.heap.size w wr) (fun _ i _ => l.length - (intOf i).toNat)
  case atStart => exact ⟨0, [], Nat.zero_le _, rfl, ⟨rfl, .inl ⟨rfl, rfl⟩⟩, hid (by simp [numsB]), ⟨_, _, rfl⟩, Below.refl _ _⟩
  case round =>
    obtain ⟨k, J, hk, rfl, hown, hJ, ⟨aJ, cJ, rfl⟩, hb⟩ := hrel
    rcases Nat.lt_or_ge k l.length with hlt | hge
    · obtain ⟨b, o, hA, hbb, u0, hx⟩ := u64_at HL.out hlt
      subst hA
      have hst := HNS.out k (by omega)
      have hmo := HMO.out (k + 1)
      have hub := hup.out k hlt
      have hu := HU.out k hlt
      rw [hst, List.length_append] at hmo
      have hJl : J.length + (varB ((upsN none l)[k]'(by omega)).toNat).length ≤ 20000000 := by have := congrArg List.length hJ.out; omega
      have hN0 : ∀ W : World, Calls Tryz.prog 104 #[.int .u64 ((upsN none l)[k]'(by omega))] W fun r w' => ∃ v, r = .returned v ∧ w'.ownsRow W.heap.size 5 1 v (varB ((upsN none l)[k]'(by omega)).toNat).length (byteCells (varB ((upsN none l)[k]'(by omega)).toNat)) ∧ Below W.heap.size W w' := fun W => by
        have := ref04_own ((upsN none l)[k]'(by omega)).toNat (by omega) W
        rw [toNat_cast hub.1] at this
        exact this
      have hJ1 : J ++ varB ((upsN none l)[k]'(by omega)).toNat = numsB ((upsN none l).take (k + 1)) := by rw [hst, hJ.out]
      have HO := hid hown
      have i1 : (k : Int) < (l.length : Int) := by omega
      have d1 : decide ((k : Int) < (l.length : Int)) = true := decide_eq_true i1
      have X0 := (hb.cell (p := ⟨b, o + k, none⟩) hbb).trans u0
      rcases Nat.eq_zero_or_pos k with rfl | hk0
      · rw [dif_pos rfl] at hu
        (try dsimp only at hu)
        rw [hu] at hJl hJ1
        have hN1 := fun W => hu ▸ hN0 W
        simp only [Nat.zero_mul, Nat.add_zero, Nat.zero_add] at X0
        have HN := hid hN1
        have HJ1 := hid hJ1
        generalize varB l[0].toNat = VK at *
        have HONE := hid (byteCells_one VK)
        generalize l[0] = y at *
        clear hst hmo hub hu hJ1 hN0 hN1 hown hJ u0
        go_wp2_with fail
        refine (HN.out _).mono ?_
        rintro r w3 ⟨v3, rfl, hv3, hb3⟩
        obtain ⟨a3, c3, rfl⟩ := own_form hv3
        have HS3 := hid (src_bytes (own_bytes rfl hv3))
        have HO3 := hid (own_below HO.out hb3)
        have hz := hb.size
        have hz3 := hb3.size
        clear hv3
        go_wp2_with (at_builtin; go_loud (refine wpList_append_src rfl _ _ _ rfl w.heap.size 5 i0 (.int .u8 0) 1 1 Tryz.underlying25 hi hz0 hz1 hz2 rfl (by decide) (.slice aJ J.length cJ) J.length (byteCells J) rfl HO3.out a3 VK.length c3 (byteCells VK) rfl HS3.out HONE.out (by simp only [maxLen]; omega) (by omega) (by omega) ?_; intro v' w4 hown4 hgrow4 hat4; obtain ⟨a4, c4, rfl⟩ := own_form hown4; have HO4 := hid (OwnB.app hown4); have hbg4 : Below w.heap.size w3 w4 := (Below.grown (Below.refl _ _) hgrow4 (by omega) (fun g e => (HO3.out.lt g e).1)); have hb4 : Below w.heap.size w w4 := hb.trans ((hb3.mono hb.size).trans hbg4); clear hown4 hgrow4 hat4))
        go_roundw
        case rel => exact ⟨1, J ++ VK, by omega, by go_num, HO4.out, HJ1, ⟨_, _, by rw [List.length_append]⟩, hb4⟩
        case measure => (simp [intOf]; try omega)
      · obtain ⟨m, rfl⟩ : ∃ m, k = m + 1 := ⟨k - 1, by omega⟩
        obtain ⟨b', o', hA', hbb', t0, hty⟩ := u64_at HL.out (show m < l.length by omega)
        simp only [Option.some.injEq, Addr.mk.injEq] at hA'
        obtain ⟨rfl, rfl, _⟩ := hA'
        have T0 := (hb.cell (p := ⟨b, o + m, none⟩) hbb).trans t0
        have hri := HRI.out m hlt
        rw [dif_neg (by omega)] at hu
        simp only [Nat.add_sub_cancel] at hu
        rw [hu] at hJl hJ1
        have hN1 := fun W => hu ▸ hN0 W
        have HN := hid hN1
        have HJ1 := hid hJ1
        have i1' : (m : Int) + 1 < (l.length : Int) := by omega
        have i2 : (m : Int) < (l.length : Int) := by omega
        have d2 : decide ((m : Int) + 1 < (l.length : Int)) = true := decide_eq_true i1'
        have d3 : decide (m + 1 < l.length) = true := decide_eq_true hlt
        have d4 : ((m : Int) + 1 == 0) = false := beq_eq_false_iff_ne.2 (by omega)
        generalize varB (l[m + 1] - (l[m]'(by omega)) - 1).toNat = VK at *
        have HONE := hid (byteCells_one VK)
        generalize l[m + 1] = y at *
        generalize l[m]'(by omega) = z at *
        have w1 : 0 ≤ y - z := by omega
        have q0 : (0 : Int) ≤ (m : Int) + 1 := by omega
        have q1 : (0 : Int) ≤ (m : Int) + 1 - 1 := by omega
        have w2 : 0 ≤ y - z - 1 := by omega
        have hD : wr.drew.cell? ⟨b, o + (m + 1), none⟩ = some (.int .u64 y) ∧ wr.drew.cell? ⟨b, o + m, none⟩ = some (.int .u64 z) := ⟨X0, T0⟩
        have hdz : wr.heap.size ≤ wr.drew.heap.size := Nat.le_refl _
        have hbw : b < wr.heap.size := World.block_lt_of_cell? _ _ X0
        have HWS : Hid (IntKind.u64.wrap (y - z) = y - z) := hid (by rw [IntKind.wrap_u64]; omega)
        have HWM : Hid (IntKind.i64.wrap (m : Int) = (m : Int)) := hid (by rw [IntKind.wrap_i64]; omega)
        have HWT : Hid (IntKind.u64.wrap (y - z - 1) = y - z - 1) := hid (by rw [IntKind.wrap_u64]; omega)
        have hz := hb.size
        clear hst hmo hub hu hJ1 hN0 hN1 hown hJ u0 t0
        go_wp2_with fail
        refine wp_region_held_drew (S := fun w' => w'.cell? ⟨b, o + (m + 1), none⟩ = some (.int .u64 y) ∧ w'.cell? ⟨b, o + m, none⟩ = some (.int .u64 z)) (by kernel_rfl) hD (fun hHeld => ?_)
        refine wpAnyH_take (i := 0) (oi := _) (v := ?_) rfl (by decide +kernel) (by decide +kernel) (by decide +kernel) (fun _ _ _ h => h) (Or.inl ⟨by rfl, ?_⟩) (by assumption) ?_
        rotate_left
        · (intro w hSw; (try dsimp only at hSw); go_simp <;> with_reducible rfl)
        (try simp only [Act.put, List.setIfInBounds_toArray, List.set_cons_zero, List.set_cons_succ])
        (try simp only [List.getElem_toArray, List.getElem_cons_zero, List.getElem_cons_succ, Act.put, List.setIfInBounds_toArray, List.set_cons_zero, List.set_cons_succ])
        refine wpAnyH_take (i := 1) (oi := _) (v := ?_) rfl (by decide +kernel) (by decide +kernel) (by decide +kernel) (fun _ _ _ h => h) (Or.inl ⟨by rfl, ?_⟩) (by assumption) ?_
        rotate_left
        · (intro w hSw; (try dsimp only at hSw); go_simp <;> with_reducible rfl)
        (try simp only [Act.put, List.setIfInBounds_toArray, List.set_cons_zero, List.set_cons_succ])
        (try simp only [List.getElem_toArray, List.getElem_cons_zero, List.getElem_cons_succ, Act.put, List.setIfInBounds_toArray, List.set_cons_zero, List.set_cons_succ])
        refine wpAnyH_take (i := 2) (oi := _) (v := ?_) rfl (by decide +kernel) (by decide +kernel) (by decide +kernel) (fun _ _ _ h => h) (Or.inl ⟨by rfl, ?_⟩) (by assumption) ?_
        rotate_left
        · (intro w hSw; (try dsimp only at hSw); go_simp <;> with_reducible rfl)
        (try simp only [Act.put, List.setIfInBounds_toArray, List.set_cons_zero, List.set_cons_succ])
        (try simp only [List.getElem_toArray, List.getElem_cons_zero, List.getElem_cons_succ, Act.put, List.setIfInBounds_toArray, List.set_cons_zero, List.set_cons_succ])
        refine wpAnyH_take (i := 3) (oi := _) (v := ?_) rfl (by decide +kernel) (by decide +kernel) (by decide +kernel) (fun _ _ _ h => h) (Or.inl ⟨by rfl, ?_⟩) (by assumption) ?_
        rotate_left
        · (intro w hSw; (try dsimp only at hSw); go_simp <;> with_reducible rfl)
        (try simp only [Act.put, List.setIfInBounds_toArray, List.set_cons_zero, List.set_cons_succ])
        (try simp only [List.getElem_toArray, List.getElem_cons_zero, List.getElem_cons_succ, Act.put, List.setIfInBounds_toArray, List.set_cons_zero, List.set_cons_succ])
        refine wpAnyH_take (i := 4) (oi := _) (v := ?_) rfl (by decide +kernel) (by decide +kernel) (by decide +kernel) (fun _ _ _ h => h) (Or.inl ⟨by rfl, ?_⟩) (by assumption) ?_
        rotate_left
        · (intro w hSw; (try dsimp only at hSw); go_simp <;> with_reducible rfl)
        (try simp only [Act.put, List.setIfInBounds_toArray, List.set_cons_zero, List.set_cons_succ])
        (try simp only [List.getElem_toArray, List.getElem_cons_zero, List.getElem_cons_succ, Act.put, List.setIfInBounds_toArray, List.set_cons_zero, List.set_cons_succ])
        refine wpAnyH_take (i := 5) (oi := _) (v := ?_) rfl (by decide +kernel) (by decide +kernel) (by decide +kernel) (fun _ _ _ h => h) (Or.inl ⟨by rfl, ?_⟩) (by assumption) ?_
        rotate_left
        · (intro w hSw; (try dsimp only at hSw); go_simp <;> with_reducible rfl)
        (try simp only [Act.put, List.setIfInBounds_toArray, List.set_cons_zero, List.set_cons_succ])
        (try simp only [List.getElem_toArray, List.getElem_cons_zero, List.getElem_cons_succ, Act.put, List.setIfInBounds_toArray, List.set_cons_zero, List.set_cons_succ])
        refine wpAnyH_take (i := 6) (oi := _) (v := ?_) rfl (by decide +kernel) (by decide +kernel) (by decide +kernel) (fun _ _ _ h => h) (Or.inl ⟨by rfl, ?_⟩) (by assumption) ?_
        rotate_left
        · (intro w hSw; (try dsimp only at hSw); go_simp <;> with_reducible rfl)
        (try simp only [Act.put, List.setIfInBounds_toArray, List.set_cons_zero, List.set_cons_succ])
        (try simp only [List.getElem_toArray, List.getElem_cons_zero, List.getElem_cons_succ, Act.put, List.setIfInBounds_toArray, List.set_cons_zero, List.set_cons_succ])
        refine wpAnyH_take (i := 7) (oi := _) (v := ?_) rfl (by decide +kernel) (by decide +kernel) (by decide +kernel) (fun _ _ _ h => h) (Or.inl ⟨by rfl, ?_⟩) (by assumption) ?_
        rotate_left
        · (intro w hSw; (try dsimp only at hSw); go_simp <;> with_reducible rfl)
        (try simp only [Act.put, List.setIfInBounds_toArray, List.set_cons_zero, List.set_cons_succ])
        (try simp only [List.getElem_toArray, List.getElem_cons_zero, List.getElem_cons_succ, Act.put, List.setIfInBounds_toArray, List.set_cons_zero, List.set_cons_succ])
        (try rw [HWM.out])
        refine wpAnyH_take (i := 8) (oi := _) (v := ?_) rfl (by decide +kernel) (by decide +kernel) (by decide +kernel) (fun _ _ _ h => h) (Or.inl ⟨by rfl, ?_⟩) (by assumption) ?_
        rotate_left
        · (intro w hSw; (try dsimp only at hSw); go_simp <;> with_reducible rfl)
        (try simp only [Act.put, List.setIfInBounds_toArray, List.set_cons_zero, List.set_cons_succ])
        (try simp only [List.getElem_toArray, List.getElem_cons_zero, List.getElem_cons_succ, Act.put, List.setIfInBounds_toArray, List.set_cons_zero, List.set_cons_succ])
        refine wpAnyH_take (i := 9) (oi := _) (v := ?_) rfl (by decide +kernel) (by decide +kernel) (by decide +kernel) (fun _ _ _ h => h) (Or.inl ⟨by rfl, ?_⟩) (by assumption) ?_
        rotate_left
        · (intro w hSw; (try dsimp only at hSw); go_simp <;> with_reducible rfl)
        (try simp only [Act.put, List.setIfInBounds_toArray, List.set_cons_zero, List.set_cons_succ])
        (try simp only [List.getElem_toArray, List.getElem_cons_zero, List.getElem_cons_succ, Act.put, List.setIfInBounds_toArray, List.set_cons_zero, List.set_cons_succ])
        refine wpAnyH_take (i := 10) (oi := _) (v := ?_) rfl (by decide +kernel) (by decide +kernel) (by decide +kernel) (fun _ _ _ h => h) (Or.inl ⟨by rfl, ?_⟩) (by assumption) ?_
        rotate_left
        · (intro w hSw; (try dsimp only at hSw); go_simp <;> with_reducible rfl)
        (try simp only [Act.put, List.setIfInBounds_toArray, List.set_cons_zero, List.set_cons_succ])
        (try simp only [List.getElem_toArray, List.getElem_cons_zero, List.getElem_cons_succ, Act.put, List.setIfInBounds_toArray, List.set_cons_zero, List.set_cons_succ])
        (try rw [HWS.out])
        refine wpAnyH_take (i := 11) (oi := _) (v := ?_) rfl (by decide +kernel) (by decide +kernel) (by decide +kernel) (fun _ _ _ h => h) (Or.inl ⟨by rfl, ?_⟩) (by assumption) ?_
        rotate_left
        · (intro w hSw; (try dsimp only at hSw); go_simp <;> with_reducible rfl)
        (try simp only [Act.put, List.setIfInBounds_toArray, List.set_cons_zero, List.set_cons_succ])
        (try simp only [List.getElem_toArray, List.getElem_cons_zero, List.getElem_cons_succ, Act.put, List.setIfInBounds_toArray, List.set_cons_zero, List.set_cons_succ])
        (try rw [HWT.out])
        refine wpAnyH_ready (rs := [12]) (by decide +kernel) (by simp) ?_
        refine AllReadyH.cons (o := _) rfl (fun K hK => ?_) AllReadyH.nil
        (go_simp; (try rw [HWS.out]); (try rw [HWT.out]); go_at_call 104; refine (HN.out _).mono ?_; rintro r w3 ⟨v3, rfl, hv3, hb3⟩; obtain ⟨a3, c3, rfl⟩ := own_form hv3; have HS3 := hid (src_bytes (own_bytes rfl hv3)); have HO3 := hid (own_below HO.out (below_then hb3 (Below.refl _ _).drew)); have f1 := (hb3.cell (p := ⟨b, o + (m + 1), none⟩) hbw).trans hD.1; have f2 := (hb3.cell (p := ⟨b, o + m, none⟩) hbw).trans hD.2; have hz3 := hb3.size; clear hv3)
        refine hK.out _ _ ?_ (fun hHeld => ?_)
        · ((try dsimp only); refine ⟨?_, ?_⟩ <;> (first | assumption | (go_keep; done)))
        clear hK K
        (try simp only [Act.put, List.setIfInBounds_toArray, List.set_cons_zero, List.set_cons_succ])
        refine wpAnyH_ready (rs := [13]) (by decide +kernel) (by simp) ?_
        refine AllReadyH.cons (o := _) rfl (fun K hK => ?_) AllReadyH.nil
        (refine step_append_src (by rfl) _ _ _ (by rfl) w.heap.size 5 i0 (.int .u8 0) 1 1 Tryz.underlying25 hi hz0 hz1 hz2 rfl (by decide) (.slice aJ J.length cJ) J.length (byteCells J) (by rfl) HO3.out a3 VK.length c3 (byteCells VK) (by rfl) HS3.out HONE.out (by simp only [maxLen]; omega) (by omega) (by omega) ?_; intro a4 c4 w4 hown4 hgrow4 hat4; have HO4 := hid (OwnB.app hown4); have hbg4 : Below w.heap.size w3 w4 := (Below.grown (Below.refl _ _) hgrow4 (by omega) (fun g e => (HO3.out.lt g e).1)); have hb4 : Below w.heap.size w w4 := hb.trans ((Below.refl _ _).drew.trans ((hb3.mono hb.size).trans hbg4)); have g1 := (hbg4.cell (p := ⟨b, o + (m + 1), none⟩) hbb).trans f1; have g2 := (hbg4.cell (p := ⟨b, o + m, none⟩) hbb).trans f2; clear hown4 hgrow4 hat4)
        refine hK.out _ _ ?_ (fun hHeld => ?_)
        · ((try dsimp only); refine ⟨?_, ?_⟩ <;> (first | assumption | (go_keep; done)))
        clear hK K
        (try simp only [Act.put, List.setIfInBounds_toArray, List.set_cons_zero, List.set_cons_succ])
        refine wpAnyH_take (i := 14) (oi := _) (v := ?_) rfl (by decide +kernel) (by decide +kernel) (by decide +kernel) (fun _ _ _ h => h) (Or.inl ⟨by rfl, ?_⟩) (by assumption) ?_
        rotate_left
        · (intro w hSw; (try dsimp only at hSw); go_simp <;> with_reducible rfl)
        (try simp only [Act.put, List.setIfInBounds_toArray, List.set_cons_zero, List.set_cons_succ])
        (try simp only [List.getElem_toArray, List.getElem_cons_zero, List.getElem_cons_succ, Act.put, List.setIfInBounds_toArray, List.set_cons_zero, List.set_cons_succ])
        refine wpAnyH_done (by kernel_rfl) ?_ _
        go_wp2_with fail
        go_roundw
        case rel => exact ⟨m + 1 + 1, J ++ VK, by omega, by go_num, HO4.out, HJ1, ⟨_, _, by rw [List.length_append]⟩, hb4⟩
        case measure => (simp [intOf]; try omega)
    · obtain rfl : k = l.length := by omega
      have d1 : decide ((l.length : Int) < (l.length : Int)) = false := decide_eq_false (by omega)
      have hfin : Hid (J = numsB (upsN none l)) := hid (by have := hJ.out; rwa [List.take_of_length_le (by omega)] at this)
      have HO := hid hown
      clear hown hJ
      go_wp2
      go_ret
      rw [← hfin.out]
      exact ⟨_, rfl, HO.out, hb⟩
end Go.Proofs.YtlbffbkbkajciaaGreat
namespace Go.Proofs.YtlbffbkbkajciaaGreat
open Go.RowKit Go.Bs Go.Maps
set_option linter.unusedVariables false
set_option linter.unusedSimpArgs false

theorem hasL_step (l : List Int) (x : Int) (k : Nat) (h : k < l.length) : (l.drop k).contains x = (decide (l[k] = x) || (l.drop (k + 1)).contains x) := by
  rw [List.drop_eq_getElem_cons h, List.contains_cons]
  congr 1
  rw [Bool.eq_iff_iff, beq_iff_eq, decide_eq_true_iff]
  exact eq_comm

set_option maxRecDepth 100000 in
set_option maxHeartbeats 1600000 in
theorem ref19_has (l : List Int) (x : Int) (a : Option Addr) (n c : Nat) (w : World) (hl : rU64s.r (· < w.heap.size) w [.slice a n c] l) :
    Calls Tryz.prog 251 #[.slice a n c, .int .u64 x] w fun r w' => r = .returned (.bool (l.contains x)) ∧ Below w.heap.size w w' := by
  obtain ⟨rfl, hm, _, _⟩ := sl_len hl
  have HL := hid hl; clear hl
  go_enter Tryz.func251, Tryz.ntmps251
  go_wp2
  go_loopw [5] (fun i wr => ∃ k : Nat, k ≤ l.length ∧ i = .int .i64 k ∧ Hid (l.contains x = (l.drop k).contains x) ∧ Below w.heap.size w wr) (fun i _ => l.length - (intOf i).toNat)
  case atStart => exact ⟨0, Nat.zero_le _, rfl, hid rfl, Below.refl _ _⟩
  case round =>
    obtain ⟨k, hk, rfl, hf, hb⟩ := hrel
    by_cases hlt : k < l.length
    · obtain ⟨b, o, hA, hbb, x0, hx0, hx1⟩ := u64_at (lift HL.out hb) hlt
      subst hA
      have hst := hid (hasL_step l x k hlt)
      have i1 : (k : Int) < (l.length : Int) := by omega
      have d1 : decide ((k : Int) < (l.length : Int)) = true := decide_eq_true i1
      generalize l[k] = y at *
      by_cases he : y = x
      · have d2 : (y == x) = true := beq_iff_eq.2 he
        have hff : Hid (l.contains x = true) := hid (by rw [hf.out, hst.out, decide_eq_true he]; rfl)
        clear he
        go_wp2_with fail
        go_ret
        exact ⟨by rw [hff.out]; rfl, hb⟩
      · have d2 : (y == x) = false := beq_eq_false_iff_ne.2 he
        have hff : Hid (l.contains x = (l.drop (k + 1)).contains x) := hid (by rw [hf.out, hst.out, decide_eq_false he]; rfl)
        clear he
        go_wp2_with fail
        go_roundw
        case rel => exact ⟨k + 1, by omega, by go_num, hff, hb⟩
        case measure => (simp [intOf]; try omega)
    · obtain rfl : k = l.length := by omega
      have d1 : decide ((l.length : Int) < (l.length : Int)) = false := decide_eq_false (by omega)
      have hff : Hid (l.contains x = false) := hid (by rw [hf.out, List.drop_length]; rfl)
      go_wp2_with fail
      go_ret
      exact ⟨by rw [hff.out]; rfl, hb⟩


set_option maxRecDepth 100000 in
set_option maxHeartbeats 1600000 in
theorem slices_index (l : List Int) (x : Int) (a : Option Addr) (n c : Nat) (w : World) (hl : rU64s.r (· < w.heap.size) w [.slice a n c] l) :
    Calls Tryz.prog 269 #[.slice a n c, .int .u64 x] w fun r w' => (∃ j : Int, r = .returned (.int .i64 j) ∧ decide (0 ≤ j) = l.contains x) ∧ Below w.heap.size w w' := by
  obtain ⟨rfl, hm, _, _⟩ := sl_len hl
  have HL := hid hl; clear hl
  go_enter Tryz.func269, Tryz.ntmps269
  go_wp2
  go_loopw [8] (fun i wr => ∃ k : Nat, k ≤ l.length ∧ i = .int .i64 k ∧ Hid (l.contains x = (l.drop k).contains x) ∧ Below w.heap.size w wr) (fun i _ => l.length - (intOf i).toNat)
  case atStart => exact ⟨0, Nat.zero_le _, rfl, hid rfl, Below.refl _ _⟩
  case round =>
    obtain ⟨k, hk, rfl, hf, hb⟩ := hrel
    by_cases hlt : k < l.length
    · obtain ⟨b, o, hA, hbb, x0, hx0, hx1⟩ := u64_at (lift HL.out hb) hlt
      subst hA
      have hst := hid (hasL_step l x k hlt)
      have i1 : (k : Int) < (l.length : Int) := by omega
      have d1 : decide ((k : Int) < (l.length : Int)) = true := decide_eq_true i1
      generalize l[k] = y at *
      by_cases he : y = x
      · have d2 : (x == y) = true := beq_iff_eq.2 he.symm
        have hff : Hid (l.contains x = true) := hid (by rw [hf.out, hst.out, decide_eq_true he]; rfl)
        clear he
        go_wp2_with fail
        go_ret
        exact ⟨⟨(k : Int), rfl, by rw [hff.out]; exact decide_eq_true (by omega)⟩, hb⟩
      · have d2 : (x == y) = false := beq_eq_false_iff_ne.2 (fun e => he e.symm)
        have hff : Hid (l.contains x = (l.drop (k + 1)).contains x) := hid (by rw [hf.out, hst.out, decide_eq_false he]; rfl)
        clear he
        go_wp2_with fail
        go_roundw
        case rel => exact ⟨k + 1, by omega, by go_num, hff, hb⟩
        case measure => (simp [intOf]; try omega)
    · obtain rfl : k = l.length := by omega
      have d1 : decide ((l.length : Int) < (l.length : Int)) = false := decide_eq_false (by omega)
      have hff : Hid (l.contains x = false) := hid (by rw [hf.out, List.drop_length]; rfl)
      go_wp2_with fail
      go_ret
      exact ⟨⟨-1, rfl, by rw [hff.out]; rfl⟩, hb⟩

set_option maxRecDepth 100000 in
set_option maxHeartbeats 1600000 in
theorem slices_contains (l : List Int) (x : Int) (a : Option Addr) (n c : Nat) (w : World) (hl : rU64s.r (· < w.heap.size) w [.slice a n c] l) :
    Calls Tryz.prog 250 #[.slice a n c, .int .u64 x] w fun r w' => r = .returned (.bool (l.contains x)) ∧ Below w.heap.size w w' := by
  have HI := hid (slices_index l x a n c w hl)
  obtain ⟨rfl, hm, _, _⟩ := sl_len hl
  generalize l.contains x = hh at *
  clear hl
  go_enter Tryz.func250, Tryz.ntmps250
  go_wp2_with fail
  refine HI.out.mono ?_
  rintro r w1 ⟨⟨j, rfl, hj⟩, hb1⟩
  have HJ := hid hj
  go_wp2_with fail
  go_ret
  exact ⟨by rw [← HJ.out]; rfl, hb1⟩

theorem all_step (l : List Int) (f : Int → Bool) (k : Nat) (h : k < l.length) : (l.drop k).all f = (f l[k] && (l.drop (k + 1)).all f) := by
  rw [List.drop_eq_getElem_cons h, List.all_cons]
theorem apart_step (l : List Int) (o : List (List Int)) (k : Nat) (h : k < o.length) : apartR l (o.drop k) = ((l.all fun n => !o[k].contains n) && apartR l (o.drop (k + 1))) := by
  unfold apartR; rw [List.drop_eq_getElem_cons h, List.all_cons]

set_option maxRecDepth 100000 in
set_option maxHeartbeats 3200000 in
theorem stripe_apart (l : List Int) (O : List (List Int)) (a : Option Addr) (n c : Nat) (a' : Option Addr) (n' c' : Nat) (w : World) (hl : rU64s.r (· < w.heap.size) w [.slice a n c] l) (ho : rSets.r (· < w.heap.size) w [.slice a' n' c'] O) :
    Calls Tryz.prog 219 #[.slice a n c, .slice a' n' c'] w fun r w' => r = .returned (.bool (apartR l O)) ∧ Below w.heap.size w w' := by
  obtain ⟨rfl, hm, _, _⟩ := sl_len hl
  obtain ⟨rfl, hm', _, _⟩ := sl_len ho
  have HL := hid hl
  have HO := hid ho
  clear hl ho
  go_enter Tryz.func219, Tryz.ntmps219
  go_wp2_with fail
  go_loopw [11] (fun i wr => ∃ k : Nat, k ≤ O.length ∧ i = .int .i64 k ∧ Hid (apartR l O = apartR l (O.drop k)) ∧ Below w.heap.size w wr) (fun i _ => O.length - (intOf i).toNat)
  case atStart => exact ⟨0, Nat.zero_le _, rfl, hid rfl, Below.refl _ _⟩
  case round =>
    obtain ⟨k, hk, rfl, hf, hb⟩ := hrel
    by_cases hlt : k < O.length
    · obtain ⟨b, o, hA, hbb, ak, ck, x0, xl⟩ := set_at (lift HO.out hb) hlt
      subst hA
      have hst := hid (apart_step l O k hlt)
      have HX := hid xl
      have HB := hid hb
      have i1 : (k : Int) < (O.length : Int) := by omega
      have d1 : decide ((k : Int) < (O.length : Int)) = true := decide_eq_true i1
      generalize O[k] = X at *
      clear xl hb
      obtain ⟨wo, hwo⟩ : ∃ wo : World, wo = wr := ⟨_, rfl⟩
      subst hwo
      go_wp2_with fail
      go_loopw [17] (fun i wr => ∃ j : Nat, j ≤ l.length ∧ i = .int .i64 j ∧ Hid ((l.all fun n => !X.contains n) = (l.drop j).all fun n => !X.contains n) ∧ Below wo.heap.size wo wr) (fun i _ => l.length - (intOf i).toNat)
      case atStart => exact ⟨0, Nat.zero_le _, rfl, hid rfl, Below.refl _ _⟩
      case round =>
        obtain ⟨j, hj, rfl, hg, hbj⟩ := hrel
        have hbw := HB.out.trans (hbj.mono HB.out.size)
        have HBW := hid hbw
        by_cases hjl : j < l.length
        · obtain ⟨b2, o2, hA2, hbb2, y0, hy0, hy1⟩ := u64_at (lift HL.out hbw) hjl
          subst hA2
          have hsj := hid (all_step l (fun n => !X.contains n) j hjl)
          have HCT := hid (fun y => slices_contains X y ak _ ck wr (lift HX.out hbj))
          have j1 : (j : Int) < (l.length : Int) := by omega
          have e1 : decide ((j : Int) < (l.length : Int)) = true := decide_eq_true j1
          generalize l[j] = y at *
          have hct := HCT.out y
          by_cases hc : X.contains y = true
          · rw [hc] at hct
            have HC := hid hct
            have hff : Hid (apartR l O = false) := hid (by rw [hf.out, hst.out, hg.out, hsj.out]; simp only [hc, Bool.not_true, Bool.false_and])
            clear hc hct hbw hbj HCT
            go_wp2_with fail
            refine HC.out.mono ?_
            rintro r w3 ⟨rfl, hb3⟩
            have hbe := below_then hb3 HBW.out
            go_wp2_with fail
            go_ret
            exact ⟨by rw [hff.out]; rfl, hbe⟩
          · have hc' := eq_false_of_ne_true hc
            rw [hc'] at hct
            have HC := hid hct
            have hgg : Hid ((l.all fun n => !X.contains n) = (l.drop (j + 1)).all fun n => !X.contains n) := hid (by rw [hg.out, hsj.out]; simp only [hc', Bool.not_false, Bool.true_and])
            have HBJ := hid hbj
            clear hc hc' hct hbw hbj HCT
            go_wp2_with fail
            refine HC.out.mono ?_
            rintro r w3 ⟨rfl, hb3⟩
            have hbe := below_then hb3 HBJ.out
            go_wp2_with fail
            go_roundw
            case rel => exact ⟨j + 1, by omega, by go_num, hgg, hbe⟩
            case measure => (simp [intOf]; try omega)
        · obtain rfl : j = l.length := by omega
          have e1 : decide ((l.length : Int) < (l.length : Int)) = false := decide_eq_false (by omega)
          have hff : Hid (apartR l O = apartR l (O.drop (k + 1))) := hid (by rw [hf.out, hst.out, hg.out, List.drop_length]; rfl)
          clear hbj hbw
          go_wp2_with fail
          go_roundw
          case rel => exact ⟨k + 1, by omega, by go_num, hff, HBW.out⟩
          case measure => (simp [intOf]; try omega)
    · obtain rfl : k = O.length := by omega
      have d1 : decide ((O.length : Int) < (O.length : Int)) = false := decide_eq_false (by omega)
      have hff : Hid (apartR l O = true) := hid (by rw [hf.out, List.drop_length]; rfl)
      go_wp2_with fail
      go_ret
      exact ⟨by rw [hff.out]; rfl, hb⟩
end Go.Proofs.YtlbffbkbkajciaaGreat
namespace Go.Proofs.YtlbffbkbkajciaaGreat
open Go.RowKit Go.Bs Go.Maps
set_option linter.unusedVariables false
set_option linter.unusedSimpArgs false

theorem last_at (l : List Int) (h : 1 ≤ l.length) : l.getLastD 0 = l[l.length - 1] := by
  rw [List.getLastD_eq_getLast?, List.getLast?_eq_getElem?, List.getElem?_eq_getElem (by omega)]; rfl

set_option maxRecDepth 100000 in
set_option maxHeartbeats 1600000 in
theorem stripe_nodes (l : List Int) (a : Option Addr) (n c : Nat) (w : World) (hl : rU64s.r (· < w.heap.size) w [.slice a n c] l) :
    Calls Tryz.prog 218 #[.slice a n c] w fun r w' => r = .returned (.bool (nodesR l)) ∧ Below w.heap.size w w' := by
  obtain ⟨rfl, hm, _, _⟩ := sl_len hl
  have HR := zig_rises l a _ c w hl
  have hnr : nodesR l = (decide (1 ≤ l.length ∧ l.length ≤ 8) && (risesB l && decide (l.getLastD 0 ≤ 4294967295))) := rfl
  by_cases h1 : 1 ≤ l.length
  · have d1 : decide ((1 : Int) ≤ (l.length : Int)) = true := decide_eq_true (by omega)
    by_cases h2 : l.length ≤ 8
    · have d2 : decide ((l.length : Int) ≤ 8) = true := decide_eq_true (by omega)
      rw [decide_eq_true (⟨h1, h2⟩ : 1 ≤ l.length ∧ l.length ≤ 8), Bool.true_and, last_at l h1] at hnr
      obtain ⟨b, o, hA, hbb, x0, hx0, hx1⟩ := u64_at hl (i := l.length - 1) (by omega)
      subst hA
      obtain ⟨m, hm⟩ : ∃ m, l.length = m + 1 := ⟨l.length - 1, by omega⟩
      simp only [hm, Nat.add_sub_cancel] at hnr x0 hx0 hx1 HR d1 d2 ⊢
      have HNR := hid hnr
      generalize l[m]'(by omega) = y at *
      generalize risesB l = R at *
      generalize nodesR l = NR at *
      have q1 : (0 : Int) ≤ (m : Int) + 1 - 1 := by omega
      have HRR := hid HR
      have hmm : m ≤ 7 := by omega
      clear hl HR hnr h1 h2 hm
      cases R
      · have hff : Hid (NR = false) := hid (by rw [HNR.out]; rfl)
        go_enter Tryz.func218, Tryz.ntmps218
        go_wp2_with fail
        refine HRR.out.mono ?_
        rintro r w1 ⟨rfl, hb1⟩
        go_wp2_with fail
        go_ret
        exact ⟨by rw [hff.out]; rfl, hb1⟩
      · have hff : Hid (NR = decide (y ≤ 4294967295)) := hid (by rw [HNR.out]; rfl)
        go_enter Tryz.func218, Tryz.ntmps218
        go_wp2_with fail
        refine HRR.out.mono ?_
        rintro r w1 ⟨rfl, hb1⟩
        have X0 := (hb1.cell (p := ⟨b, o + m, none⟩) hbb).trans x0
        clear x0
        go_wp2_with fail
        go_ret
        exact ⟨by rw [hff.out]; rfl, hb1⟩
    · have d2 : decide ((l.length : Int) ≤ 8) = false := decide_eq_false (by omega)
      have hff : Hid (nodesR l = false) := hid (by rw [hnr, decide_eq_false (fun h => h2 h.2 : ¬ (1 ≤ l.length ∧ l.length ≤ 8))]; rfl)
      clear hl HR hnr h1 h2
      go_enter Tryz.func218, Tryz.ntmps218
      go_wp2_with fail
      go_ret
      exact ⟨by rw [hff.out]; rfl, Below.refl _ _⟩
  · have d1 : decide ((1 : Int) ≤ (l.length : Int)) = false := decide_eq_false (by omega)
    have hff : Hid (nodesR l = false) := hid (by rw [hnr, decide_eq_false (fun h => h1 h.1 : ¬ (1 ≤ l.length ∧ l.length ≤ 8))]; rfl)
    clear hl HR hnr h1
    go_enter Tryz.func218, Tryz.ntmps218
    go_wp2_with fail
    go_ret
    exact ⟨by rw [hff.out]; rfl, Below.refl _ _⟩

set_option maxRecDepth 100000 in
set_option maxHeartbeats 3200000 in
theorem ref19_twice (O : List (List Int)) (q : Nat) (l : List Int) (a : Option Addr) (n c : Nat) (a' : Option Addr) (n' c' : Nat) (w : World) (ho : rSets.r (· < w.heap.size) w [.slice a n c] O) (hl : rU64s.r (· < w.heap.size) w [.slice a' n' c'] l) (hq : q ≤ O.length) :
    Calls Tryz.prog 221 #[.slice a n c, .int .i64 (q : Int), .slice a' n' c'] w fun r w' => r = .returned (.bool (!apartR l (O.take q))) ∧ Below w.heap.size w w' := by
  obtain ⟨rfl, hm, _, _⟩ := sl_len ho
  obtain ⟨rfl, hm', _, _⟩ := sl_len hl
  have HL := hid hl
  have HO := hid ho
  have hqt : (O.take q).length = q := by rw [List.length_take]; omega
  have HG := hid (fun (k : Nat) (h : k < q) => (by rw [List.getElem_take] : (O.take q)[k]'(by omega) = O[k]'(by omega)))
  obtain ⟨Y, hY⟩ : ∃ Y, O.take q = Y := ⟨_, rfl⟩
  simp only [hY] at HG hqt ⊢
  clear hl ho
  go_enter Tryz.func221, Tryz.ntmps221
  go_wp2_with fail
  go_loopw [7] (fun i wr => ∃ k : Nat, k ≤ q ∧ i = .int .i64 k ∧ Hid (apartR l Y = apartR l (Y.drop k)) ∧ Below w.heap.size w wr) (fun i _ => q - (intOf i).toNat)
  case atStart => exact ⟨0, Nat.zero_le _, rfl, hid rfl, Below.refl _ _⟩
  case round =>
    obtain ⟨k, hk, rfl, hf, hb⟩ := hrel
    by_cases hlt : k < q
    · obtain ⟨b, o, hA, hbb, ak, ck, x0, xl⟩ := set_at (lift HO.out hb) (show k < O.length by omega)
      subst hA
      have hst := apart_step l Y k (by omega)
      rw [HG.out k hlt] at hst
      have hst := hid hst
      have HX := hid xl
      have HB := hid hb
      have hbl : b < wr.heap.size := World.block_lt_of_cell? _ _ x0
      have i1 : (k : Int) < (q : Int) := by omega
      have i2 : (k : Int) < (O.length : Int) := by omega
      have d1 : decide ((k : Int) < (q : Int)) = true := decide_eq_true i1
      generalize O[k]'(by omega) = X at *
      clear xl hb
      obtain ⟨wo, hwo⟩ : ∃ wo : World, wo = wr := ⟨_, rfl⟩
      subst hwo
      go_wp2_with fail
      go_loopw [8] (fun i wr => ∃ j : Nat, j ≤ l.length ∧ i = .int .i64 j ∧ Hid ((l.all fun n => !X.contains n) = (l.drop j).all fun n => !X.contains n) ∧ Below wo.heap.size wo wr) (fun i _ => l.length - (intOf i).toNat)
      case atStart => exact ⟨0, Nat.zero_le _, rfl, hid rfl, Below.refl _ _⟩
      case round =>
        obtain ⟨j, hj, rfl, hg, hbj⟩ := hrel
        have hbw := HB.out.trans (hbj.mono HB.out.size)
        have HBW := hid hbw
        by_cases hjl : j < l.length
        · obtain ⟨b2, o2, hA2, hbb2, y0, hy0, hy1⟩ := u64_at (lift HL.out hbw) hjl
          subst hA2
          have hsj := hid (all_step l (fun n => !X.contains n) j hjl)
          have HCT := hid (fun y (W : World) (hW : Below wr.heap.size wr W) => ref19_has X y ak _ ck W (lift (lift HX.out hbj) hW))
          have j1 : (j : Int) < (l.length : Int) := by omega
          have e1 : decide ((j : Int) < (l.length : Int)) = true := decide_eq_true j1
          have X0 := fun s : Later wr => s.cell ((hbj.cell (p := ⟨b, o + k, none⟩) hbl).trans x0)
          have Y0 := fun s : Later wr => s.cell y0
          clear y0
          generalize l[j] = y at *
          have hct := HCT.out y
          by_cases hc : X.contains y = true
          · simp only [hc] at hct
            have HC := hid hct
            have hff : Hid (apartR l Y = false) := hid (by rw [hf.out, hst.out, hg.out, hsj.out]; simp only [hc, Bool.not_true, Bool.false_and])
            clear hc hct hbw hbj HCT
            go_wp2_with fail
            refine wp_region_later (by kernel_rfl) (by kernel_rfl) ?_
            repeat (go_big_quiet_step ((go_at_call 251; exact later_of (HC.out _ (Later.below _)))))
            refine wpQuiet_nil ?_
            rintro W5 ⟨⟨W5', hb5⟩, rfl⟩
            have hbe := below_then hb5 HBW.out
            go_wp2_with fail
            go_ret
            exact ⟨by rw [hff.out]; rfl, hbe⟩
          · have hc' := eq_false_of_ne_true hc
            simp only [hc'] at hct
            have HC := hid hct
            have hgg : Hid ((l.all fun n => !X.contains n) = (l.drop (j + 1)).all fun n => !X.contains n) := hid (by rw [hg.out, hsj.out]; simp only [hc', Bool.not_false, Bool.true_and])
            have HBJ := hid hbj
            clear hc hc' hct hbw hbj HCT
            go_wp2_with fail
            refine wp_region_later (by kernel_rfl) (by kernel_rfl) ?_
            repeat (go_big_quiet_step ((go_at_call 251; exact later_of (HC.out _ (Later.below _)))))
            refine wpQuiet_nil ?_
            rintro W5 ⟨⟨W5', hb5⟩, rfl⟩
            have hbe := below_then hb5 HBJ.out
            go_wp2_with fail
            go_roundw
            case rel => exact ⟨j + 1, by omega, by go_num, hgg, hbe⟩
            case measure => (simp [intOf]; try omega)
        · obtain rfl : j = l.length := by omega
          have e1 : decide ((l.length : Int) < (l.length : Int)) = false := decide_eq_false (by omega)
          have hff : Hid (apartR l Y = apartR l (Y.drop (k + 1))) := hid (by rw [hf.out, hst.out, hg.out, List.drop_length]; rfl)
          clear hbj hbw
          go_wp2_with fail
          go_roundw
          case rel => exact ⟨k + 1, by omega, by go_num, hff, HBW.out⟩
          case measure => (simp [intOf]; try omega)
    · obtain rfl : k = q := by omega
      have d1 : decide ((k : Int) < (k : Int)) = false := decide_eq_false (by omega)
      have hff : Hid (apartR l Y = true) := hid (by rw [hf.out, show k = Y.length by omega, List.drop_length]; rfl)
      go_wp2_with fail
      go_ret
      exact ⟨by rw [hff.out]; rfl, hb⟩
end Go.Proofs.YtlbffbkbkajciaaGreat
namespace Go.Proofs.YtlbffbkbkajciaaGreat
open Go.RowKit Go.Bs Go.Maps
set_option linter.unusedVariables false
set_option linter.unusedSimpArgs false

theorem setsR_pre (L : List (List Int)) : ∀ n k, k ≤ n → setsR L n = true → setsR L k = true
  | 0, k, h, hs => by rw [show k = 0 by omega]; rfl
  | n + 1, k, h, hs => by
    by_cases hk : k = n + 1
    · rw [hk]; exact hs
    · simp only [setsR, Bool.and_eq_true] at hs
      exact setsR_pre L n k (by omega) hs.1

set_option maxRecDepth 100000 in
set_option maxHeartbeats 6400000 in
theorem stripe_right (lo hi : Int) (L : List (List Int)) (a : Option Addr) (n c : Nat) (w : World) (hl : rSets.r (· < w.heap.size) w [.slice a n c] L) :
    Calls Tryz.prog 161 #[.agg #[.int .u64 lo, .int .u64 hi, .slice a n c]] w fun r w' => r = .returned (.bool (stripeR ⟨lo, hi, L⟩)) ∧ Below w.heap.size w w' := by
  obtain ⟨rfl, hm, hcc, hcm⟩ := sl_len hl
  have HL := hid hl
  clear hl
  by_cases h1 : lo < hi
  · have d1' : decide (lo < hi) = true := decide_eq_true h1
    by_cases h2 : hi ≤ 4611686018427387904
    · have d2' : decide (hi ≤ 4611686018427387904) = true := decide_eq_true h2
      by_cases h3 : 1 ≤ L.length
      · have d3' : decide ((1 : Int) ≤ (L.length : Int)) = true := decide_eq_true (by omega)
        by_cases h4 : L.length ≤ 8
        · have d4' : decide ((L.length : Int) ≤ 8) = true := decide_eq_true (by omega)
          have hG : decide (lo < hi ∧ hi ≤ 4611686018427387904 ∧ 1 ≤ L.length ∧ L.length ≤ 8) = true := decide_eq_true ⟨h1, h2, h3, h4⟩
          go_enter Tryz.func161, Tryz.ntmps161
          have hff : Hid (stripeR ⟨lo, hi, L⟩ = (true && setsR L L.length)) := hid (by unfold stripeR; dsimp only; rw [hG])
          have x0 : (w.alloc (.cells #[.int .u64 lo, .int .u64 hi, .slice a L.length c] 155)).cell? ⟨w.heap.size, 2, none⟩ = some (.slice a L.length c) := by simp
          have hb0 : Below w.heap.size w (w.alloc (.cells #[.int .u64 lo, .int .u64 hi, .slice a L.length c] 155)) := by (repeat (first | exact Below.refl _ _ | assumption | (refine below_alloc ?_ _) | (refine Below.setCell ?_ (by first | omega | (simp; done) | (simp; omega)) _) | (refine Below.drew ?_) | (refine below_drewN ?_ _) | (refine below_then (by assumption) ?_)))
          have hs0 : w.heap.size < (w.alloc (.cells #[.int .u64 lo, .int .u64 hi, .slice a L.length c] 155)).heap.size := by simp
          go_wp2_with fail
          refine wp_scope_straight ?_
          go_wp2_with fail
          refine wp_label ?_
          go_wp2_with fail
          generalize w.alloc (.cells #[.int .u64 lo, .int .u64 hi, .slice a L.length c] 155) = w0 at *
          have HB0 := hid hb0
          clear hb0
          go_loopw [3, 31] (fun g i wr => ∃ k : Nat, k ≤ L.length ∧ i = .int .i64 k ∧ g = .bool (true && setsR L k) ∧ Below w0.heap.size w0 wr) (fun _ i _ => L.length - (intOf i).toNat)
          case atStart => exact ⟨0, Nat.zero_le _, rfl, by simp [setsR], Below.refl _ _⟩
          case round =>
            obtain ⟨k, hk, rfl, rfl, hb⟩ := hrel
            have HB := hid hb
            have HBW := hid (HB0.out.trans (hb.mono HB0.out.size))
            have hsz := hb.size
            by_cases hlt : k < L.length
            · have i1 : (k : Int) < (L.length : Int) := by omega
              have i2 : (k : Int) ≤ (c : Int) := by omega
              have d1 : decide ((k : Int) < (L.length : Int)) = true := decide_eq_true i1
              have X0 := (hb.cell (p := ⟨w.heap.size, 2, none⟩) hs0).trans x0
              obtain ⟨b, o, hA, hbb, ak, ck, u0, xl⟩ := set_at (lift HL.out HBW.out) hlt
              subst hA
              have hmono : (true && setsR L k) = false → (true && setsR L L.length) = false := fun h => by
                cases hg : true
                · rfl
                · rw [hg] at h
                  rcases hh : setsR L L.length with _ | _
                  · rfl
                  · exfalso
                    have := setsR_pre L L.length k (by omega) hh
                    rw [this] at h; cases h
              have hstep : setsR L (k + 1) = (setsR L k && (nodesR L[k] && apartR L[k] (L.take k))) := by
                show (setsR L k && setR L k) = _
                unfold setR; rw [getD_at L k [] hlt]
              have HN := hid (stripe_nodes L[k] ak _ ck wr xl)
              have HAP := hid (fun (W : World) (hW : Below wr.heap.size wr W) => stripe_apart L[k] (L.take k) ak _ ck (some ⟨b, o, none⟩) k c W (lift xl hW) (sl_take (lift (lift HL.out HBW.out) hW) (by omega)))
              have HMO := hid hmono
              have HST := hid hstep
              have hc0 : k ≤ c := by omega
              obtain ⟨s1, hs1⟩ : ∃ s1, setsR L (k + 1) = s1 := ⟨_, rfl⟩
              have HS1 := hid hs1
              rw [hs1] at HST
              clear hs1
              generalize setsR L k = s0 at *
              generalize nodesR L[k] = nn at *
              generalize apartR L[k] (L.take k) = ap at *
              generalize L[k] = X at *
              clear hb xl hmono hstep
              rcases hg : (true && s0) with _ | _
              · have hfin := hid (HMO.out hg)
                clear hg
                go_wp2_with fail
                (try simp only [Exit.noGoto])
                (try go_wp2_with fail)
                go_ret
                exact ⟨by rw [hff.out, hfin.out]; rfl, HBW.out⟩
              · have hg2 : (true && s1) = (nn && ap) := by
                  rw [HST.out, ← Bool.and_assoc, hg, Bool.true_and]
                have HG2 := hid hg2
                clear hg hg2
                cases nn
                · go_wp2_with fail
                  refine HN.out.mono ?_
                  rintro r w3 ⟨rfl, hb3⟩
                  have hbe := below_then hb3 HB.out
                  go_wp2_with fail
                  go_roundw
                  case rel => exact ⟨k + 1, by omega, by go_num, by rw [HS1.out, HG2.out]; rfl, hbe⟩
                  case measure => (simp [intOf]; try omega)
                · go_wp2_with fail
                  refine HN.out.mono ?_
                  rintro r w3 ⟨rfl, hb3⟩
                  have Y0 := (hb3.cell (p := ⟨w.heap.size, 2, none⟩) (by dsimp only; omega)).trans X0
                  have hbe := below_then hb3 HB.out
                  have HA2 := hid (HAP.out w3 hb3)
                  go_wp2_with fail
                  refine HA2.out.mono ?_
                  rintro r w4 ⟨rfl, hb4⟩
                  have hbf := below_then hb4 hbe
                  go_wp2_with fail
                  go_roundw
                  case rel => exact ⟨k + 1, by omega, by go_num, by rw [HS1.out, HG2.out]; rfl, hbf⟩
                  case measure => (simp [intOf]; try omega)
            · obtain rfl : k = L.length := by omega
              have d1 : decide ((L.length : Int) < (L.length : Int)) = false := decide_eq_false (by omega)
              clear hb
              go_wp2_with fail
              (try simp only [Exit.noGoto])
              (try go_wp2_with fail)
              go_ret
              exact ⟨by rw [hff.out]; first | done | rfl | (simp; done) | simp [Exit.noGoto], HBW.out⟩
        · have d4' : decide ((L.length : Int) ≤ 8) = false := decide_eq_false (by omega)
          have hG : decide (lo < hi ∧ hi ≤ 4611686018427387904 ∧ 1 ≤ L.length ∧ L.length ≤ 8) = false := decide_eq_false (by omega)
          go_enter Tryz.func161, Tryz.ntmps161
          have hff : Hid (stripeR ⟨lo, hi, L⟩ = (false && setsR L L.length)) := hid (by unfold stripeR; dsimp only; rw [hG])
          have x0 : (w.alloc (.cells #[.int .u64 lo, .int .u64 hi, .slice a L.length c] 155)).cell? ⟨w.heap.size, 2, none⟩ = some (.slice a L.length c) := by simp
          have hb0 : Below w.heap.size w (w.alloc (.cells #[.int .u64 lo, .int .u64 hi, .slice a L.length c] 155)) := by (repeat (first | exact Below.refl _ _ | assumption | (refine below_alloc ?_ _) | (refine Below.setCell ?_ (by first | omega | (simp; done) | (simp; omega)) _) | (refine Below.drew ?_) | (refine below_drewN ?_ _) | (refine below_then (by assumption) ?_)))
          have hs0 : w.heap.size < (w.alloc (.cells #[.int .u64 lo, .int .u64 hi, .slice a L.length c] 155)).heap.size := by simp
          go_wp2_with fail
          refine wp_scope_straight ?_
          go_wp2_with fail
          refine wp_label ?_
          go_wp2_with fail
          generalize w.alloc (.cells #[.int .u64 lo, .int .u64 hi, .slice a L.length c] 155) = w0 at *
          have HB0 := hid hb0
          clear hb0
          go_loopw [3, 31] (fun g i wr => ∃ k : Nat, k ≤ L.length ∧ i = .int .i64 k ∧ g = .bool (false && setsR L k) ∧ Below w0.heap.size w0 wr) (fun _ i _ => L.length - (intOf i).toNat)
          case atStart => exact ⟨0, Nat.zero_le _, rfl, by simp [setsR], Below.refl _ _⟩
          case round =>
            obtain ⟨k, hk, rfl, rfl, hb⟩ := hrel
            have HB := hid hb
            have HBW := hid (HB0.out.trans (hb.mono HB0.out.size))
            have hsz := hb.size
            by_cases hlt : k < L.length
            · have i1 : (k : Int) < (L.length : Int) := by omega
              have i2 : (k : Int) ≤ (c : Int) := by omega
              have d1 : decide ((k : Int) < (L.length : Int)) = true := decide_eq_true i1
              have X0 := (hb.cell (p := ⟨w.heap.size, 2, none⟩) hs0).trans x0
              obtain ⟨b, o, hA, hbb, ak, ck, u0, xl⟩ := set_at (lift HL.out HBW.out) hlt
              subst hA
              have hmono : (false && setsR L k) = false → (false && setsR L L.length) = false := fun _ => rfl
              have hstep : setsR L (k + 1) = (setsR L k && (nodesR L[k] && apartR L[k] (L.take k))) := by
                show (setsR L k && setR L k) = _
                unfold setR; rw [getD_at L k [] hlt]
              have HN := hid (stripe_nodes L[k] ak _ ck wr xl)
              have HAP := hid (fun (W : World) (hW : Below wr.heap.size wr W) => stripe_apart L[k] (L.take k) ak _ ck (some ⟨b, o, none⟩) k c W (lift xl hW) (sl_take (lift (lift HL.out HBW.out) hW) (by omega)))
              have HMO := hid hmono
              have HST := hid hstep
              have hc0 : k ≤ c := by omega
              obtain ⟨s1, hs1⟩ : ∃ s1, setsR L (k + 1) = s1 := ⟨_, rfl⟩
              have HS1 := hid hs1
              rw [hs1] at HST
              clear hs1
              generalize setsR L k = s0 at *
              generalize nodesR L[k] = nn at *
              generalize apartR L[k] (L.take k) = ap at *
              generalize L[k] = X at *
              clear hb xl hmono hstep
              rcases hg : (false && s0) with _ | _
              · have hfin := hid (HMO.out hg)
                clear hg
                go_wp2_with fail
                (try simp only [Exit.noGoto])
                (try go_wp2_with fail)
                go_ret
                exact ⟨by rw [hff.out, hfin.out]; rfl, HBW.out⟩
              · exfalso; simp at hg
            · obtain rfl : k = L.length := by omega
              have d1 : decide ((L.length : Int) < (L.length : Int)) = false := decide_eq_false (by omega)
              clear hb
              go_wp2_with fail
              (try simp only [Exit.noGoto])
              (try go_wp2_with fail)
              go_ret
              exact ⟨by rw [hff.out]; first | done | rfl | (simp; done) | simp [Exit.noGoto], HBW.out⟩
      · have d3' : decide ((1 : Int) ≤ (L.length : Int)) = false := decide_eq_false (by omega)
        have hG : decide (lo < hi ∧ hi ≤ 4611686018427387904 ∧ 1 ≤ L.length ∧ L.length ≤ 8) = false := decide_eq_false (by omega)
        go_enter Tryz.func161, Tryz.ntmps161
        have hff : Hid (stripeR ⟨lo, hi, L⟩ = (false && setsR L L.length)) := hid (by unfold stripeR; dsimp only; rw [hG])
        have x0 : (w.alloc (.cells #[.int .u64 lo, .int .u64 hi, .slice a L.length c] 155)).cell? ⟨w.heap.size, 2, none⟩ = some (.slice a L.length c) := by simp
        have hb0 : Below w.heap.size w (w.alloc (.cells #[.int .u64 lo, .int .u64 hi, .slice a L.length c] 155)) := by (repeat (first | exact Below.refl _ _ | assumption | (refine below_alloc ?_ _) | (refine Below.setCell ?_ (by first | omega | (simp; done) | (simp; omega)) _) | (refine Below.drew ?_) | (refine below_drewN ?_ _) | (refine below_then (by assumption) ?_)))
        have hs0 : w.heap.size < (w.alloc (.cells #[.int .u64 lo, .int .u64 hi, .slice a L.length c] 155)).heap.size := by simp
        go_wp2_with fail
        refine wp_scope_straight ?_
        go_wp2_with fail
        refine wp_label ?_
        go_wp2_with fail
        generalize w.alloc (.cells #[.int .u64 lo, .int .u64 hi, .slice a L.length c] 155) = w0 at *
        have HB0 := hid hb0
        clear hb0
        go_loopw [3, 31] (fun g i wr => ∃ k : Nat, k ≤ L.length ∧ i = .int .i64 k ∧ g = .bool (false && setsR L k) ∧ Below w0.heap.size w0 wr) (fun _ i _ => L.length - (intOf i).toNat)
        case atStart => exact ⟨0, Nat.zero_le _, rfl, by simp [setsR], Below.refl _ _⟩
        case round =>
          obtain ⟨k, hk, rfl, rfl, hb⟩ := hrel
          have HB := hid hb
          have HBW := hid (HB0.out.trans (hb.mono HB0.out.size))
          have hsz := hb.size
          by_cases hlt : k < L.length
          · have i1 : (k : Int) < (L.length : Int) := by omega
            have i2 : (k : Int) ≤ (c : Int) := by omega
            have d1 : decide ((k : Int) < (L.length : Int)) = true := decide_eq_true i1
            have X0 := (hb.cell (p := ⟨w.heap.size, 2, none⟩) hs0).trans x0
            obtain ⟨b, o, hA, hbb, ak, ck, u0, xl⟩ := set_at (lift HL.out HBW.out) hlt
            subst hA
            have hmono : (false && setsR L k) = false → (false && setsR L L.length) = false := fun _ => rfl
            have hstep : setsR L (k + 1) = (setsR L k && (nodesR L[k] && apartR L[k] (L.take k))) := by
              show (setsR L k && setR L k) = _
              unfold setR; rw [getD_at L k [] hlt]
            have HN := hid (stripe_nodes L[k] ak _ ck wr xl)
            have HAP := hid (fun (W : World) (hW : Below wr.heap.size wr W) => stripe_apart L[k] (L.take k) ak _ ck (some ⟨b, o, none⟩) k c W (lift xl hW) (sl_take (lift (lift HL.out HBW.out) hW) (by omega)))
            have HMO := hid hmono
            have HST := hid hstep
            have hc0 : k ≤ c := by omega
            obtain ⟨s1, hs1⟩ : ∃ s1, setsR L (k + 1) = s1 := ⟨_, rfl⟩
            have HS1 := hid hs1
            rw [hs1] at HST
            clear hs1
            generalize setsR L k = s0 at *
            generalize nodesR L[k] = nn at *
            generalize apartR L[k] (L.take k) = ap at *
            generalize L[k] = X at *
            clear hb xl hmono hstep
            rcases hg : (false && s0) with _ | _
            · have hfin := hid (HMO.out hg)
              clear hg
              go_wp2_with fail
              (try simp only [Exit.noGoto])
              (try go_wp2_with fail)
              go_ret
              exact ⟨by rw [hff.out, hfin.out]; rfl, HBW.out⟩
            · exfalso; simp at hg
          · obtain rfl : k = L.length := by omega
            have d1 : decide ((L.length : Int) < (L.length : Int)) = false := decide_eq_false (by omega)
            clear hb
            go_wp2_with fail
            (try simp only [Exit.noGoto])
            (try go_wp2_with fail)
            go_ret
            exact ⟨by rw [hff.out]; first | done | rfl | (simp; done) | simp [Exit.noGoto], HBW.out⟩
    · have d2' : decide (hi ≤ 4611686018427387904) = false := decide_eq_false h2
      have hG : decide (lo < hi ∧ hi ≤ 4611686018427387904 ∧ 1 ≤ L.length ∧ L.length ≤ 8) = false := decide_eq_false (by omega)
      go_enter Tryz.func161, Tryz.ntmps161
      have hff : Hid (stripeR ⟨lo, hi, L⟩ = (false && setsR L L.length)) := hid (by unfold stripeR; dsimp only; rw [hG])
      have x0 : (w.alloc (.cells #[.int .u64 lo, .int .u64 hi, .slice a L.length c] 155)).cell? ⟨w.heap.size, 2, none⟩ = some (.slice a L.length c) := by simp
      have hb0 : Below w.heap.size w (w.alloc (.cells #[.int .u64 lo, .int .u64 hi, .slice a L.length c] 155)) := by (repeat (first | exact Below.refl _ _ | assumption | (refine below_alloc ?_ _) | (refine Below.setCell ?_ (by first | omega | (simp; done) | (simp; omega)) _) | (refine Below.drew ?_) | (refine below_drewN ?_ _) | (refine below_then (by assumption) ?_)))
      have hs0 : w.heap.size < (w.alloc (.cells #[.int .u64 lo, .int .u64 hi, .slice a L.length c] 155)).heap.size := by simp
      go_wp2_with fail
      refine wp_scope_straight ?_
      go_wp2_with fail
      refine wp_label ?_
      go_wp2_with fail
      generalize w.alloc (.cells #[.int .u64 lo, .int .u64 hi, .slice a L.length c] 155) = w0 at *
      have HB0 := hid hb0
      clear hb0
      go_loopw [3, 31] (fun g i wr => ∃ k : Nat, k ≤ L.length ∧ i = .int .i64 k ∧ g = .bool (false && setsR L k) ∧ Below w0.heap.size w0 wr) (fun _ i _ => L.length - (intOf i).toNat)
      case atStart => exact ⟨0, Nat.zero_le _, rfl, by simp [setsR], Below.refl _ _⟩
      case round =>
        obtain ⟨k, hk, rfl, rfl, hb⟩ := hrel
        have HB := hid hb
        have HBW := hid (HB0.out.trans (hb.mono HB0.out.size))
        have hsz := hb.size
        by_cases hlt : k < L.length
        · have i1 : (k : Int) < (L.length : Int) := by omega
          have i2 : (k : Int) ≤ (c : Int) := by omega
          have d1 : decide ((k : Int) < (L.length : Int)) = true := decide_eq_true i1
          have X0 := (hb.cell (p := ⟨w.heap.size, 2, none⟩) hs0).trans x0
          obtain ⟨b, o, hA, hbb, ak, ck, u0, xl⟩ := set_at (lift HL.out HBW.out) hlt
          subst hA
          have hmono : (false && setsR L k) = false → (false && setsR L L.length) = false := fun _ => rfl
          have hstep : setsR L (k + 1) = (setsR L k && (nodesR L[k] && apartR L[k] (L.take k))) := by
            show (setsR L k && setR L k) = _
            unfold setR; rw [getD_at L k [] hlt]
          have HN := hid (stripe_nodes L[k] ak _ ck wr xl)
          have HAP := hid (fun (W : World) (hW : Below wr.heap.size wr W) => stripe_apart L[k] (L.take k) ak _ ck (some ⟨b, o, none⟩) k c W (lift xl hW) (sl_take (lift (lift HL.out HBW.out) hW) (by omega)))
          have HMO := hid hmono
          have HST := hid hstep
          have hc0 : k ≤ c := by omega
          obtain ⟨s1, hs1⟩ : ∃ s1, setsR L (k + 1) = s1 := ⟨_, rfl⟩
          have HS1 := hid hs1
          rw [hs1] at HST
          clear hs1
          generalize setsR L k = s0 at *
          generalize nodesR L[k] = nn at *
          generalize apartR L[k] (L.take k) = ap at *
          generalize L[k] = X at *
          clear hb xl hmono hstep
          rcases hg : (false && s0) with _ | _
          · have hfin := hid (HMO.out hg)
            clear hg
            go_wp2_with fail
            (try simp only [Exit.noGoto])
            (try go_wp2_with fail)
            go_ret
            exact ⟨by rw [hff.out, hfin.out]; rfl, HBW.out⟩
          · exfalso; simp at hg
        · obtain rfl : k = L.length := by omega
          have d1 : decide ((L.length : Int) < (L.length : Int)) = false := decide_eq_false (by omega)
          clear hb
          go_wp2_with fail
          (try simp only [Exit.noGoto])
          (try go_wp2_with fail)
          go_ret
          exact ⟨by rw [hff.out]; first | done | rfl | (simp; done) | simp [Exit.noGoto], HBW.out⟩
  · have d1' : decide (lo < hi) = false := decide_eq_false h1
    have hG : decide (lo < hi ∧ hi ≤ 4611686018427387904 ∧ 1 ≤ L.length ∧ L.length ≤ 8) = false := decide_eq_false (by omega)
    go_enter Tryz.func161, Tryz.ntmps161
    have hff : Hid (stripeR ⟨lo, hi, L⟩ = (false && setsR L L.length)) := hid (by unfold stripeR; dsimp only; rw [hG])
    have x0 : (w.alloc (.cells #[.int .u64 lo, .int .u64 hi, .slice a L.length c] 155)).cell? ⟨w.heap.size, 2, none⟩ = some (.slice a L.length c) := by simp
    have hb0 : Below w.heap.size w (w.alloc (.cells #[.int .u64 lo, .int .u64 hi, .slice a L.length c] 155)) := by (repeat (first | exact Below.refl _ _ | assumption | (refine below_alloc ?_ _) | (refine Below.setCell ?_ (by first | omega | (simp; done) | (simp; omega)) _) | (refine Below.drew ?_) | (refine below_drewN ?_ _) | (refine below_then (by assumption) ?_)))
    have hs0 : w.heap.size < (w.alloc (.cells #[.int .u64 lo, .int .u64 hi, .slice a L.length c] 155)).heap.size := by simp
    go_wp2_with fail
    refine wp_scope_straight ?_
    go_wp2_with fail
    refine wp_label ?_
    go_wp2_with fail
    generalize w.alloc (.cells #[.int .u64 lo, .int .u64 hi, .slice a L.length c] 155) = w0 at *
    have HB0 := hid hb0
    clear hb0
    go_loopw [3, 31] (fun g i wr => ∃ k : Nat, k ≤ L.length ∧ i = .int .i64 k ∧ g = .bool (false && setsR L k) ∧ Below w0.heap.size w0 wr) (fun _ i _ => L.length - (intOf i).toNat)
    case atStart => exact ⟨0, Nat.zero_le _, rfl, by simp [setsR], Below.refl _ _⟩
    case round =>
      obtain ⟨k, hk, rfl, rfl, hb⟩ := hrel
      have HB := hid hb
      have HBW := hid (HB0.out.trans (hb.mono HB0.out.size))
      have hsz := hb.size
      by_cases hlt : k < L.length
      · have i1 : (k : Int) < (L.length : Int) := by omega
        have i2 : (k : Int) ≤ (c : Int) := by omega
        have d1 : decide ((k : Int) < (L.length : Int)) = true := decide_eq_true i1
        have X0 := (hb.cell (p := ⟨w.heap.size, 2, none⟩) hs0).trans x0
        obtain ⟨b, o, hA, hbb, ak, ck, u0, xl⟩ := set_at (lift HL.out HBW.out) hlt
        subst hA
        have hmono : (false && setsR L k) = false → (false && setsR L L.length) = false := fun _ => rfl
        have hstep : setsR L (k + 1) = (setsR L k && (nodesR L[k] && apartR L[k] (L.take k))) := by
          show (setsR L k && setR L k) = _
          unfold setR; rw [getD_at L k [] hlt]
        have HN := hid (stripe_nodes L[k] ak _ ck wr xl)
        have HAP := hid (fun (W : World) (hW : Below wr.heap.size wr W) => stripe_apart L[k] (L.take k) ak _ ck (some ⟨b, o, none⟩) k c W (lift xl hW) (sl_take (lift (lift HL.out HBW.out) hW) (by omega)))
        have HMO := hid hmono
        have HST := hid hstep
        have hc0 : k ≤ c := by omega
        obtain ⟨s1, hs1⟩ : ∃ s1, setsR L (k + 1) = s1 := ⟨_, rfl⟩
        have HS1 := hid hs1
        rw [hs1] at HST
        clear hs1
        generalize setsR L k = s0 at *
        generalize nodesR L[k] = nn at *
        generalize apartR L[k] (L.take k) = ap at *
        generalize L[k] = X at *
        clear hb xl hmono hstep
        rcases hg : (false && s0) with _ | _
        · have hfin := hid (HMO.out hg)
          clear hg
          go_wp2_with fail
          (try simp only [Exit.noGoto])
          (try go_wp2_with fail)
          go_ret
          exact ⟨by rw [hff.out, hfin.out]; rfl, HBW.out⟩
        · exfalso; simp at hg
      · obtain rfl : k = L.length := by omega
        have d1 : decide ((L.length : Int) < (L.length : Int)) = false := decide_eq_false (by omega)
        clear hb
        go_wp2_with fail
        (try simp only [Exit.noGoto])
        (try go_wp2_with fail)
        go_ret
        exact ⟨by rw [hff.out]; first | done | rfl | (simp; done) | simp [Exit.noGoto], HBW.out⟩
end Go.Proofs.YtlbffbkbkajciaaGreat
namespace Go.Proofs.YtlbffbkbkajciaaGreat
open Go.RowKit Go.Bs Go.Maps
set_option linter.unusedVariables false
set_option linter.unusedSimpArgs false

set_option maxRecDepth 100000 in
set_option maxHeartbeats 6400000 in
theorem ref19_right (lo hi : Int) (L : List (List Int)) (a : Option Addr) (n c : Nat) (w : World) (hl : rSets.r (· < w.heap.size) w [.slice a n c] L) :
    Calls Tryz.prog 164 #[.agg #[.int .u64 lo, .int .u64 hi, .slice a n c]] w fun r w' => r = .returned (.bool (stripeR ⟨lo, hi, L⟩)) ∧ Below w.heap.size w w' := by
  obtain ⟨rfl, hm, hcc, hcm⟩ := sl_len hl
  have HL := hid hl
  clear hl
  by_cases hG : lo < hi ∧ hi ≤ 4611686018427387904 ∧ 1 ≤ L.length ∧ L.length ≤ 8
  · obtain ⟨g1, g2, g3, g4⟩ := hG
    have hS : stripeR ⟨lo, hi, L⟩ = setsR L L.length := by unfold stripeR; dsimp only; rw [decide_eq_true (⟨g1, g2, g3, g4⟩ : lo < hi ∧ hi ≤ 4611686018427387904 ∧ 1 ≤ L.length ∧ L.length ≤ 8), Bool.true_and]
    have HBAD := hid (fun (k : Nat) (h : k < L.length) (hb : setR L k = false) => (show stripeR ⟨lo, hi, L⟩ = false by
      rw [hS]
      rcases hh : setsR L L.length with _ | _
      · rfl
      · have := setsR_at L L.length k hh h
        rw [hb] at this; cases this))
    have HS := hid hS
    have d1 : decide (hi ≤ lo) = false := decide_eq_false (by omega)
    have d2 : decide ((4611686018427387904 : Int) < hi) = false := decide_eq_false (by omega)
    have d3 : decide ((L.length : Int) < 1) = false := decide_eq_false (by omega)
    have d4 : decide ((8 : Int) < (L.length : Int)) = false := decide_eq_false (by omega)
    have x0 : (w.alloc (.cells #[.int .u64 lo, .int .u64 hi, .slice a L.length c] 155)).cell? ⟨w.heap.size, 2, none⟩ = some (.slice a L.length c) := by simp
    have hb0 : Below w.heap.size w (w.alloc (.cells #[.int .u64 lo, .int .u64 hi, .slice a L.length c] 155)) := by (repeat (first | exact Below.refl _ _ | assumption | (refine below_alloc ?_ _) | (refine Below.setCell ?_ (by first | omega | (simp; done) | (simp; omega)) _) | (refine Below.drew ?_) | (refine below_drewN ?_ _) | (refine below_then (by assumption) ?_)))
    have hs0 : w.heap.size < (w.alloc (.cells #[.int .u64 lo, .int .u64 hi, .slice a L.length c] 155)).heap.size := by simp
    clear hS
    go_enter Tryz.func164, Tryz.ntmps164
    go_wp2_with fail
    generalize (w.alloc (.cells #[.int .u64 lo, .int .u64 hi, .slice a L.length c] 155)) = w0 at *
    have HB0 := hid hb0
    clear hb0
    go_loopw [3] (fun i wr => ∃ k : Nat, k ≤ L.length ∧ i = .int .i64 k ∧ Hid (setsR L k = true) ∧ Below w0.heap.size w0 wr) (fun i _ => L.length - (intOf i).toNat)
    case atStart => exact ⟨0, Nat.zero_le _, rfl, hid rfl, Below.refl _ _⟩
    case round =>
      obtain ⟨k, hk, rfl, hf, hb⟩ := hrel
      have HB := hid hb
      have HBW := hid (HB0.out.trans (hb.mono HB0.out.size))
      have hsz := hb.size
      have X0 := (hb.cell (p := ⟨w.heap.size, 2, none⟩) hs0).trans x0
      by_cases hlt : k < L.length
      · have i1 : (k : Int) < (L.length : Int) := by omega
        have e0 : decide ((k : Int) < (L.length : Int)) = true := decide_eq_true i1
        obtain ⟨b, o, hA, hbb, ak, ck, u0, xl⟩ := set_at (lift HL.out HBW.out) hlt
        subst hA
        obtain ⟨X, hX⟩ : ∃ X, L[k] = X := ⟨_, rfl⟩
        have hset : setR L k = (nodesR X && apartR X (L.take k)) := by unfold setR; rw [getD_at L k [] hlt, hX]
        rw [hX] at u0 xl
        clear hX
        have hbd := HBAD.out k hlt
        have hgd : setR L k = true → setsR L (k + 1) = true := fun h => by show (setsR L k && setR L k) = true; rw [hf.out, h]; rfl
        have hnr : nodesR X = (decide (1 ≤ X.length ∧ X.length ≤ 8) && (risesB X && decide (X.getLastD 0 ≤ 4294967295))) := rfl
        have HR := hid (ref05_rises X ak _ ck wr xl)
        have HT := hid (fun (W : World) (hW : Below wr.heap.size wr W) => ref19_twice L k X (some ⟨b, o, none⟩) _ c ak _ ck W (lift (lift HL.out HBW.out) hW) (lift xl hW) (by omega))
        have hla := last_at X
        have hu := fun (h : 1 ≤ X.length) => u64_at xl (i := X.length - 1) (by omega)
        clear hb xl
        generalize apartR X (L.take k) = ap at *
        by_cases hx1 : 1 ≤ X.length
        · have e1 : decide ((X.length : Int) < 1) = false := decide_eq_false (by omega)
          by_cases hx2 : X.length ≤ 8
          · have e2 : decide ((8 : Int) < (X.length : Int)) = false := decide_eq_false (by omega)
            rw [decide_eq_true (⟨hx1, hx2⟩ : 1 ≤ X.length ∧ X.length ≤ 8), Bool.true_and, hla hx1] at hnr
            obtain ⟨b2, o2, hA2, hbb2, y0, hy0, hy1⟩ := hu hx1
            subst hA2
            rw [hnr] at hset
            clear hu hla hnr
            obtain ⟨m, hm'⟩ : ∃ m, X.length = m + 1 := ⟨X.length - 1, by omega⟩
            simp only [hm', Nat.add_sub_cancel] at hset y0 hy0 hy1 HR HT u0 e1 e2
            have q1 : (0 : Int) ≤ (m : Int) + 1 - 1 := by omega
            have hmm : m ≤ 7 := by omega
            generalize X[m]'(by omega) = y at *
            generalize risesB X = R at *
            clear hx1 hx2 hm'
            cases R
            · have hff : Hid (stripeR ⟨lo, hi, L⟩ = false) := hid (hbd (by rw [hset]; rfl))
              clear hset hbd hgd
              go_wp2_with fail
              refine HR.out.mono ?_
              rintro r w3 ⟨rfl, hb3⟩
              have hbe := below_then hb3 HBW.out
              go_wp2_with fail
              go_ret
              exact ⟨by rw [hff.out]; rfl, hbe⟩
            · by_cases hy : 4294967296 ≤ y
              · have e3 : decide ((4294967296 : Int) ≤ y) = true := decide_eq_true hy
                have hff : Hid (stripeR ⟨lo, hi, L⟩ = false) := hid (hbd (by rw [hset, decide_eq_false (by omega : ¬ y ≤ 4294967295)]; rfl))
                clear hset hbd hgd hy
                go_wp2_with fail
                refine HR.out.mono ?_
                rintro r w3 ⟨rfl, hb3⟩
                have Y0 := (hb3.cell (p := ⟨b2, o2 + m, none⟩) hbb2).trans y0
                have hbe := below_then hb3 HBW.out
                go_wp2_with fail
                go_ret
                exact ⟨by rw [hff.out]; rfl, hbe⟩
              · have e3 : decide ((4294967296 : Int) ≤ y) = false := decide_eq_false hy
                rw [decide_eq_true (by omega : y ≤ 4294967295)] at hset
                have HSE := hid hset
                have HBD := hid hbd
                have HGD := hid hgd
                clear hset hbd hgd hy
                go_wp2_with fail
                refine HR.out.mono ?_
                rintro r w3 ⟨rfl, hb3⟩
                have Y0 := (hb3.cell (p := ⟨b2, o2 + m, none⟩) hbb2).trans y0
                have Z0 := (hb3.cell (p := ⟨w.heap.size, 2, none⟩) (by dsimp only; omega)).trans X0
                have hbe := below_then hb3 HBW.out
                have hbe2 := below_then hb3 HB.out
                have HTT := hid (HT.out w3 hb3)
                clear X0 y0
                cases ap
                · have hff : Hid (stripeR ⟨lo, hi, L⟩ = false) := hid (HBD.out (by rw [HSE.out]; rfl))
                  go_wp2_with fail
                  refine HTT.out.mono ?_
                  rintro r w4 ⟨rfl, hb4⟩
                  have hbf := below_then hb4 hbe
                  go_wp2_with fail
                  go_ret
                  exact ⟨by rw [hff.out]; rfl, hbf⟩
                · have hnx : Hid (setsR L (k + 1) = true) := hid (HGD.out (by rw [HSE.out]; rfl))
                  go_wp2_with fail
                  refine HTT.out.mono ?_
                  rintro r w4 ⟨rfl, hb4⟩
                  have hbf := below_then hb4 hbe2
                  go_wp2_with fail
                  go_roundw
                  case rel => exact ⟨k + 1, by omega, by go_num, hnx, hbf⟩
                  case measure => (simp [intOf]; try omega)
          · have e2 : decide ((8 : Int) < (X.length : Int)) = true := decide_eq_true (by omega)
            have hff : Hid (stripeR ⟨lo, hi, L⟩ = false) := hid (hbd (by rw [hset, hnr, decide_eq_false (fun h => hx2 h.2 : ¬ (1 ≤ X.length ∧ X.length ≤ 8))]; rfl))
            clear hset hbd hgd hnr hla hu hx1 hx2
            go_wp2_with fail
            go_ret
            exact ⟨by rw [hff.out]; rfl, HBW.out⟩
        · have e1 : decide ((X.length : Int) < 1) = true := decide_eq_true (by omega)
          have hff : Hid (stripeR ⟨lo, hi, L⟩ = false) := hid (hbd (by rw [hset, hnr, decide_eq_false (fun h => hx1 h.1 : ¬ (1 ≤ X.length ∧ X.length ≤ 8))]; rfl))
          clear hset hbd hgd hnr hla hu hx1
          go_wp2_with fail
          go_ret
          exact ⟨by rw [hff.out]; rfl, HBW.out⟩
      · obtain rfl : k = L.length := by omega
        have e0 : decide ((L.length : Int) < (L.length : Int)) = false := decide_eq_false (by omega)
        have hff : Hid (stripeR ⟨lo, hi, L⟩ = true) := hid (by rw [HS.out, hf.out])
        clear hb
        go_wp2_with fail
        go_ret
        exact ⟨by rw [hff.out]; rfl, HBW.out⟩
  · by_cases g1 : lo < hi
    · have d1 : decide (hi ≤ lo) = false := decide_eq_false (by omega)
      by_cases g2 : hi ≤ 4611686018427387904
      · have d2 : decide ((4611686018427387904 : Int) < hi) = false := decide_eq_false (by omega)
        by_cases g3 : 1 ≤ L.length
        · have d3 : decide ((L.length : Int) < 1) = false := decide_eq_false (by omega)
          have d4 : decide ((8 : Int) < (L.length : Int)) = true := decide_eq_true (by omega)
          have hff : Hid (stripeR ⟨lo, hi, L⟩ = false) := hid (by unfold stripeR; dsimp only; rw [decide_eq_false hG]; rfl)
          clear hG
          go_enter Tryz.func164, Tryz.ntmps164
          go_wp2_with fail
          go_ret
          exact ⟨by rw [hff.out]; rfl, by (repeat (first | exact Below.refl _ _ | assumption | (refine below_alloc ?_ _) | (refine Below.setCell ?_ (by first | omega | (simp; done) | (simp; omega)) _) | (refine Below.drew ?_) | (refine below_drewN ?_ _) | (refine below_then (by assumption) ?_)))⟩
        · have d3 : decide ((L.length : Int) < 1) = true := decide_eq_true (by omega)
          have hff : Hid (stripeR ⟨lo, hi, L⟩ = false) := hid (by unfold stripeR; dsimp only; rw [decide_eq_false hG]; rfl)
          clear hG
          go_enter Tryz.func164, Tryz.ntmps164
          go_wp2_with fail
          go_ret
          exact ⟨by rw [hff.out]; rfl, by (repeat (first | exact Below.refl _ _ | assumption | (refine below_alloc ?_ _) | (refine Below.setCell ?_ (by first | omega | (simp; done) | (simp; omega)) _) | (refine Below.drew ?_) | (refine below_drewN ?_ _) | (refine below_then (by assumption) ?_)))⟩
      · have d2 : decide ((4611686018427387904 : Int) < hi) = true := decide_eq_true (by omega)
        have hff : Hid (stripeR ⟨lo, hi, L⟩ = false) := hid (by unfold stripeR; dsimp only; rw [decide_eq_false hG]; rfl)
        clear hG
        go_enter Tryz.func164, Tryz.ntmps164
        go_wp2_with fail
        go_ret
        exact ⟨by rw [hff.out]; rfl, by (repeat (first | exact Below.refl _ _ | assumption | (refine below_alloc ?_ _) | (refine Below.setCell ?_ (by first | omega | (simp; done) | (simp; omega)) _) | (refine Below.drew ?_) | (refine below_drewN ?_ _) | (refine below_then (by assumption) ?_)))⟩
    · have d1 : decide (hi ≤ lo) = true := decide_eq_true (by omega)
      have hff : Hid (stripeR ⟨lo, hi, L⟩ = false) := hid (by unfold stripeR; dsimp only; rw [decide_eq_false hG]; rfl)
      clear hG
      go_enter Tryz.func164, Tryz.ntmps164
      go_wp2_with fail
      go_ret
      exact ⟨by rw [hff.out]; rfl, by (repeat (first | exact Below.refl _ _ | assumption | (refine below_alloc ?_ _) | (refine Below.setCell ?_ (by first | omega | (simp; done) | (simp; omega)) _) | (refine Below.drew ?_) | (refine below_drewN ?_ _) | (refine below_then (by assumption) ?_)))⟩
end Go.Proofs.YtlbffbkbkajciaaGreat
namespace Go.Proofs.YtlbffbkbkajciaaGreat
open Go.RowKit Go.Bs Go.Maps
set_option linter.unusedVariables false
set_option linter.unusedSimpArgs false

/-- Where the i-th stripe begins. -/
def startP : Int → List Stripe → Nat → Int
  | p, _, 0 => p
  | _, [], _ + 1 => 0
  | _, s :: l, n + 1 => startP s.hi l n
theorem startP_succ : ∀ (l : List Stripe) (p : Int) (i : Nat) (h : i < l.length), startP p l (i + 1) = l[i].hi
  | [], _, i, h => by simp at h
  | s :: l, p, 0, h => by cases l <;> rfl
  | s :: l, p, i + 1, h => by
    have := startP_succ l s.hi i (by simpa using h)
    simpa [startP] using this
theorem startP_zero (p : Int) (l : List Stripe) : startP p l 0 = p := by cases l <;> rfl
theorem chain_iff : ∀ (l : List Stripe) (p : Int), chainP p l = true ↔ (∀ i (h : i < l.length), stripeR l[i] = true ∧ l[i].lo = startP p l i) ∧ startP p l l.length = 4611686018427387904
  | [], p => by simp [chainP, startP]
  | s :: l, p => by
    simp only [chainP, Bool.and_eq_true, decide_eq_true_eq]
    rw [chain_iff l s.hi]
    constructor
    · rintro ⟨h1, h2, h3, h4⟩
      refine ⟨fun i h => ?_, by simpa [startP] using h4⟩
      rcases i with _ | i
      · exact ⟨h2, h1⟩
      · have := h3 i (by simpa using h)
        simpa [startP] using this
    · rintro ⟨h1, h2⟩
      refine ⟨(h1 0 (by simp)).2, (h1 0 (by simp)).1, fun i h => ?_, by simpa [startP] using h2⟩
      have := h1 (i + 1) (by simpa using h)
      simpa [startP] using this
theorem chain_step (l : List Stripe) (p : Int) (k : Nat) (h : k < l.length) : chainP p (l.drop k) = (decide (l[k].lo = p) && (stripeR l[k] && chainP l[k].hi (l.drop (k + 1)))) := by
  rw [List.drop_eq_getElem_cons h]; rfl
theorem chain_false {l : List Stripe} {p : Int} (k : Nat) (h : k < l.length) (hb : stripeR l[k] = false ∨ l[k].lo ≠ startP p l k) : chainP p l = false := by
  rcases hh : chainP p l with _ | _
  · rfl
  · have := ((chain_iff l p).1 hh).1 k h
    rcases hb with hb | hb
    · rw [this.1] at hb; cases hb
    · exact absurd this.2 hb

set_option maxRecDepth 100000 in
set_option maxHeartbeats 6400000 in
theorem proj_right (ep : Int) (l : List Stripe) (a : Option Addr) (n c : Nat) (w : World) (hl : rStripes.r (· < w.heap.size) w [.slice a n c] l) :
    Calls Tryz.prog 87 #[.agg #[.int .u64 ep, .slice a n c]] w fun r w' => r = .returned (.bool (projR ⟨ep, l⟩)) ∧ Below w.heap.size w w' := by
  obtain ⟨rfl, hm, hcc, hcm⟩ := sl_len hl
  have HL := hid hl
  have HE := hid (fun W : World => epoch_right ep W)
  have hP : projR ⟨ep, l⟩ = (epR ep && (decide (1 ≤ l.length ∧ l.length ≤ 64) && chainP 0 l)) := rfl
  generalize epR ep = E at *
  clear hl
  cases E
  · have hff : Hid (projR ⟨ep, l⟩ = false) := hid (by rw [hP]; rfl)
    clear hP
    go_enter Tryz.func87, Tryz.ntmps87
    go_wp2_with fail
    refine (HE.out _).mono ?_
    rintro r w1 ⟨rfl, rfl⟩
    go_wp2_with fail
    go_ret
    exact ⟨by rw [hff.out]; rfl, by (repeat (first | exact Below.refl _ _ | assumption | (refine below_alloc ?_ _) | (refine Below.setCell ?_ (by first | omega | (simp; done) | (simp; omega)) _) | (refine Below.drew ?_) | (refine below_drewN ?_ _) | (refine below_then (by assumption) ?_)))⟩
  · by_cases h1 : 1 ≤ l.length
    · have d1 : decide ((l.length : Int) < 1) = false := decide_eq_false (by omega)
      by_cases h2 : l.length ≤ 64
      · have d2 : decide ((64 : Int) < (l.length : Int)) = false := decide_eq_false (by omega)
        have hff0 : Hid (projR ⟨ep, l⟩ = chainP 0 (l.drop 0)) := hid (by rw [hP, decide_eq_true (⟨h1, h2⟩ : 1 ≤ l.length ∧ l.length ≤ 64)]; simp)
        have x1 : (w.alloc (.cells #[.int .u64 ep, .slice a l.length c] 30)).cell? ⟨w.heap.size, 1, none⟩ = some (.slice a l.length c) := by simp
        have hb0 : Below w.heap.size w (w.alloc (.cells #[.int .u64 ep, .slice a l.length c] 30)) := by (repeat (first | exact Below.refl _ _ | assumption | (refine below_alloc ?_ _) | (refine Below.setCell ?_ (by first | omega | (simp; done) | (simp; omega)) _) | (refine Below.drew ?_) | (refine below_drewN ?_ _) | (refine below_then (by assumption) ?_)))
        clear hP
        go_enter Tryz.func87, Tryz.ntmps87
        go_wp2_with fail
        refine (HE.out _).mono ?_
        rintro r w1 ⟨rfl, rfl⟩
        go_wp2_with fail
        generalize (w.alloc (.cells #[.int .u64 ep, .slice a l.length c] 30)) = w0 at *
        have HB0 := hid hb0
        clear hb0 x1
        go_loopw [3, 25] (fun f i wr => ∃ (k : Nat) (p : Int), k ≤ l.length ∧ i = .int .i64 k ∧ f = .int .u64 p ∧ Hid (projR ⟨ep, l⟩ = chainP p (l.drop k)) ∧ Below w0.heap.size w0 wr) (fun _ i _ => l.length - (intOf i).toNat)
        case atStart => exact ⟨0, 0, Nat.zero_le _, rfl, rfl, hff0, Below.refl _ _⟩
        case round =>
          obtain ⟨k, p, hk, rfl, rfl, hf, hb⟩ := hrel
          have HBW := hid (HB0.out.trans (hb.mono HB0.out.size))
          have HB := hid hb
          by_cases hlt : k < l.length
          · have i1 : (k : Int) < (l.length : Int) := by omega
            have e0 : decide ((k : Int) < (l.length : Int)) = true := decide_eq_true i1
            obtain ⟨b, o, hA, hbb, ak, ck, u0, u1, u2, ub0, ub1, xl⟩ := stripe_at (lift HL.out HBW.out) hlt
            subst hA
            have hst := hid (chain_step l p k hlt)
            have HR := hid (fun (W : World) (hW : Below wr.heap.size wr W) => stripe_right l[k].lo l[k].hi l[k].sets ak _ ck W (lift xl hW))
            have hbl : b < wr.heap.size := World.block_lt_of_cell? _ _ u0
            clear hb xl
            generalize l[k] = X at *
            have hX : (⟨X.lo, X.hi, X.sets⟩ : Stripe) = X := rfl
            simp only [hX] at HR
            by_cases hlo : X.lo = p
            · have e1 : (X.lo != p) = false := by simp [hlo]
              generalize stripeR X = R at *
              cases R
              · have hff : Hid (projR ⟨ep, l⟩ = false) := hid (by rw [hf.out, hst.out]; simp)
                clear hlo hX
                go_wp2_with fail
                refine (HR.out _ (by (repeat (first | with_reducible exact Below.refl _ _ | with_reducible assumption | (with_reducible refine below_alloc ?_ _) | (with_reducible refine Below.setCell ?_ (by first | omega | (simp; done) | (simp; omega)) _) | (with_reducible refine Below.drew ?_) | (with_reducible refine below_drewN ?_ _) | (refine below_then (by with_reducible assumption) ?_))))).mono ?_
                rintro r w3 ⟨rfl, hb3⟩
                have hbe : Below w0.heap.size w0 w3 := below_then hb3 (below_alloc HB.out _)
                have hbf : Below w.heap.size w w3 := HB0.out.trans (hbe.mono HB0.out.size)
                go_wp2_with fail
                go_ret
                exact ⟨by rw [hff.out]; rfl, hbf⟩
              · have hff : Hid (projR ⟨ep, l⟩ = chainP X.hi (l.drop (k + 1))) := hid (by rw [hf.out, hst.out, decide_eq_true hlo]; rfl)
                clear hlo hX
                go_wp2_with fail
                refine (HR.out _ (by (repeat (first | with_reducible exact Below.refl _ _ | with_reducible assumption | (with_reducible refine below_alloc ?_ _) | (with_reducible refine Below.setCell ?_ (by first | omega | (simp; done) | (simp; omega)) _) | (with_reducible refine Below.drew ?_) | (with_reducible refine below_drewN ?_ _) | (refine below_then (by with_reducible assumption) ?_))))).mono ?_
                rintro r w3 ⟨rfl, hb3⟩
                have z1 := hb3.cell (p := ⟨wr.heap.size, 1, none⟩) (by simp)
                simp at z1
                have hbe : Below w0.heap.size w0 w3 := below_then hb3 (below_alloc HB.out _)
                clear hb3
                go_wp2_with fail
                go_roundw
                case rel => exact ⟨k + 1, X.hi, by omega, by go_num, rfl, hff, hbe⟩
                case measure => (simp [intOf]; try omega)
            · have e1 : (X.lo != p) = true := by simpa using hlo
              have hff : Hid (projR ⟨ep, l⟩ = false) := hid (by rw [hf.out, hst.out, decide_eq_false hlo]; rfl)
              clear hlo hX
              go_wp2_with fail
              go_ret
              exact ⟨by rw [hff.out]; rfl, by have := HBW.out; (repeat (first | with_reducible exact Below.refl _ _ | with_reducible assumption | (with_reducible refine below_alloc ?_ _) | (with_reducible refine Below.setCell ?_ (by first | omega | (simp; done) | (simp; omega)) _) | (with_reducible refine Below.drew ?_) | (with_reducible refine below_drewN ?_ _) | (refine below_then (by with_reducible assumption) ?_)))⟩
          · obtain rfl : k = l.length := by omega
            have e0 : decide ((l.length : Int) < (l.length : Int)) = false := decide_eq_false (by omega)
            have hff : Hid (projR ⟨ep, l⟩ = decide (p = 4611686018427387904)) := hid (by rw [hf.out, List.drop_length]; rfl)
            have hbq : (p == 4611686018427387904) = decide (p = 4611686018427387904) := by
              by_cases h : p = 4611686018427387904
              · subst h; rfl
              · rw [decide_eq_false h]; simpa using h
            generalize decide (p = 4611686018427387904) = Q at *
            clear hb
            go_wp2_with fail
            go_ret
            exact ⟨by rw [hff.out]; first | rfl | (rw [← hbq]; rfl) | (simp only [hbq]; rfl), HBW.out⟩
      · have d2 : decide ((64 : Int) < (l.length : Int)) = true := decide_eq_true (by omega)
        have hff : Hid (projR ⟨ep, l⟩ = false) := hid (by rw [hP, decide_eq_false (fun h => h2 h.2 : ¬ (1 ≤ l.length ∧ l.length ≤ 64))]; rfl)
        clear hP h2
        go_enter Tryz.func87, Tryz.ntmps87
        go_wp2_with fail
        refine (HE.out _).mono ?_
        rintro r w1 ⟨rfl, rfl⟩
        go_wp2_with fail
        go_ret
        exact ⟨by rw [hff.out]; rfl, by (repeat (first | exact Below.refl _ _ | assumption | (refine below_alloc ?_ _) | (refine Below.setCell ?_ (by first | omega | (simp; done) | (simp; omega)) _) | (refine Below.drew ?_) | (refine below_drewN ?_ _) | (refine below_then (by assumption) ?_)))⟩
    · have d1 : decide ((l.length : Int) < 1) = true := decide_eq_true (by omega)
      have hff : Hid (projR ⟨ep, l⟩ = false) := hid (by rw [hP, decide_eq_false (fun h => h1 h.1 : ¬ (1 ≤ l.length ∧ l.length ≤ 64))]; rfl)
      clear hP h1
      go_enter Tryz.func87, Tryz.ntmps87
      go_wp2_with fail
      refine (HE.out _).mono ?_
      rintro r w1 ⟨rfl, rfl⟩
      go_wp2_with fail
      go_ret
      exact ⟨by rw [hff.out]; rfl, by (repeat (first | exact Below.refl _ _ | assumption | (refine below_alloc ?_ _) | (refine Below.setCell ?_ (by first | omega | (simp; done) | (simp; omega)) _) | (refine Below.drew ?_) | (refine below_drewN ?_ _) | (refine below_then (by assumption) ?_)))⟩

set_option maxRecDepth 100000 in
set_option maxHeartbeats 6400000 in
theorem ref20_right (ep : Int) (h0 : 0 ≤ ep) (l : List Stripe) (a : Option Addr) (n c : Nat) (w : World) (hl : rStripes.r (· < w.heap.size) w [.slice a n c] l) :
    Calls Tryz.prog 94 #[.agg #[.int .u64 ep, .slice a n c]] w fun r w' => r = .returned (.bool (projR ⟨ep, l⟩)) ∧ Below w.heap.size w w' := by
  obtain ⟨rfl, hm, hcc, hcm⟩ := sl_len hl
  have HL := hid hl
  have HE := hid (fun W : World => ref17_right ep h0 W)
  have hP : projR ⟨ep, l⟩ = (epR ep && (decide (1 ≤ l.length ∧ l.length ≤ 64) && chainP 0 l)) := rfl
  generalize epR ep = E at *
  clear hl
  cases E
  · have hff : Hid (projR ⟨ep, l⟩ = false) := hid (by rw [hP]; rfl)
    clear hP
    go_enter Tryz.func94, Tryz.ntmps94
    go_wp2_with fail
    refine (HE.out _).mono ?_
    rintro r w1 ⟨rfl, rfl⟩
    go_wp2_with fail
    go_ret
    exact ⟨by rw [hff.out]; rfl, by (repeat (first | exact Below.refl _ _ | assumption | (refine below_alloc ?_ _) | (refine Below.setCell ?_ (by first | omega | (simp; done) | (simp; omega)) _) | (refine Below.drew ?_) | (refine below_drewN ?_ _) | (refine below_then (by assumption) ?_)))⟩
  · by_cases h1 : 1 ≤ l.length
    · have d1 : decide ((l.length : Int) < 1) = false := decide_eq_false (by omega)
      by_cases h2 : l.length ≤ 64
      · have d2 : decide ((64 : Int) < (l.length : Int)) = false := decide_eq_false (by omega)
        have hff0 : projR ⟨ep, l⟩ = chainP 0 l := by rw [hP, decide_eq_true (⟨h1, h2⟩ : 1 ≤ l.length ∧ l.length ≤ 64)]; simp
        have hp0 : 0 < l.length := by omega
        obtain ⟨b, o, hA, hbb, _, _, p0, _, _, _, _, _⟩ := stripe_at HL.out hp0
        obtain ⟨m, hmm⟩ : ∃ m, l.length = m + 1 := ⟨l.length - 1, by omega⟩
        have hpm : m < l.length := by omega
        obtain ⟨b', o', hA', hbb', _, _, _, q1, _, _, _, _⟩ := stripe_at HL.out hpm
        rw [hA] at hA'
        simp only [Option.some.injEq, Addr.mk.injEq] at hA'
        obtain ⟨rfl, rfl, _⟩ := hA'
        have HA := hid hA
        have hc0 : chainP 0 l = true → (l[0]'hp0).lo = 0 := fun h => (((chain_iff l 0).1 h).1 0 hp0).2.trans (startP_zero 0 l)
        have hcm' : startP 0 l l.length = (l[m]'hpm).hi := (congrArg (startP 0 l) hmm).trans (startP_succ l 0 m hpm)
        have hcl : chainP 0 l = true → (l[m]'hpm).hi = 4611686018427387904 := fun h => by rw [← hcm']; exact ((chain_iff l 0).1 h).2
        have hok : (∀ i (h : i < l.length), stripeR l[i] = true ∧ l[i].lo = startP 0 l i) → (l[m]'hpm).hi = 4611686018427387904 → chainP 0 l = true := fun h h' => (chain_iff l 0).2 ⟨h, by rw [hcm']; exact h'⟩
        have HOK := hid hok
        have HBAD := hid (fun (k : Nat) (h : k < l.length) (hb : stripeR l[k] = false ∨ l[k].lo ≠ startP 0 l k) => chain_false (p := 0) k h hb)
        have HFF := hid hff0
        simp only [Nat.zero_mul, Nat.add_zero] at p0
        have hnot0 : (l[0]'hp0).lo ≠ 0 → Hid (projR ⟨ep, l⟩ = false) := fun h => hid (by rw [hff0]; exact eq_false_of_ne_true fun e => h (hc0 e))
        have hnotl : (l[m]'hpm).hi ≠ 4611686018427387904 → Hid (projR ⟨ep, l⟩ = false) := fun h => hid (by rw [hff0]; exact eq_false_of_ne_true fun e => h (hcl e))
        have x1 : (w.alloc (.cells #[.int .u64 ep, .slice a l.length c] 30)).cell? ⟨w.heap.size, 1, none⟩ = some (.slice a l.length c) := by simp
        have hb0 : Below w.heap.size w (w.alloc (.cells #[.int .u64 ep, .slice a l.length c] 30)) := by (repeat (first | exact Below.refl _ _ | assumption | (refine below_alloc ?_ _) | (refine Below.setCell ?_ (by first | omega | (simp; done) | (simp; omega)) _) | (refine Below.drew ?_) | (refine below_drewN ?_ _) | (refine below_then (by assumption) ?_)))
        have hs0 : w.heap.size < (w.alloc (.cells #[.int .u64 ep, .slice a l.length c] 30)).heap.size := by simp
        have P0 := (hb0.cell (p := ⟨b, o, none⟩) hbb).trans p0
        have Q1 := (hb0.cell (p := ⟨b, o + m * 3 + 1, none⟩) hbb).trans q1
        generalize hzz : l[0]'hp0 = Z at *
        generalize hyy : (l[m]'hpm).hi = hY at *
        have HM := hid hmm
        have HPP := hid (And.intro hp0 hpm)
        have HLM := hid hcm'
        have hm64 : m ≤ 63 := by omega
        have HZZ := hid hzz
        clear hP hff0 hc0 hcl hcm' hok p0 q1 hzz hyy h1 h2
        subst hA
        have j1 : (0 : Int) ≤ (m : Int) + 1 - 1 := by omega
        rw [hmm] at x1 hb0 hs0 P0 Q1 d1 d2 ⊢
        clear hmm
        by_cases hz0 : Z.lo = 0
        · have e0 : (Z.lo != 0) = false := by simp [hz0]
          by_cases hym : hY = 4611686018427387904
          · have e1 : (hY != 4611686018427387904) = false := by simp [hym]
            have HY := hid hym
            have HZ0 := hid hz0
            clear hz0 hym hnot0 hnotl
            go_enter Tryz.func94, Tryz.ntmps94
            go_wp2_with fail
            refine (HE.out _).mono ?_
            rintro r w1 ⟨rfl, rfl⟩
            go_wp2_with fail
            generalize (w.alloc (.cells #[.int .u64 ep, .slice (some ⟨b, o, none⟩) (m + 1) c] 30)) = w0 at *
            have HB0 := hid hb0
            clear hb0 P0 Q1
            go_loopw [4] (fun i wr => ∃ k : Nat, k ≤ m + 1 ∧ i = .int .i64 k ∧ Hid (∀ i, i < k → ∀ (h : i < l.length), stripeR l[i] = true ∧ l[i].lo = startP 0 l i) ∧ Below w0.heap.size w0 wr) (fun i _ => m + 1 - (intOf i).toNat)
            case atStart => exact ⟨0, Nat.zero_le _, rfl, hid (fun i hi => by omega), Below.refl _ _⟩
            case round =>
              obtain ⟨k, hk, rfl, hf, hb⟩ := hrel
              have HBW := hid (HB0.out.trans (hb.mono HB0.out.size))
              have HB := hid hb
              by_cases hlt : k < m + 1
              · have i1 : (k : Int) < (m : Int) + 1 := by omega
                have e3 : decide ((k : Int) < (m : Int) + 1) = true := decide_eq_true i1
                have hll : k < l.length := by rw [HM.out]; exact hlt
                obtain ⟨b2, o2, hA2, hbb2, ak, ck, u0, u1, u2, ub0, ub1, xl⟩ := stripe_at HL.out hll
                simp only [Option.some.injEq, Addr.mk.injEq, and_true] at hA2
                obtain ⟨rfl, rfl⟩ := hA2
                have hbd := HBAD.out k hll
                have hss : ∀ j, k = j + 1 → ∃ h : j < l.length, startP 0 l k = l[j].hi := fun j e => by subst e; exact ⟨by omega, startP_succ l 0 j (by omega)⟩
                have hs00 : k = 0 → startP 0 l k = 0 := fun e => by subst e; cases l <;> rfl
                have hnx : stripeR l[k] = true → l[k].lo = startP 0 l k → ∀ i, i < k + 1 → ∀ (h : i < l.length), stripeR l[i] = true ∧ l[i].lo = startP 0 l i := fun h1 h2 i hi h => by
                  rcases Nat.lt_or_ge i k with h3 | h3
                  · exact hf.out i h3 h
                  · obtain rfl : i = k := by omega
                    exact ⟨h1, h2⟩
                have HR := hid (fun (s : Later wr) => ref19_right l[k].lo l[k].hi l[k].sets ak _ ck s.at_ (lift (lift xl HBW.out) s.below))
                have W1 := (hb.cell (p := ⟨w.heap.size, 1, none⟩) hs0).trans x1
                have X1 := fun s : Later wr => s.cell W1
                have U0 := fun s : Later wr => s.cell ((HBW.out.cell (p := ⟨b, o + k * 3, none⟩) hbb2).trans u0)
                have U1 := fun s : Later wr => s.cell ((HBW.out.cell (p := ⟨b, o + k * 3 + 1, none⟩) hbb2).trans u1)
                have U2 := fun s : Later wr => s.cell ((HBW.out.cell (p := ⟨b, o + k * 3 + 2, none⟩) hbb2).trans u2)
                have hx0 : k = 0 → l[k].lo = 0 := fun e => by subst e; rw [HZZ.out]; exact HZ0.out
                have HX0 := hid hx0
                have HBD := hid hbd
                have HNX := hid hnx
                clear hb xl u0 u1 u2 ub0 ub1 hbd hnx hx0
                generalize l[k] = X at *
                simp only [show (⟨X.lo, X.hi, X.sets⟩ : Stripe) = X from rfl] at HR
                generalize stripeR X = R at *
                cases R
                · have hff : Hid (projR ⟨ep, l⟩ = false) := hid (by rw [HFF.out]; exact HBD.out (.inl rfl))
                  clear hss hs00
                  go_wp2_with fail
                  refine wp_region_later (by kernel_rfl) (by kernel_rfl) ?_
                  repeat (go_big_quiet_step (((go_at_call 164; exact later_of (HR.out _)))))
                  refine wpQuiet_nil ?_
                  rintro W5 ⟨⟨W5', hb5⟩, rfl⟩
                  go_wp2_with fail
                  go_ret
                  exact ⟨by rw [hff.out]; rfl, below_then hb5 HBW.out⟩
                · rcases k with _ | j
                  · have hff : Hid (∀ i, i < 0 + 1 → ∀ (h : i < l.length), stripeR l[i] = true ∧ l[i].lo = startP 0 l i) := hid (HNX.out rfl ((HX0.out rfl).trans (hs00 rfl).symm))
                    simp only [Nat.zero_mul, Nat.add_zero] at U0 U1 U2
                    clear hss hs00
                    go_wp2_with fail
                    refine wp_region_later (by kernel_rfl) (by kernel_rfl) ?_
                    repeat (go_big_quiet_step (((go_at_call 164; exact later_of (HR.out _)))))
                    refine wpQuiet_nil ?_
                    rintro W5 ⟨⟨W5', hb5⟩, rfl⟩
                    go_wp2_with fail
                    go_roundw
                    case rel => exact ⟨1, by omega, rfl, hff, below_then hb5 HB.out⟩
                    case measure => (simp [intOf]; try omega)
                  · obtain ⟨hj, hsj⟩ := hss j rfl
                    obtain ⟨b3, o3, hA3, hbb3, _, _, _, t1, _, _, _, _⟩ := stripe_at HL.out hj
                    simp only [Option.some.injEq, Addr.mk.injEq, and_true] at hA3
                    obtain ⟨rfl, rfl⟩ := hA3
                    have T1 := fun s : Later wr => s.cell ((HBW.out.cell (p := ⟨b, o + j * 3 + 1, none⟩) hbb3).trans t1)
                    have HSJ := hid hsj
                    clear hss hs00 hsj t1
                    generalize l[j].hi = y at *
                    rw [show ((j + 1 : Nat) : Int) = (j : Int) + 1 from by omega]
                    have k1 : decide ((0 : Int) < (j : Int) + 1) = true := decide_eq_true (by omega)
                    have k2 : (0 : Int) ≤ (j : Int) + 1 - 1 := by omega
                    have k3 : (j : Int) + 1 < (m : Int) + 1 := by omega
                    have k4 : (j : Int) < (m : Int) + 1 := by omega
                    have k5 : decide ((j : Int) + 1 < (m : Int) + 1) = true := decide_eq_true k3
                    by_cases hxy : X.lo = y
                    · have e5 : (X.lo != y) = false := by simp [hxy]
                      have hff : Hid (∀ i, i < j + 1 + 1 → ∀ (h : i < l.length), stripeR l[i] = true ∧ l[i].lo = startP 0 l i) := hid (HNX.out rfl (hxy.trans HSJ.out.symm))
                      clear hxy
                      go_wp2_with fail
                      refine wp_region_later (by kernel_rfl) (by kernel_rfl) ?_
                      repeat (go_big_quiet_step (((go_at_call 164; exact later_of (HR.out _)))))
                      refine wpQuiet_nil ?_
                      rintro W5 ⟨⟨W5', hb5⟩, rfl⟩
                      go_wp2_with fail
                      go_roundw
                      case rel => exact ⟨j + 1 + 1, by omega, by go_num, hff, below_then hb5 HB.out⟩
                      case measure => (simp [intOf]; try omega)
                    · have e5 : (X.lo != y) = true := by simpa using hxy
                      have hff : Hid (projR ⟨ep, l⟩ = false) := hid (by rw [HFF.out]; exact HBD.out (.inr (by rw [HSJ.out]; exact hxy)))
                      clear hxy
                      go_wp2_with fail
                      refine wp_region_later (by kernel_rfl) (by kernel_rfl) ?_
                      repeat (go_big_quiet_step (((go_at_call 164; exact later_of (HR.out _)))))
                      refine wpQuiet_nil ?_
                      rintro W5 ⟨⟨W5', hb5⟩, rfl⟩
                      go_wp2_with fail
                      go_ret
                      exact ⟨by rw [hff.out]; rfl, below_then hb5 HBW.out⟩
              · obtain rfl : k = m + 1 := by omega
                have e3 : decide ((m : Int) + 1 < (m : Int) + 1) = false := decide_eq_false (by omega)
                have hff : Hid (projR ⟨ep, l⟩ = true) := hid (by rw [HFF.out]; exact HOK.out (fun i h => hf.out i (by rw [← HM.out]; exact h) h) HY.out)
                clear hb
                go_wp2_with fail
                go_ret
                exact ⟨by rw [hff.out]; rfl, HBW.out⟩
          · have e1 : (hY != 4611686018427387904) = true := by simpa using hym
            have hff := hnotl hym
            clear hz0 hym hnot0 hnotl
            go_enter Tryz.func94, Tryz.ntmps94
            go_wp2_with fail
            refine (HE.out _).mono ?_
            rintro r w1 ⟨rfl, rfl⟩
            go_wp2_with fail
            go_ret
            exact ⟨by rw [hff.out]; rfl, hb0⟩
        · have e0 : (Z.lo != 0) = true := by simpa using hz0
          have hff := hnot0 hz0
          clear hz0 hnot0 hnotl
          go_enter Tryz.func94, Tryz.ntmps94
          go_wp2_with fail
          refine (HE.out _).mono ?_
          rintro r w1 ⟨rfl, rfl⟩
          go_wp2_with fail
          go_ret
          exact ⟨by rw [hff.out]; rfl, hb0⟩
      · have d2 : decide ((64 : Int) < (l.length : Int)) = true := decide_eq_true (by omega)
        have hff : Hid (projR ⟨ep, l⟩ = false) := hid (by rw [hP, decide_eq_false (fun h => h2 h.2 : ¬ (1 ≤ l.length ∧ l.length ≤ 64))]; rfl)
        clear hP h2
        go_enter Tryz.func94, Tryz.ntmps94
        go_wp2_with fail
        refine (HE.out _).mono ?_
        rintro r w1 ⟨rfl, rfl⟩
        go_wp2_with fail
        go_ret
        exact ⟨by rw [hff.out]; rfl, by (repeat (first | exact Below.refl _ _ | assumption | (refine below_alloc ?_ _) | (refine Below.setCell ?_ (by first | omega | (simp; done) | (simp; omega)) _) | (refine Below.drew ?_) | (refine below_drewN ?_ _) | (refine below_then (by assumption) ?_)))⟩
    · have d1 : decide ((l.length : Int) < 1) = true := decide_eq_true (by omega)
      have hff : Hid (projR ⟨ep, l⟩ = false) := hid (by rw [hP, decide_eq_false (fun h => h1 h.1 : ¬ (1 ≤ l.length ∧ l.length ≤ 64))]; rfl)
      clear hP h1
      go_enter Tryz.func94, Tryz.ntmps94
      go_wp2_with fail
      refine (HE.out _).mono ?_
      rintro r w1 ⟨rfl, rfl⟩
      go_wp2_with fail
      go_ret
      exact ⟨by rw [hff.out]; rfl, by (repeat (first | exact Below.refl _ _ | assumption | (refine below_alloc ?_ _) | (refine Below.setCell ?_ (by first | omega | (simp; done) | (simp; omega)) _) | (refine Below.drew ?_) | (refine below_drewN ?_ _) | (refine below_then (by assumption) ?_)))⟩
end Go.Proofs.YtlbffbkbkajciaaGreat
