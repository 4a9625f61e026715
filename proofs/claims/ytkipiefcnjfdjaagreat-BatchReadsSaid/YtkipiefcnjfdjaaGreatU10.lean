/- Needed by batchReads_walk, part 10: texts put together by shake.py; no condition. -/
import Derived.Test.YtkipiefcnjfdjaaGreatU9
import Derived.Test.YtkipiefcnjfdjaaGreatU8
import Derived.Test.YtkipiefcnjfdjaaGreatU6
import Derived.Lib.SlBytesConst
import Derived.Test.YtkipiefcnjfdjaaGreatU7
import Derived.Deep.RegionHeld3
import Derived.Test.YtkipiefcnjfdjaaGreatU4
import Derived.Test.YtkipiefcnjfdjaaGreatU3
import Derived.Test.YtkipiefcnjfdjaaGreatU1
import Derived.Laws.Bits64
namespace Go.Proofs.YtkipiefcnjfdjaaGreat
open Go.RowKit Go.Bs Go.Maps
set_option linter.unusedVariables false
set_option linter.unusedSimpArgs false
def decB (B : List UInt8) (blk : Rs → Rs × List UInt8 × Bool) : Rs × Batch × Bool :=
 if ((Rs.batch B blk ⟨0, 0, 0⟩).1.fin B.length).k = 0 then ((Rs.batch B blk ⟨0, 0, 0⟩).1.fin B.length, (Rs.batch B blk ⟨0, 0, 0⟩).2) else ((Rs.batch B blk ⟨0, 0, 0⟩).1.fin B.length, noBatch, false)
set_option maxRecDepth 100000 in
set_option maxHeartbeats 6400000 in
theorem batch_decode (w : World) (B : List UInt8) (a : Option Addr) (n c : Nat) (hl : rBytes.r (· < w.heap.size) w [.slice a n c] B) (hB : B.length ≤ 1000000000) :
  Calls Tryz.prog 35 #[.slice a n c] w fun r w' => ∃ v, r = .returned (.tuple #[.agg #[.int .u64 (decB B (blkS B)).2.1.epoch, .int .u64 (decB B (blkS B)).2.1.base, v], .agg #[.int .i64 (decB B (blkS B)).1.k, .int .i64 (decB B (blkS B)).1.f]]) ∧ rEntriesW.r (Fresh w w') w' [v] (decB B (blkS B)).2.1.entries ∧ Below w.heap.size w w' := by
 obtain ⟨rfl, hmx, hcc, hcm⟩ := sl_len hl
 have HN := hid (rd_new ((w.alloc (.cells #[.int .u64 0, .int .u64 0, .slice none 0 0] 25)).alloc (.cells #[.int .i64 0, .int .i64 0] 48)) B a _ c (lift hl (by (repeat first | with_reducible (first | exact zR | assumption | apply zA | apply zS | apply zD | apply zN) | refine zT (by with_reducible assumption) ?_ | omega | simp <;> omega))))
 have hRD := fun (W : World) (h : RdAt W (w.heap.size + 1 + 1) B a ⟨0, 0, 0⟩) => batch_read W h hB
 have hok : ((Rs.batch B (blkS B) ⟨0, 0, 0⟩).1.fin B.length).ok B.length ∨ True := .inr trivial
 unfold decB
 generalize hZ : Rs.batch B (blkS B) ⟨0, 0, 0⟩ = Z at *
 obtain ⟨s1, b, q⟩ := Z
 obtain ⟨e, p, E⟩ := b
 dsimp only at *
 generalize hu : s1.fin B.length = u at *
 have HU := hid hu
 have HRD := hid hRD
 clear hl hZ hok hRD hu
 by_cases hk : u.k = 0
 ·simp only [if_pos hk]
  have d1 : decide (u.k = 0) = true := decide_eq_true hk
  have HK := hid hk
  clear hk
  go_enter Tryz.func35, Tryz.ntmps35
  go_wp2_with fail
  refine HN.out.mono ?_
  rintro r w1 ⟨rfl, hrd, hb1⟩
  have R1 : Blk w1 w.heap.size 25 #[.int .u64 0, .int .u64 0, .slice none 0 0] := Blk.later (by (repeat first | assumption | exact kW (by first | (simp; done) | (simp; omega)) | apply kA | apply kD | apply kN | apply kF | simp <;> omega)) hb1
  have F1 : Blk w1 (w.heap.size + 1) 48 #[.int .i64 0, .int .i64 0] := Blk.later (by (repeat first | assumption | exact kW (by first | (simp; done) | (simp; omega)) | apply kA | apply kD | apply kN | apply kF | simp <;> omega)) hb1
  have hbw1 : Below w.heap.size w w1 := by (repeat first | with_reducible (first | exact zR | assumption | apply zA | apply zS | apply zD | apply zN) | refine zT (by with_reducible assumption) ?_ | omega | simp <;> omega)
  simp at hrd
  have HIN1 := hid (RdInv.refl hrd)
  have hg := hrd.blk.lt
  clear hb1
  go_wp2_with fail
  refine (HRD.out w1 hrd).mono ?_
  rintro r w2 ⟨v2, rfl, hv2, hst2⟩
  obtain ⟨a2, c2, hfv, _, _⟩ := sl_form (entriesW_entries hv2)
  simp only [List.cons.injEq, and_true] at hfv
  subst hfv
  have R2 := R1.tch hst2.2 (by omega)
  have F2 := F1.tch hst2.2 (by omega)
  have HIN2 := hid (HIN1.out.step hst2)
  have hz2 := HIN2.out.tch.size
  have HV2 := hid hv2
  clear hrd hv2 hst2 R1 F1
  go_wp2_with fail
  refine (rd_end _ (HIN2.out.row ((by (repeat first | with_reducible (first | exact zR | assumption | apply zA | apply zS | apply zD | apply zN) | refine zT (by with_reducible assumption) ?_ | omega | simp <;> omega) : Below w2.heap.size w2 _).mono hz2)).rd).mono ?_
  rintro r w3 ⟨rfl, hst3⟩
  rw [HU.out] at hst3
  have E3 : Blk w3 w2.heap.size 25 #[.int .u64 e, .int .u64 p, .slice a2 E.length c2] := Blk.tch (by (repeat first | assumption | exact kW (by first | (simp; done) | (simp; omega)) | apply kA | apply kD | apply kN | apply kF | simp <;> omega)) hst3.2 (by omega)
  have R3 : Blk w3 w.heap.size 25 #[.int .u64 0, .int .u64 0, .slice none 0 0] := Blk.tch (Blk.later R2 (by (repeat first | with_reducible (first | exact zR | assumption | apply zA | apply zS | apply zD | apply zN) | refine zT (by with_reducible assumption) ?_ | omega | simp <;> omega) : Below w2.heap.size w2 _)) hst3.2 (by omega)
  have F3 : Blk w3 (w.heap.size + 1) 48 #[.int .i64 0, .int .i64 0] := Blk.tch (Blk.later F2 (by (repeat first | with_reducible (first | exact zR | assumption | apply zA | apply zS | apply zD | apply zN) | refine zT (by with_reducible assumption) ?_ | omega | simp <;> omega) : Below w2.heap.size w2 _)) hst3.2 (by omega)
  have HIN3 := hid ((HIN2.out.row ((by (repeat first | with_reducible (first | exact zR | assumption | apply zA | apply zS | apply zD | apply zN) | refine zT (by with_reducible assumption) ?_ | omega | simp <;> omega) : Below w2.heap.size w2 _).mono hz2)).step hst3)
  have hT3 : Tch (· = w.heap.size + 1 + 1) w2 w3 := (Tch.of_later (F := (· = w.heap.size + 1 + 1)) (by (repeat first | with_reducible (first | exact zR | assumption | apply zA | apply zS | apply zD | apply zN) | refine zT (by with_reducible assumption) ?_ | omega | simp <;> omega) : Below w2.heap.size w2 _)).trans hst3.2 fun b _ h => h
  have HT3 := hid hT3
  have hz3 := HIN3.out.tch.size
  have hs3 := hT3.size
  clear hst3 hT3 R2 F2
  go_wp2_with fail
  refine (rd_fault w3 HIN3.out.rd).mono ?_
  rintro r w4 ⟨rfl, hb4⟩
  have E4 := E3.later hb4
  have R4 := R3.later hb4
  have F4 := F3.later hb4
  have hG := fault_good (w4.alloc (.cells #[.int .i64 u.k, .int .i64 u.f] 48)) u.k u.f
  rw [d1] at hG
  have HG := hid hG
  have hs4 := hb4.size
  have HB4 := hid hb4
  clear hG d1 hb4 E3 R3 F3
  go_wp2_with fail
  refine HG.out.mono ?_
  rintro r w5 ⟨rfl, hb5⟩
  have E5 := (E4.alloc (.cells #[.int .i64 u.k, .int .i64 u.f] 48)).later hb5
  have R5 := (R4.alloc (.cells #[.int .i64 u.k, .int .i64 u.f] 48)).later hb5
  have F5 := (F4.alloc (.cells #[.int .i64 u.k, .int .i64 u.f] 48)).later hb5
  have X5 := Blk.later (Blk.newAt w4 _ _ rfl) hb5
  have hb45 : Below w4.heap.size w4 w5 := by (repeat first | with_reducible (first | exact zR | assumption | apply zA | apply zS | apply zD | apply zN) | refine zT (by with_reducible assumption) ?_ | omega | simp <;> omega)
  have hb35 : Below w3.heap.size w3 w5 := below_then hb45 HB4.out
  have hs5 := hb45.size
  obtain ⟨e0, e1, e2, _, _, _, le⟩ := b_blk E5
  obtain ⟨r0, r1, r2, t0, t1, t2, lr⟩ := b_blk R5
  obtain ⟨f0, f1, g0, g1, lf⟩ := f_blk F5
  have hbw5 : Below w.heap.size w w5 := hbw1.trans ((HIN2.out.tch.trans HT3.out fun b _ h => h).to_below (by omega) (fun b _ h => by omega) |>.trans (hb35.mono (by omega)))
  clear E4 R4 F4 hb5
  have HF0 := hid (HIN3.out.rd.ok.zero HK.out)
  go_wp2
  obtain ⟨v0, v1, v2, _, _, _, lF⟩ := b_blk (Blk.far (Blk.far (((R5.set 0 (.int .u64 e)).set 1 (.int .u64 p)).set 2 (.slice a2 E.length c2)) (p := ⟨w.heap.size + 1, 0, none⟩) (by dsimp only; omega) (.int .i64 0)) (p := ⟨w.heap.size + 1, 1, none⟩) (by dsimp only; omega) (.int .i64 0))
  obtain ⟨x0, x1, _, _, lX⟩ := f_blk (((Blk.far (Blk.far (Blk.far F5 (p := ⟨w.heap.size, 0, none⟩) (by dsimp only; omega) (.int .u64 e)) (p := ⟨w.heap.size, 1, none⟩) (by dsimp only; omega) (.int .u64 p)) (p := ⟨w.heap.size, 2, none⟩) (by dsimp only; omega) (.slice a2 E.length c2)).set 0 (.int .i64 0)).set 1 (.int .i64 0))
  refine bodyPost_ret (v := .tuple #[.agg #[.int .u64 e, .int .u64 p, .slice a2 E.length c2], .agg #[.int .i64 0, .int .i64 0]]) (by simp [results, Tryz.results35, go_sem, v0, v1, v2, x0, x1, lF, lX]) rfl ⟨_, by rw [HK.out, HF0.out], ?_, by (repeat first | with_reducible (first | exact zR | assumption | apply zA | apply zS | apply zD | apply zN) | refine zT (by with_reducible assumption) ?_ | omega | simp <;> omega)⟩
  refine rEntriesW.mono (rEntriesW.keep HV2.out fun b hb => ?_) fun b hb => ⟨by have := hb.1; have := hbw1.size; omega, by have := hb.2; simp; omega⟩
  have h1 : w1.heap.size ≤ b := hb.1
  have h2 : b < w2.heap.size := hb.2
  (repeat rw [Below.heap_setCell _ _ _ _ (by dsimp only; omega)])
  exact (hb35.block b (by omega)).trans (HT3.out.block b h2 (by omega))
 ·simp only [if_neg hk]
  have d1 : decide (u.k = 0) = false := decide_eq_false hk
  clear hk
  go_enter Tryz.func35, Tryz.ntmps35
  go_wp2_with fail
  refine HN.out.mono ?_
  rintro r w1 ⟨rfl, hrd, hb1⟩
  have R1 : Blk w1 w.heap.size 25 #[.int .u64 0, .int .u64 0, .slice none 0 0] := Blk.later (by (repeat first | assumption | exact kW (by first | (simp; done) | (simp; omega)) | apply kA | apply kD | apply kN | apply kF | simp <;> omega)) hb1
  have F1 : Blk w1 (w.heap.size + 1) 48 #[.int .i64 0, .int .i64 0] := Blk.later (by (repeat first | assumption | exact kW (by first | (simp; done) | (simp; omega)) | apply kA | apply kD | apply kN | apply kF | simp <;> omega)) hb1
  have hbw1 : Below w.heap.size w w1 := by (repeat first | with_reducible (first | exact zR | assumption | apply zA | apply zS | apply zD | apply zN) | refine zT (by with_reducible assumption) ?_ | omega | simp <;> omega)
  simp at hrd
  have HIN1 := hid (RdInv.refl hrd)
  have hg := hrd.blk.lt
  clear hb1
  go_wp2_with fail
  refine (HRD.out w1 hrd).mono ?_
  rintro r w2 ⟨v2, rfl, hv2, hst2⟩
  obtain ⟨a2, c2, hfv, _, _⟩ := sl_form (entriesW_entries hv2)
  simp only [List.cons.injEq, and_true] at hfv
  subst hfv
  have R2 := R1.tch hst2.2 (by omega)
  have F2 := F1.tch hst2.2 (by omega)
  have HIN2 := hid (HIN1.out.step hst2)
  have hz2 := HIN2.out.tch.size
  have HV2 := hid hv2
  clear hrd hv2 hst2 R1 F1
  go_wp2_with fail
  refine (rd_end _ (HIN2.out.row ((by (repeat first | with_reducible (first | exact zR | assumption | apply zA | apply zS | apply zD | apply zN) | refine zT (by with_reducible assumption) ?_ | omega | simp <;> omega) : Below w2.heap.size w2 _).mono hz2)).rd).mono ?_
  rintro r w3 ⟨rfl, hst3⟩
  rw [HU.out] at hst3
  have E3 : Blk w3 w2.heap.size 25 #[.int .u64 e, .int .u64 p, .slice a2 E.length c2] := Blk.tch (by (repeat first | assumption | exact kW (by first | (simp; done) | (simp; omega)) | apply kA | apply kD | apply kN | apply kF | simp <;> omega)) hst3.2 (by omega)
  have R3 : Blk w3 w.heap.size 25 #[.int .u64 0, .int .u64 0, .slice none 0 0] := Blk.tch (Blk.later R2 (by (repeat first | with_reducible (first | exact zR | assumption | apply zA | apply zS | apply zD | apply zN) | refine zT (by with_reducible assumption) ?_ | omega | simp <;> omega) : Below w2.heap.size w2 _)) hst3.2 (by omega)
  have F3 : Blk w3 (w.heap.size + 1) 48 #[.int .i64 0, .int .i64 0] := Blk.tch (Blk.later F2 (by (repeat first | with_reducible (first | exact zR | assumption | apply zA | apply zS | apply zD | apply zN) | refine zT (by with_reducible assumption) ?_ | omega | simp <;> omega) : Below w2.heap.size w2 _)) hst3.2 (by omega)
  have HIN3 := hid ((HIN2.out.row ((by (repeat first | with_reducible (first | exact zR | assumption | apply zA | apply zS | apply zD | apply zN) | refine zT (by with_reducible assumption) ?_ | omega | simp <;> omega) : Below w2.heap.size w2 _).mono hz2)).step hst3)
  have hT3 : Tch (· = w.heap.size + 1 + 1) w2 w3 := (Tch.of_later (F := (· = w.heap.size + 1 + 1)) (by (repeat first | with_reducible (first | exact zR | assumption | apply zA | apply zS | apply zD | apply zN) | refine zT (by with_reducible assumption) ?_ | omega | simp <;> omega) : Below w2.heap.size w2 _)).trans hst3.2 fun b _ h => h
  have HT3 := hid hT3
  have hz3 := HIN3.out.tch.size
  have hs3 := hT3.size
  clear hst3 hT3 R2 F2
  go_wp2_with fail
  refine (rd_fault w3 HIN3.out.rd).mono ?_
  rintro r w4 ⟨rfl, hb4⟩
  have E4 := E3.later hb4
  have R4 := R3.later hb4
  have F4 := F3.later hb4
  have hG := fault_good (w4.alloc (.cells #[.int .i64 u.k, .int .i64 u.f] 48)) u.k u.f
  rw [d1] at hG
  have HG := hid hG
  have hs4 := hb4.size
  have HB4 := hid hb4
  clear hG d1 hb4 E3 R3 F3
  go_wp2_with fail
  refine HG.out.mono ?_
  rintro r w5 ⟨rfl, hb5⟩
  have E5 := (E4.alloc (.cells #[.int .i64 u.k, .int .i64 u.f] 48)).later hb5
  have R5 := (R4.alloc (.cells #[.int .i64 u.k, .int .i64 u.f] 48)).later hb5
  have F5 := (F4.alloc (.cells #[.int .i64 u.k, .int .i64 u.f] 48)).later hb5
  have X5 := Blk.later (Blk.newAt w4 _ _ rfl) hb5
  have hb45 : Below w4.heap.size w4 w5 := by (repeat first | with_reducible (first | exact zR | assumption | apply zA | apply zS | apply zD | apply zN) | refine zT (by with_reducible assumption) ?_ | omega | simp <;> omega)
  have hb35 : Below w3.heap.size w3 w5 := below_then hb45 HB4.out
  have hs5 := hb45.size
  obtain ⟨e0, e1, e2, _, _, _, le⟩ := b_blk E5
  obtain ⟨r0, r1, r2, t0, t1, t2, lr⟩ := b_blk R5
  obtain ⟨f0, f1, g0, g1, lf⟩ := f_blk F5
  have hbw5 : Below w.heap.size w w5 := hbw1.trans ((HIN2.out.tch.trans HT3.out fun b _ h => h).to_below (by omega) (fun b _ h => by omega) |>.trans (hb35.mono (by omega)))
  clear E4 R4 F4 hb5
  obtain ⟨z0, z1, _, _, lz⟩ := f_blk X5
  clear X5 E5 R5 F5
  go_wp2_with fail
  go_region
  all_goals
   go_wp2
   refine bodyPost_ret (v := .tuple #[.agg #[.int .u64 0, .int .u64 0, .slice none 0 0], .agg #[.int .i64 u.k, .int .i64 u.f]]) (by simp [results, Tryz.results35, go_sem, r0, r1, r2, t0, t1, t2, f0, f1, g0, g1, lr, lf]) rfl ⟨_, rfl, ⟨none, 0, rfl, Nat.le_refl _, Nat.zero_le _, .inl rfl⟩, by (repeat first | with_reducible (first | exact zR | assumption | apply zA | apply zS | apply zD | apply zN) | refine zT (by with_reducible assumption) ?_ | omega | simp <;> omega)⟩
set_option maxRecDepth 100000 in
set_option maxHeartbeats 6400000 in
theorem batch_decodeloose (w : World) (B : List UInt8) (a : Option Addr) (n c : Nat) (hl : rBytes.r (· < w.heap.size) w [.slice a n c] B) (hB : B.length ≤ 1000000000) :
  Calls Tryz.prog 36 #[.slice a n c] w fun r w' => ∃ v, r = .returned (.tuple #[.agg #[.int .u64 (decB B (blkL B)).2.1.epoch, .int .u64 (decB B (blkL B)).2.1.base, v], .bool (decB B (blkL B)).2.2, .agg #[.int .i64 (decB B (blkL B)).1.k, .int .i64 (decB B (blkL B)).1.f]]) ∧ rEntriesW.r (Fresh w w') w' [v] (decB B (blkL B)).2.1.entries ∧ Below w.heap.size w w' := by
 obtain ⟨rfl, hmx, hcc, hcm⟩ := sl_len hl
 have HN := hid (rd_new ((w.alloc (.cells #[.int .u64 0, .int .u64 0, .slice none 0 0] 25)).alloc (.cells #[.int .i64 0, .int .i64 0] 48)) B a _ c (lift hl (by (repeat first | with_reducible (first | exact zR | assumption | apply zA | apply zS | apply zD | apply zN) | refine zT (by with_reducible assumption) ?_ | omega | simp <;> omega))))
 have hRD := fun (W : World) (h : RdAt W (w.heap.size + 1 + 1) B a ⟨0, 0, 0⟩) => batch_readloose W h hB
 have hok : ((Rs.batch B (blkL B) ⟨0, 0, 0⟩).1.fin B.length).ok B.length ∨ True := .inr trivial
 unfold decB
 generalize hZ : Rs.batch B (blkL B) ⟨0, 0, 0⟩ = Z at *
 obtain ⟨s1, b, q⟩ := Z
 obtain ⟨e, p, E⟩ := b
 dsimp only at *
 generalize hu : s1.fin B.length = u at *
 have HU := hid hu
 have HRD := hid hRD
 clear hl hZ hok hRD hu
 by_cases hk : u.k = 0
 ·simp only [if_pos hk]
  have d1 : decide (u.k = 0) = true := decide_eq_true hk
  have HK := hid hk
  clear hk
  go_enter Tryz.func36, Tryz.ntmps36
  go_wp2_with fail
  refine HN.out.mono ?_
  rintro r w1 ⟨rfl, hrd, hb1⟩
  have R1 : Blk w1 w.heap.size 25 #[.int .u64 0, .int .u64 0, .slice none 0 0] := Blk.later (by (repeat first | assumption | exact kW (by first | (simp; done) | (simp; omega)) | apply kA | apply kD | apply kN | apply kF | simp <;> omega)) hb1
  have F1 : Blk w1 (w.heap.size + 1) 48 #[.int .i64 0, .int .i64 0] := Blk.later (by (repeat first | assumption | exact kW (by first | (simp; done) | (simp; omega)) | apply kA | apply kD | apply kN | apply kF | simp <;> omega)) hb1
  have hbw1 : Below w.heap.size w w1 := by (repeat first | with_reducible (first | exact zR | assumption | apply zA | apply zS | apply zD | apply zN) | refine zT (by with_reducible assumption) ?_ | omega | simp <;> omega)
  simp at hrd
  have HIN1 := hid (RdInv.refl hrd)
  have hg := hrd.blk.lt
  clear hb1
  go_wp2_with fail
  refine (HRD.out w1 hrd).mono ?_
  rintro r w2 ⟨v2, rfl, hv2, hst2⟩
  obtain ⟨a2, c2, hfv, _, _⟩ := sl_form (entriesW_entries hv2)
  simp only [List.cons.injEq, and_true] at hfv
  subst hfv
  have R2 := R1.tch hst2.2 (by omega)
  have F2 := F1.tch hst2.2 (by omega)
  have HIN2 := hid (HIN1.out.step hst2)
  have hz2 := HIN2.out.tch.size
  have HV2 := hid hv2
  clear hrd hv2 hst2 R1 F1
  go_wp2_with fail
  refine (rd_end _ (HIN2.out.row ((by (repeat first | with_reducible (first | exact zR | assumption | apply zA | apply zS | apply zD | apply zN) | refine zT (by with_reducible assumption) ?_ | omega | simp <;> omega) : Below w2.heap.size w2 _).mono hz2)).rd).mono ?_
  rintro r w3 ⟨rfl, hst3⟩
  rw [HU.out] at hst3
  have E3 : Blk w3 w2.heap.size 25 #[.int .u64 e, .int .u64 p, .slice a2 E.length c2] := Blk.tch (by (repeat first | assumption | exact kW (by first | (simp; done) | (simp; omega)) | apply kA | apply kD | apply kN | apply kF | simp <;> omega)) hst3.2 (by omega)
  have R3 : Blk w3 w.heap.size 25 #[.int .u64 0, .int .u64 0, .slice none 0 0] := Blk.tch (Blk.later R2 (by (repeat first | with_reducible (first | exact zR | assumption | apply zA | apply zS | apply zD | apply zN) | refine zT (by with_reducible assumption) ?_ | omega | simp <;> omega) : Below w2.heap.size w2 _)) hst3.2 (by omega)
  have F3 : Blk w3 (w.heap.size + 1) 48 #[.int .i64 0, .int .i64 0] := Blk.tch (Blk.later F2 (by (repeat first | with_reducible (first | exact zR | assumption | apply zA | apply zS | apply zD | apply zN) | refine zT (by with_reducible assumption) ?_ | omega | simp <;> omega) : Below w2.heap.size w2 _)) hst3.2 (by omega)
  have HIN3 := hid ((HIN2.out.row ((by (repeat first | with_reducible (first | exact zR | assumption | apply zA | apply zS | apply zD | apply zN) | refine zT (by with_reducible assumption) ?_ | omega | simp <;> omega) : Below w2.heap.size w2 _).mono hz2)).step hst3)
  have hT3 : Tch (· = w.heap.size + 1 + 1) w2 w3 := (Tch.of_later (F := (· = w.heap.size + 1 + 1)) (by (repeat first | with_reducible (first | exact zR | assumption | apply zA | apply zS | apply zD | apply zN) | refine zT (by with_reducible assumption) ?_ | omega | simp <;> omega) : Below w2.heap.size w2 _)).trans hst3.2 fun b _ h => h
  have HT3 := hid hT3
  have hz3 := HIN3.out.tch.size
  have hs3 := hT3.size
  clear hst3 hT3 R2 F2
  go_wp2_with fail
  refine (rd_fault w3 HIN3.out.rd).mono ?_
  rintro r w4 ⟨rfl, hb4⟩
  have E4 := E3.later hb4
  have R4 := R3.later hb4
  have F4 := F3.later hb4
  have hG := fault_good (w4.alloc (.cells #[.int .i64 u.k, .int .i64 u.f] 48)) u.k u.f
  rw [d1] at hG
  have HG := hid hG
  have hs4 := hb4.size
  have HB4 := hid hb4
  clear hG d1 hb4 E3 R3 F3
  go_wp2_with fail
  refine HG.out.mono ?_
  rintro r w5 ⟨rfl, hb5⟩
  have E5 := (E4.alloc (.cells #[.int .i64 u.k, .int .i64 u.f] 48)).later hb5
  have R5 := (R4.alloc (.cells #[.int .i64 u.k, .int .i64 u.f] 48)).later hb5
  have F5 := (F4.alloc (.cells #[.int .i64 u.k, .int .i64 u.f] 48)).later hb5
  have X5 := Blk.later (Blk.newAt w4 _ _ rfl) hb5
  have hb45 : Below w4.heap.size w4 w5 := by (repeat first | with_reducible (first | exact zR | assumption | apply zA | apply zS | apply zD | apply zN) | refine zT (by with_reducible assumption) ?_ | omega | simp <;> omega)
  have hb35 : Below w3.heap.size w3 w5 := below_then hb45 HB4.out
  have hs5 := hb45.size
  obtain ⟨e0, e1, e2, _, _, _, le⟩ := b_blk E5
  obtain ⟨r0, r1, r2, t0, t1, t2, lr⟩ := b_blk R5
  obtain ⟨f0, f1, g0, g1, lf⟩ := f_blk F5
  have hbw5 : Below w.heap.size w w5 := hbw1.trans ((HIN2.out.tch.trans HT3.out fun b _ h => h).to_below (by omega) (fun b _ h => by omega) |>.trans (hb35.mono (by omega)))
  clear E4 R4 F4 hb5
  have HF0 := hid (HIN3.out.rd.ok.zero HK.out)
  go_wp2
  obtain ⟨v0, v1, v2, _, _, _, lF⟩ := b_blk (Blk.far (Blk.far (((R5.set 0 (.int .u64 e)).set 1 (.int .u64 p)).set 2 (.slice a2 E.length c2)) (p := ⟨w.heap.size + 1, 0, none⟩) (by dsimp only; omega) (.int .i64 0)) (p := ⟨w.heap.size + 1, 1, none⟩) (by dsimp only; omega) (.int .i64 0))
  obtain ⟨x0, x1, _, _, lX⟩ := f_blk (((Blk.far (Blk.far (Blk.far F5 (p := ⟨w.heap.size, 0, none⟩) (by dsimp only; omega) (.int .u64 e)) (p := ⟨w.heap.size, 1, none⟩) (by dsimp only; omega) (.int .u64 p)) (p := ⟨w.heap.size, 2, none⟩) (by dsimp only; omega) (.slice a2 E.length c2)).set 0 (.int .i64 0)).set 1 (.int .i64 0))
  refine bodyPost_ret (v := .tuple #[.agg #[.int .u64 e, .int .u64 p, .slice a2 E.length c2], .bool q, .agg #[.int .i64 0, .int .i64 0]]) (by simp [results, Tryz.results36, go_sem, v0, v1, v2, x0, x1, lF, lX]) rfl ⟨_, by rw [HK.out, HF0.out], ?_, by (repeat first | with_reducible (first | exact zR | assumption | apply zA | apply zS | apply zD | apply zN) | refine zT (by with_reducible assumption) ?_ | omega | simp <;> omega)⟩
  refine rEntriesW.mono (rEntriesW.keep HV2.out fun b hb => ?_) fun b hb => ⟨by have := hb.1; have := hbw1.size; omega, by have := hb.2; simp; omega⟩
  have h1 : w1.heap.size ≤ b := hb.1
  have h2 : b < w2.heap.size := hb.2
  (repeat rw [Below.heap_setCell _ _ _ _ (by dsimp only; omega)])
  exact (hb35.block b (by omega)).trans (HT3.out.block b h2 (by omega))
 ·simp only [if_neg hk]
  have d1 : decide (u.k = 0) = false := decide_eq_false hk
  clear hk
  go_enter Tryz.func36, Tryz.ntmps36
  go_wp2_with fail
  refine HN.out.mono ?_
  rintro r w1 ⟨rfl, hrd, hb1⟩
  have R1 : Blk w1 w.heap.size 25 #[.int .u64 0, .int .u64 0, .slice none 0 0] := Blk.later (by (repeat first | assumption | exact kW (by first | (simp; done) | (simp; omega)) | apply kA | apply kD | apply kN | apply kF | simp <;> omega)) hb1
  have F1 : Blk w1 (w.heap.size + 1) 48 #[.int .i64 0, .int .i64 0] := Blk.later (by (repeat first | assumption | exact kW (by first | (simp; done) | (simp; omega)) | apply kA | apply kD | apply kN | apply kF | simp <;> omega)) hb1
  have hbw1 : Below w.heap.size w w1 := by (repeat first | with_reducible (first | exact zR | assumption | apply zA | apply zS | apply zD | apply zN) | refine zT (by with_reducible assumption) ?_ | omega | simp <;> omega)
  simp at hrd
  have HIN1 := hid (RdInv.refl hrd)
  have hg := hrd.blk.lt
  clear hb1
  go_wp2_with fail
  refine (HRD.out w1 hrd).mono ?_
  rintro r w2 ⟨v2, rfl, hv2, hst2⟩
  obtain ⟨a2, c2, hfv, _, _⟩ := sl_form (entriesW_entries hv2)
  simp only [List.cons.injEq, and_true] at hfv
  subst hfv
  have R2 := R1.tch hst2.2 (by omega)
  have F2 := F1.tch hst2.2 (by omega)
  have HIN2 := hid (HIN1.out.step hst2)
  have hz2 := HIN2.out.tch.size
  have HV2 := hid hv2
  clear hrd hv2 hst2 R1 F1
  go_wp2_with fail
  refine (rd_end _ (HIN2.out.row ((by (repeat first | with_reducible (first | exact zR | assumption | apply zA | apply zS | apply zD | apply zN) | refine zT (by with_reducible assumption) ?_ | omega | simp <;> omega) : Below w2.heap.size w2 _).mono hz2)).rd).mono ?_
  rintro r w3 ⟨rfl, hst3⟩
  rw [HU.out] at hst3
  have E3 : Blk w3 w2.heap.size 25 #[.int .u64 e, .int .u64 p, .slice a2 E.length c2] := Blk.tch (by (repeat first | assumption | exact kW (by first | (simp; done) | (simp; omega)) | apply kA | apply kD | apply kN | apply kF | simp <;> omega)) hst3.2 (by omega)
  have R3 : Blk w3 w.heap.size 25 #[.int .u64 0, .int .u64 0, .slice none 0 0] := Blk.tch (Blk.later R2 (by (repeat first | with_reducible (first | exact zR | assumption | apply zA | apply zS | apply zD | apply zN) | refine zT (by with_reducible assumption) ?_ | omega | simp <;> omega) : Below w2.heap.size w2 _)) hst3.2 (by omega)
  have F3 : Blk w3 (w.heap.size + 1) 48 #[.int .i64 0, .int .i64 0] := Blk.tch (Blk.later F2 (by (repeat first | with_reducible (first | exact zR | assumption | apply zA | apply zS | apply zD | apply zN) | refine zT (by with_reducible assumption) ?_ | omega | simp <;> omega) : Below w2.heap.size w2 _)) hst3.2 (by omega)
  have HIN3 := hid ((HIN2.out.row ((by (repeat first | with_reducible (first | exact zR | assumption | apply zA | apply zS | apply zD | apply zN) | refine zT (by with_reducible assumption) ?_ | omega | simp <;> omega) : Below w2.heap.size w2 _).mono hz2)).step hst3)
  have hT3 : Tch (· = w.heap.size + 1 + 1) w2 w3 := (Tch.of_later (F := (· = w.heap.size + 1 + 1)) (by (repeat first | with_reducible (first | exact zR | assumption | apply zA | apply zS | apply zD | apply zN) | refine zT (by with_reducible assumption) ?_ | omega | simp <;> omega) : Below w2.heap.size w2 _)).trans hst3.2 fun b _ h => h
  have HT3 := hid hT3
  have hz3 := HIN3.out.tch.size
  have hs3 := hT3.size
  clear hst3 hT3 R2 F2
  go_wp2_with fail
  refine (rd_fault w3 HIN3.out.rd).mono ?_
  rintro r w4 ⟨rfl, hb4⟩
  have E4 := E3.later hb4
  have R4 := R3.later hb4
  have F4 := F3.later hb4
  have hG := fault_good (w4.alloc (.cells #[.int .i64 u.k, .int .i64 u.f] 48)) u.k u.f
  rw [d1] at hG
  have HG := hid hG
  have hs4 := hb4.size
  have HB4 := hid hb4
  clear hG d1 hb4 E3 R3 F3
  go_wp2_with fail
  refine HG.out.mono ?_
  rintro r w5 ⟨rfl, hb5⟩
  have E5 := (E4.alloc (.cells #[.int .i64 u.k, .int .i64 u.f] 48)).later hb5
  have R5 := (R4.alloc (.cells #[.int .i64 u.k, .int .i64 u.f] 48)).later hb5
  have F5 := (F4.alloc (.cells #[.int .i64 u.k, .int .i64 u.f] 48)).later hb5
  have X5 := Blk.later (Blk.newAt w4 _ _ rfl) hb5
  have hb45 : Below w4.heap.size w4 w5 := by (repeat first | with_reducible (first | exact zR | assumption | apply zA | apply zS | apply zD | apply zN) | refine zT (by with_reducible assumption) ?_ | omega | simp <;> omega)
  have hb35 : Below w3.heap.size w3 w5 := below_then hb45 HB4.out
  have hs5 := hb45.size
  obtain ⟨e0, e1, e2, _, _, _, le⟩ := b_blk E5
  obtain ⟨r0, r1, r2, t0, t1, t2, lr⟩ := b_blk R5
  obtain ⟨f0, f1, g0, g1, lf⟩ := f_blk F5
  have hbw5 : Below w.heap.size w w5 := hbw1.trans ((HIN2.out.tch.trans HT3.out fun b _ h => h).to_below (by omega) (fun b _ h => by omega) |>.trans (hb35.mono (by omega)))
  clear E4 R4 F4 hb5
  obtain ⟨z0, z1, _, _, lz⟩ := f_blk X5
  clear X5 E5 R5 F5
  go_wp2_with fail
  go_region
  all_goals
   go_wp2
   refine bodyPost_ret (v := .tuple #[.agg #[.int .u64 0, .int .u64 0, .slice none 0 0], .bool false, .agg #[.int .i64 u.k, .int .i64 u.f]]) (by simp [results, Tryz.results36, go_sem, r0, r1, r2, t0, t1, t2, f0, f1, g0, g1, lr, lf]) rfl ⟨_, rfl, ⟨none, 0, rfl, Nat.le_refl _, Nat.zero_le _, .inl rfl⟩, by (repeat first | with_reducible (first | exact zR | assumption | apply zA | apply zS | apply zD | apply zN) | refine zT (by with_reducible assumption) ?_ | omega | simp <;> omega)⟩
end Go.Proofs.YtkipiefcnjfdjaaGreat
namespace Go.Proofs.YtkipiefcnjfdjaaGreat
open Go.RowKit Go.Bs Go.Maps
set_option linter.unusedVariables false
set_option linter.unusedSimpArgs false
theorem headsB_len (l : List Entry) (p : Int) (hR : entriesR p l = true) : (headsB p l).length ≤ 1000 * l.length := by
 induction l generalizing p with
 | nil => simp [headsB]
 | cons e l ih =>
  simp only [entriesR, Bool.and_eq_true] at hR
  have h1 := headN_le p e
  unfold headN at h1
  rw [if_pos hR.1] at h1
  have h2 := ih (p + 1) hR.2
  simp only [headsB, List.length_append, List.length_cons]
  omega
theorem batchB_len {b : Batch} (hR : batchR b = true) : (batchB b).length ≤ 21 + (headsB b.base b.entries).length + (blockB (joined b.entries)).length ∧ (batchB b).length ≤ 40 + (varB (total b.entries)).length + total b.entries + (headsB b.base b.entries).length ∧ (headsB b.base b.entries).length ≤ 16000 := by
 have hR' := hR
 simp only [batchR, Bool.and_eq_true, fitsR, decide_eq_true_eq] at hR'
 have h1 := (varB_len b.epoch.toNat).1
 have h2 := (varB_len b.base.toNat).1
 have h3 := varB_len_small (x := b.entries.length) (by omega)
 have h4 := blockB_len (joined b.entries)
 rw [joined_length] at h4
 have h5 := headsB_len b.entries b.base hR'.2.2.2
 simp only [batchB, aheadB, List.length_append]
 omega
set_option maxRecDepth 100000 in
set_option maxHeartbeats 6400000 in
theorem batch_put (w : World) {g base most : Nat} {J : List UInt8} {a : Option Addr} {c : Nat} (h : PenAt w g base most J a c) (b : Batch) (al : Option Addr) (nl cl : Nat) (hN : batchN b)
  (hl : rEntries.r (fun q => q < w.heap.size ∧ ¬ PenF g a q) w [.slice al nl cl] b.entries) (hR : batchR b = true) (ht : TameE b.entries) (hfit : J.length + (batchB b).length ≤ most) (hln2 : J.length + (batchB b).length ≤ 100000000000000) :
  Calls Tryz.prog 19 #[.pointer (some ⟨g, 0, none⟩), .agg #[.int .u64 b.epoch, .int .u64 b.base, .slice al nl cl]] w fun r w' => r = .returned (.tuple #[]) ∧ PenStep w g base most (J ++ batchB b) a w' := by
 obtain ⟨rfl, hm, _, _⟩ := sl_len hl
 obtain ⟨h0, h1, _⟩ := hN
 have HRT := hid (fun (W : World) (hW : Below w.heap.size w W) => batch_right b al _ cl W h0 h1 (lift (pen_low hl) hW) ht.fair)
 rw [hR] at HRT
 have hR' := hR
 simp only [batchR, Bool.and_eq_true, decide_eq_true_eq] at hR'
 obtain ⟨hep, hfits, htot, hent⟩ := hR'
 have hfits' := hfits
 simp only [fitsR, decide_eq_true_eq] at hfits'
 have hbl : (batchB b).length = (varB b.epoch.toNat).length + (varB b.base.toNat).length + (varB b.entries.length).length + (headsB b.base b.entries).length + (blockB (joined b.entries)).length := by simp only [batchB, aheadB, List.length_append]
 rw [hbl] at hfit hln2
 have hbb : batchB b = varB b.epoch.toNat ++ varB b.base.toNat ++ varB b.entries.length ++ headsB b.base b.entries ++ blockB (joined b.entries) := rfl
 rw [hbb]
 have HE := hid (fun (W : World) (hW : Below w.heap.size w W) => (by have := epoch_put W (h.later hW) b.epoch.toNat (by rw [toNat_cast h0.1]; exact hep) (by omega) (by omega); rw [toNat_cast h0.1] at this; exact this : Calls Tryz.prog 71 #[.pointer (some ⟨g, 0, none⟩), .int .u64 b.epoch] W fun r w' => r = .returned (.tuple #[]) ∧ PenStep W g base most (J ++ varB b.epoch.toNat) a w'))
 have hpo : poR b.base = true := by unfold poR; exact decide_eq_true (by omega)
 have HJL := hid (joined_length b.entries)
 have HP := hid h
 have HL := hid hl
 have HBK := hid ht.backs
 have HEA := hid (fun (k : Nat) (hk : k < b.entries.length) => entriesR_at b.entries b.base k hk hent)
 have HHS := hid (fun (k : Nat) (hk : k < b.entries.length) => headsB_step b.entries b.base k hk)
 have HHL := hid (fun k => headsB_le b.entries b.base k)
 have hto := ht.tot
 obtain ⟨ep, bs, l⟩ := b
 dsimp only at *
 clear h hl hR hbl hbb hep hent hfits ht
 go_enter Tryz.func19, Tryz.ntmps19
 go_wp2_with fail
 refine (HRT.out _ (by (repeat first | with_reducible (first | exact zR | assumption | apply zA | apply zS | apply zD | apply zN) | refine zT (by with_reducible assumption) ?_ | omega | simp <;> omega))).mono ?_
 rintro r w1 ⟨rfl, hb1⟩
 have B1 := Blk.later (Blk.newAt w 25 #[.int .u64 ep, .int .u64 bs, .slice al l.length cl] rfl) hb1
 obtain ⟨x0, x1, x2, _, _, _, l1⟩ := b_blk B1
 have hbw1 : Below w.heap.size w w1 := by (repeat first | with_reducible (first | exact zR | assumption | apply zA | apply zS | apply zD | apply zN) | refine zT (by with_reducible assumption) ?_ | omega | simp <;> omega)
 have HLT := hid (fun q (hq : PenF g a q) => (HP.out.own_lt hq).2)
 have HB1 := hid B1
 have HL1 := hid (pen_later hbw1 HL.out)
 have hs1 := hbw1.size
 clear B1 hb1
 go_wp2_with fail
 refine (HE.out _ hbw1).mono ?_
 rintro r w2 ⟨rfl, a2, c2, hp2, ht2, ha2⟩
 have B2 := HB1.out.tch ht2 (fun hf => by have := HLT.out _ hf; omega)
 obtain ⟨y0, y1, y2, _, _, _, l2⟩ := b_blk B2
 have HV2 := hid ((by have := epoch_putpos w2 hp2 bs.toNat (by rw [toNat_cast h1.1]; exact hpo) (by simp only [List.length_append]; omega) (by simp only [List.length_append]; omega); rw [toNat_cast h1.1] at this; exact this : Calls Tryz.prog 72 #[.pointer (some ⟨g, 0, none⟩), .int .u64 bs] w2 fun r w' => r = .returned (.tuple #[]) ∧ PenStep w2 g base most (J ++ varB ep.toNat ++ varB bs.toNat) a2 w'))
 have HT2 := hid (And.intro ht2 ha2)
 have HL2 := hid (pen_data ht2 ha2 HL1.out)
 have HB2 := hid B2
 have HNF2 := hid (fun (hf : PenF g a2 w.heap.size) => penF_old ha2 HB1.out.lt (fun hf => by have := HLT.out _ hf; omega) hf)
 have hs2 := ht2.size
 clear B2 hp2 ht2 ha2 x0 x1 x2
 go_wp2_with fail
 refine HV2.out.mono ?_
 rintro r w3 ⟨rfl, a3, c3, hp3, ht3, ha3⟩
 have B3 := HB2.out.tch ht3 (fun hf => HNF2.out hf)
 obtain ⟨x0, x1, x2, _, _, _, l3⟩ := b_blk B3
 have HV3 := hid (varint_put w3 hp3 l.length (by omega) (by simp only [List.length_append]; omega) (by simp only [List.length_append]; omega))
 have HT3 := hid (And.intro ht3 ha3)
 have HL3 := hid (pen_data ht3 ha3 HL2.out)
 have HB3 := hid B3
 have HNF3 := hid (fun (hf : PenF g a3 w.heap.size) => penF_old ha3 HB2.out.lt (fun hf => HNF2.out hf) hf)
 have hs3 := ht3.size
 clear B3 hp3 ht3 ha3 y0 y1 y2
 go_wp2_with fail
 refine HV3.out.mono ?_
 rintro r w4 ⟨rfl, a4, c4, hp4, ht4, ha4⟩
 have B4 := HB3.out.tch ht4 (fun hf => HNF3.out hf)
 obtain ⟨y0, y1, y2, _, _, _, l4⟩ := b_blk B4
 have HT4 := hid (And.intro ht4 ha4)
 have HL4 := hid (pen_data ht4 ha4 HL3.out)
 have HB4 := hid B4
 have HNF4 := hid (fun (hf : PenF g a4 w.heap.size) => penF_old ha4 HB3.out.lt (fun hf => HNF3.out hf) hf)
 have HP4 := hid hp4
 have hs4 := ht4.size
 clear B4 hp4 ht4 ha4 x0 x1 x2
 go_wp2_with fail
 clear y0 y1 y2
 go_loopw [28] (fun i wr => ∃ k : Nat, k ≤ l.length ∧ i = .int .i64 k ∧ Hid (PenStep w4 g base most (J ++ varB ep.toNat ++ varB bs.toNat ++ varB l.length ++ headsB bs (l.take k)) a4 wr)) (fun i _ => l.length - (intOf i).toNat)
 case atStart => exact ⟨0, Nat.zero_le _, rfl, hid (by simpa [headsB] using PenStep.refl HP4.out)⟩
 case round =>
  obtain ⟨k, hk, rfl, hp⟩ := hrel
  obtain ⟨a5, c5, hp5, ht5, ha5⟩ := hp.out
  have B5 := HB4.out.tch ht5 (fun hf => HNF4.out hf)
  obtain ⟨x0, x1, x2, _, _, _, l5⟩ := b_blk B5
  have hd5 := pen_data ht5 ha5 HL4.out
  have hhl := HHL.out (k + 1)
  rcases Nat.lt_or_ge k l.length with hlt | hge
  ·obtain ⟨bb, o, hA, hbb, a6, c6, a7, c7, z0, z1, hlk, hd⟩ := entry_at hd5 hlt
   subst hA
   have hbl : bb < wr.heap.size := World.block_lt_of_cell? _ _ z0
   have hst := HHS.out k hlt
   rw [hst, List.length_append] at hhl
   have i1 : (k : Int) < (l.length : Int) := by omega
   have d1 : decide ((k : Int) < (l.length : Int)) = true := decide_eq_true i1
   have hJ5 := hp5.len
   simp only [List.length_append] at hJ5
   have hPT := fun (W : World) (hW : Below wr.heap.size wr W) => entry_puthead W (hp5.later hW) (bs + k) (by omega) l[k] a6 a7 _ c6 _ c7 (pen_later hW hlk) (lift (pen_low hd) hW) (HEA.out k hlt) (HBK.out l[k] (List.getElem_mem hlt)) (by simp only [List.length_append]; omega) (by simp only [List.length_append]; omega)
   have HPT := hid hPT
   have HT5 := hid (And.intro ht5 ha5)
   have HST := hid hst
   generalize l[k] = y at *
   clear hPT hp5 ht5 ha5 hp hst hlk hd hd5 hhl hJ5 B5
   go_wp2_with fail
   have hbW : Below wr.heap.size wr (wr.alloc (.cells #[.slice a6 y.links.length c6, .slice a7 y.data.length c7] 75)) := by (repeat first | with_reducible (first | exact zR | assumption | apply zA | apply zS | apply zD | apply zN) | refine zT (by with_reducible assumption) ?_ | omega | simp <;> omega)
   refine (HPT.out _ hbW).mono ?_
   rintro r w6 ⟨rfl, hst6⟩
   have hn := PenStep.trans (J := J) HT5.out.1 HT5.out.2 (PenStep.later hbW hst6)
   rw [List.append_assoc _ (headsB bs (l.take k)), ← HST.out] at hn
   have HN := hid hn
   clear hst6 hn x0 x1 x2
   go_wp2
   go_roundw
   case rel => exact ⟨k + 1, by omega, by go_num, HN⟩
   case measure => simp [intOf]; omega
  ·obtain rfl : k = l.length := by omega
   have d1 : decide ((l.length : Int) < (l.length : Int)) = false := decide_eq_false (by omega)
   rw [List.take_length] at hp5
   have HJN := hid (fun (W : World) (hW : rEntries.r (· < W.heap.size) W [.slice al l.length cl] l) => entry_join l al _ cl W hW (by omega))
   have HPW := hid hp5
   have HD5 := hid hd5
   have HT5 := hid (And.intro ht5 ha5)
   clear hp ht5 ha5 hp5 hd5 B5
   go_wp2_with fail
   refine (HJN.out _ (pen_low HD5.out)).mono ?_
   rintro r w6 ⟨v6, rfl, hr6, hb6⟩
   obtain ⟨a8, c8, hv6, hr6', _⟩ := sl_form hr6
   simp only [List.cons.injEq, and_true] at hv6
   subst hv6
   have HBP := hid (block_put w6 (HPW.out.later hb6) (joined l) a8 _ c8 (pen_new_data HPW.out hr6') (by rw [HJL.out]; omega) (by simp only [List.length_append]; omega) (by simp only [List.length_append]; omega))
   clear hr6 hr6' x0 x1 x2
   go_wp2_with fail
   refine HBP.out.mono ?_
   rintro r w7 ⟨rfl, hst7⟩
   have hn := PenStep.later hbw1 (PenStep.trans (J := J) HT2.out.1 HT2.out.2 (PenStep.trans (J := J) HT3.out.1 HT3.out.2 (PenStep.trans (J := J) HT4.out.1 HT4.out.2 (PenStep.trans (J := J) HT5.out.1 HT5.out.2 (PenStep.later hb6 hst7)))))
   have HN : Hid (PenStep w g base most (J ++ (varB ep.toNat ++ varB bs.toNat ++ varB l.length ++ headsB bs l ++ blockB (joined l))) a w7) := hid (by simpa only [List.append_assoc] using hn)
   clear hst7 hn
   go_wp2
   first | go_end0 | refine bodyPost_ret (results_none rfl _ _ _) rfl ?_
   exact ⟨rfl, HN.out⟩
set_option maxRecDepth 100000 in
set_option maxHeartbeats 3200000 in
theorem batch_put_bad (w : World) {g base most : Nat} {J : List UInt8} {a : Option Addr} {c : Nat} (h : PenAt w g base most J a c) (b : Batch) (al : Option Addr) (nl cl : Nat) (hN : batchN b)
  (hl : rEntries.r (· < w.heap.size) w [.slice al nl cl] b.entries) (hR : batchR b = false) (ht : TameE b.entries) :
  Calls Tryz.prog 19 #[.pointer (some ⟨g, 0, none⟩), .agg #[.int .u64 b.epoch, .int .u64 b.base, .slice al nl cl]] w fun r w' => r = .returned (.tuple #[]) ∧ Blk w' g 109 #[.int .i64 most, .slice a J.length c, .int .i64 3] ∧ Tch (· = g) w w' := by
 obtain ⟨rfl, hm, _, _⟩ := sl_len hl
 obtain ⟨h0, h1, _⟩ := hN
 have HRT := hid (fun (W : World) (hW : Below w.heap.size w W) => batch_right b al _ cl W h0 h1 (lift hl hW) ht.fair)
 rw [hR] at HRT
 have HF := hid (fun (W : World) (hW : Below w.heap.size w W) => pen_fail W (h.later hW) 3)
 obtain ⟨ep, bs, l⟩ := b
 dsimp only at *
 clear h hl hR ht
 go_enter Tryz.func19, Tryz.ntmps19
 go_wp2_with fail
 refine (HRT.out _ (by (repeat first | with_reducible (first | exact zR | assumption | apply zA | apply zS | apply zD | apply zN) | refine zT (by with_reducible assumption) ?_ | omega | simp <;> omega))).mono ?_
 rintro r w1 ⟨rfl, hb1⟩
 have hbw1 : Below w.heap.size w w1 := by (repeat first | with_reducible (first | exact zR | assumption | apply zA | apply zS | apply zD | apply zN) | refine zT (by with_reducible assumption) ?_ | omega | simp <;> omega)
 go_wp2_with fail
 refine (HF.out _ hbw1).mono ?_
 rintro r w2 ⟨rfl, hB2, hT2⟩
 have HB2 := hid hB2
 have HT2 := hid hT2
 clear hB2 hT2
 go_wp2
 first | go_end0 | refine bodyPost_ret (results_none rfl _ _ _) rfl ?_
 exact ⟨rfl, HB2.out, Tch.trans (F := (· = g)) (Tch.of_later hbw1) HT2.out (fun _ _ h => h)⟩
def batchBytes (b : Batch) : List UInt8 × Int := if batchR b = true then (batchB b, 0) else ([], 3)
set_option maxRecDepth 100000 in
set_option maxHeartbeats 3200000 in
theorem batch_bytes (w : World) (b : Batch) (al : Option Addr) (nl cl : Nat) (hN : batchN b) (hl : rEntries.r (· < w.heap.size) w [.slice al nl cl] b.entries) (ht : TameE b.entries) :
  Calls Tryz.prog 17 #[.agg #[.int .u64 b.epoch, .int .u64 b.base, .slice al nl cl]] w fun r w' => ∃ v, r = .returned (.tuple #[v, .int .i64 (batchBytes b).2]) ∧ rBytes.r (fun q => w.heap.size ≤ q ∧ q < w'.heap.size) w' [v] (batchBytes b).1 ∧ Below w.heap.size w w' := by
 obtain ⟨rfl, hm, _, _⟩ := sl_len hl
 have HRM := hid (fun (W : World) (hW : Below w.heap.size w W) => batch_room W b al _ cl hN.1 hN.2.1 (lift hl hW) ht)
 have HL := hid hl
 unfold batchBytes
 cases hR : batchR b
 ·rw [if_neg (by simp)]
  have HPT := hid (fun (W : World) {g base most : Nat} {a : Option Addr} {c : Nat} (h : PenAt W g base most [] a c) (hW : Below w.heap.size w W) => batch_put_bad W h b al _ cl hN (lift HL.out hW) hR ht)
  obtain ⟨ep, bs, l⟩ := b
  dsimp only at *
  clear hl hR ht hN
  go_enter Tryz.func17, Tryz.ntmps17
  go_wp2_with fail
  refine (HRM.out _ (by (repeat first | with_reducible (first | exact zR | assumption | apply zA | apply zS | apply zD | apply zN) | refine zT (by with_reducible assumption) ?_ | omega | simp <;> omega))).mono ?_
  rintro r w1 ⟨M, rfl, hM, _, hb1⟩
  have B1 := Blk.later (Blk.newAt w 25 #[.int .u64 ep, .int .u64 bs, .slice al l.length cl] rfl) hb1
  have hbw1 : Below w.heap.size w w1 := by (repeat first | with_reducible (first | exact zR | assumption | apply zA | apply zS | apply zD | apply zN) | refine zT (by with_reducible assumption) ?_ | omega | simp <;> omega)
  have HN := hid (pen_new w1 M (by omega))
  clear hb1
  go_wp2_with fail
  refine HN.out.mono ?_
  rintro r w2 ⟨rfl, hp2, hb2⟩
  have B2 := B1.later hb2
  obtain ⟨x0, x1, x2, _, _, _, l2⟩ := b_blk B2
  have hbw2 := below_then hb2 hbw1
  have HP2 := hid (HPT.out w2 hp2 hbw2)
  have hs1 := hbw1.size
  clear hp2 B1 B2
  go_wp2_with fail
  refine HP2.out.mono ?_
  rintro r w3 ⟨rfl, hB3, hT3⟩
  have hbw3 : Below w.heap.size w w3 := hbw2.trans (hT3.to_below hbw2.size (fun q _ e => by omega))
  have HB := hid (pen_bytes_bad w3 (k := 3) (by omega) hB3)
  clear hB3 hT3 x0 x1 x2
  go_wp2_with fail
  refine HB.out.mono ?_
  rintro r w4 ⟨rfl, rfl⟩
  go_wp2
  go_ret2
  exact ⟨_, rfl, empty_bytes2 rfl rfl (by omega), hbw3⟩
 ·rw [if_pos rfl]
  have hbl := batchB_len hR
  have HPT := hid (fun (W : World) {g base most : Nat} {a : Option Addr} {c : Nat} (h : PenAt W g base most [] a c) (hW : rEntries.r (fun q => q < W.heap.size ∧ ¬ PenF g a q) W [.slice al b.entries.length cl] b.entries) (hf : (batchB b).length ≤ most) => batch_put W h b al _ cl hN hW hR ht (by simpa using hf) (by have := ht.tot; have := (varB_len (total b.entries)).1; simp; omega))
  have HRR := hid hR
  generalize batchB b = K at *
  obtain ⟨ep, bs, l⟩ := b
  dsimp only at *
  have HBL := hid hbl
  clear hl hR ht hN hbl
  go_enter Tryz.func17, Tryz.ntmps17
  go_wp2_with fail
  refine (HRM.out _ (by (repeat first | with_reducible (first | exact zR | assumption | apply zA | apply zS | apply zD | apply zN) | refine zT (by with_reducible assumption) ?_ | omega | simp <;> omega))).mono ?_
  rintro r w1 ⟨M, rfl, hM, hM2, hb1⟩
  have hfit : K.length ≤ M := by have := hM2 HRR.out; have := HBL.out.2.1; omega
  have B1 := Blk.later (Blk.newAt w 25 #[.int .u64 ep, .int .u64 bs, .slice al l.length cl] rfl) hb1
  have hbw1 : Below w.heap.size w w1 := by (repeat first | with_reducible (first | exact zR | assumption | apply zA | apply zS | apply zD | apply zN) | refine zT (by with_reducible assumption) ?_ | omega | simp <;> omega)
  have HN := hid (pen_new w1 M (by omega))
  clear hb1 hM2
  go_wp2_with fail
  refine HN.out.mono ?_
  rintro r w2 ⟨rfl, hp2, hb2⟩
  have B2 := B1.later hb2
  obtain ⟨x0, x1, x2, _, _, _, l2⟩ := b_blk B2
  have hbw2 := below_then hb2 hbw1
  have hs1 := hbw1.size
  have HPA := hid hp2
  have HP2 := hid (HPT.out w2 hp2 (rEntries.mono (rEntries.keep HL.out fun q hq => hbw2.block q hq) fun q hq => ⟨by have := hbw2.size; omega, fun hf => by have := (hp2.own_lt hf).1; omega⟩) hfit)
  clear hp2 B1 B2
  go_wp2_with fail
  refine HP2.out.mono ?_
  rintro r w3 ⟨rfl, hst⟩
  rw [List.nil_append] at hst
  have hbw3 : Below w.heap.size w w3 := hbw2.trans (HPA.out.below hs1 hbw2.size hst)
  obtain ⟨a3, c3, hp3, _, _⟩ := hst
  have HB := hid (pen_bytes w3 hp3)
  have hs3 := hbw3.size
  clear hp3 x0 x1 x2
  go_wp2_with fail
  refine HB.out.mono ?_
  rintro r w4 ⟨v, rfl, hv, hb4⟩
  have hbe := below_then hb4 hbw3
  have HV := hid (rBytes.mono (S' := fun q => w.heap.size ≤ q ∧ q < w4.heap.size) hv fun q hq => ⟨by have := hq.1; omega, hq.2⟩)
  clear hv
  go_wp2
  go_ret2
  exact ⟨_, rfl, HV.out, hbe⟩
end Go.Proofs.YtkipiefcnjfdjaaGreat
namespace Go.Proofs.YtkipiefcnjfdjaaGreat
open Go.RowKit Go.Bs Go.Maps
set_option linter.unusedVariables false
set_option linter.unusedSimpArgs false
def live25E : Entry := ⟨[], [7, 8]⟩
def live25B : Batch := ⟨3, 10, [live25E]⟩
theorem live25_bytes : batchBytes live25B = ([3, 10, 1, 0, 2, 2, 0, 7, 8], 0) := by decide +kernel
def want25 : Array Value := #[.int .u8 3, .int .u8 10, .int .u8 1, .int .u8 0, .int .u8 2, .int .u8 2, .int .u8 0, .int .u8 7, .int .u8 8]
theorem want25_is : want25 = (byteCells [3, 10, 1, 0, 2, 2, 0, 7, 8]).toArray := by rfl
theorem live25_entries {w : World} {g h : Nat} (hg : Blk w g 5 #[.int .u8 7, .int .u8 8]) (hh : Blk w h 75 #[.slice none 0 0, .slice (some ⟨g, 0, none⟩) 2 2]) :
  rEntries.r (· < w.heap.size) w [.slice (some ⟨h, 0, none⟩) 1 1] [live25E] := by
 refine rSl_mk (xs := [live25E]) rfl (Nat.le_refl _) (by decide) (.inr ⟨h, 0, rfl, hh.lt, fun i x hi => ?_⟩)
 have hi0 : i = 0 := by
  rcases i with _ | i
  ·rfl
  ·simp at hi
 subst hi0
 simp at hi
 subst hi
 refine ⟨[.slice none 0 0, .slice (some ⟨g, 0, none⟩) 2 2], rfl, fun j v hj => ?_, entry_mk (x := live25E) ?_ ?_⟩
 ·rcases j with _ | _ | j
  ·simp at hj; subst hj; exact hh.cell 0
  ·simp at hj; subst hj; exact hh.cell 1
  ·simp at hj
 ·exact rSl_mk (xs := []) rfl (Nat.le_refl _) (Nat.zero_le _) (.inl rfl)
 ·exact lit_bytes (l := [7, 8]) (cs := #[.int .u8 7, .int .u8 8]) rfl (by decide) hg
set_option maxRecDepth 100000 in
set_option maxHeartbeats 1600000 in
theorem live25 (w : World) : Calls Tryz.prog 16 #[] w fun r w' => r = .returned (.bool true) ∧ Below w.heap.size w w' := by
 have HB := hid (fun (W : World) (a : Option Addr) (h : rEntries.r (· < W.heap.size) W [.slice a 1 1] [live25E]) => (by
  have := batch_bytes W live25B a 1 1 ⟨by decide, by decide, fun e he => by simp [live25B] at he; subst he; exact fun x hx => by simp [live25E] at hx⟩ h ⟨by decide, by decide, fun e he => by simp [live25B] at he; subst he; exact fun x hx => by simp [live25E] at hx⟩
  rw [live25_bytes] at this
  exact this : Calls Tryz.prog 17 #[.agg #[.int .u64 3, .int .u64 10, .slice a 1 1]] W fun r w' => ∃ v, r = .returned (.tuple #[v, .int .i64 0]) ∧ rBytes.r (fun q => W.heap.size ≤ q ∧ q < w'.heap.size) w' [v] [3, 10, 1, 0, 2, 2, 0, 7, 8] ∧ Below W.heap.size W w'))
 go_enter Tryz.func16, Tryz.ntmps16
 go_wp2_with fail
 refine (HB.out _ _ (live25_entries ((Blk.newAt w _ _ rfl).alloc _) (Blk.newAt _ _ _ (by simp)))).mono ?_
 rintro r w1 ⟨v, rfl, hr, hb1⟩
 obtain ⟨a1, c1, hv, hr2, _⟩ := sl_form hr
 simp only [List.cons.injEq, and_true] at hv
 subst hv
 have HR := hid (rBytes.mono hr2 (S' := (· < w1.heap.size)) fun q hq => hq.2)
 have hbw : Below w.heap.size w w1 := by (repeat first | exact zR | assumption | apply zA | apply zS | apply zD | apply zN | refine zT (by assumption) ?_ | omega | simp <;> omega)
 clear hr hr2 hb1
 go_wp2_with fail
 have hs1 := same_bytes [3, 10, 1, 0, 2, 2, 0, 7, 8] [3, 10, 1, 0, 2, 2, 0, 7, 8] a1 (some ⟨w1.heap.size, 0, none⟩) _ c1 9 9 (w1.alloc (.cells want25 5)) (lift HR.out (by clear hbw; (repeat (first | exact Below.refl _ _ | assumption | (refine below_alloc ?_ _) | (refine Below.setCell ?_ (by first | omega | (simp; done) | (simp; omega)) _) | (refine Below.drew ?_) | (refine below_drewN ?_ _) | (refine below_then (by assumption) ?_))))) (lit_bytes want25_is (by decide) (World.alloc_heap_new w1 _))
 simp only [decide_true] at hs1
 refine hs1.mono ?_
 rintro r w3 ⟨rfl, rfl⟩
 have hbe : Below w.heap.size w (w1.alloc (.cells want25 5)) := below_alloc hbw _
 clear hs1
 generalize w1.alloc (.cells want25 5) = w3 at *
 go_wp2
 go_ret
 exact ⟨rfl, hbe⟩
end Go.Proofs.YtkipiefcnjfdjaaGreat
namespace Go.Proofs.YtkipiefcnjfdjaaGreat
open Go.RowKit Go.Bs Go.Maps
set_option linter.unusedVariables false
set_option linter.unusedSimpArgs false
theorem law25_great (w : World) (B : List UInt8) (a : Option Addr) (n c : Nat) (hl : rBytes.r (· < w.heap.size) w [.slice a n c] B) (hB : B.length ≤ 1000000000) :
  Calls Tryz.prog 29 #[.slice a n c] w fun r w' => ∃ q : Bool, r = .returned (.bool q) ∧ w = w' := by
 obtain ⟨rfl, hm, _, _⟩ := sl_len hl
 have HL := hid hl
 clear hl
 go_enter Tryz.func29, Tryz.ntmps29
 go_wp2
 go_loop [3] (fun i => ∃ k : Nat, k ≤ B.length ∧ i = .int .i64 k) (fun i => B.length + 1 - (intOf i).toNat)
 case atStart => exact ⟨0, Nat.zero_le _, rfl⟩
 case round =>
  obtain ⟨k, hk, rfl⟩ := hrel
  by_cases h1 : k + 1 < B.length
  ·obtain ⟨b1, o1, hA1, hb1, hx1⟩ := byte_at HL.out (i := k) (by omega)
   obtain ⟨b2, o2, hA2, hb2, hx2⟩ := byte_at HL.out (i := k + 1) h1
   subst hA1
   simp only [Option.some.injEq, Addr.mk.injEq, and_true] at hA2
   obtain ⟨rfl, rfl⟩ := hA2
   have e1 : decide ((k : Int) + 1 < (B.length : Int)) = true := decide_eq_true (by omega)
   have i1 : (k : Int) < (B.length : Int) := by omega
   have i2 : (k : Int) + 1 < (B.length : Int) := by omega
   generalize B[k].toNat = x at *
   generalize B[k + 1].toNat = y at *
   by_cases c1 : 128 ≤ x
   ·have d1 : decide ((128 : Int) ≤ (x : Int)) = true := decide_eq_true (by omega)
    have d1' : decide (128 ≤ x) = true := decide_eq_true c1
    by_cases c2 : 3 ≤ y
    ·have d2 : decide ((3 : Int) ≤ (y : Int)) = true := decide_eq_true (by omega)
     have d2' : decide (3 ≤ y) = true := decide_eq_true c2
     go_wp2
     go_ret
     first | exact ⟨.inl rfl, rfl⟩ | exact ⟨.inr rfl, rfl⟩
    ·have d2 : decide ((3 : Int) ≤ (y : Int)) = false := decide_eq_false (by omega)
     have d2' : decide (3 ≤ y) = false := decide_eq_false c2
     go_wp2
     go_round
     case rel => exact ⟨k + 1, by omega, by go_num⟩
     case measure => simp [intOf]; omega
   ·have d1 : decide ((128 : Int) ≤ (x : Int)) = false := decide_eq_false (by omega)
    have d1' : decide (128 ≤ x) = false := decide_eq_false c1
    go_wp2
    go_round
    case rel => exact ⟨k + 1, by omega, by go_num⟩
    case measure => simp [intOf]; omega
  ·have e1 : decide ((k : Int) + 1 < (B.length : Int)) = false := decide_eq_false (by omega)
   go_wp2
   go_ret
   first | exact ⟨.inl rfl, rfl⟩ | exact ⟨.inr rfl, rfl⟩
end Go.Proofs.YtkipiefcnjfdjaaGreat
namespace Go.Proofs.YtkipiefcnjfdjaaGreat
open Go.RowKit Go.Bs Go.Maps
set_option linter.unusedVariables false
set_option linter.unusedSimpArgs false
theorem Rs.int_none {B : List UInt8} {s : Rs} {m : Int} (h : (s.int B m).1.k ≠ 0) : (s.int B m).2 = 0 := by
 unfold Rs.int Rs.most at *
 split at h
 ·split at h
  ·rename_i h1 h2; rw [if_pos h1, if_pos h2]
  ·rename_i h1 h2; rw [if_pos h1, if_neg h2]; exact Rs.num_bad h
 ·rename_i h1; rw [if_neg h1]
theorem wrap_u64_range (n : Int) : 0 ≤ IntKind.u64.wrap n ∧ IntKind.u64.wrap n ≤ 18446744073709551615 := by
 rw [IntKind.wrap_u64]; omega
theorem own_far4 {w : World} {lo : Nat} {e : TypeId} {size n : Nat} {v : Value} {xs : List Value} {g : Nat} {a b c d : Value} (h : w.ownsRow lo e size v n xs) (hg : g < lo) : ((((w.setCell ⟨g, 0, none⟩ a).setCell ⟨g, 1, none⟩ b).setCell ⟨g, 2, none⟩ c).setCell ⟨g, 3, none⟩ d).ownsRow lo e size v n xs :=
 own_stays h fun q hv _ => by
  have := (own_lt h q hv).1
  repeat rw [Below.heap_setCell _ _ _ _ (by dsimp only; omega)]
theorem own_far4b {w : World} {lo : Nat} {e : TypeId} {size n : Nat} {v : Value} {xs : List Value} {g : Nat} {a b c d : Value} {o : Obj} (h : w.ownsRow lo e size v n xs) (hg : v.ownBlock ≠ some g) : (((((w.setCell ⟨g, 0, none⟩ a).setCell ⟨g, 1, none⟩ b).setCell ⟨g, 2, none⟩ c).setCell ⟨g, 3, none⟩ d).alloc o).ownsRow lo e size v n xs :=
 own_stays h fun q hv hl => by
  have hq : q ≠ g := fun e => hg (e ▸ hv)
  rw [Below.heap_alloc _ _ q (by simpa using hl)]
  repeat rw [Below.heap_setCell _ _ _ _ hq]
set_option maxRecDepth 100000 in
set_option maxHeartbeats 3200000 in
theorem ref17_ep (w : World) (a : Option Addr) (c : Nat) (B : List UInt8) (hl : rBytes.r (· < w.heap.size) w [.slice a B.length c] B) (s : Rs) (hs : s.ok B.length) (hB : B.length ≤ 1000000000000) :
  Calls Tryz.prog 97 #[CV a B.length c s, .int .i64 1] w fun r w' => r = .returned (.tuple #[CV a B.length c (s.ep B).1, .int .u64 ((s.ep B).2 : Int)]) ∧ Below w.heap.size w w' := by
 have hR := hid (fun (W : World) (hW : Below w.heap.size w W) => ref04_read W a c B (lift hl hW) s hs hB)
 have hF := hid (fun (W : World) (t : Rs) => ref02_fail W a B.length c t 3 s.p (by omega))
 unfold Rs.ep
 generalize s.num B = N at *
 obtain ⟨s1, x⟩ := N
 dsimp only at *
 clear hl hs
 unfold CV at *
 have hx0 : (0 : Int) ≤ (x : Int) := by omega
 by_cases hk : s1.k = 0
 ·rw [if_pos hk]
  have d0 : (s1.k != (0 : Int)) = false := by simp [hk]
  clear hk
  by_cases he : epR (x : Int) = true
  ·rw [if_pos he]
   have HR := hid (fun (W : World) => (by have := ref17_right (x : Int) hx0 W; rw [he] at this; exact this : Calls Tryz.prog 82 #[.int .u64 (x : Int)] W fun r w' => r = .returned (.bool true) ∧ W = w'))
   clear he hF
   go_enter Tryz.func97, Tryz.ntmps97
   go_wp2_with fail
   refine (hR.out _ (by (repeat first | with_reducible (first | exact zR | assumption | apply zA | apply zS | apply zD | apply zN) | refine zT (by with_reducible assumption) ?_ | omega | simp <;> omega))).mono ?_
   rintro r w1 ⟨rfl, hb⟩
   have B0 : Blk w1 w.heap.size 50 #[.slice a B.length c, .int .i64 (s.p : Int), .int .i64 s.k, .int .i64 s.f] := Blk.later (by (repeat first | assumption | exact kW (by first | (simp; done) | (simp; omega)) | apply kA | apply kD | apply kN | apply kF | simp <;> omega)) hb
   have B1 : Blk w1 (w.heap.size + 1) 50 #[.slice none 0 0, .int .i64 0, .int .i64 0, .int .i64 0] := Blk.later (by (repeat first | assumption | exact kW (by first | (simp; done) | (simp; omega)) | apply kA | apply kD | apply kN | apply kF | simp <;> omega)) hb
   have hbw : Below w.heap.size w w1 := by (repeat first | with_reducible (first | exact zR | assumption | apply zA | apply zS | apply zD | apply zN) | refine zT (by with_reducible assumption) ?_ | omega | simp <;> omega)
   obtain ⟨x0, x1, x2, x3, f0, f1, f2, f3, l0⟩ := c_blk B0
   obtain ⟨y0, y1, y2, y3, g0, g1, g2, g3, l1⟩ := c_blk B1
   clear hb
   go_wp2_with fail
   refine (HR.out _).mono ?_
   rintro r w2 ⟨rfl, rfl⟩
   go_wp2
   refine bodyPost_ret (v := .tuple #[.agg #[.slice a B.length c, .int .i64 (s1.p : Int), .int .i64 s1.k, .int .i64 s1.f], .int .u64 (x : Int)]) (by simp [results, Tryz.results97, go_sem, y0, y1, y2, y3, l1]) rfl ⟨rfl, by (repeat first | with_reducible (first | exact zR | assumption | apply zA | apply zS | apply zD | apply zN) | refine zT (by with_reducible assumption) ?_ | omega | simp <;> omega)⟩
  ·rw [if_neg he]
   have HR := hid (fun (W : World) => (by have := ref17_right (x : Int) hx0 W; rw [Bool.eq_false_iff.2 he] at this; exact this : Calls Tryz.prog 82 #[.int .u64 (x : Int)] W fun r w' => r = .returned (.bool false) ∧ W = w'))
   have HF := hid (fun (W : World) => hF.out W s1)
   clear he hF
   dsimp only
   generalize s1.fail 3 s.p = s2 at *
   go_enter Tryz.func97, Tryz.ntmps97
   go_wp2_with fail
   refine (hR.out _ (by (repeat first | with_reducible (first | exact zR | assumption | apply zA | apply zS | apply zD | apply zN) | refine zT (by with_reducible assumption) ?_ | omega | simp <;> omega))).mono ?_
   rintro r w1 ⟨rfl, hb⟩
   have B0 : Blk w1 w.heap.size 50 #[.slice a B.length c, .int .i64 (s.p : Int), .int .i64 s.k, .int .i64 s.f] := Blk.later (by (repeat first | assumption | exact kW (by first | (simp; done) | (simp; omega)) | apply kA | apply kD | apply kN | apply kF | simp <;> omega)) hb
   have B1 : Blk w1 (w.heap.size + 1) 50 #[.slice none 0 0, .int .i64 0, .int .i64 0, .int .i64 0] := Blk.later (by (repeat first | assumption | exact kW (by first | (simp; done) | (simp; omega)) | apply kA | apply kD | apply kN | apply kF | simp <;> omega)) hb
   have hbw : Below w.heap.size w w1 := by (repeat first | with_reducible (first | exact zR | assumption | apply zA | apply zS | apply zD | apply zN) | refine zT (by with_reducible assumption) ?_ | omega | simp <;> omega)
   obtain ⟨x0, x1, x2, x3, f0, f1, f2, f3, l0⟩ := c_blk B0
   obtain ⟨y0, y1, y2, y3, g0, g1, g2, g3, l1⟩ := c_blk B1
   clear hb
   go_wp2_with fail
   refine (HR.out _).mono ?_
   rintro r w2 ⟨rfl, rfl⟩
   go_wp2_with fail
   refine (HF.out _).mono ?_
   rintro r w3 ⟨rfl, hb3⟩
   have B3 : Blk w3 (w.heap.size + 1) 50 #[.slice none 0 0, .int .i64 0, .int .i64 0, .int .i64 0] := Blk.later (B1.alloc _) hb3
   have hbw3 : Below w.heap.size w w3 := by (repeat first | with_reducible (first | exact zR | assumption | apply zA | apply zS | apply zD | apply zN) | refine zT (by with_reducible assumption) ?_ | omega | simp <;> omega)
   obtain ⟨y0, y1, y2, y3, g0, g1, g2, g3, l1⟩ := c_blk B3
   clear hb3
   go_wp2
   refine bodyPost_ret (v := .tuple #[.agg #[.slice a B.length c, .int .i64 (s2.p : Int), .int .i64 s2.k, .int .i64 s2.f], .int .u64 0]) (by simp [results, Tryz.results97, go_sem, y0, y1, y2, y3, l1]) rfl ⟨rfl, by (repeat first | with_reducible (first | exact zR | assumption | apply zA | apply zS | apply zD | apply zN) | refine zT (by with_reducible assumption) ?_ | omega | simp <;> omega)⟩
 ·rw [if_neg hk]
  have d0 : (s1.k != (0 : Int)) = true := by simp [hk]
  clear hk hF
  dsimp only
  go_enter Tryz.func97, Tryz.ntmps97
  go_wp2_with fail
  refine (hR.out _ (by (repeat first | with_reducible (first | exact zR | assumption | apply zA | apply zS | apply zD | apply zN) | refine zT (by with_reducible assumption) ?_ | omega | simp <;> omega))).mono ?_
  rintro r w1 ⟨rfl, hb⟩
  have B0 : Blk w1 w.heap.size 50 #[.slice a B.length c, .int .i64 (s.p : Int), .int .i64 s.k, .int .i64 s.f] := Blk.later (by (repeat first | assumption | exact kW (by first | (simp; done) | (simp; omega)) | apply kA | apply kD | apply kN | apply kF | simp <;> omega)) hb
  have B1 : Blk w1 (w.heap.size + 1) 50 #[.slice none 0 0, .int .i64 0, .int .i64 0, .int .i64 0] := Blk.later (by (repeat first | assumption | exact kW (by first | (simp; done) | (simp; omega)) | apply kA | apply kD | apply kN | apply kF | simp <;> omega)) hb
  have hbw : Below w.heap.size w w1 := by (repeat first | with_reducible (first | exact zR | assumption | apply zA | apply zS | apply zD | apply zN) | refine zT (by with_reducible assumption) ?_ | omega | simp <;> omega)
  obtain ⟨x0, x1, x2, x3, f0, f1, f2, f3, l0⟩ := c_blk B0
  obtain ⟨y0, y1, y2, y3, g0, g1, g2, g3, l1⟩ := c_blk B1
  clear hb
  go_wp2
  refine bodyPost_ret (v := .tuple #[.agg #[.slice a B.length c, .int .i64 (s1.p : Int), .int .i64 s1.k, .int .i64 s1.f], .int .u64 0]) (by simp [results, Tryz.results97, go_sem, y0, y1, y2, y3, l1]) rfl ⟨rfl, by (repeat first | with_reducible (first | exact zR | assumption | apply zA | apply zS | apply zD | apply zN) | refine zT (by with_reducible assumption) ?_ | omega | simp <;> omega)⟩
set_option maxRecDepth 100000 in
set_option maxHeartbeats 3200000 in
theorem ref17_po (w : World) (a : Option Addr) (c : Nat) (B : List UInt8) (hl : rBytes.r (· < w.heap.size) w [.slice a B.length c] B) (s : Rs) (hs : s.ok B.length) (hB : B.length ≤ 1000000000000) :
  Calls Tryz.prog 97 #[CV a B.length c s, .int .i64 2] w fun r w' => r = .returned (.tuple #[CV a B.length c (s.po B).1, .int .u64 ((s.po B).2 : Int)]) ∧ Below w.heap.size w w' := by
 have hR := hid (fun (W : World) (hW : Below w.heap.size w W) => ref04_read W a c B (lift hl hW) s hs hB)
 have hF := hid (fun (W : World) (t : Rs) => ref02_fail W a B.length c t 3 s.p (by omega))
 unfold Rs.po
 generalize s.num B = N at *
 obtain ⟨s1, x⟩ := N
 dsimp only at *
 clear hl hs
 unfold CV at *
 have hx0 : (0 : Int) ≤ (x : Int) := by omega
 by_cases hk : s1.k = 0
 ·rw [if_pos hk]
  have d0 : (s1.k != (0 : Int)) = false := by simp [hk]
  clear hk
  by_cases he : poR (x : Int) = true
  ·rw [if_pos he]
   have HR := hid (fun (W : World) => (by have := ref17_pos (x : Int) W; rw [he] at this; exact this : Calls Tryz.prog 139 #[.int .u64 (x : Int)] W fun r w' => r = .returned (.bool true) ∧ W = w'))
   clear he hF
   go_enter Tryz.func97, Tryz.ntmps97
   go_wp2_with fail
   refine (hR.out _ (by (repeat first | with_reducible (first | exact zR | assumption | apply zA | apply zS | apply zD | apply zN) | refine zT (by with_reducible assumption) ?_ | omega | simp <;> omega))).mono ?_
   rintro r w1 ⟨rfl, hb⟩
   have B0 : Blk w1 w.heap.size 50 #[.slice a B.length c, .int .i64 (s.p : Int), .int .i64 s.k, .int .i64 s.f] := Blk.later (by (repeat first | assumption | exact kW (by first | (simp; done) | (simp; omega)) | apply kA | apply kD | apply kN | apply kF | simp <;> omega)) hb
   have B1 : Blk w1 (w.heap.size + 1) 50 #[.slice none 0 0, .int .i64 0, .int .i64 0, .int .i64 0] := Blk.later (by (repeat first | assumption | exact kW (by first | (simp; done) | (simp; omega)) | apply kA | apply kD | apply kN | apply kF | simp <;> omega)) hb
   have hbw : Below w.heap.size w w1 := by (repeat first | with_reducible (first | exact zR | assumption | apply zA | apply zS | apply zD | apply zN) | refine zT (by with_reducible assumption) ?_ | omega | simp <;> omega)
   obtain ⟨x0, x1, x2, x3, f0, f1, f2, f3, l0⟩ := c_blk B0
   obtain ⟨y0, y1, y2, y3, g0, g1, g2, g3, l1⟩ := c_blk B1
   clear hb
   go_wp2_with fail
   refine (HR.out _).mono ?_
   rintro r w2 ⟨rfl, rfl⟩
   go_wp2
   refine bodyPost_ret (v := .tuple #[.agg #[.slice a B.length c, .int .i64 (s1.p : Int), .int .i64 s1.k, .int .i64 s1.f], .int .u64 (x : Int)]) (by simp [results, Tryz.results97, go_sem, y0, y1, y2, y3, l1]) rfl ⟨rfl, by (repeat first | with_reducible (first | exact zR | assumption | apply zA | apply zS | apply zD | apply zN) | refine zT (by with_reducible assumption) ?_ | omega | simp <;> omega)⟩
  ·rw [if_neg he]
   have HR := hid (fun (W : World) => (by have := ref17_pos (x : Int) W; rw [Bool.eq_false_iff.2 he] at this; exact this : Calls Tryz.prog 139 #[.int .u64 (x : Int)] W fun r w' => r = .returned (.bool false) ∧ W = w'))
   have HF := hid (fun (W : World) => hF.out W s1)
   clear he hF
   dsimp only
   generalize s1.fail 3 s.p = s2 at *
   go_enter Tryz.func97, Tryz.ntmps97
   go_wp2_with fail
   refine (hR.out _ (by (repeat first | with_reducible (first | exact zR | assumption | apply zA | apply zS | apply zD | apply zN) | refine zT (by with_reducible assumption) ?_ | omega | simp <;> omega))).mono ?_
   rintro r w1 ⟨rfl, hb⟩
   have B0 : Blk w1 w.heap.size 50 #[.slice a B.length c, .int .i64 (s.p : Int), .int .i64 s.k, .int .i64 s.f] := Blk.later (by (repeat first | assumption | exact kW (by first | (simp; done) | (simp; omega)) | apply kA | apply kD | apply kN | apply kF | simp <;> omega)) hb
   have B1 : Blk w1 (w.heap.size + 1) 50 #[.slice none 0 0, .int .i64 0, .int .i64 0, .int .i64 0] := Blk.later (by (repeat first | assumption | exact kW (by first | (simp; done) | (simp; omega)) | apply kA | apply kD | apply kN | apply kF | simp <;> omega)) hb
   have hbw : Below w.heap.size w w1 := by (repeat first | with_reducible (first | exact zR | assumption | apply zA | apply zS | apply zD | apply zN) | refine zT (by with_reducible assumption) ?_ | omega | simp <;> omega)
   obtain ⟨x0, x1, x2, x3, f0, f1, f2, f3, l0⟩ := c_blk B0
   obtain ⟨y0, y1, y2, y3, g0, g1, g2, g3, l1⟩ := c_blk B1
   clear hb
   go_wp2_with fail
   refine (HR.out _).mono ?_
   rintro r w2 ⟨rfl, rfl⟩
   go_wp2_with fail
   refine (HF.out _).mono ?_
   rintro r w3 ⟨rfl, hb3⟩
   have B3 : Blk w3 (w.heap.size + 1) 50 #[.slice none 0 0, .int .i64 0, .int .i64 0, .int .i64 0] := Blk.later (B1.alloc _) hb3
   have hbw3 : Below w.heap.size w w3 := by (repeat first | with_reducible (first | exact zR | assumption | apply zA | apply zS | apply zD | apply zN) | refine zT (by with_reducible assumption) ?_ | omega | simp <;> omega)
   obtain ⟨y0, y1, y2, y3, g0, g1, g2, g3, l1⟩ := c_blk B3
   clear hb3
   go_wp2
   refine bodyPost_ret (v := .tuple #[.agg #[.slice a B.length c, .int .i64 (s2.p : Int), .int .i64 s2.k, .int .i64 s2.f], .int .u64 0]) (by simp [results, Tryz.results97, go_sem, y0, y1, y2, y3, l1]) rfl ⟨rfl, by (repeat first | with_reducible (first | exact zR | assumption | apply zA | apply zS | apply zD | apply zN) | refine zT (by with_reducible assumption) ?_ | omega | simp <;> omega)⟩
 ·rw [if_neg hk]
  have d0 : (s1.k != (0 : Int)) = true := by simp [hk]
  clear hk hF
  dsimp only
  go_enter Tryz.func97, Tryz.ntmps97
  go_wp2_with fail
  refine (hR.out _ (by (repeat first | with_reducible (first | exact zR | assumption | apply zA | apply zS | apply zD | apply zN) | refine zT (by with_reducible assumption) ?_ | omega | simp <;> omega))).mono ?_
  rintro r w1 ⟨rfl, hb⟩
  have B0 : Blk w1 w.heap.size 50 #[.slice a B.length c, .int .i64 (s.p : Int), .int .i64 s.k, .int .i64 s.f] := Blk.later (by (repeat first | assumption | exact kW (by first | (simp; done) | (simp; omega)) | apply kA | apply kD | apply kN | apply kF | simp <;> omega)) hb
  have B1 : Blk w1 (w.heap.size + 1) 50 #[.slice none 0 0, .int .i64 0, .int .i64 0, .int .i64 0] := Blk.later (by (repeat first | assumption | exact kW (by first | (simp; done) | (simp; omega)) | apply kA | apply kD | apply kN | apply kF | simp <;> omega)) hb
  have hbw : Below w.heap.size w w1 := by (repeat first | with_reducible (first | exact zR | assumption | apply zA | apply zS | apply zD | apply zN) | refine zT (by with_reducible assumption) ?_ | omega | simp <;> omega)
  obtain ⟨x0, x1, x2, x3, f0, f1, f2, f3, l0⟩ := c_blk B0
  obtain ⟨y0, y1, y2, y3, g0, g1, g2, g3, l1⟩ := c_blk B1
  clear hb
  go_wp2
  refine bodyPost_ret (v := .tuple #[.agg #[.slice a B.length c, .int .i64 (s1.p : Int), .int .i64 s1.k, .int .i64 s1.f], .int .u64 0]) (by simp [results, Tryz.results97, go_sem, y0, y1, y2, y3, l1]) rfl ⟨rfl, by (repeat first | with_reducible (first | exact zR | assumption | apply zA | apply zS | apply zD | apply zN) | refine zT (by with_reducible assumption) ?_ | omega | simp <;> omega)⟩
set_option maxRecDepth 100000 in
set_option maxHeartbeats 6400000 in
theorem ref22_read (w : World) (a : Option Addr) (c : Nat) (B : List UInt8) (hl : rBytes.r (· < w.heap.size) w [.slice a B.length c] B) (s : Rs) (hs : s.ok B.length) (hB : B.length ≤ 1000000000000) (below : Int) (hbl : 0 ≤ below ∧ below ≤ 18446744073709551615) (most : Int) (hmo : 0 ≤ most ∧ most ≤ 1000) :
  Calls Tryz.prog 217 #[CV a B.length c s, .int .u64 below, .int .i64 most] w fun r w' => ∃ v, r = .returned (.tuple #[CV a B.length c (s.delta B below most).1, v]) ∧ rU64s.r (Fresh w w') w' [v] (s.delta B below most).2 ∧ Below w.heap.size w w' := by
 obtain ⟨i0, hi, hz0, hz1, hz2⟩ := info_parts infoU
 have hI := hid (fun (W : World) (hW : Below w.heap.size w W) => ref04_int W a c B (lift hl hW) s hs hB most (by omega))
 have hNm := Rs.int_le (B := B) (s := s) (m := most)
 have hNz := Rs.int_none (B := B) (s := s) (m := most)
 have hok := Rs.int_ok (B := B) hs (m := most)
 have HL := hid hl
 unfold Rs.delta
 generalize s.int B most = I at *
 obtain ⟨s1, N⟩ := I
 dsimp only at *
 have hN : N ≤ 1000 := by omega
 have HNZ := hid hNz
 have HOK := hid hok
 clear hl hs hNz hok hNm
 unfold CV at *
 go_enter Tryz.func217, Tryz.ntmps217
 go_wp2_with fail
 refine (hI.out _ (by (repeat first | with_reducible (first | exact zR | assumption | apply zA | apply zS | apply zD | apply zN) | refine zT (by with_reducible assumption) ?_ | omega | simp <;> omega))).mono ?_
 rintro r w1 ⟨rfl, hb⟩
 have B1 : Blk w1 (w.heap.size + 1) 50 #[.slice none 0 0, .int .i64 0, .int .i64 0, .int .i64 0] := Blk.later (by (repeat first | assumption | exact kW (by first | (simp; done) | (simp; omega)) | apply kA | apply kD | apply kN | apply kF | simp <;> omega)) hb
 have hbw : Below w.heap.size w w1 := by (repeat first | with_reducible (first | exact zR | assumption | apply zA | apply zS | apply zD | apply zN) | refine zT (by with_reducible assumption) ?_ | omega | simp <;> omega)
 have hs1 := hb.size
 simp at hs1
 have l1 := B1.lt
 have BD : Blk (w1.alloc (.cells #[.slice a B.length c, .int .i64 (s1.p : Int), .int .i64 s1.k, .int .i64 s1.f] 50)) w1.heap.size 50 #[.slice a B.length c, .int .i64 (s1.p : Int), .int .i64 s1.k, .int .i64 s1.f] := by (repeat first | assumption | exact kW (by first | (simp; done) | (simp; omega)) | apply kA | apply kD | apply kN | apply kF | simp <;> omega)
 have BR : Blk (w1.alloc (.cells #[.slice a B.length c, .int .i64 (s1.p : Int), .int .i64 s1.k, .int .i64 s1.f] 50)) (w.heap.size + 1) 50 #[.slice none 0 0, .int .i64 0, .int .i64 0, .int .i64 0] := B1.alloc _
 have hbD : Below w.heap.size w (w1.alloc (.cells #[.slice a B.length c, .int .i64 (s1.p : Int), .int .i64 s1.k, .int .i64 s1.f] 50)) := by (repeat first | with_reducible (first | exact zR | assumption | apply zA | apply zS | apply zD | apply zN) | refine zT (by with_reducible assumption) ?_ | omega | simp <;> omega)
 clear hb B1
 go_wp2_with fail
 go_loopw [1, 10, 11] (fun bb v i wr => ∃ (k : Nat) (bel : Int) (J : List Int) (st : Rs), k ≤ N ∧ i = .int .i64 k ∧ bb = .int .u64 bel ∧ 0 ≤ bel ∧ bel ≤ 18446744073709551615 ∧ Hid (J.length = k) ∧ wr.ownsRow (w1.heap.size + 1) 22 1 v J.length (u64Cells J) ∧ Hid (∀ x ∈ J, 0 ≤ x ∧ x ≤ 18446744073709551615) ∧ Blk wr w1.heap.size 50 #[.slice a B.length c, .int .i64 (st.p : Int), .int .i64 st.k, .int .i64 st.f] ∧ Blk wr (w.heap.size + 1) 50 #[.slice none 0 0, .int .i64 0, .int .i64 0, .int .i64 0] ∧ Below w.heap.size w wr ∧ w1.heap.size + 1 ≤ wr.heap.size ∧ Hid (st.ok B.length) ∧ Hid (st.k = 0 → Rs.falls B N s1 below [] = Rs.falls B (N - k) st bel J) ∧ Hid (st.k ≠ 0 → Rs.falls B N s1 below [] = (st, []))) (fun _ _ i _ => N - (intOf i).toNat)
 case atStart => exact ⟨0, below, [], s1, Nat.zero_le _, rfl, rfl, hbl.1, hbl.2, hid rfl, ⟨rfl, .inl ⟨rfl, rfl⟩⟩, hid (by simp), BD, BR, hbD, by simp, HOK, hid (fun _ => rfl), hid (fun h => by rw [HNZ.out h]; rfl)⟩
 case round =>
  obtain ⟨k, bel, J, st, hk, rfl, rfl, hb0, hb1, hJl, hown, hJb, hD, hRs, hbe, hsz, hok, hsp, hsn⟩ := hrel
  obtain ⟨av, cv, rfl⟩ := own_form hown
  have hJ9 : J.length ≤ 1000 := by have := hJl.out; omega
  obtain ⟨x0, x1, x2, x3, f0, f1, f2, f3, l0⟩ := c_blk hD
  obtain ⟨y0, y1, y2, y3, g0, g1, g2, g3, l1⟩ := c_blk hRs
  have HO := hid hown
  have HD := hid hD
  have HRS := hid hRs
  have HBE := hid hbe
  clear hown hD hRs
  rcases Nat.lt_or_ge k N with hlt2 | hge
  ·have i1 : (k : Int) < (N : Int) := by omega
   have d1 : decide ((k : Int) < (N : Int)) = true := decide_eq_true i1
   have d1' : decide (k < N) = true := decide_eq_true hlt2
   by_cases hk0 : st.k = 0
   ·have dk : (st.k == (0 : Int)) = true := by simp [hk0]
    have hsp1 := hsp.out hk0
    have hstep : Rs.falls B (N - k) st bel J = (if (st.num B).1.k = 0 then (if bel ≤ ((st.num B).2 : Int) then ((st.num B).1.fail 13 st.p, []) else Rs.falls B (N - (k + 1)) (st.num B).1 (bel - (st.num B).2 - 1) (J ++ [bel - (st.num B).2 - 1])) else ((st.num B).1, [])) := by
     rw [show N - k = (N - (k + 1)) + 1 by omega]; rfl
    rw [hstep] at hsp1
    have hVR := hid (fun (W : World) (hW : Below w.heap.size w W) => (by have := ref04_read W a c B (lift HL.out hW) st hok.out hB; unfold CV at this; exact this : Calls Tryz.prog 163 #[.agg #[.slice a B.length c, .int .i64 (st.p : Int), .int .i64 st.k, .int .i64 st.f]] W fun r w' => r = .returned (.tuple #[.agg #[.slice a B.length c, .int .i64 ((st.num B).1.p : Int), .int .i64 (st.num B).1.k, .int .i64 (st.num B).1.f], .int .u64 ((st.num B).2 : Int)]) ∧ Below W.heap.size W w'))
    have hx := Rs.num_small (B := B) (s := st)
    have hnok := Rs.num_ok (B := B) hok.out
    have HFL := hid (fun (W : World) (t : Rs) => (by have := ref02_fail W a B.length c t 13 (st.p : Int) (by omega); unfold CV at this; exact this : Calls Tryz.prog 99 #[.agg #[.slice a B.length c, .int .i64 (t.p : Int), .int .i64 t.k, .int .i64 t.f], .int .i64 13, .int .i64 (st.p : Int)] W fun r w' => r = .returned (.agg #[.slice a B.length c, .int .i64 ((t.fail 13 (st.p : Int)).p : Int), .int .i64 (t.fail 13 (st.p : Int)).k, .int .i64 (t.fail 13 (st.p : Int)).f]) ∧ Below W.heap.size W w'))
    clear hsp hsn hstep hk0
    generalize st.num B = R at *
    obtain ⟨st1, x⟩ := R
    dsimp only at *
    have HOK1 := hid hnok
    clear hnok
    by_cases hk1 : st1.k = 0
    ·rw [if_pos hk1] at hsp1
     have dk1 : (st1.k == (0 : Int)) = true := by simp [hk1]
     by_cases hbx : bel ≤ (x : Int)
     ·rw [if_pos hbx] at hsp1
      have d2 : decide (bel ≤ (x : Int)) = true := decide_eq_true hbx
      have hfk : (st1.fail 13 (st.p : Int)).k ≠ 0 := Rs.fail_k (by omega)
      have HOK2 := hid (Rs.fail_ok HOK1.out (c := 13) (at_ := (st.p : Int)) (by omega))
      have HSP := hid hsp1
      have HFK := hid hfk
      have HF := hid (fun (W : World) => HFL.out W st1)
      clear hsp1 hfk hk1 HFL
      generalize st1.fail 13 (st.p : Int) = st2 at *
      obtain ⟨y, hy, hy0, hy1⟩ : ∃ y, IntKind.u64.wrap (IntKind.u64.wrap (bel - (x : Int)) - 1) = y ∧ 0 ≤ y ∧ y ≤ 18446744073709551615 := ⟨_, rfl, (wrap_u64_range _).1, (wrap_u64_range _).2⟩
      have HY := hid hy
      clear hy
      go_wp2_with fail
      refine (hVR.out _ HBE.out).mono ?_
      rintro r w3 ⟨rfl, hb3⟩
      have D3 := HD.out.later hb3
      have R3 := HRS.out.later hb3
      have HO3 := hid (own_below HO.out hb3)
      have hbe3 := below_then hb3 HBE.out
      have hs3 := hb3.size
      obtain ⟨x0, x1, x2, x3, f0, f1, f2, f3, l0⟩ := c_blk D3
      clear hb3 y0 y1 y2 y3 g0 g1 g2 g3 l1
      have hbe4 : Below w.heap.size w (w3.alloc (.cells #[.slice a B.length c, .int .i64 (st1.p : Int), .int .i64 st1.k, .int .i64 st1.f] 50)) := by (repeat first | with_reducible (first | exact zR | assumption | apply zA | apply zS | apply zD | apply zN) | refine zT (by with_reducible assumption) ?_ | omega | simp <;> omega)
      have D4 : Blk (w3.alloc (.cells #[.slice a B.length c, .int .i64 (st1.p : Int), .int .i64 st1.k, .int .i64 st1.f] 50)) w1.heap.size 50 #[.slice a B.length c, .int .i64 (st.p : Int), .int .i64 st.k, .int .i64 st.f] := D3.alloc _
      have R4 : Blk (w3.alloc (.cells #[.slice a B.length c, .int .i64 (st1.p : Int), .int .i64 st1.k, .int .i64 st1.f] 50)) (w.heap.size + 1) 50 #[.slice none 0 0, .int .i64 0, .int .i64 0, .int .i64 0] := R3.alloc _
      have X4 : Blk (w3.alloc (.cells #[.slice a B.length c, .int .i64 (st1.p : Int), .int .i64 st1.k, .int .i64 st1.f] 50)) w3.heap.size 50 #[.slice a B.length c, .int .i64 (st1.p : Int), .int .i64 st1.k, .int .i64 st1.f] := Blk.newAt _ _ _ rfl
      go_wp2_with fail
      refine (HF.out _).mono ?_
      rintro r w6 ⟨rfl, hb6⟩
      have D6 := D4.later hb6
      have R6 := R4.later hb6
      have X6 := X4.later hb6
      have HO6' := hid (own_below HO3.out (show Below w3.heap.size w3 w6 from ((Below.refl _ _).alloc (Nat.le_refl _) _).trans (hb6.mono (by simp))))
      have hbe6 := below_then hb6 hbe4
      have hs6 := hb6.size
      simp at hs6
      have HS6 : Hid (w1.heap.size + 1 ≤ w6.heap.size) := hid (by omega)
      clear hb6 D4 R4 X4 hbe4 x0 x1 x2 x3 f0 f1 f2 f3 l0
      obtain ⟨x0, x1, x2, x3, f0, f1, f2, f3, l0⟩ := c_blk D6
      obtain ⟨q0, q1, q2, q3, p0, p1, p2, p3, lq⟩ := c_blk X6
      go_wp2_with (at_builtin; (try rw [HY.out]); go_loud (refine wpList_append_src rfl _ _ _ rfl (w1.heap.size + 1) 22 i0 (.int .u64 0) 1 8 Tryz.underlying207 hi hz0 hz1 hz2 rfl (by decide) (.slice av J.length cv) J.length _ rfl (own_far4b HO6'.out (fun e => by have := (HO3.out.lt _ e).2; omega)) (some ⟨w6.heap.size, 0, none⟩) 1 1 [.int .u64 (y)] rfl (src_new1 _ 22 _ rfl (by simp) rfl) (by simp [Value.oneCell']) (by simp only [maxLen]; omega) (by omega) (by simp; omega) ?_; intro v' w5 hown5 hgrow5 hat5; obtain ⟨a5, c5, rfl⟩ := own_form hown5; have HO5 := hid hown5; have hb5 : Below (w1.heap.size + 1) w6 w5 := (Below.grown ((((((Below.refl _ _).setCell (by dsimp only; omega) _).setCell (by dsimp only; omega) _).setCell (by dsimp only; omega) _).setCell (by dsimp only; omega) _).alloc (by simp; omega) _) hgrow5 (by simp; omega) (fun g e => (HO6'.out.lt g e).1)); have E5 := (hgrow5.block w3.heap.size (by simp; omega) (fun e => by have := (HO3.out.lt _ e.symm).2; omega)).trans (((((X6.set 0 _).set 1 _).set 2 _).set 3 _).alloc _); have E5' : Blk w5 w3.heap.size 50 #[.slice a B.length c, .int .i64 (st2.p : Int), .int .i64 st2.k, .int .i64 st2.f] := E5; have D5 := D6.below hb5 (by omega); have R5 := R6.below hb5 (by omega); have hbe5 : Below w.heap.size w w5 := hbe6.trans (hb5.mono (by omega)); have hs5 := hb5.size; clear hown5 hgrow5 hat5 x0 x1 x2 x3 f0 f1 f2 f3 l0; obtain ⟨x0', x1', x2', x3', f0', f1', f2', f3', l0'⟩ := c_blk D5; obtain ⟨z0, z1, z2, z3, e0, e1, e2, e3, l5⟩ := c_blk E5'))
      have ho5 : w5.ownsRow (w1.heap.size + 1) 22 1 (.slice a5 (J.length + 1) c5) (J ++ [y]).length (u64Cells (J ++ [y])) := by
       have e : u64Cells (J ++ [y]) = u64Cells J ++ [.int .u64 (y)] := by simp [u64Cells]
       rw [e, List.length_append]
       exact HO5.out
      have HO6 := hid ho5
      have HB6 : Hid (∀ t ∈ J ++ [y], 0 ≤ t ∧ t ≤ 18446744073709551615) := hid (fun t ht => by
       rw [List.mem_append, List.mem_singleton] at ht
       rcases ht with ht | rfl
       ·exact hJb.out t ht
       ·omega)
      have HRR := hid R5
      have HDD := hid D5
      have HBE5 := hid hbe5
      clear ho5 R5 D5 E5 E5' hbe5
      go_roundw
      case rel => exact ⟨k + 1, y, J ++ [y], st2, by omega, by go_num, rfl, by omega, by omega, hid (by simp; exact hJl.out), own_far4 HO6.out (by omega), HB6, (((HDD.out.set 0 _).set 1 _).set 2 _).set 3 _, Blk.far (Blk.far (Blk.far (Blk.far HRR.out (by dsimp only; omega) _) (by dsimp only; omega) _) (by dsimp only; omega) _) (by dsimp only; omega) _, (((HBE5.out.setCell (by dsimp only; omega) _).setCell (by dsimp only; omega) _).setCell (by dsimp only; omega) _).setCell (by dsimp only; omega) _, by simp; omega, HOK2, hid (fun h => absurd h HFK.out), hid (fun _ => HSP.out)⟩
      case measure => simp [intOf]; omega
     ·rw [if_neg hbx] at hsp1
      have d2 : decide (bel ≤ (x : Int)) = false := decide_eq_false hbx
      have HSP := hid hsp1
      have HK1 := hid hk1
      have w1' : 0 ≤ bel - (x : Int) := by omega
      have w2' : bel - (x : Int) ≤ 18446744073709551615 := by omega
      have w3' : 0 ≤ bel - (x : Int) - 1 := by omega
      have w4' : bel - (x : Int) - 1 ≤ 18446744073709551615 := by omega
      clear hsp1 hk1 HFL
      go_wp2_with fail
      refine (hVR.out _ HBE.out).mono ?_
      rintro r w3 ⟨rfl, hb3⟩
      have D3 := HD.out.later hb3
      have R3 := HRS.out.later hb3
      have HO3 := hid (own_below HO.out hb3)
      have hbe3 := below_then hb3 HBE.out
      have hs3 := hb3.size
      obtain ⟨x0, x1, x2, x3, f0, f1, f2, f3, l0⟩ := c_blk D3
      clear hb3 y0 y1 y2 y3 g0 g1 g2 g3 l1
      have HS3 : Hid (w1.heap.size + 1 ≤ w3.heap.size) := hid (by omega)
      have X3 : Blk (w3.alloc (.cells #[.slice a B.length c, .int .i64 (st1.p : Int), .int .i64 st1.k, .int .i64 st1.f] 50)) w3.heap.size 50 #[.slice a B.length c, .int .i64 (st1.p : Int), .int .i64 st1.k, .int .i64 st1.f] := Blk.newAt _ _ _ rfl
      go_wp2_with (at_builtin; skip; go_loud (refine wpList_append_src rfl _ _ _ rfl (w1.heap.size + 1) 22 i0 (.int .u64 0) 1 8 Tryz.underlying207 hi hz0 hz1 hz2 rfl (by decide) (.slice av J.length cv) J.length _ rfl (own_below HO3.out (by (repeat first | with_reducible (first | exact zR | assumption | apply zA | apply zS | apply zD | apply zN) | refine zT (by with_reducible assumption) ?_ | omega | simp <;> omega))) (some ⟨w3.heap.size + 1, 0, none⟩) 1 1 [.int .u64 (bel - (x : Int) - 1)] rfl (src_new1 _ 22 _ rfl (by simp) rfl) (by simp [Value.oneCell']) (by simp only [maxLen]; omega) (by omega) (by simp; omega) ?_; intro v' w5 hown5 hgrow5 hat5; obtain ⟨a5, c5, rfl⟩ := own_form hown5; have HO5 := hid hown5; have hb5 : Below (w1.heap.size + 1) w3 w5 := (Below.grown ((by (repeat first | with_reducible (first | exact zR | assumption | apply zA | apply zS | apply zD | apply zN) | refine zT (by with_reducible assumption) ?_ | omega | simp <;> omega) : Below w3.heap.size w3 _).mono HS3.out) hgrow5 (by simp; omega) (fun g e => (HO3.out.lt g e).1)); have E5 := (hgrow5.block w3.heap.size (by simp; omega) (fun e => by have := (HO3.out.lt _ e.symm).2; omega)).trans (X3.alloc _); have E5' : Blk w5 w3.heap.size 50 #[.slice a B.length c, .int .i64 (st1.p : Int), .int .i64 st1.k, .int .i64 st1.f] := E5; have D5 := D3.below hb5 (by omega); have R5 := R3.below hb5 (by omega); have hbe5 : Below w.heap.size w w5 := hbe3.trans (hb5.mono (by omega)); have hs5 := hb5.size; clear hown5 hgrow5 hat5 x0 x1 x2 x3 f0 f1 f2 f3 l0; obtain ⟨x0', x1', x2', x3', f0', f1', f2', f3', l0'⟩ := c_blk D5; obtain ⟨z0, z1, z2, z3, e0, e1, e2, e3, l5⟩ := c_blk E5'))
      have ho5 : w5.ownsRow (w1.heap.size + 1) 22 1 (.slice a5 (J.length + 1) c5) (J ++ [bel - (x : Int) - 1]).length (u64Cells (J ++ [bel - (x : Int) - 1])) := by
       have e : u64Cells (J ++ [bel - (x : Int) - 1]) = u64Cells J ++ [.int .u64 (bel - (x : Int) - 1)] := by simp [u64Cells]
       rw [e, List.length_append]
       exact HO5.out
      have HO6 := hid ho5
      have HB6 : Hid (∀ t ∈ J ++ [bel - (x : Int) - 1], 0 ≤ t ∧ t ≤ 18446744073709551615) := hid (fun t ht => by
       rw [List.mem_append, List.mem_singleton] at ht
       rcases ht with ht | rfl
       ·exact hJb.out t ht
       ·omega)
      have HRR := hid R5
      have HDD := hid D5
      have HBE5 := hid hbe5
      clear ho5 R5 D5 E5 E5' hbe5
      go_roundw
      case rel => exact ⟨k + 1, bel - (x : Int) - 1, J ++ [bel - (x : Int) - 1], st1, by omega, by go_num, rfl, by omega, by omega, hid (by simp; exact hJl.out), own_far4 HO6.out (by omega), HB6, (((HDD.out.set 0 _).set 1 _).set 2 _).set 3 _, Blk.far (Blk.far (Blk.far (Blk.far HRR.out (by dsimp only; omega) _) (by dsimp only; omega) _) (by dsimp only; omega) _) (by dsimp only; omega) _, (((HBE5.out.setCell (by dsimp only; omega) _).setCell (by dsimp only; omega) _).setCell (by dsimp only; omega) _).setCell (by dsimp only; omega) _, by simp; omega, HOK1, hid (fun _ => HSP.out), hid (fun h => absurd HK1.out h)⟩
      case measure => simp [intOf]; omega
    ·rw [if_neg hk1] at hsp1
     have dk1 : (st1.k == (0 : Int)) = false := by simp [hk1]
     have HSP := hid hsp1
     have HK1 := hid hk1
     clear hsp1 hk1 HFL
     obtain ⟨y, hy, hy0, hy1⟩ : ∃ y, IntKind.u64.wrap (IntKind.u64.wrap (bel - (x : Int)) - 1) = y ∧ 0 ≤ y ∧ y ≤ 18446744073709551615 := ⟨_, rfl, (wrap_u64_range _).1, (wrap_u64_range _).2⟩
     have HY := hid hy
     clear hy
     go_wp2_with fail
     refine (hVR.out _ HBE.out).mono ?_
     rintro r w3 ⟨rfl, hb3⟩
     have D3 := HD.out.later hb3
     have R3 := HRS.out.later hb3
     have HO3 := hid (own_below HO.out hb3)
     have hbe3 := below_then hb3 HBE.out
     have hs3 := hb3.size
     obtain ⟨x0, x1, x2, x3, f0, f1, f2, f3, l0⟩ := c_blk D3
     clear hb3 y0 y1 y2 y3 g0 g1 g2 g3 l1
     have HS3 : Hid (w1.heap.size + 1 ≤ w3.heap.size) := hid (by omega)
     have X3 : Blk (w3.alloc (.cells #[.slice a B.length c, .int .i64 (st1.p : Int), .int .i64 st1.k, .int .i64 st1.f] 50)) w3.heap.size 50 #[.slice a B.length c, .int .i64 (st1.p : Int), .int .i64 st1.k, .int .i64 st1.f] := Blk.newAt _ _ _ rfl
     go_wp2_with (at_builtin; (try rw [HY.out]); go_loud (refine wpList_append_src rfl _ _ _ rfl (w1.heap.size + 1) 22 i0 (.int .u64 0) 1 8 Tryz.underlying207 hi hz0 hz1 hz2 rfl (by decide) (.slice av J.length cv) J.length _ rfl (own_below HO3.out (by (repeat first | with_reducible (first | exact zR | assumption | apply zA | apply zS | apply zD | apply zN) | refine zT (by with_reducible assumption) ?_ | omega | simp <;> omega))) (some ⟨w3.heap.size + 1, 0, none⟩) 1 1 [.int .u64 (y)] rfl (src_new1 _ 22 _ rfl (by simp) rfl) (by simp [Value.oneCell']) (by simp only [maxLen]; omega) (by omega) (by simp; omega) ?_; intro v' w5 hown5 hgrow5 hat5; obtain ⟨a5, c5, rfl⟩ := own_form hown5; have HO5 := hid hown5; have hb5 : Below (w1.heap.size + 1) w3 w5 := (Below.grown ((by (repeat first | with_reducible (first | exact zR | assumption | apply zA | apply zS | apply zD | apply zN) | refine zT (by with_reducible assumption) ?_ | omega | simp <;> omega) : Below w3.heap.size w3 _).mono HS3.out) hgrow5 (by simp; omega) (fun g e => (HO3.out.lt g e).1)); have E5 := (hgrow5.block w3.heap.size (by simp; omega) (fun e => by have := (HO3.out.lt _ e.symm).2; omega)).trans (X3.alloc _); have E5' : Blk w5 w3.heap.size 50 #[.slice a B.length c, .int .i64 (st1.p : Int), .int .i64 st1.k, .int .i64 st1.f] := E5; have D5 := D3.below hb5 (by omega); have R5 := R3.below hb5 (by omega); have hbe5 : Below w.heap.size w w5 := hbe3.trans (hb5.mono (by omega)); have hs5 := hb5.size; clear hown5 hgrow5 hat5 x0 x1 x2 x3 f0 f1 f2 f3 l0; obtain ⟨x0', x1', x2', x3', f0', f1', f2', f3', l0'⟩ := c_blk D5; obtain ⟨z0, z1, z2, z3, e0, e1, e2, e3, l5⟩ := c_blk E5'))
     have ho5 : w5.ownsRow (w1.heap.size + 1) 22 1 (.slice a5 (J.length + 1) c5) (J ++ [y]).length (u64Cells (J ++ [y])) := by
      have e : u64Cells (J ++ [y]) = u64Cells J ++ [.int .u64 (y)] := by simp [u64Cells]
      rw [e, List.length_append]
      exact HO5.out
     have HO6 := hid ho5
     have HB6 : Hid (∀ t ∈ J ++ [y], 0 ≤ t ∧ t ≤ 18446744073709551615) := hid (fun t ht => by
      rw [List.mem_append, List.mem_singleton] at ht
      rcases ht with ht | rfl
      ·exact hJb.out t ht
      ·omega)
     have HRR := hid R5
     have HDD := hid D5
     have HBE5 := hid hbe5
     clear ho5 R5 D5 E5 E5' hbe5
     go_roundw
     case rel => exact ⟨k + 1, y, J ++ [y], st1, by omega, by go_num, rfl, by omega, by omega, hid (by simp; exact hJl.out), own_far4 HO6.out (by omega), HB6, (((HDD.out.set 0 _).set 1 _).set 2 _).set 3 _, Blk.far (Blk.far (Blk.far (Blk.far HRR.out (by dsimp only; omega) _) (by dsimp only; omega) _) (by dsimp only; omega) _) (by dsimp only; omega) _, (((HBE5.out.setCell (by dsimp only; omega) _).setCell (by dsimp only; omega) _).setCell (by dsimp only; omega) _).setCell (by dsimp only; omega) _, by simp; omega, HOK1, hid (fun h => absurd h HK1.out), hid (fun _ => HSP.out)⟩
     case measure => simp [intOf]; omega
   ·have dk : (st.k == (0 : Int)) = false := by simp [hk0]
    have dn : (st.k != (0 : Int)) = true := by simp [hk0]
    have HSP := hid (hsn.out hk0)
    clear hsp hsn hk0
    go_wp2
    rw [HSP.out]
    refine bodyPost_ret (v := .tuple #[.agg #[.slice a B.length c, .int .i64 (st.p : Int), .int .i64 st.k, .int .i64 st.f], .slice none 0 0]) (by simp [results, Tryz.results217, go_sem, y0, y1, y2, y3, l1]) rfl ⟨_, rfl, rSl_mk (xs := []) rfl (Nat.le_refl _) (Nat.zero_le _) (.inl rfl), by (repeat first | with_reducible (first | exact zR | assumption | apply zA | apply zS | apply zD | apply zN) | refine zT (by with_reducible assumption) ?_ | omega | simp <;> omega)⟩
  ·obtain rfl : k = N := by omega
   have d1 : decide ((k : Int) < (k : Int)) = false := decide_eq_false (by omega)
   by_cases hk0 : st.k = 0
   ·have dn : (st.k != (0 : Int)) = false := by simp [hk0]
    have hsp1 := hsp.out hk0
    rw [Nat.sub_self] at hsp1
    have HSP : Hid (Rs.falls B k s1 below [] = (st, J)) := hid hsp1
    have HV := hid (own_ints64 hJb.out rfl HO.out)
    clear hsp hsn hk0 hsp1
    go_wp2
    rw [HSP.out]
    refine bodyPost_ret (v := .tuple #[.agg #[.slice a B.length c, .int .i64 (st.p : Int), .int .i64 st.k, .int .i64 st.f], .slice av J.length cv]) (by simp [results, Tryz.results217, go_sem, y0, y1, y2, y3, l1]) rfl ⟨_, rfl, ?_, by (repeat first | with_reducible (first | exact zR | assumption | apply zA | apply zS | apply zD | apply zN) | refine zT (by with_reducible assumption) ?_ | omega | simp <;> omega)⟩
    refine rU64s.mono (rU64s.keep HV.out fun q hq => ?_) fun q hq => ⟨by have := hq.1; omega, by have := hq.2; simp [World.setCell]; omega⟩
    have := hq.1
    repeat (rw [Below.heap_setCell _ _ _ _ (by dsimp only; omega)])
   ·have dn : (st.k != (0 : Int)) = true := by simp [hk0]
    have HSP := hid (hsn.out hk0)
    clear hsp hsn hk0
    go_wp2
    rw [HSP.out]
    refine bodyPost_ret (v := .tuple #[.agg #[.slice a B.length c, .int .i64 (st.p : Int), .int .i64 st.k, .int .i64 st.f], .slice none 0 0]) (by simp [results, Tryz.results217, go_sem, y0, y1, y2, y3, l1]) rfl ⟨_, rfl, rSl_mk (xs := []) rfl (Nat.le_refl _) (Nat.zero_le _) (.inl rfl), by (repeat first | with_reducible (first | exact zR | assumption | apply zA | apply zS | apply zD | apply zN) | refine zT (by with_reducible assumption) ?_ | omega | simp <;> omega)⟩
end Go.Proofs.YtkipiefcnjfdjaaGreat
