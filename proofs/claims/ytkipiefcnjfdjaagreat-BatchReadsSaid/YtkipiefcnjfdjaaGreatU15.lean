/- Needed by batchReads_walk, part 15: texts put together by shake.py; no condition. -/
import Derived.Deep.Cut
import Derived.Test.YtkipiefcnjfdjaaGreatU10
import Derived.Test.YtkipiefcnjfdjaaGreatU14
import Derived.Test.YtkipiefcnjfdjaaGreatU3
namespace Go.Proofs.YtkipiefcnjfdjaaGreat
open Go.RowKit Go.Bs Go.Maps
set_option linter.unusedVariables false
set_option linter.unusedSimpArgs false
theorem rd_anew {W : World} {g w0 : Nat} {B : List UInt8} {a : Option Addr} {s : Rs} (hb : Blk W g 124 #[.slice a B.length B.length, .int .i64 (s.p : Int), .int .i64 s.k, .int .i64 s.f]) (hd : rBytes.r (· < w0) W [.slice a B.length B.length] B) (hg : w0 ≤ g) (hs : s.ok B.length) : RdAt W g B a s :=
 ⟨hb, rBytes.mono hd fun q hq => ⟨Nat.lt_of_lt_of_le hq (Nat.le_trans hg (Nat.le_of_lt hb.lt)), by omega⟩, hs⟩
theorem bool_two (b : Bool) : b = false ∨ b = true := by cases b <;> simp
theorem dec_two {u z : Rs} {b x : Batch} {q y : Bool} (h : ((if u.k = 0 then (u, b, q) else (u, noBatch, false)) : Rs × Batch × Bool) = (z, x, y)) : u = z ∧ ((u.k != (0 : Int)) = false → b = x ∧ q = y) ∧ ((u.k != (0 : Int)) = true → noBatch = x ∧ false = y) := by
 split at h
 ·rename_i hk; cases h; exact ⟨rfl, fun _ => ⟨rfl, rfl⟩, fun e => by simp [hk] at e⟩
 ·rename_i hk; cases h; exact ⟨rfl, fun e => by simp [hk] at e, fun _ => ⟨rfl, rfl⟩⟩
set_option maxRecDepth 100000 in
set_option maxHeartbeats 12800000 in
theorem batchReads_c (B : List UInt8) (a : Option Addr) (n c : Nat) (w : World) (hl : rBytes.r (· < w.heap.size) w [.slice a n c] B) :
  Calls Tryz.prog 4 #[.slice a n c] w fun r w' => r = .returned (.bool true) ∧ Below w.heap.size w w' := by
 obtain ⟨rfl, hm, _, _⟩ := sl_len hl
 have HL := hid hl
 by_cases h300 : B.length ≤ 300
 ·have d0 : decide ((300 : Int) < (B.length : Int)) = false := decide_eq_false (by omega)
  have ok0 : (⟨0, 0, 0⟩ : Rs).ok B.length := ⟨Nat.zero_le _, fun _ => rfl⟩
  have hcap : rBytes.r (· < w.heap.size) w [.slice a B.length B.length] B := by
   have := (cut_full hl (n := B.length) (Nat.le_refl _)).2
   rwa [List.take_length] at this
  have HCAP := hid hcap
  have HG := hid (fun (W : World) (hW : Below w.heap.size w W) => law25_great W B a B.length c (lift HL.out hW) (by omega))
  have hRD := fun (W : World) (h : RdAt W w.heap.size B a ⟨0, 0, 0⟩) => batch_read W h (by omega)
  have hRL := fun (W : World) (g : Nat) (h : RdAt W g B a ⟨0, 0, 0⟩) => batch_readloose W h (by omega)
  have hS := fun (W : World) (hW : Below w.heap.size w W) => ref25_strict W a c B (lift HL.out hW) ⟨0, 0, 0⟩ ok0 (by omega)
  have hLo := fun (W : World) (hW : Below w.heap.size w W) => ref25_loose W a c B (lift HL.out hW) ⟨0, 0, 0⟩ ok0 (by omega)
  have hD := fun (W : World) (hW : Below w.heap.size w W) => batch_decode W B a _ c (lift HL.out hW) (by omega)
  have hDL := fun (W : World) (hW : Below w.heap.size w W) => batch_decodeloose W B a _ c (lift HL.out hW) (by omega)
  unfold decB at hD hDL
  generalize Rs.batch B (blkS B) ⟨0, 0, 0⟩ = S at *
  generalize Rs.batch B (blkL B) ⟨0, 0, 0⟩ = L at *
  obtain ⟨s1, b1, q1⟩ := S
  obtain ⟨s2, b2, q2⟩ := L
  dsimp only at *
  have hE1 := fun (W : World) => ref02_end W a B.length c s1 hm
  have hE2 := fun (W : World) => ref02_end W a B.length c s2 hm
  generalize s1.fin B.length = u1 at *
  generalize s2.fin B.length = u2 at *
  unfold CV at *
  have HS' : Hid (∀ (W : World), Below w.heap.size w W → Calls Tryz.prog 33 #[.agg #[.slice a B.length c, .int .i64 0, .int .i64 0, .int .i64 0], .bool true] W fun r w' => ∃ v, r = .returned (.tuple #[.agg #[.slice a B.length c, .int .i64 (s1.p : Int), .int .i64 s1.k, .int .i64 s1.f], .agg #[.int .u64 b1.epoch, .int .u64 b1.base, v], .bool q1]) ∧ rEntriesW.r (Fresh W w') w' [v] b1.entries ∧ Below W.heap.size W w') := hid hS
  have HLO' : Hid (∀ (W : World), Below w.heap.size w W → Calls Tryz.prog 33 #[.agg #[.slice a B.length c, .int .i64 0, .int .i64 0, .int .i64 0], .bool false] W fun r w' => ∃ v, r = .returned (.tuple #[.agg #[.slice a B.length c, .int .i64 (s2.p : Int), .int .i64 s2.k, .int .i64 s2.f], .agg #[.int .u64 b2.epoch, .int .u64 b2.base, v], .bool q2]) ∧ rEntriesW.r (Fresh W w') w' [v] b2.entries ∧ Below W.heap.size W w') := hid hLo
  generalize hD1 : ((if u1.k = 0 then (u1, b1, q1) else (u1, noBatch, false)) : Rs × Batch × Bool) = D1 at hD
  generalize hD2 : ((if u2.k = 0 then (u2, b2, q2) else (u2, noBatch, false)) : Rs × Batch × Bool) = D2 at hDL
  obtain ⟨z1, bx1, y1⟩ := D1
  obtain ⟨z2, bx2, y2⟩ := D2
  obtain ⟨rfl, hx1⟩ := dec_two hD1
  obtain ⟨rfl, hx2⟩ := dec_two hD2
  have HB1 := hid hx1; have HB2 := hid hx2
  dsimp only at hD hDL
  have HRD := hid hRD; have HRL := hid hRL; have HD := hid hD; have HDL := hid hDL; have HE1 := hid hE1; have HE2 := hid hE2
  have HSM := hid (fun (b : Batch) (W : World) (x1 x2 : Option Addr) (k1 k2 : Nat) (h1 : rEntries.r (· < W.heap.size) W [.slice x1 b.entries.length k1] b.entries) (h2 : rEntries.r (· < W.heap.size) W [.slice x2 b.entries.length k2] b.entries) => (by have := ref25_same b b x1 x2 _ k1 _ k2 W h1 h2; simp only [decide_true] at this; exact this : Calls Tryz.prog 26 #[.agg #[.int .u64 b.epoch, .int .u64 b.base, .slice x1 b.entries.length k1], .agg #[.int .u64 b.epoch, .int .u64 b.base, .slice x2 b.entries.length k2]] W fun r w' => r = .returned (.bool true) ∧ Below W.heap.size W w'))
  clear hl hcap hRD hRL hS hLo hD hDL hE1 hE2 hD1 hD2 hx1 hx2
  go_enter Tryz.func4, Tryz.ntmps4
  go_wp2_with fail
  refine (HG.out w (Below.refl _ _)).mono ?_
  rintro r w0 ⟨q0, rfl, rfl⟩
  cases q0
  ·go_wp2_with fail
   refine (rd_new w B a _ c HL.out).mono ?_
   rintro r w1 ⟨rfl, hrd1, hb1⟩
   go_wp2_with fail
   refine (rd_new w1 B a _ c (lift HL.out hb1)).mono ?_
   rintro r w2 ⟨rfl, hrd2, hb2⟩
   have hbw2 := below_then hb2 hb1
   have hrd1' := hrd1.later hb2
   have l1 := hrd1.blk.lt
   have l2 := hrd2.blk.lt
   clear hrd1
   go_wp2_with fail
   refine (HRD.out w2 hrd1').mono ?_
   rintro r w3 ⟨v3, rfl, hv3, hst3⟩
   obtain ⟨a3, c3, hfv, hv3', _⟩ := sl_form (entriesW_entries hv3)
   simp only [List.cons.injEq, and_true] at hfv
   subst hfv
   have hbw3 : Below w.heap.size w w3 := hbw2.trans (hst3.below hbw2.size (Nat.le_refl _))
   have hs3 := hst3.size
   have HX3 := hid (rEntries.mono hv3' (S' := fun q => w1.heap.size < q ∧ q < w3.heap.size) fun q hq => ⟨by have := hq.1; omega, hq.2⟩)
   have R1a := hst3.1.blk
   have ok1 := hst3.1.ok
   have R2a := hrd2.blk.tch hst3.2 (by omega)
   clear hrd1' hrd2 hv3 hv3' hst3 hb1 hb2 hbw2
   go_wp2_with fail
   have hbA : Below w3.heap.size w3 (w3.alloc (.cells #[.int .u64 b1.epoch, .int .u64 b1.base, .slice a3 b1.entries.length c3] 25)) := by (repeat first | with_reducible (first | exact zR | assumption | apply zA | apply zS | apply zD | apply zN) | refine zT (by with_reducible assumption) ?_ | omega | simp <;> omega)
   have T5b : Blk (w3.alloc (.cells #[.int .u64 b1.epoch, .int .u64 b1.base, .slice a3 b1.entries.length c3] 25)) w3.heap.size 25 #[.int .u64 b1.epoch, .int .u64 b1.base, .slice a3 b1.entries.length c3] := Blk.newAt _ _ _ rfl
   have HX3b := hid (rEntries.mono (rEntries.keep HX3.out fun q hq => hbA.block q hq.2) (S' := fun q => w1.heap.size < q ∧ q < ((w3.alloc (.cells #[.int .u64 b1.epoch, .int .u64 b1.base, .slice a3 b1.entries.length c3] 25))).heap.size) fun q hq => ⟨hq.1, Nat.lt_of_lt_of_le hq.2 hbA.size⟩)
   have R1b := R1a.later hbA
   have R2b := R2a.later hbA
   have hbw3b := below_then hbA hbw3
   have hz3 : ((w3.alloc (.cells #[.int .u64 b1.epoch, .int .u64 b1.base, .slice a3 b1.entries.length c3] 25))).heap.size = w3.heap.size + 1 := by simp
   clear hbA R1a R2a HX3 hbw3
   generalize (w3.alloc (.cells #[.int .u64 b1.epoch, .int .u64 b1.base, .slice a3 b1.entries.length c3] 25)) = v3 at *
   refine (HRL.out v3 w1.heap.size (rd_anew R2b (Rp.below rBytes HCAP.out hbw3b) (by omega) ok0)).mono ?_
   rintro r w4 ⟨v4, rfl, hv4, hst4⟩
   obtain ⟨a4, c4, hfv, hv4', _⟩ := sl_form (entriesW_entries hv4)
   simp only [List.cons.injEq, and_true] at hfv
   subst hfv
   have hbw4 : Below w.heap.size w w4 := hbw3b.trans (hst4.below hbw3b.size (by omega))
   have hs4 := hst4.size
   have X3c := hid (rEntries.mono (rEntries.keep HX3b.out fun q hq => hst4.2.block q hq.2 (by have := hq.1; omega)) (S' := (· < w4.heap.size)) fun q hq => Nat.lt_of_lt_of_le hq.2 hs4)
   have X4c := hid (rEntries.mono hv4' (S' := (· < w4.heap.size)) fun q hq => hq.2)
   have R1c := R1b.tch hst4.2 (by omega)
   have R2c := hst4.1.blk
   have ok2 := hst4.1.ok
   have T5c := T5b.tch hst4.2 (by omega)
   clear hv4 hv4' hst4 R1b R2b T5b HX3b hbw3b
   go_wp2_with fail
   have hbA : Below w4.heap.size w4 (w4.alloc (.cells #[.int .u64 b2.epoch, .int .u64 b2.base, .slice a4 b2.entries.length c4] 25)) := by (repeat first | with_reducible (first | exact zR | assumption | apply zA | apply zS | apply zD | apply zN) | refine zT (by with_reducible assumption) ?_ | omega | simp <;> omega)
   have T6d : Blk (w4.alloc (.cells #[.int .u64 b2.epoch, .int .u64 b2.base, .slice a4 b2.entries.length c4] 25)) w4.heap.size 25 #[.int .u64 b2.epoch, .int .u64 b2.base, .slice a4 b2.entries.length c4] := Blk.newAt _ _ _ rfl
   have R1d := R1c.later hbA
   have R2d := R2c.later hbA
   have T5d := T5c.later hbA
   have X3d := hid (lift X3c.out hbA)
   have X4d := hid (lift X4c.out hbA)
   clear R1c R2c T5c X3c X4c
   have hbw4d := below_then hbA hbw4
   clear hbA hbw4
   generalize (w4.alloc (.cells #[.int .u64 b2.epoch, .int .u64 b2.base, .slice a4 b2.entries.length c4] 25)) = v4 at *
   refine (HS'.out v4 hbw4d).mono ?_
   rintro r w5 ⟨v5, rfl, hv5, hb5⟩
   obtain ⟨a5, c5, hfv, hv5', _⟩ := sl_form (entriesW_entries hv5)
   simp only [List.cons.injEq, and_true] at hfv
   subst hfv
   have X5e := hid (rEntries.mono hv5' (S' := (· < w5.heap.size)) fun q hq => hq.2)
   have HX5 := X5e
   have L5e := Below.refl w5.heap.size w5
   have R1e := R1d.later hb5
   have R2e := R2d.later hb5
   have T5e := T5d.later hb5
   have T6e := T6d.later hb5
   have X3e := hid (lift X3d.out hb5)
   have X4e := hid (lift X4d.out hb5)
   clear R1d R2d T5d T6d X3d X4d
   have hbw5 := below_then hb5 hbw4d
   have hbw5sz := hbw5.size
   have hs5 := hb5.size
   clear hv5 hv5' hb5 hbw4d
   go_wp2_with fail
   have hbA : Below w5.heap.size w5 ((w5.alloc (.cells #[.slice a B.length c, .int .i64 (s1.p : Int), .int .i64 s1.k, .int .i64 s1.f] 50)).alloc (.cells #[.int .u64 b1.epoch, .int .u64 b1.base, .slice a5 b1.entries.length c5] 25)) := by (repeat first | with_reducible (first | exact zR | assumption | apply zA | apply zS | apply zD | apply zN) | refine zT (by with_reducible assumption) ?_ | omega | simp <;> omega)
   have C8f : Blk ((w5.alloc (.cells #[.slice a B.length c, .int .i64 (s1.p : Int), .int .i64 s1.k, .int .i64 s1.f] 50)).alloc (.cells #[.int .u64 b1.epoch, .int .u64 b1.base, .slice a5 b1.entries.length c5] 25)) w5.heap.size 50 #[.slice a B.length c, .int .i64 (s1.p : Int), .int .i64 s1.k, .int .i64 s1.f] := by (repeat first | assumption | exact kW (by first | (simp; done) | (simp; omega)) | apply kA | apply kD | apply kN | apply kF | simp <;> omega)
   have T9f : Blk ((w5.alloc (.cells #[.slice a B.length c, .int .i64 (s1.p : Int), .int .i64 s1.k, .int .i64 s1.f] 50)).alloc (.cells #[.int .u64 b1.epoch, .int .u64 b1.base, .slice a5 b1.entries.length c5] 25)) (w5.heap.size + 1) 25 #[.int .u64 b1.epoch, .int .u64 b1.base, .slice a5 b1.entries.length c5] := by (repeat first | assumption | exact kW (by first | (simp; done) | (simp; omega)) | apply kA | apply kD | apply kN | apply kF | simp <;> omega)
   have R1f := R1e.later hbA
   have R2f := R2e.later hbA
   have T5f := T5e.later hbA
   have T6f := T6e.later hbA
   have X3f := hid (lift X3e.out hbA)
   have X4f := hid (lift X4e.out hbA)
   have X5f := hid (lift X5e.out hbA)
   have L5f := below_then hbA L5e
   clear R1e R2e T5e T6e X3e X4e X5e L5e
   have hbw5f := below_then hbA hbw5
   have hz5 : (((w5.alloc (.cells #[.slice a B.length c, .int .i64 (s1.p : Int), .int .i64 s1.k, .int .i64 s1.f] 50)).alloc (.cells #[.int .u64 b1.epoch, .int .u64 b1.base, .slice a5 b1.entries.length c5] 25))).heap.size = w5.heap.size + 2 := by simp
   clear hbA hbw5
   generalize ((w5.alloc (.cells #[.slice a B.length c, .int .i64 (s1.p : Int), .int .i64 s1.k, .int .i64 s1.f] 50)).alloc (.cells #[.int .u64 b1.epoch, .int .u64 b1.base, .slice a5 b1.entries.length c5] 25)) = v5 at *
   refine (HLO'.out v5 hbw5f).mono ?_
   rintro r w6 ⟨v6, rfl, hv6, hb6⟩
   obtain ⟨a6, c6, hfv, hv6', _⟩ := sl_form (entriesW_entries hv6)
   simp only [List.cons.injEq, and_true] at hfv
   subst hfv
   have X6g := hid (rEntries.mono hv6' (S' := (· < w6.heap.size)) fun q hq => hq.2)
   have HX6 := hid (rEntries.mono hv6' (S' := fun q => w5.heap.size + 2 ≤ q ∧ q < w6.heap.size) fun q hq => ⟨by have h1 : v5.heap.size ≤ q := hq.1; omega, hq.2⟩)
   have L6g := Below.refl w6.heap.size w6
   have R1g := R1f.later hb6
   have R2g := R2f.later hb6
   have T5g := T5f.later hb6
   have T6g := T6f.later hb6
   have C8g := C8f.later hb6
   have T9g := T9f.later hb6
   have X3g := hid (lift X3f.out hb6)
   have X4g := hid (lift X4f.out hb6)
   have X5g := hid (lift X5f.out hb6)
   have L5g := below_then hb6 L5f
   clear R1f R2f T5f T6f C8f T9f X3f X4f X5f L5f
   have hbw6 := below_then hb6 hbw5f
   have hs6 := hb6.size
   clear hv6 hv6' hb6 hbw5f
   go_wp2_with fail
   have hbA : Below w6.heap.size w6 ((w6.alloc (.cells #[.slice a B.length c, .int .i64 (s2.p : Int), .int .i64 s2.k, .int .i64 s2.f] 50)).alloc (.cells #[.int .u64 b2.epoch, .int .u64 b2.base, .slice a6 b2.entries.length c6] 25)) := by (repeat first | with_reducible (first | exact zR | assumption | apply zA | apply zS | apply zD | apply zN) | refine zT (by with_reducible assumption) ?_ | omega | simp <;> omega)
   have C11h : Blk ((w6.alloc (.cells #[.slice a B.length c, .int .i64 (s2.p : Int), .int .i64 s2.k, .int .i64 s2.f] 50)).alloc (.cells #[.int .u64 b2.epoch, .int .u64 b2.base, .slice a6 b2.entries.length c6] 25)) w6.heap.size 50 #[.slice a B.length c, .int .i64 (s2.p : Int), .int .i64 s2.k, .int .i64 s2.f] := by (repeat first | assumption | exact kW (by first | (simp; done) | (simp; omega)) | apply kA | apply kD | apply kN | apply kF | simp <;> omega)
   have T12h : Blk ((w6.alloc (.cells #[.slice a B.length c, .int .i64 (s2.p : Int), .int .i64 s2.k, .int .i64 s2.f] 50)).alloc (.cells #[.int .u64 b2.epoch, .int .u64 b2.base, .slice a6 b2.entries.length c6] 25)) (w6.heap.size + 1) 25 #[.int .u64 b2.epoch, .int .u64 b2.base, .slice a6 b2.entries.length c6] := by (repeat first | assumption | exact kW (by first | (simp; done) | (simp; omega)) | apply kA | apply kD | apply kN | apply kF | simp <;> omega)
   have R1h := R1g.later hbA
   have R2h := R2g.later hbA
   have T5h := T5g.later hbA
   have T6h := T6g.later hbA
   have C8h := C8g.later hbA
   have T9h := T9g.later hbA
   have X3h := hid (lift X3g.out hbA)
   have X4h := hid (lift X4g.out hbA)
   have X5h := hid (lift X5g.out hbA)
   have X6h := hid (lift X6g.out hbA)
   have L5h := below_then hbA L5g
   have L6h := below_then hbA L6g
   clear R1g R2g T5g T6g C8g T9g X3g X4g X5g X6g L5g L6g
   have hbwV := below_then hbA hbw6
   have hzV : (((w6.alloc (.cells #[.slice a B.length c, .int .i64 (s2.p : Int), .int .i64 s2.k, .int .i64 s2.f] 50)).alloc (.cells #[.int .u64 b2.epoch, .int .u64 b2.base, .slice a6 b2.entries.length c6] 25))).heap.size = w6.heap.size + 2 := by simp
   clear hbA hbw6
   generalize ((w6.alloc (.cells #[.slice a B.length c, .int .i64 (s2.p : Int), .int .i64 s2.k, .int .i64 s2.f] 50)).alloc (.cells #[.int .u64 b2.epoch, .int .u64 b2.base, .slice a6 b2.entries.length c6] 25)) = V at *
   obtain ⟨m50, m51, m52, _, _, _, _⟩ := b_blk T5h
   obtain ⟨m60, m61, m62, _, _, _, _⟩ := b_blk T6h
   obtain ⟨m90, m91, m92, _, _, _, _⟩ := b_blk T9h
   obtain ⟨mt0, mt1, mt2, _, _, _, _⟩ := b_blk T12h
   obtain ⟨_, _, m82, m83, _, _, _, _, _⟩ := c_blk C8h
   obtain ⟨_, _, me2, me3, _, _, _, _, _⟩ := c_blk C11h
   have M50 := fun s : Later V => s.cell m50; have M51 := fun s : Later V => s.cell m51; have M52 := fun s : Later V => s.cell m52
   have M60 := fun s : Later V => s.cell m60; have M61 := fun s : Later V => s.cell m61; have M62 := fun s : Later V => s.cell m62
   have M90 := fun s : Later V => s.cell m90; have M91 := fun s : Later V => s.cell m91; have M92 := fun s : Later V => s.cell m92
   have MT0 := fun s : Later V => s.cell mt0; have MT1 := fun s : Later V => s.cell mt1; have MT2 := fun s : Later V => s.cell mt2
   have M82 := fun s : Later V => s.cell m82; have M83 := fun s : Later V => s.cell m83
   have ME2 := fun s : Later V => s.cell me2; have ME3 := fun s : Later V => s.cell me3
   have HS1 := hid (fun s : Later V => HSM.out b1 s.at_ a3 a5 c3 c5 (lift X3h.out s.below) (lift X5h.out s.below))
   have HS2 := hid (fun s : Later V => HSM.out b2 s.at_ a4 a6 c4 c6 (lift X4h.out s.below) (lift X6h.out s.below))
   have HF1 := hid (fun s : Later V => rd_fault s.at_ (rd_anew (R1h.later s.below) (Rp.below rBytes HCAP.out (below_then s.below hbwV)) (Nat.le_refl _) ok1))
   have HF2 := hid (fun s : Later V => rd_fault s.at_ (rd_anew (R2h.later s.below) (Rp.below rBytes HCAP.out (below_then s.below hbwV)) (by omega) ok2))
   clear m50 m51 m52 m60 m61 m62 m90 m91 m92 mt0 mt1 mt2 m82 m83 me2 me3
   have hq2 : (q2 != q2) = false := by simp
   refine wp_region_later (by kernel_rfl) (by kernel_rfl) ?_
   repeat (go_big_quiet_step ((first | (go_at_call 26; first | with_reducible exact later_of (HS1.out _) | with_reducible exact later_of (HS2.out _)) | (go_at_call 34; first | with_reducible exact later_of (HF1.out _) | with_reducible exact later_of (HF2.out _)))))
   refine wpQuiet_nil ?_
   rintro V7 ⟨⟨V7', hb7⟩, rfl⟩
   have hbw7 := below_then hb7 hbwV
   clear HS1 HS2 HF1 HF2 M50 M51 M52 M60 M61 M62 M90 M91 M92 MT0 MT1 MT2 M82 M83 ME2 ME3 hq2 R1h R2h
   have hs7 := hb7.size
   have C8i := C8h.later hb7
   have T9i := T9h.later hb7
   have C11i := C11h.later hb7
   have T12i := T12h.later hb7
   have L5i := below_then hb7 L5h
   have L6i := below_then hb7 L6h
   clear C8h T9h C11h T12h L5h L6h
   clear T5h T6h X3h X4h X5h X6h
   clear hb7 hbwV
   go_wp2_with fail
   refine (HD.out _ hbw7).mono ?_
   rintro r w8 ⟨v8, rfl, hv8, hb8⟩
   obtain ⟨a8, c8, hfv, hv8', _⟩ := sl_form (entriesW_entries hv8)
   simp only [List.cons.injEq, and_true] at hfv
   subst hfv
   have HX7 := hid (rEntries.mono hv8' (S' := fun q => w6.heap.size + 2 ≤ q ∧ q < w8.heap.size) fun q hq => ⟨by have h1 : V7.heap.size ≤ q := hq.1; omega, hq.2⟩)
   have L8j := Below.refl w8.heap.size w8
   have C8j := C8i.later hb8
   have T9j := T9i.later hb8
   have C11j := C11i.later hb8
   have T12j := T12i.later hb8
   have L5j := below_then hb8 L5i
   have L6j := below_then hb8 L6i
   clear C8i T9i C11i T12i L5i L6i
   have hbw8 := below_then hb8 hbw7
   have hs8 := hb8.size
   clear hv8 hv8' hb8 hbw7
   go_wp2_with fail
   have hbA : Below w8.heap.size w8 ((w8.alloc (.cells #[.int .u64 bx1.epoch, .int .u64 bx1.base, .slice a8 bx1.entries.length c8] 25)).alloc (.cells #[.int .i64 u1.k, .int .i64 u1.f] 48)) := by (repeat first | with_reducible (first | exact zR | assumption | apply zA | apply zS | apply zD | apply zN) | refine zT (by with_reducible assumption) ?_ | omega | simp <;> omega)
   have T14k : Blk ((w8.alloc (.cells #[.int .u64 bx1.epoch, .int .u64 bx1.base, .slice a8 bx1.entries.length c8] 25)).alloc (.cells #[.int .i64 u1.k, .int .i64 u1.f] 48)) w8.heap.size 25 #[.int .u64 bx1.epoch, .int .u64 bx1.base, .slice a8 bx1.entries.length c8] := by (repeat first | assumption | exact kW (by first | (simp; done) | (simp; omega)) | apply kA | apply kD | apply kN | apply kF | simp <;> omega)
   have F15k : Blk ((w8.alloc (.cells #[.int .u64 bx1.epoch, .int .u64 bx1.base, .slice a8 bx1.entries.length c8] 25)).alloc (.cells #[.int .i64 u1.k, .int .i64 u1.f] 48)) (w8.heap.size + 1) 48 #[.int .i64 u1.k, .int .i64 u1.f] := by (repeat first | assumption | exact kW (by first | (simp; done) | (simp; omega)) | apply kA | apply kD | apply kN | apply kF | simp <;> omega)
   have C8k := C8j.later hbA
   have T9k := T9j.later hbA
   have C11k := C11j.later hbA
   have T12k := T12j.later hbA
   have L5k := below_then hbA L5j
   have L6k := below_then hbA L6j
   have L8k := below_then hbA L8j
   clear C8j T9j C11j T12j L5j L6j L8j
   have hbw8k := below_then hbA hbw8
   have hz8 : (((w8.alloc (.cells #[.int .u64 bx1.epoch, .int .u64 bx1.base, .slice a8 bx1.entries.length c8] 25)).alloc (.cells #[.int .i64 u1.k, .int .i64 u1.f] 48))).heap.size = w8.heap.size + 2 := by simp
   clear hbA hbw8
   generalize ((w8.alloc (.cells #[.int .u64 bx1.epoch, .int .u64 bx1.base, .slice a8 bx1.entries.length c8] 25)).alloc (.cells #[.int .i64 u1.k, .int .i64 u1.f] 48)) = v8 at *
   refine (HDL.out v8 hbw8k).mono ?_
   rintro r w9 ⟨v9, rfl, hv9, hb9⟩
   obtain ⟨a9, c9, hfv, hv9', _⟩ := sl_form (entriesW_entries hv9)
   simp only [List.cons.injEq, and_true] at hfv
   subst hfv
   have HX8 := hid (rEntries.mono hv9' (S' := fun q => w6.heap.size + 2 ≤ q ∧ q < w9.heap.size) fun q hq => ⟨by have h1 : v8.heap.size ≤ q := hq.1; omega, hq.2⟩)
   have L9l := Below.refl w9.heap.size w9
   have C8l := C8k.later hb9
   have T9l := T9k.later hb9
   have C11l := C11k.later hb9
   have T12l := T12k.later hb9
   have T14l := T14k.later hb9
   have F15l := F15k.later hb9
   have L5l := below_then hb9 L5k
   have L6l := below_then hb9 L6k
   have L8l := below_then hb9 L8k
   clear C8k T9k C11k T12k T14k F15k L5k L6k L8k
   have hbw9 := below_then hb9 hbw8k
   have hs9 := hb9.size
   clear hv9 hv9' hb9 hbw8k
   go_wp2_with fail
   have hbA : Below w9.heap.size w9 ((w9.alloc (.cells #[.int .u64 bx2.epoch, .int .u64 bx2.base, .slice a9 bx2.entries.length c9] 25)).alloc (.cells #[.int .i64 u2.k, .int .i64 u2.f] 48)) := by (repeat first | with_reducible (first | exact zR | assumption | apply zA | apply zS | apply zD | apply zN) | refine zT (by with_reducible assumption) ?_ | omega | simp <;> omega)
   have T16m : Blk ((w9.alloc (.cells #[.int .u64 bx2.epoch, .int .u64 bx2.base, .slice a9 bx2.entries.length c9] 25)).alloc (.cells #[.int .i64 u2.k, .int .i64 u2.f] 48)) w9.heap.size 25 #[.int .u64 bx2.epoch, .int .u64 bx2.base, .slice a9 bx2.entries.length c9] := by (repeat first | assumption | exact kW (by first | (simp; done) | (simp; omega)) | apply kA | apply kD | apply kN | apply kF | simp <;> omega)
   have F18m : Blk ((w9.alloc (.cells #[.int .u64 bx2.epoch, .int .u64 bx2.base, .slice a9 bx2.entries.length c9] 25)).alloc (.cells #[.int .i64 u2.k, .int .i64 u2.f] 48)) (w9.heap.size + 1) 48 #[.int .i64 u2.k, .int .i64 u2.f] := by (repeat first | assumption | exact kW (by first | (simp; done) | (simp; omega)) | apply kA | apply kD | apply kN | apply kF | simp <;> omega)
   have C8m := C8l.later hbA
   have T9m := T9l.later hbA
   have C11m := C11l.later hbA
   have T12m := T12l.later hbA
   have T14m := T14l.later hbA
   have F15m := F15l.later hbA
   have L5m := below_then hbA L5l
   have L6m := below_then hbA L6l
   have L8m := below_then hbA L8l
   have L9m := below_then hbA L9l
   clear C8l T9l C11l T12l T14l F15l L5l L6l L8l L9l
   have hbwZ := below_then hbA hbw9
   clear hbA hbw9
   generalize ((w9.alloc (.cells #[.int .u64 bx2.epoch, .int .u64 bx2.base, .slice a9 bx2.entries.length c9] 25)).alloc (.cells #[.int .i64 u2.k, .int .i64 u2.f] 48)) = VZ at *
   have hne : w5.heap.size < w6.heap.size := by omega
   have hlt8 := C8m.lt
   have hlt11 := C11m.lt
   obtain ⟨x0, x1, x2, x3, f0, f1, f2, f3, l0⟩ := c_blk C8m
   obtain ⟨y0, y1, y2, y3, g0, g1, g2, g3, l1⟩ := c_blk C11m
   have SK := hid (fun (w' : World) (h : Blk w' w6.heap.size 50 #[.slice a B.length c, .int .i64 (s2.p : Int), .int .i64 s2.k, .int .i64 s2.f]) => (⟨h.cell 0, h.cell 1, h.cell 2, h.cell 3⟩ : w'.cell? ⟨w6.heap.size, 0, none⟩ = some (.slice a B.length c) ∧ w'.cell? ⟨w6.heap.size, 1, none⟩ = some (.int .i64 (s2.p : Int)) ∧ w'.cell? ⟨w6.heap.size, 2, none⟩ = some (.int .i64 s2.k) ∧ w'.cell? ⟨w6.heap.size, 3, none⟩ = some (.int .i64 s2.f)))
   have C11y := C11m.drew
   refine wp_region_last_held (fun w' => w'.cell? ⟨w6.heap.size, 0, none⟩ = some (.slice a B.length c) ∧ w'.cell? ⟨w6.heap.size, 1, none⟩ = some (.int .i64 (s2.p : Int)) ∧ w'.cell? ⟨w6.heap.size, 2, none⟩ = some (.int .i64 s2.k) ∧ w'.cell? ⟨w6.heap.size, 3, none⟩ = some (.int .i64 s2.f)) _ (by kernel_rfl) rfl (by kernel_rfl) (SK.out _ C11y) (fun hHeld => ?_)
   simp only [noopLast, noopOf]
   refine wpAnyH_take (i := 2) (oi := _) (v := ?_) rfl (by decide +kernel) (by decide +kernel) (by decide +kernel) (fun _ _ _ h => h) (Or.inl ⟨by rfl, ?_⟩) (by assumption) ?_
   rotate_left
   ·(intro w hSw; (try dsimp only at hSw); go_simp <;> with_reducible rfl)
   (try simp only [Act.put, List.setIfInBounds_toArray, List.set_cons_zero, List.set_cons_succ])
   refine wpAnyH_ready (rs := [0]) (by decide +kernel) (by simp) ?_
   refine AllReadyH.cons (o := _) rfl (fun K hK => ?_) AllReadyH.nil
   go_simp
   refine hK.out _ _ ?_ (fun hHeld => ?_)
   ·exact SK.out _ (by repeat (first | with_reducible assumption | with_reducible refine Blk.drew ?_ | with_reducible refine Blk.far ?_ (by dsimp only; omega) _))
   clear hK K
   (try simp only [Act.put, List.setIfInBounds_toArray, List.set_cons_zero, List.set_cons_succ])
   refine wpAnyH_ready (rs := [1]) (by decide +kernel) (by simp) ?_
   refine AllReadyH.cons (o := _) rfl (fun K hK => ?_) AllReadyH.nil
   (go_simp; go_at_call 37; refine (HE1.out _).mono ?_; rintro e1 wA ⟨rfl, hbA⟩; have C8A := C8m.drew.later hbA; have C11A := C11m.drew.later hbA; have HBA := hid hbA; have hsA := hbA.size; clear C11y hbA; (try dsimp only))
   refine hK.out _ _ ?_ (fun hHeld => ?_)
   ·exact SK.out _ (by repeat (first | with_reducible assumption | with_reducible refine Blk.drew ?_ | with_reducible refine Blk.far ?_ (by dsimp only; omega) _))
   clear hK K
   (try simp only [Act.put, List.setIfInBounds_toArray, List.set_cons_zero, List.set_cons_succ])
   refine wpAnyH_ready (rs := [3]) (by decide +kernel) (by simp) ?_
   refine AllReadyH.cons (o := _) rfl (fun K hK => ?_) AllReadyH.nil
   (go_simp; go_at_call 37; refine (HE2.out _).mono ?_; rintro e1 wB ⟨rfl, hbB⟩; have C8B := C8A.later hbB; have C11B := C11A.later hbB; have HBB := hid hbB; have hsB := hbB.size; clear C11A hbB; obtain ⟨r0, r1, r2, r3, r4, r5, r6, r7, r8⟩ := c_blk C8B; obtain ⟨t0, t1, t2, t3, t4, t5, t6, t7, t8⟩ := c_blk C11B; (try dsimp only))
   refine hK.out _ _ ?_ (fun hHeld => ?_)
   ·exact SK.out _ (by repeat (first | with_reducible assumption | with_reducible refine Blk.drew ?_ | with_reducible refine Blk.far ?_ (by dsimp only; omega) _))
   clear hK K
   (try simp only [Act.put, List.setIfInBounds_toArray, List.set_cons_zero, List.set_cons_succ])
   refine wpAnyH_ready (rs := [4]) (by decide +kernel) (by simp) ?_
   refine AllReadyH.cons (o := _) rfl (fun K hK => ?_) AllReadyH.nil
   go_simp
   refine hK.out _ _ ?_ (fun hHeld => ?_)
   ·exact SK.out _ (by repeat (first | with_reducible assumption | with_reducible refine Blk.drew ?_ | with_reducible refine Blk.far ?_ (by dsimp only; omega) _))
   clear hK K
   (try simp only [Act.put, List.setIfInBounds_toArray, List.set_cons_zero, List.set_cons_succ])
   refine wpAnyH_take (i := 5) (oi := _) (v := ?_) rfl (by decide +kernel) (by decide +kernel) (by decide +kernel) (fun _ _ _ h => h) (Or.inl ⟨by rfl, ?_⟩) (by assumption) ?_
   rotate_left
   ·(intro w hSw; (try dsimp only at hSw); go_simp <;> with_reducible rfl)
   (try simp only [Act.put, List.setIfInBounds_toArray, List.set_cons_zero, List.set_cons_succ])
   refine wpAnyH_done (by kernel_rfl) ?_ _
   show wpList _ _ _ _ _ _
   have T9B := (T9m.drew.later HBA.out).later HBB.out
   have T12B := (T12m.drew.later HBA.out).later HBB.out
   have T14B := (T14m.drew.later HBA.out).later HBB.out
   have F15B := (F15m.drew.later HBA.out).later HBB.out
   have T16B := (T16m.drew.later HBA.out).later HBB.out
   have F18B := (F18m.drew.later HBA.out).later HBB.out
   have hbZB : Below VZ.heap.size VZ wB := below_then HBB.out (below_then HBA.out ((Below.refl _ _).drew))
   clear x0 x1 x2 x3 f0 f1 f2 f3 l0 y0 y1 y2 y3 g0 g1 g2 g3 l1 T9m T12m T14m F15m T16m F18m C8A C8m C11m hHeld SK
   go_upto_region 13 with (fail)
   refine wp_world (fun V => Blk V w5.heap.size 50 #[.slice a B.length c, .int .i64 (u1.p : Int), .int .i64 u1.k, .int .i64 u1.f] ∧ Blk V w6.heap.size 50 #[.slice a B.length c, .int .i64 (u2.p : Int), .int .i64 u2.k, .int .i64 u2.f] ∧ Blk V (w5.heap.size + 1) 25 #[.int .u64 b1.epoch, .int .u64 b1.base, .slice a5 b1.entries.length c5] ∧ Blk V (w6.heap.size + 1) 25 #[.int .u64 b2.epoch, .int .u64 b2.base, .slice a6 b2.entries.length c6] ∧ Blk V w8.heap.size 25 #[.int .u64 bx1.epoch, .int .u64 bx1.base, .slice a8 bx1.entries.length c8] ∧ Blk V (w8.heap.size + 1) 48 #[.int .i64 u1.k, .int .i64 u1.f] ∧ Blk V w9.heap.size 25 #[.int .u64 bx2.epoch, .int .u64 bx2.base, .slice a9 bx2.entries.length c9] ∧ Blk V (w9.heap.size + 1) 48 #[.int .i64 u2.k, .int .i64 u2.f] ∧ Tch (fun b => b = w5.heap.size ∨ b = w6.heap.size) wB V) ⟨Blk.far (Blk.far (Blk.far (Blk.far ((((C8B.set 0 _).set 1 _).set 2 _).set 3 _) (by dsimp only; omega) _) (by dsimp only; omega) _) (by dsimp only; omega) _) (by dsimp only; omega) _, ((((Blk.far (Blk.far (Blk.far (Blk.far (C11B) (by dsimp only; omega) _) (by dsimp only; omega) _) (by dsimp only; omega) _) (by dsimp only; omega) _).set 0 _).set 1 _).set 2 _).set 3 _, Blk.far (Blk.far (Blk.far (Blk.far (Blk.far (Blk.far (Blk.far (Blk.far (T9B) (by dsimp only; omega) _) (by dsimp only; omega) _) (by dsimp only; omega) _) (by dsimp only; omega) _) (by dsimp only; omega) _) (by dsimp only; omega) _) (by dsimp only; omega) _) (by dsimp only; omega) _, Blk.far (Blk.far (Blk.far (Blk.far (Blk.far (Blk.far (Blk.far (Blk.far (T12B) (by dsimp only; omega) _) (by dsimp only; omega) _) (by dsimp only; omega) _) (by dsimp only; omega) _) (by dsimp only; omega) _) (by dsimp only; omega) _) (by dsimp only; omega) _) (by dsimp only; omega) _, Blk.far (Blk.far (Blk.far (Blk.far (Blk.far (Blk.far (Blk.far (Blk.far (T14B) (by dsimp only; omega) _) (by dsimp only; omega) _) (by dsimp only; omega) _) (by dsimp only; omega) _) (by dsimp only; omega) _) (by dsimp only; omega) _) (by dsimp only; omega) _) (by dsimp only; omega) _, Blk.far (Blk.far (Blk.far (Blk.far (Blk.far (Blk.far (Blk.far (Blk.far (F15B) (by dsimp only; omega) _) (by dsimp only; omega) _) (by dsimp only; omega) _) (by dsimp only; omega) _) (by dsimp only; omega) _) (by dsimp only; omega) _) (by dsimp only; omega) _) (by dsimp only; omega) _, Blk.far (Blk.far (Blk.far (Blk.far (Blk.far (Blk.far (Blk.far (Blk.far (T16B) (by dsimp only; omega) _) (by dsimp only; omega) _) (by dsimp only; omega) _) (by dsimp only; omega) _) (by dsimp only; omega) _) (by dsimp only; omega) _) (by dsimp only; omega) _) (by dsimp only; omega) _, Blk.far (Blk.far (Blk.far (Blk.far (Blk.far (Blk.far (Blk.far (Blk.far (F18B) (by dsimp only; omega) _) (by dsimp only; omega) _) (by dsimp only; omega) _) (by dsimp only; omega) _) (by dsimp only; omega) _) (by dsimp only; omega) _) (by dsimp only; omega) _) (by dsimp only; omega) _, (((((((((Tch.refl _ _).setCell (fun _ => .inl rfl) _).setCell (fun _ => .inl rfl) _).setCell (fun _ => .inl rfl) _).setCell (fun _ => .inl rfl) _).setCell (fun _ => .inr rfl) _).setCell (fun _ => .inr rfl) _).setCell (fun _ => .inr rfl) _).setCell (fun _ => .inr rfl) _)⟩ ?_
   rintro V ⟨C8V, C11V, T9V, T12V, T14V, F15V, T16V, F18V, hTV⟩
   have hz1 := L5m.size; have hz2 := L6m.size; have hz3' := L8m.size; have hz4' := L9m.size; have hz5' := hbZB.size; have hz6 := hTV.size
   have hwV : w.heap.size ≤ w5.heap.size := hbw5sz
   clear C8B C11B T9B T12B T14B F15B T16B F18B r0 r1 r2 r3 r4 r5 r6 r7 r8 t0 t1 t2 t3 t4 t5 t6 t7 t8
   rcases bool_two (u1.k != (0 : Int)) with dk1 | dk1 <;> rcases bool_two (u2.k != (0 : Int)) with dk2 | dk2
   ·obtain ⟨hx1, hy1⟩ := HB1.out.1 dk1
    obtain ⟨hx2, hy2⟩ := HB2.out.1 dk2
    subst hx1 hx2 hy1 hy2
    clear HB1 HB2
    obtain ⟨x0, x1, x2, x3, f0, f1, f2, f3, l0⟩ := c_blk C8V
    obtain ⟨y0, y1, y2, y3, g0, g1, g2, g3, l1⟩ := c_blk C11V
    obtain ⟨p0, p1, p2, i0, i1, i2, l2⟩ := b_blk T9V
    obtain ⟨o0, o1, o2, j0, j1, j2, l3⟩ := b_blk T12V
    obtain ⟨n0, n1, n2, _, _, _, l4⟩ := b_blk T14V
    obtain ⟨e0, e1, _, _, l5⟩ := f_blk F15V
    obtain ⟨k0, k1, k2, _, _, _, l6⟩ := b_blk T16V
    obtain ⟨m0, m1, _, _, l7⟩ := f_blk F18V
    have hq2 : (q2 == q2) = true := by simp
    go_wp2_with fail
    have hTW : Tch (fun b => b = w5.heap.size ∨ b = w6.heap.size ∨ b = w5.heap.size + 1 ∨ b = w6.heap.size + 1) wB V := (hTV.mono fun b _ e => e.elim .inl fun e => .inr (.inl e))
    have T14W : Blk (V) w8.heap.size 25 #[.int .u64 b1.epoch, .int .u64 b1.base, .slice a8 b1.entries.length c8] := T14V
    have T16W : Blk (V) w9.heap.size 25 #[.int .u64 b2.epoch, .int .u64 b2.base, .slice a9 b2.entries.length c9] := T16V
    have T9W : Blk (V) (w5.heap.size + 1) 25 #[.int .u64 b1.epoch, .int .u64 b1.base, .slice a5 b1.entries.length c5] := T9V
    have T12W : Blk (V) (w6.heap.size + 1) 25 #[.int .u64 b2.epoch, .int .u64 b2.base, .slice a6 b2.entries.length c6] := T12V
    have hszW := hTW.size
    have hkW : ∀ q, q < wB.heap.size → q ≠ w5.heap.size → q ≠ w6.heap.size → q ≠ w5.heap.size + 1 → q ≠ w6.heap.size + 1 → (V).heap[q]? = wB.heap[q]? := fun q h1 h2 h3 h4 h5 => hTW.block q h1 (fun e => by rcases e with e | e | e | e <;> omega)
    have X7W : rEntries.r (· < (V).heap.size) (V) [.slice a8 (b1.entries).length c8] (b1.entries) := rEntries.mono (rEntries.keep HX7.out fun q hq => (hkW q (by omega) (by omega) (by omega) (by omega) (by omega)).trans ((hbZB.block q (by omega)).trans (L8m.block q hq.2))) fun q hq => by omega
    have X8W : rEntries.r (· < (V).heap.size) (V) [.slice a9 (b2.entries).length c9] (b2.entries) := rEntries.mono (rEntries.keep HX8.out fun q hq => (hkW q (by omega) (by omega) (by omega) (by omega) (by omega)).trans ((hbZB.block q (by omega)).trans (L9m.block q hq.2))) fun q hq => by omega
    have X5W : rEntries.r (· < (V).heap.size) (V) [.slice a5 (b1.entries).length c5] (b1.entries) := rEntries.mono (rEntries.keep HX5.out fun q hq => (hkW q (by omega) (by omega) (by omega) (by omega) (by omega)).trans ((hbZB.block q (by omega)).trans (L5m.block q hq))) fun q hq => by omega
    have X6W : rEntries.r (· < (V).heap.size) (V) [.slice a6 (b2.entries).length c6] (b2.entries) := rEntries.mono (rEntries.keep HX6.out fun q hq => (hkW q (by omega) (by omega) (by omega) (by omega) (by omega)).trans ((hbZB.block q (by omega)).trans (L6m.block q hq.2))) fun q hq => by omega
    have hbwW : Below w.heap.size w (V) := (hbwZ.trans (hbZB.mono (by omega))).trans (hTW.to_below (by omega) (fun b _ e => by rcases e with e | e | e | e <;> omega))
    clear x0 x1 x2 x3 f0 f1 f2 f3 l0 y0 y1 y2 y3 g0 g1 g2 g3 l1 p0 p1 p2 i0 i1 i2 l2 o0 o1 o2 j0 j1 j2 l3 n0 n1 n2 l4 e0 e1 l5 k0 k1 k2 l6 m0 m1 l7 hkW hTW C8V C11V T9V T12V T14V F15V T16V F18V hTV
    generalize (V) = VW at *
    refine (HSM.out (b1) VW a8 a5 c8 c5 X7W X5W).mono ?_
    rintro r wC ⟨rfl, hbC⟩
    have T16C := T16W.later hbC
    have T12C := T12W.later hbC
    have X8C := lift X8W hbC
    have X6C := lift X6W hbC
    have hbwC := below_then hbC hbwW
    clear hbC T14W T16W T9W T12W X7W X8W X5W X6W
    obtain ⟨o0, o1, o2, _, _, _, l3⟩ := b_blk T12C
    obtain ⟨k0, k1, k2, _, _, _, l6⟩ := b_blk T16C
    go_wp2_with fail
    refine (HSM.out (b2) wC a9 a6 c9 c6 X8C X6C).mono ?_
    rintro r wD ⟨rfl, hbD⟩
    have hbwD := below_then hbD hbwC
    clear hbD X8C X6C T16C T12C o0 o1 o2 l3 k0 k1 k2 l6
    go_wp2_with fail
    refine (live25 _).mono ?_
    rintro r w99 ⟨rfl, hb99⟩
    have hbe := below_then hb99 hbwD
    go_wp2
    go_ret
    exact ⟨rfl, hbe⟩
   ·obtain ⟨hx1, hy1⟩ := HB1.out.1 dk1
    obtain ⟨hx2, hy2⟩ := HB2.out.2 dk2
    subst hx1 hx2 hy1 hy2
    replace T16V : Blk V w9.heap.size 25 #[.int .u64 0, .int .u64 0, .slice a9 0 c9] := T16V
    clear HB1 HB2
    obtain ⟨x0, x1, x2, x3, f0, f1, f2, f3, l0⟩ := c_blk C8V
    obtain ⟨y0, y1, y2, y3, g0, g1, g2, g3, l1⟩ := c_blk C11V
    obtain ⟨p0, p1, p2, i0, i1, i2, l2⟩ := b_blk T9V
    obtain ⟨o0, o1, o2, j0, j1, j2, l3⟩ := b_blk T12V
    obtain ⟨n0, n1, n2, _, _, _, l4⟩ := b_blk T14V
    obtain ⟨e0, e1, _, _, l5⟩ := f_blk F15V
    obtain ⟨k0, k1, k2, _, _, _, l6⟩ := b_blk T16V
    obtain ⟨m0, m1, _, _, l7⟩ := f_blk F18V
    have hq2 : (q2 == q2) = true := by simp
    go_wp2_with fail
    have hTW : Tch (fun b => b = w5.heap.size ∨ b = w6.heap.size ∨ b = w5.heap.size + 1 ∨ b = w6.heap.size + 1) wB (((V.setCell ⟨w6.heap.size + 1, 0, none⟩ (.int .u64 0)).setCell ⟨w6.heap.size + 1, 1, none⟩ (.int .u64 0)).setCell ⟨w6.heap.size + 1, 2, none⟩ (.slice none 0 0)) := (((((hTV.mono fun b _ e => e.elim .inl fun e => .inr (.inl e))).setCell (fun _ => .inr (.inr (.inr rfl))) _).setCell (fun _ => .inr (.inr (.inr rfl))) _).setCell (fun _ => .inr (.inr (.inr rfl))) _)
    have T14W : Blk ((((V.setCell ⟨w6.heap.size + 1, 0, none⟩ (.int .u64 0)).setCell ⟨w6.heap.size + 1, 1, none⟩ (.int .u64 0)).setCell ⟨w6.heap.size + 1, 2, none⟩ (.slice none 0 0))) w8.heap.size 25 #[.int .u64 b1.epoch, .int .u64 b1.base, .slice a8 b1.entries.length c8] := (Blk.far (Blk.far (Blk.far (T14V) (by dsimp only; omega) _) (by dsimp only; omega) _) (by dsimp only; omega) _)
    have T16W : Blk ((((V.setCell ⟨w6.heap.size + 1, 0, none⟩ (.int .u64 0)).setCell ⟨w6.heap.size + 1, 1, none⟩ (.int .u64 0)).setCell ⟨w6.heap.size + 1, 2, none⟩ (.slice none 0 0))) w9.heap.size 25 #[.int .u64 0, .int .u64 0, .slice a9 0 c9] := (Blk.far (Blk.far (Blk.far (T16V) (by dsimp only; omega) _) (by dsimp only; omega) _) (by dsimp only; omega) _)
    have T9W : Blk ((((V.setCell ⟨w6.heap.size + 1, 0, none⟩ (.int .u64 0)).setCell ⟨w6.heap.size + 1, 1, none⟩ (.int .u64 0)).setCell ⟨w6.heap.size + 1, 2, none⟩ (.slice none 0 0))) (w5.heap.size + 1) 25 #[.int .u64 b1.epoch, .int .u64 b1.base, .slice a5 b1.entries.length c5] := (Blk.far (Blk.far (Blk.far (T9V) (by dsimp only; omega) _) (by dsimp only; omega) _) (by dsimp only; omega) _)
    have T12W : Blk ((((V.setCell ⟨w6.heap.size + 1, 0, none⟩ (.int .u64 0)).setCell ⟨w6.heap.size + 1, 1, none⟩ (.int .u64 0)).setCell ⟨w6.heap.size + 1, 2, none⟩ (.slice none 0 0))) (w6.heap.size + 1) 25 #[.int .u64 0, .int .u64 0, .slice none 0 0] := ((((T12V).set 0 _).set 1 _).set 2 _)
    have hszW := hTW.size
    have hkW : ∀ q, q < wB.heap.size → q ≠ w5.heap.size → q ≠ w6.heap.size → q ≠ w5.heap.size + 1 → q ≠ w6.heap.size + 1 → ((((V.setCell ⟨w6.heap.size + 1, 0, none⟩ (.int .u64 0)).setCell ⟨w6.heap.size + 1, 1, none⟩ (.int .u64 0)).setCell ⟨w6.heap.size + 1, 2, none⟩ (.slice none 0 0))).heap[q]? = wB.heap[q]? := fun q h1 h2 h3 h4 h5 => hTW.block q h1 (fun e => by rcases e with e | e | e | e <;> omega)
    have X7W : rEntries.r (· < ((((V.setCell ⟨w6.heap.size + 1, 0, none⟩ (.int .u64 0)).setCell ⟨w6.heap.size + 1, 1, none⟩ (.int .u64 0)).setCell ⟨w6.heap.size + 1, 2, none⟩ (.slice none 0 0))).heap.size) ((((V.setCell ⟨w6.heap.size + 1, 0, none⟩ (.int .u64 0)).setCell ⟨w6.heap.size + 1, 1, none⟩ (.int .u64 0)).setCell ⟨w6.heap.size + 1, 2, none⟩ (.slice none 0 0))) [.slice a8 (b1.entries).length c8] (b1.entries) := rEntries.mono (rEntries.keep HX7.out fun q hq => (hkW q (by omega) (by omega) (by omega) (by omega) (by omega)).trans ((hbZB.block q (by omega)).trans (L8m.block q hq.2))) fun q hq => by omega
    have X8W : rEntries.r (· < ((((V.setCell ⟨w6.heap.size + 1, 0, none⟩ (.int .u64 0)).setCell ⟨w6.heap.size + 1, 1, none⟩ (.int .u64 0)).setCell ⟨w6.heap.size + 1, 2, none⟩ (.slice none 0 0))).heap.size) ((((V.setCell ⟨w6.heap.size + 1, 0, none⟩ (.int .u64 0)).setCell ⟨w6.heap.size + 1, 1, none⟩ (.int .u64 0)).setCell ⟨w6.heap.size + 1, 2, none⟩ (.slice none 0 0))) [.slice a9 (([] : List Entry)).length c9] (([] : List Entry)) := rEntries.mono (rEntries.keep HX8.out fun q hq => (hkW q (by omega) (by omega) (by omega) (by omega) (by omega)).trans ((hbZB.block q (by omega)).trans (L9m.block q hq.2))) fun q hq => by omega
    have X5W : rEntries.r (· < ((((V.setCell ⟨w6.heap.size + 1, 0, none⟩ (.int .u64 0)).setCell ⟨w6.heap.size + 1, 1, none⟩ (.int .u64 0)).setCell ⟨w6.heap.size + 1, 2, none⟩ (.slice none 0 0))).heap.size) ((((V.setCell ⟨w6.heap.size + 1, 0, none⟩ (.int .u64 0)).setCell ⟨w6.heap.size + 1, 1, none⟩ (.int .u64 0)).setCell ⟨w6.heap.size + 1, 2, none⟩ (.slice none 0 0))) [.slice a5 (b1.entries).length c5] (b1.entries) := rEntries.mono (rEntries.keep HX5.out fun q hq => (hkW q (by omega) (by omega) (by omega) (by omega) (by omega)).trans ((hbZB.block q (by omega)).trans (L5m.block q hq))) fun q hq => by omega
    have X6W : rEntries.r (· < ((((V.setCell ⟨w6.heap.size + 1, 0, none⟩ (.int .u64 0)).setCell ⟨w6.heap.size + 1, 1, none⟩ (.int .u64 0)).setCell ⟨w6.heap.size + 1, 2, none⟩ (.slice none 0 0))).heap.size) ((((V.setCell ⟨w6.heap.size + 1, 0, none⟩ (.int .u64 0)).setCell ⟨w6.heap.size + 1, 1, none⟩ (.int .u64 0)).setCell ⟨w6.heap.size + 1, 2, none⟩ (.slice none 0 0))) [.slice none (([] : List Entry)).length 0] (([] : List Entry)) := rSl_mk (xs := []) rfl (Nat.le_refl _) (Nat.zero_le _) (.inl rfl)
    have hbwW : Below w.heap.size w ((((V.setCell ⟨w6.heap.size + 1, 0, none⟩ (.int .u64 0)).setCell ⟨w6.heap.size + 1, 1, none⟩ (.int .u64 0)).setCell ⟨w6.heap.size + 1, 2, none⟩ (.slice none 0 0))) := (hbwZ.trans (hbZB.mono (by omega))).trans (hTW.to_below (by omega) (fun b _ e => by rcases e with e | e | e | e <;> omega))
    clear x0 x1 x2 x3 f0 f1 f2 f3 l0 y0 y1 y2 y3 g0 g1 g2 g3 l1 p0 p1 p2 i0 i1 i2 l2 o0 o1 o2 j0 j1 j2 l3 n0 n1 n2 l4 e0 e1 l5 k0 k1 k2 l6 m0 m1 l7 hkW hTW C8V C11V T9V T12V T14V F15V T16V F18V hTV
    generalize ((((V.setCell ⟨w6.heap.size + 1, 0, none⟩ (.int .u64 0)).setCell ⟨w6.heap.size + 1, 1, none⟩ (.int .u64 0)).setCell ⟨w6.heap.size + 1, 2, none⟩ (.slice none 0 0))) = VW at *
    refine (HSM.out (b1) VW a8 a5 c8 c5 X7W X5W).mono ?_
    rintro r wC ⟨rfl, hbC⟩
    have T16C := T16W.later hbC
    have T12C := T12W.later hbC
    have X8C := lift X8W hbC
    have X6C := lift X6W hbC
    have hbwC := below_then hbC hbwW
    clear hbC T14W T16W T9W T12W X7W X8W X5W X6W
    obtain ⟨o0, o1, o2, _, _, _, l3⟩ := b_blk T12C
    obtain ⟨k0, k1, k2, _, _, _, l6⟩ := b_blk T16C
    go_wp2_with fail
    refine (HSM.out (noBatch) wC a9 none c9 0 X8C X6C).mono ?_
    rintro r wD ⟨rfl, hbD⟩
    have hbwD := below_then hbD hbwC
    clear hbD X8C X6C T16C T12C o0 o1 o2 l3 k0 k1 k2 l6
    go_wp2_with fail
    refine (live25 _).mono ?_
    rintro r w99 ⟨rfl, hb99⟩
    have hbe := below_then hb99 hbwD
    go_wp2
    go_ret
    exact ⟨rfl, hbe⟩
   ·obtain ⟨hx1, hy1⟩ := HB1.out.2 dk1
    obtain ⟨hx2, hy2⟩ := HB2.out.1 dk2
    subst hx1 hx2 hy1 hy2
    replace T14V : Blk V w8.heap.size 25 #[.int .u64 0, .int .u64 0, .slice a8 0 c8] := T14V
    clear HB1 HB2
    obtain ⟨x0, x1, x2, x3, f0, f1, f2, f3, l0⟩ := c_blk C8V
    obtain ⟨y0, y1, y2, y3, g0, g1, g2, g3, l1⟩ := c_blk C11V
    obtain ⟨p0, p1, p2, i0, i1, i2, l2⟩ := b_blk T9V
    obtain ⟨o0, o1, o2, j0, j1, j2, l3⟩ := b_blk T12V
    obtain ⟨n0, n1, n2, _, _, _, l4⟩ := b_blk T14V
    obtain ⟨e0, e1, _, _, l5⟩ := f_blk F15V
    obtain ⟨k0, k1, k2, _, _, _, l6⟩ := b_blk T16V
    obtain ⟨m0, m1, _, _, l7⟩ := f_blk F18V
    have hq2 : (q2 == q2) = true := by simp
    go_wp2_with fail
    have hTW : Tch (fun b => b = w5.heap.size ∨ b = w6.heap.size ∨ b = w5.heap.size + 1 ∨ b = w6.heap.size + 1) wB (((V.setCell ⟨w5.heap.size + 1, 0, none⟩ (.int .u64 0)).setCell ⟨w5.heap.size + 1, 1, none⟩ (.int .u64 0)).setCell ⟨w5.heap.size + 1, 2, none⟩ (.slice none 0 0)) := (((((hTV.mono fun b _ e => e.elim .inl fun e => .inr (.inl e))).setCell (fun _ => .inr (.inr (.inl rfl))) _).setCell (fun _ => .inr (.inr (.inl rfl))) _).setCell (fun _ => .inr (.inr (.inl rfl))) _)
    have T14W : Blk ((((V.setCell ⟨w5.heap.size + 1, 0, none⟩ (.int .u64 0)).setCell ⟨w5.heap.size + 1, 1, none⟩ (.int .u64 0)).setCell ⟨w5.heap.size + 1, 2, none⟩ (.slice none 0 0))) w8.heap.size 25 #[.int .u64 0, .int .u64 0, .slice a8 0 c8] := (Blk.far (Blk.far (Blk.far (T14V) (by dsimp only; omega) _) (by dsimp only; omega) _) (by dsimp only; omega) _)
    have T16W : Blk ((((V.setCell ⟨w5.heap.size + 1, 0, none⟩ (.int .u64 0)).setCell ⟨w5.heap.size + 1, 1, none⟩ (.int .u64 0)).setCell ⟨w5.heap.size + 1, 2, none⟩ (.slice none 0 0))) w9.heap.size 25 #[.int .u64 b2.epoch, .int .u64 b2.base, .slice a9 b2.entries.length c9] := (Blk.far (Blk.far (Blk.far (T16V) (by dsimp only; omega) _) (by dsimp only; omega) _) (by dsimp only; omega) _)
    have T9W : Blk ((((V.setCell ⟨w5.heap.size + 1, 0, none⟩ (.int .u64 0)).setCell ⟨w5.heap.size + 1, 1, none⟩ (.int .u64 0)).setCell ⟨w5.heap.size + 1, 2, none⟩ (.slice none 0 0))) (w5.heap.size + 1) 25 #[.int .u64 0, .int .u64 0, .slice none 0 0] := ((((T9V).set 0 _).set 1 _).set 2 _)
    have T12W : Blk ((((V.setCell ⟨w5.heap.size + 1, 0, none⟩ (.int .u64 0)).setCell ⟨w5.heap.size + 1, 1, none⟩ (.int .u64 0)).setCell ⟨w5.heap.size + 1, 2, none⟩ (.slice none 0 0))) (w6.heap.size + 1) 25 #[.int .u64 b2.epoch, .int .u64 b2.base, .slice a6 b2.entries.length c6] := (Blk.far (Blk.far (Blk.far (T12V) (by dsimp only; omega) _) (by dsimp only; omega) _) (by dsimp only; omega) _)
    have hszW := hTW.size
    have hkW : ∀ q, q < wB.heap.size → q ≠ w5.heap.size → q ≠ w6.heap.size → q ≠ w5.heap.size + 1 → q ≠ w6.heap.size + 1 → ((((V.setCell ⟨w5.heap.size + 1, 0, none⟩ (.int .u64 0)).setCell ⟨w5.heap.size + 1, 1, none⟩ (.int .u64 0)).setCell ⟨w5.heap.size + 1, 2, none⟩ (.slice none 0 0))).heap[q]? = wB.heap[q]? := fun q h1 h2 h3 h4 h5 => hTW.block q h1 (fun e => by rcases e with e | e | e | e <;> omega)
    have X7W : rEntries.r (· < ((((V.setCell ⟨w5.heap.size + 1, 0, none⟩ (.int .u64 0)).setCell ⟨w5.heap.size + 1, 1, none⟩ (.int .u64 0)).setCell ⟨w5.heap.size + 1, 2, none⟩ (.slice none 0 0))).heap.size) ((((V.setCell ⟨w5.heap.size + 1, 0, none⟩ (.int .u64 0)).setCell ⟨w5.heap.size + 1, 1, none⟩ (.int .u64 0)).setCell ⟨w5.heap.size + 1, 2, none⟩ (.slice none 0 0))) [.slice a8 (([] : List Entry)).length c8] (([] : List Entry)) := rEntries.mono (rEntries.keep HX7.out fun q hq => (hkW q (by omega) (by omega) (by omega) (by omega) (by omega)).trans ((hbZB.block q (by omega)).trans (L8m.block q hq.2))) fun q hq => by omega
    have X8W : rEntries.r (· < ((((V.setCell ⟨w5.heap.size + 1, 0, none⟩ (.int .u64 0)).setCell ⟨w5.heap.size + 1, 1, none⟩ (.int .u64 0)).setCell ⟨w5.heap.size + 1, 2, none⟩ (.slice none 0 0))).heap.size) ((((V.setCell ⟨w5.heap.size + 1, 0, none⟩ (.int .u64 0)).setCell ⟨w5.heap.size + 1, 1, none⟩ (.int .u64 0)).setCell ⟨w5.heap.size + 1, 2, none⟩ (.slice none 0 0))) [.slice a9 (b2.entries).length c9] (b2.entries) := rEntries.mono (rEntries.keep HX8.out fun q hq => (hkW q (by omega) (by omega) (by omega) (by omega) (by omega)).trans ((hbZB.block q (by omega)).trans (L9m.block q hq.2))) fun q hq => by omega
    have X5W : rEntries.r (· < ((((V.setCell ⟨w5.heap.size + 1, 0, none⟩ (.int .u64 0)).setCell ⟨w5.heap.size + 1, 1, none⟩ (.int .u64 0)).setCell ⟨w5.heap.size + 1, 2, none⟩ (.slice none 0 0))).heap.size) ((((V.setCell ⟨w5.heap.size + 1, 0, none⟩ (.int .u64 0)).setCell ⟨w5.heap.size + 1, 1, none⟩ (.int .u64 0)).setCell ⟨w5.heap.size + 1, 2, none⟩ (.slice none 0 0))) [.slice none (([] : List Entry)).length 0] (([] : List Entry)) := rSl_mk (xs := []) rfl (Nat.le_refl _) (Nat.zero_le _) (.inl rfl)
    have X6W : rEntries.r (· < ((((V.setCell ⟨w5.heap.size + 1, 0, none⟩ (.int .u64 0)).setCell ⟨w5.heap.size + 1, 1, none⟩ (.int .u64 0)).setCell ⟨w5.heap.size + 1, 2, none⟩ (.slice none 0 0))).heap.size) ((((V.setCell ⟨w5.heap.size + 1, 0, none⟩ (.int .u64 0)).setCell ⟨w5.heap.size + 1, 1, none⟩ (.int .u64 0)).setCell ⟨w5.heap.size + 1, 2, none⟩ (.slice none 0 0))) [.slice a6 (b2.entries).length c6] (b2.entries) := rEntries.mono (rEntries.keep HX6.out fun q hq => (hkW q (by omega) (by omega) (by omega) (by omega) (by omega)).trans ((hbZB.block q (by omega)).trans (L6m.block q hq.2))) fun q hq => by omega
    have hbwW : Below w.heap.size w ((((V.setCell ⟨w5.heap.size + 1, 0, none⟩ (.int .u64 0)).setCell ⟨w5.heap.size + 1, 1, none⟩ (.int .u64 0)).setCell ⟨w5.heap.size + 1, 2, none⟩ (.slice none 0 0))) := (hbwZ.trans (hbZB.mono (by omega))).trans (hTW.to_below (by omega) (fun b _ e => by rcases e with e | e | e | e <;> omega))
    clear x0 x1 x2 x3 f0 f1 f2 f3 l0 y0 y1 y2 y3 g0 g1 g2 g3 l1 p0 p1 p2 i0 i1 i2 l2 o0 o1 o2 j0 j1 j2 l3 n0 n1 n2 l4 e0 e1 l5 k0 k1 k2 l6 m0 m1 l7 hkW hTW C8V C11V T9V T12V T14V F15V T16V F18V hTV
    generalize ((((V.setCell ⟨w5.heap.size + 1, 0, none⟩ (.int .u64 0)).setCell ⟨w5.heap.size + 1, 1, none⟩ (.int .u64 0)).setCell ⟨w5.heap.size + 1, 2, none⟩ (.slice none 0 0))) = VW at *
    refine (HSM.out (noBatch) VW a8 none c8 0 X7W X5W).mono ?_
    rintro r wC ⟨rfl, hbC⟩
    have T16C := T16W.later hbC
    have T12C := T12W.later hbC
    have X8C := lift X8W hbC
    have X6C := lift X6W hbC
    have hbwC := below_then hbC hbwW
    clear hbC T14W T16W T9W T12W X7W X8W X5W X6W
    obtain ⟨o0, o1, o2, _, _, _, l3⟩ := b_blk T12C
    obtain ⟨k0, k1, k2, _, _, _, l6⟩ := b_blk T16C
    go_wp2_with fail
    refine (HSM.out (b2) wC a9 a6 c9 c6 X8C X6C).mono ?_
    rintro r wD ⟨rfl, hbD⟩
    have hbwD := below_then hbD hbwC
    clear hbD X8C X6C T16C T12C o0 o1 o2 l3 k0 k1 k2 l6
    go_wp2_with fail
    refine (live25 _).mono ?_
    rintro r w99 ⟨rfl, hb99⟩
    have hbe := below_then hb99 hbwD
    go_wp2
    go_ret
    exact ⟨rfl, hbe⟩
   ·obtain ⟨hx1, hy1⟩ := HB1.out.2 dk1
    obtain ⟨hx2, hy2⟩ := HB2.out.2 dk2
    subst hx1 hx2 hy1 hy2
    replace T14V : Blk V w8.heap.size 25 #[.int .u64 0, .int .u64 0, .slice a8 0 c8] := T14V
    replace T16V : Blk V w9.heap.size 25 #[.int .u64 0, .int .u64 0, .slice a9 0 c9] := T16V
    clear HB1 HB2
    obtain ⟨x0, x1, x2, x3, f0, f1, f2, f3, l0⟩ := c_blk C8V
    obtain ⟨y0, y1, y2, y3, g0, g1, g2, g3, l1⟩ := c_blk C11V
    obtain ⟨p0, p1, p2, i0, i1, i2, l2⟩ := b_blk T9V
    obtain ⟨o0, o1, o2, j0, j1, j2, l3⟩ := b_blk T12V
    obtain ⟨n0, n1, n2, _, _, _, l4⟩ := b_blk T14V
    obtain ⟨e0, e1, _, _, l5⟩ := f_blk F15V
    obtain ⟨k0, k1, k2, _, _, _, l6⟩ := b_blk T16V
    obtain ⟨m0, m1, _, _, l7⟩ := f_blk F18V
    have hq2 : (q2 == q2) = true := by simp
    go_wp2_with fail
    have hTW : Tch (fun b => b = w5.heap.size ∨ b = w6.heap.size ∨ b = w5.heap.size + 1 ∨ b = w6.heap.size + 1) wB ((((((V.setCell ⟨w5.heap.size + 1, 0, none⟩ (.int .u64 0)).setCell ⟨w5.heap.size + 1, 1, none⟩ (.int .u64 0)).setCell ⟨w5.heap.size + 1, 2, none⟩ (.slice none 0 0)).setCell ⟨w6.heap.size + 1, 0, none⟩ (.int .u64 0)).setCell ⟨w6.heap.size + 1, 1, none⟩ (.int .u64 0)).setCell ⟨w6.heap.size + 1, 2, none⟩ (.slice none 0 0)) := (((((((((hTV.mono fun b _ e => e.elim .inl fun e => .inr (.inl e))).setCell (fun _ => .inr (.inr (.inl rfl))) _).setCell (fun _ => .inr (.inr (.inl rfl))) _).setCell (fun _ => .inr (.inr (.inl rfl))) _)).setCell (fun _ => .inr (.inr (.inr rfl))) _).setCell (fun _ => .inr (.inr (.inr rfl))) _).setCell (fun _ => .inr (.inr (.inr rfl))) _)
    have T14W : Blk (((((((V.setCell ⟨w5.heap.size + 1, 0, none⟩ (.int .u64 0)).setCell ⟨w5.heap.size + 1, 1, none⟩ (.int .u64 0)).setCell ⟨w5.heap.size + 1, 2, none⟩ (.slice none 0 0)).setCell ⟨w6.heap.size + 1, 0, none⟩ (.int .u64 0)).setCell ⟨w6.heap.size + 1, 1, none⟩ (.int .u64 0)).setCell ⟨w6.heap.size + 1, 2, none⟩ (.slice none 0 0))) w8.heap.size 25 #[.int .u64 0, .int .u64 0, .slice a8 0 c8] := (Blk.far (Blk.far (Blk.far ((Blk.far (Blk.far (Blk.far (T14V) (by dsimp only; omega) _) (by dsimp only; omega) _) (by dsimp only; omega) _)) (by dsimp only; omega) _) (by dsimp only; omega) _) (by dsimp only; omega) _)
    have T16W : Blk (((((((V.setCell ⟨w5.heap.size + 1, 0, none⟩ (.int .u64 0)).setCell ⟨w5.heap.size + 1, 1, none⟩ (.int .u64 0)).setCell ⟨w5.heap.size + 1, 2, none⟩ (.slice none 0 0)).setCell ⟨w6.heap.size + 1, 0, none⟩ (.int .u64 0)).setCell ⟨w6.heap.size + 1, 1, none⟩ (.int .u64 0)).setCell ⟨w6.heap.size + 1, 2, none⟩ (.slice none 0 0))) w9.heap.size 25 #[.int .u64 0, .int .u64 0, .slice a9 0 c9] := (Blk.far (Blk.far (Blk.far ((Blk.far (Blk.far (Blk.far (T16V) (by dsimp only; omega) _) (by dsimp only; omega) _) (by dsimp only; omega) _)) (by dsimp only; omega) _) (by dsimp only; omega) _) (by dsimp only; omega) _)
    have T9W : Blk (((((((V.setCell ⟨w5.heap.size + 1, 0, none⟩ (.int .u64 0)).setCell ⟨w5.heap.size + 1, 1, none⟩ (.int .u64 0)).setCell ⟨w5.heap.size + 1, 2, none⟩ (.slice none 0 0)).setCell ⟨w6.heap.size + 1, 0, none⟩ (.int .u64 0)).setCell ⟨w6.heap.size + 1, 1, none⟩ (.int .u64 0)).setCell ⟨w6.heap.size + 1, 2, none⟩ (.slice none 0 0))) (w5.heap.size + 1) 25 #[.int .u64 0, .int .u64 0, .slice none 0 0] := (Blk.far (Blk.far (Blk.far (((((T9V).set 0 _).set 1 _).set 2 _)) (by dsimp only; omega) _) (by dsimp only; omega) _) (by dsimp only; omega) _)
    have T12W : Blk (((((((V.setCell ⟨w5.heap.size + 1, 0, none⟩ (.int .u64 0)).setCell ⟨w5.heap.size + 1, 1, none⟩ (.int .u64 0)).setCell ⟨w5.heap.size + 1, 2, none⟩ (.slice none 0 0)).setCell ⟨w6.heap.size + 1, 0, none⟩ (.int .u64 0)).setCell ⟨w6.heap.size + 1, 1, none⟩ (.int .u64 0)).setCell ⟨w6.heap.size + 1, 2, none⟩ (.slice none 0 0))) (w6.heap.size + 1) 25 #[.int .u64 0, .int .u64 0, .slice none 0 0] := (((((Blk.far (Blk.far (Blk.far (T12V) (by dsimp only; omega) _) (by dsimp only; omega) _) (by dsimp only; omega) _)).set 0 _).set 1 _).set 2 _)
    have hszW := hTW.size
    have hkW : ∀ q, q < wB.heap.size → q ≠ w5.heap.size → q ≠ w6.heap.size → q ≠ w5.heap.size + 1 → q ≠ w6.heap.size + 1 → (((((((V.setCell ⟨w5.heap.size + 1, 0, none⟩ (.int .u64 0)).setCell ⟨w5.heap.size + 1, 1, none⟩ (.int .u64 0)).setCell ⟨w5.heap.size + 1, 2, none⟩ (.slice none 0 0)).setCell ⟨w6.heap.size + 1, 0, none⟩ (.int .u64 0)).setCell ⟨w6.heap.size + 1, 1, none⟩ (.int .u64 0)).setCell ⟨w6.heap.size + 1, 2, none⟩ (.slice none 0 0))).heap[q]? = wB.heap[q]? := fun q h1 h2 h3 h4 h5 => hTW.block q h1 (fun e => by rcases e with e | e | e | e <;> omega)
    have X7W : rEntries.r (· < (((((((V.setCell ⟨w5.heap.size + 1, 0, none⟩ (.int .u64 0)).setCell ⟨w5.heap.size + 1, 1, none⟩ (.int .u64 0)).setCell ⟨w5.heap.size + 1, 2, none⟩ (.slice none 0 0)).setCell ⟨w6.heap.size + 1, 0, none⟩ (.int .u64 0)).setCell ⟨w6.heap.size + 1, 1, none⟩ (.int .u64 0)).setCell ⟨w6.heap.size + 1, 2, none⟩ (.slice none 0 0))).heap.size) (((((((V.setCell ⟨w5.heap.size + 1, 0, none⟩ (.int .u64 0)).setCell ⟨w5.heap.size + 1, 1, none⟩ (.int .u64 0)).setCell ⟨w5.heap.size + 1, 2, none⟩ (.slice none 0 0)).setCell ⟨w6.heap.size + 1, 0, none⟩ (.int .u64 0)).setCell ⟨w6.heap.size + 1, 1, none⟩ (.int .u64 0)).setCell ⟨w6.heap.size + 1, 2, none⟩ (.slice none 0 0))) [.slice a8 (([] : List Entry)).length c8] (([] : List Entry)) := rEntries.mono (rEntries.keep HX7.out fun q hq => (hkW q (by omega) (by omega) (by omega) (by omega) (by omega)).trans ((hbZB.block q (by omega)).trans (L8m.block q hq.2))) fun q hq => by omega
    have X8W : rEntries.r (· < (((((((V.setCell ⟨w5.heap.size + 1, 0, none⟩ (.int .u64 0)).setCell ⟨w5.heap.size + 1, 1, none⟩ (.int .u64 0)).setCell ⟨w5.heap.size + 1, 2, none⟩ (.slice none 0 0)).setCell ⟨w6.heap.size + 1, 0, none⟩ (.int .u64 0)).setCell ⟨w6.heap.size + 1, 1, none⟩ (.int .u64 0)).setCell ⟨w6.heap.size + 1, 2, none⟩ (.slice none 0 0))).heap.size) (((((((V.setCell ⟨w5.heap.size + 1, 0, none⟩ (.int .u64 0)).setCell ⟨w5.heap.size + 1, 1, none⟩ (.int .u64 0)).setCell ⟨w5.heap.size + 1, 2, none⟩ (.slice none 0 0)).setCell ⟨w6.heap.size + 1, 0, none⟩ (.int .u64 0)).setCell ⟨w6.heap.size + 1, 1, none⟩ (.int .u64 0)).setCell ⟨w6.heap.size + 1, 2, none⟩ (.slice none 0 0))) [.slice a9 (([] : List Entry)).length c9] (([] : List Entry)) := rEntries.mono (rEntries.keep HX8.out fun q hq => (hkW q (by omega) (by omega) (by omega) (by omega) (by omega)).trans ((hbZB.block q (by omega)).trans (L9m.block q hq.2))) fun q hq => by omega
    have X5W : rEntries.r (· < (((((((V.setCell ⟨w5.heap.size + 1, 0, none⟩ (.int .u64 0)).setCell ⟨w5.heap.size + 1, 1, none⟩ (.int .u64 0)).setCell ⟨w5.heap.size + 1, 2, none⟩ (.slice none 0 0)).setCell ⟨w6.heap.size + 1, 0, none⟩ (.int .u64 0)).setCell ⟨w6.heap.size + 1, 1, none⟩ (.int .u64 0)).setCell ⟨w6.heap.size + 1, 2, none⟩ (.slice none 0 0))).heap.size) (((((((V.setCell ⟨w5.heap.size + 1, 0, none⟩ (.int .u64 0)).setCell ⟨w5.heap.size + 1, 1, none⟩ (.int .u64 0)).setCell ⟨w5.heap.size + 1, 2, none⟩ (.slice none 0 0)).setCell ⟨w6.heap.size + 1, 0, none⟩ (.int .u64 0)).setCell ⟨w6.heap.size + 1, 1, none⟩ (.int .u64 0)).setCell ⟨w6.heap.size + 1, 2, none⟩ (.slice none 0 0))) [.slice none (([] : List Entry)).length 0] (([] : List Entry)) := rSl_mk (xs := []) rfl (Nat.le_refl _) (Nat.zero_le _) (.inl rfl)
    have X6W : rEntries.r (· < (((((((V.setCell ⟨w5.heap.size + 1, 0, none⟩ (.int .u64 0)).setCell ⟨w5.heap.size + 1, 1, none⟩ (.int .u64 0)).setCell ⟨w5.heap.size + 1, 2, none⟩ (.slice none 0 0)).setCell ⟨w6.heap.size + 1, 0, none⟩ (.int .u64 0)).setCell ⟨w6.heap.size + 1, 1, none⟩ (.int .u64 0)).setCell ⟨w6.heap.size + 1, 2, none⟩ (.slice none 0 0))).heap.size) (((((((V.setCell ⟨w5.heap.size + 1, 0, none⟩ (.int .u64 0)).setCell ⟨w5.heap.size + 1, 1, none⟩ (.int .u64 0)).setCell ⟨w5.heap.size + 1, 2, none⟩ (.slice none 0 0)).setCell ⟨w6.heap.size + 1, 0, none⟩ (.int .u64 0)).setCell ⟨w6.heap.size + 1, 1, none⟩ (.int .u64 0)).setCell ⟨w6.heap.size + 1, 2, none⟩ (.slice none 0 0))) [.slice none (([] : List Entry)).length 0] (([] : List Entry)) := rSl_mk (xs := []) rfl (Nat.le_refl _) (Nat.zero_le _) (.inl rfl)
    have hbwW : Below w.heap.size w (((((((V.setCell ⟨w5.heap.size + 1, 0, none⟩ (.int .u64 0)).setCell ⟨w5.heap.size + 1, 1, none⟩ (.int .u64 0)).setCell ⟨w5.heap.size + 1, 2, none⟩ (.slice none 0 0)).setCell ⟨w6.heap.size + 1, 0, none⟩ (.int .u64 0)).setCell ⟨w6.heap.size + 1, 1, none⟩ (.int .u64 0)).setCell ⟨w6.heap.size + 1, 2, none⟩ (.slice none 0 0))) := (hbwZ.trans (hbZB.mono (by omega))).trans (hTW.to_below (by omega) (fun b _ e => by rcases e with e | e | e | e <;> omega))
    clear x0 x1 x2 x3 f0 f1 f2 f3 l0 y0 y1 y2 y3 g0 g1 g2 g3 l1 p0 p1 p2 i0 i1 i2 l2 o0 o1 o2 j0 j1 j2 l3 n0 n1 n2 l4 e0 e1 l5 k0 k1 k2 l6 m0 m1 l7 hkW hTW C8V C11V T9V T12V T14V F15V T16V F18V hTV
    generalize (((((((V.setCell ⟨w5.heap.size + 1, 0, none⟩ (.int .u64 0)).setCell ⟨w5.heap.size + 1, 1, none⟩ (.int .u64 0)).setCell ⟨w5.heap.size + 1, 2, none⟩ (.slice none 0 0)).setCell ⟨w6.heap.size + 1, 0, none⟩ (.int .u64 0)).setCell ⟨w6.heap.size + 1, 1, none⟩ (.int .u64 0)).setCell ⟨w6.heap.size + 1, 2, none⟩ (.slice none 0 0))) = VW at *
    refine (HSM.out (noBatch) VW a8 none c8 0 X7W X5W).mono ?_
    rintro r wC ⟨rfl, hbC⟩
    have T16C := T16W.later hbC
    have T12C := T12W.later hbC
    have X8C := lift X8W hbC
    have X6C := lift X6W hbC
    have hbwC := below_then hbC hbwW
    clear hbC T14W T16W T9W T12W X7W X8W X5W X6W
    obtain ⟨o0, o1, o2, _, _, _, l3⟩ := b_blk T12C
    obtain ⟨k0, k1, k2, _, _, _, l6⟩ := b_blk T16C
    go_wp2_with fail
    refine (HSM.out (noBatch) wC a9 none c9 0 X8C X6C).mono ?_
    rintro r wD ⟨rfl, hbD⟩
    have hbwD := below_then hbD hbwC
    clear hbD X8C X6C T16C T12C o0 o1 o2 l3 k0 k1 k2 l6
    go_wp2_with fail
    refine (live25 _).mono ?_
    rintro r w99 ⟨rfl, hb99⟩
    have hbe := below_then hb99 hbwD
    go_wp2
    go_ret
    exact ⟨rfl, hbe⟩
  ·go_wp2_with fail
   refine (live25 _).mono ?_
   rintro r w99 ⟨rfl, hb99⟩
   have hbe := hb99
   go_wp2
   go_ret
   exact ⟨rfl, hbe⟩
 ·have d0 : decide ((300 : Int) < (B.length : Int)) = true := decide_eq_true (by omega)
  clear h300 hl
  go_enter Tryz.func4, Tryz.ntmps4
  go_wp2_with fail
  refine (live25 _).mono ?_
  rintro r w99 ⟨rfl, hb99⟩
  have hbe := hb99
  go_wp2
  go_ret
  exact ⟨rfl, hbe⟩
set_option maxRecDepth 100000 in
theorem batchReads_walk {H : Type} (enc : TypeId × Value → H) (W : World) (base : Nat) (v0 : Value) (d0 : DataW H) (p0 : List MemPlace)
  (k0 : DataW.Trod enc Tryz.prog W 0 (fun _ => true) true 28 v0 d0 p0) (o0 : Value.okWide Tryz.prog W .any base 28 v0) :
  Calls Tryz.prog 4 #[v0] W fun e w' => e = .returned (.bool true) ∧ Below W.heap.size W w' := by
 obtain ⟨fuel, hf⟩ := k0
 obtain ⟨a, len, cap, rfl⟩ := Go.WideShapes.okWide_slice Tryz.underlying28 o0
 obtain ⟨b, hb⟩ := o_bytes enc W fuel _ _ hf
 exact batchReads_c b a len cap W hb
end Go.Proofs.YtkipiefcnjfdjaaGreat
