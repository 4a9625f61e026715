/- Needed by batchReads_walk, part 6: texts put together by shake.py; no condition. -/
import Derived.Test.YtkipiefcnjfdjaaGreatU5
import Derived.BigRegion
import Derived.Test.YtkipiefcnjfdjaaGreatU4
namespace Go.Proofs.YtkipiefcnjfdjaaGreat
open Go.RowKit Go.Bs Go.Maps
set_option linter.unusedVariables false
set_option linter.unusedSimpArgs false
set_option maxRecDepth 100000 in
set_option maxHeartbeats 3200000 in
theorem ref04_most (w : World) (a : Option Addr) (c : Nat) (B : List UInt8) (hl : rBytes.r (· < w.heap.size) w [.slice a B.length c] B) (s : Rs) (hs : s.ok B.length) (hB : B.length ≤ 1000000000000) (m : Nat) :
  Calls Tryz.prog 164 #[CV a B.length c s, .int .u64 (m : Int)] w fun r w' => r = .returned (.tuple #[CV a B.length c (s.most B m).1, .int .u64 ((s.most B m).2 : Int)]) ∧ Below w.heap.size w w' := by
 have hR := hid (fun (W : World) (hW : Below w.heap.size w W) => ref04_read W a c B (lift hl hW) s hs hB)
 have hF := hid (fun (W : World) (t : Rs) => ref02_fail W a B.length c t 2 s.p (by omega))
 unfold Rs.most
 generalize s.num B = N at *
 obtain ⟨s1, x⟩ := N
 dsimp only at *
 clear hl hs
 unfold CV at *
 by_cases hm : m < x
 ·have d1 : decide (m < x) = true := decide_eq_true hm
  have d1' : decide ((m : Int) < (x : Int)) = true := decide_eq_true (by omega)
  rw [if_pos hm]
  have HF := hid (fun (W : World) => hF.out W s1)
  dsimp only
  generalize s1.fail 2 s.p = s2 at *
  clear hm hF
  go_enter Tryz.func164, Tryz.ntmps164
  go_wp2_with fail
  refine (hR.out _ (by (repeat first | with_reducible (first | exact zR | assumption | apply zA | apply zS | apply zD | apply zN) | refine zT (by with_reducible assumption) ?_ | omega | simp <;> omega))).mono ?_
  rintro r w1 ⟨rfl, hb⟩
  have B1 : Blk w1 (w.heap.size + 1) 50 #[.slice none 0 0, .int .i64 0, .int .i64 0, .int .i64 0] := Blk.later (by (repeat first | assumption | exact kW (by first | (simp; done) | (simp; omega)) | apply kA | apply kD | apply kN | apply kF | simp <;> omega)) hb
  have hbw : Below w.heap.size w w1 := by (repeat first | with_reducible (first | exact zR | assumption | apply zA | apply zS | apply zD | apply zN) | refine zT (by with_reducible assumption) ?_ | omega | simp <;> omega)
  clear hb
  go_wp2_with fail
  refine (HF.out _).mono ?_
  rintro r w2 ⟨rfl, hb2⟩
  have B1' : Blk w2 (w.heap.size + 1) 50 #[.slice none 0 0, .int .i64 0, .int .i64 0, .int .i64 0] := Blk.later (by (repeat first | assumption | exact kW (by first | (simp; done) | (simp; omega)) | apply kA | apply kD | apply kN | apply kF | simp <;> omega)) hb2
  have hbw2 : Below w.heap.size w w2 := by (repeat first | with_reducible (first | exact zR | assumption | apply zA | apply zS | apply zD | apply zN) | refine zT (by with_reducible assumption) ?_ | omega | simp <;> omega)
  obtain ⟨y0, y1, y2, y3, g0, g1, g2, g3, l1⟩ := c_blk B1'
  clear hb2 B1 B1'
  go_wp2
  refine bodyPost_ret (v := .tuple #[.agg #[.slice a B.length c, .int .i64 (s2.p : Int), .int .i64 s2.k, .int .i64 s2.f], .int .u64 0]) (by simp [results, Tryz.results164, go_sem, y0, y1, y2, y3, l1]) rfl ⟨rfl, by (repeat first | with_reducible (first | exact zR | assumption | apply zA | apply zS | apply zD | apply zN) | refine zT (by with_reducible assumption) ?_ | omega | simp <;> omega)⟩
 ·have d1 : decide (m < x) = false := decide_eq_false hm
  have d1' : decide ((m : Int) < (x : Int)) = false := decide_eq_false (by omega)
  rw [if_neg hm]
  dsimp only
  clear hm hF
  go_enter Tryz.func164, Tryz.ntmps164
  go_wp2_with fail
  refine (hR.out _ (by (repeat first | with_reducible (first | exact zR | assumption | apply zA | apply zS | apply zD | apply zN) | refine zT (by with_reducible assumption) ?_ | omega | simp <;> omega))).mono ?_
  rintro r w1 ⟨rfl, hb⟩
  have B1 : Blk w1 (w.heap.size + 1) 50 #[.slice none 0 0, .int .i64 0, .int .i64 0, .int .i64 0] := Blk.later (by (repeat first | assumption | exact kW (by first | (simp; done) | (simp; omega)) | apply kA | apply kD | apply kN | apply kF | simp <;> omega)) hb
  have hbw : Below w.heap.size w w1 := by (repeat first | with_reducible (first | exact zR | assumption | apply zA | apply zS | apply zD | apply zN) | refine zT (by with_reducible assumption) ?_ | omega | simp <;> omega)
  obtain ⟨y0, y1, y2, y3, g0, g1, g2, g3, l1⟩ := c_blk B1
  clear hb B1
  go_wp2
  refine bodyPost_ret (v := .tuple #[.agg #[.slice a B.length c, .int .i64 (s1.p : Int), .int .i64 s1.k, .int .i64 s1.f], .int .u64 (x : Int)]) (by simp [results, Tryz.results164, go_sem, y0, y1, y2, y3, l1]) rfl ⟨rfl, by (repeat first | with_reducible (first | exact zR | assumption | apply zA | apply zS | apply zD | apply zN) | refine zT (by with_reducible assumption) ?_ | omega | simp <;> omega)⟩
set_option maxRecDepth 100000 in
set_option maxHeartbeats 3200000 in
theorem ref04_int (w : World) (a : Option Addr) (c : Nat) (B : List UInt8) (hl : rBytes.r (· < w.heap.size) w [.slice a B.length c] B) (s : Rs) (hs : s.ok B.length) (hB : B.length ≤ 1000000000000) (m : Int) (hm : -9223372036854775808 ≤ m ∧ m ≤ 9223372036854775807) :
  Calls Tryz.prog 98 #[CV a B.length c s, .int .i64 m] w fun r w' => r = .returned (.tuple #[CV a B.length c (s.int B m).1, .int .i64 ((s.int B m).2 : Int)]) ∧ Below w.heap.size w w' := by
 by_cases h0 : 0 ≤ m
 ·obtain ⟨n, rfl⟩ : ∃ n : Nat, m = n := ⟨m.toNat, by omega⟩
  have hM := hid (fun (W : World) (hW : Below w.heap.size w W) => ref04_most W a c B (lift hl hW) s hs hB n)
  have hle : (s.int B n).2 ≤ 9223372036854775807 := by have := Rs.int_le (B := B) (s := s) (m := (n : Int)); omega
  have e : s.int B n = s.most B n := by unfold Rs.int; rw [if_pos h0]; rfl
  rw [e] at hle ⊢
  have d1 : decide ((0 : Int) ≤ (n : Int)) = true := decide_eq_true h0
  generalize s.most B n = N at *
  obtain ⟨s1, x⟩ := N
  dsimp only at *
  clear hl hs e
  unfold CV at *
  go_enter Tryz.func98, Tryz.ntmps98
  go_wp2_with fail
  refine (hM.out _ (by (repeat first | with_reducible (first | exact zR | assumption | apply zA | apply zS | apply zD | apply zN) | refine zT (by with_reducible assumption) ?_ | omega | simp <;> omega))).mono ?_
  rintro r w1 ⟨rfl, hb⟩
  have B1 : Blk w1 (w.heap.size + 1) 50 #[.slice none 0 0, .int .i64 0, .int .i64 0, .int .i64 0] := Blk.later (by (repeat first | assumption | exact kW (by first | (simp; done) | (simp; omega)) | apply kA | apply kD | apply kN | apply kF | simp <;> omega)) hb
  have hbw : Below w.heap.size w w1 := by (repeat first | with_reducible (first | exact zR | assumption | apply zA | apply zS | apply zD | apply zN) | refine zT (by with_reducible assumption) ?_ | omega | simp <;> omega)
  obtain ⟨y0, y1, y2, y3, g0, g1, g2, g3, l1⟩ := c_blk B1
  clear hb B1
  go_wp2
  refine bodyPost_ret (v := .tuple #[.agg #[.slice a B.length c, .int .i64 (s1.p : Int), .int .i64 s1.k, .int .i64 s1.f], .int .i64 (x : Int)]) (by simp [results, Tryz.results98, go_sem, y0, y1, y2, y3, l1]) rfl ⟨rfl, by (repeat first | with_reducible (first | exact zR | assumption | apply zA | apply zS | apply zD | apply zN) | refine zT (by with_reducible assumption) ?_ | omega | simp <;> omega)⟩
 ·have hR := hid (fun (W : World) (hW : Below w.heap.size w W) => ref04_read W a c B (lift hl hW) s hs hB)
  have e : s.int B m = ((s.num B).1.fail 2 s.p, 0) := by unfold Rs.int; rw [if_neg h0]
  have hF := hid (fun (W : World) => ref02_fail W a B.length c (s.num B).1 2 s.p (by omega))
  rw [e]
  have d1 : decide ((0 : Int) ≤ m) = false := decide_eq_false h0
  dsimp only at *
  generalize (s.num B).1.fail 2 s.p = s2 at *
  generalize s.num B = N at *
  obtain ⟨s1, x⟩ := N
  dsimp only at *
  clear hl hs e h0
  unfold CV at *
  go_enter Tryz.func98, Tryz.ntmps98
  go_wp2_with fail
  refine (hR.out _ (by (repeat first | with_reducible (first | exact zR | assumption | apply zA | apply zS | apply zD | apply zN) | refine zT (by with_reducible assumption) ?_ | omega | simp <;> omega))).mono ?_
  rintro r w1 ⟨rfl, hb⟩
  have B0 : Blk w1 w.heap.size 50 #[.slice a B.length c, .int .i64 (s.p : Int), .int .i64 s.k, .int .i64 s.f] := Blk.later (by (repeat first | assumption | exact kW (by first | (simp; done) | (simp; omega)) | apply kA | apply kD | apply kN | apply kF | simp <;> omega)) hb
  have B1 : Blk w1 (w.heap.size + 1) 50 #[.slice none 0 0, .int .i64 0, .int .i64 0, .int .i64 0] := Blk.later (by (repeat first | assumption | exact kW (by first | (simp; done) | (simp; omega)) | apply kA | apply kD | apply kN | apply kF | simp <;> omega)) hb
  have hbw : Below w.heap.size w w1 := by (repeat first | with_reducible (first | exact zR | assumption | apply zA | apply zS | apply zD | apply zN) | refine zT (by with_reducible assumption) ?_ | omega | simp <;> omega)
  obtain ⟨x0, x1, x2, x3, e0, e1, e2, e3, l0⟩ := c_blk B0
  clear hb
  go_wp2_with fail
  refine (hF.out _).mono ?_
  rintro r w2 ⟨rfl, hb2⟩
  have B1' : Blk w2 (w.heap.size + 1) 50 #[.slice none 0 0, .int .i64 0, .int .i64 0, .int .i64 0] := Blk.later (by (repeat first | assumption | exact kW (by first | (simp; done) | (simp; omega)) | apply kA | apply kD | apply kN | apply kF | simp <;> omega)) hb2
  have hbw2 : Below w.heap.size w w2 := by (repeat first | with_reducible (first | exact zR | assumption | apply zA | apply zS | apply zD | apply zN) | refine zT (by with_reducible assumption) ?_ | omega | simp <;> omega)
  obtain ⟨y0, y1, y2, y3, g0, g1, g2, g3, l1⟩ := c_blk B1'
  clear hb2 B1 B1' B0
  go_wp2
  refine bodyPost_ret (v := .tuple #[.agg #[.slice a B.length c, .int .i64 (s2.p : Int), .int .i64 s2.k, .int .i64 s2.f], .int .i64 0]) (by simp [results, Tryz.results98, go_sem, y0, y1, y2, y3, l1]) rfl ⟨rfl, by (repeat first | with_reducible (first | exact zR | assumption | apply zA | apply zS | apply zD | apply zN) | refine zT (by with_reducible assumption) ?_ | omega | simp <;> omega)⟩
def Rs.blob (B : List UInt8) (s : Rs) (m : Int) : Rs × List UInt8 := (s.int B m).1.take B ((s.int B m).2 : Int)
set_option maxRecDepth 100000 in
set_option maxHeartbeats 3200000 in
theorem ref06_read (w : World) (a : Option Addr) (c : Nat) (B : List UInt8) (hl : rBytes.r (· < w.heap.size) w [.slice a B.length c] B) (s : Rs) (hs : s.ok B.length) (hB : B.length ≤ 1000000000000) (m : Int) (hm : -9223372036854775808 ≤ m ∧ m ≤ 9223372036854775807) :
  Calls Tryz.prog 167 #[CV a B.length c s, .int .i64 m] w fun r w' => ∃ v, r = .returned (.tuple #[CV a B.length c (s.blob B m).1, v]) ∧ rBytes.r (fun q => w.heap.size ≤ q ∧ q < w'.heap.size) w' [v] (s.blob B m).2 ∧ Below w.heap.size w w' := by
 have hI := hid (fun (W : World) (hW : Below w.heap.size w W) => ref04_int W a c B (lift hl hW) s hs hB m hm)
 have hok := Rs.int_ok (B := B) hs (m := m)
 have hle : ((s.int B m).2 : Int) ≤ 9223372036854775807 := by have := Rs.int_le (B := B) (s := s) (m := m); omega
 have hT := hid (fun (W : World) (hW : Below w.heap.size w W) => ref02_take W a c B (lift hl hW) (s.int B m).1 hok ((s.int B m).2 : Int) hle hB)
 unfold Rs.blob
 generalize (s.int B m).1.take B ((s.int B m).2 : Int) = T at *
 generalize s.int B m = N at *
 obtain ⟨s1, x⟩ := N
 obtain ⟨s2, D⟩ := T
 dsimp only at *
 clear hl hs hok
 unfold CV at *
 go_enter Tryz.func167, Tryz.ntmps167
 go_wp2_with fail
 refine (hI.out _ (by (repeat first | with_reducible (first | exact zR | assumption | apply zA | apply zS | apply zD | apply zN) | refine zT (by with_reducible assumption) ?_ | omega | simp <;> omega))).mono ?_
 rintro r w1 ⟨rfl, hb⟩
 have B1 : Blk w1 (w.heap.size + 1) 50 #[.slice none 0 0, .int .i64 0, .int .i64 0, .int .i64 0] := Blk.later (by (repeat first | assumption | exact kW (by first | (simp; done) | (simp; omega)) | apply kA | apply kD | apply kN | apply kF | simp <;> omega)) hb
 have hbw : Below w.heap.size w w1 := by (repeat first | with_reducible (first | exact zR | assumption | apply zA | apply zS | apply zD | apply zN) | refine zT (by with_reducible assumption) ?_ | omega | simp <;> omega)
 have hs1 := hb.size
 simp at hs1
 clear hb
 go_wp2_with fail
 refine (hT.out _ (by (repeat first | with_reducible (first | exact zR | assumption | apply zA | apply zS | apply zD | apply zN) | refine zT (by with_reducible assumption) ?_ | omega | simp <;> omega))).mono ?_
 rintro r w2 ⟨v, rfl, hr, hb2⟩
 have B1' : Blk w2 (w.heap.size + 1) 50 #[.slice none 0 0, .int .i64 0, .int .i64 0, .int .i64 0] := Blk.later (by (repeat first | assumption | exact kW (by first | (simp; done) | (simp; omega)) | apply kA | apply kD | apply kN | apply kF | simp <;> omega)) hb2
 have hbw2 : Below w.heap.size w w2 := by (repeat first | with_reducible (first | exact zR | assumption | apply zA | apply zS | apply zD | apply zN) | refine zT (by with_reducible assumption) ?_ | omega | simp <;> omega)
 obtain ⟨y0, y1, y2, y3, g0, g1, g2, g3, l1⟩ := c_blk B1'
 obtain ⟨a1, c1, hv1, hr2, _⟩ := sl_form hr
 simp only [List.cons.injEq, and_true] at hv1
 subst hv1
 have HR := hid hr2
 clear hr hr2 hb2 B1 B1'
 go_wp2
 refine bodyPost_ret (v := .tuple #[.agg #[.slice a B.length c, .int .i64 (s2.p : Int), .int .i64 s2.k, .int .i64 s2.f], .slice a1 D.length c1]) (by simp [results, Tryz.results167, go_sem, y0, y1, y2, y3, l1]) rfl ⟨_, rfl, ?_, by (repeat first | with_reducible (first | exact zR | assumption | apply zA | apply zS | apply zD | apply zN) | refine zT (by with_reducible assumption) ?_ | omega | simp <;> omega)⟩
 refine rBytes.mono (rBytes.keep HR.out fun q hq => ?_) fun q hq => ⟨by have := hq.1; simp at this; omega, by simp [World.setCell]; exact hq.2⟩
 have := hq.1
 simp at this
 repeat (rw [Below.heap_setCell _ _ _ _ (by dsimp only; omega)])
set_option maxRecDepth 100000 in
theorem blob_read (w : World) {g : Nat} {B : List UInt8} {a : Option Addr} {s : Rs} (h : RdAt w g B a s) (hB : B.length ≤ 1000000000000) (m : Int) (hm : -9223372036854775808 ≤ m ∧ m ≤ 9223372036854775807) : Calls Tryz.prog 213 #[.pointer (some ⟨g, 0, none⟩), .int .i64 m] w fun r w' => ∃ v, r = .returned v ∧ rBytes.r (fun q => w.heap.size ≤ q ∧ q < w'.heap.size) w' [v] (s.blob B m).2 ∧ RdStep w g B a (s.blob B m).1 w' := by
 have HI := hid (varint_int w h hB m hm)
 have hle : ((s.int B m).2 : Int) ≤ 9223372036854775807 := by have := Rs.int_le (B := B) (s := s) (m := m); omega
 have hT := hid (fun (W : World) (h : RdAt W g B a (s.int B m).1) => rd_take W h ((s.int B m).2 : Int) hle hB)
 unfold Rs.blob
 generalize (s.int B m).1.take B ((s.int B m).2 : Int) = T at *
 generalize s.int B m = N at *
 obtain ⟨s1, x⟩ := N
 obtain ⟨s2, D⟩ := T
 dsimp only at *
 clear h
 go_enter Tryz.func213, Tryz.ntmps213
 go_wp2_with fail
 refine HI.out.mono ?_
 rintro r w1 ⟨rfl, hst⟩
 have HST := hid hst
 have hs1 := hst.size
 have HT := hid (hT.out w1 hst.1)
 clear hst
 go_wp2_with fail
 refine HT.out.mono ?_
 rintro r w2 ⟨v, rfl, hr, hst2⟩
 obtain ⟨a1, c1, hv1, hr2, _⟩ := sl_form hr
 simp only [List.cons.injEq, and_true] at hv1
 subst hv1
 have HR := hid hr2
 have HST2 := hid hst2
 clear hr hr2 hst2
 go_wp2
 go_ret
 exact ⟨_, rfl, rBytes.mono HR.out fun q hq => ⟨by omega, hq.2⟩, RdStep.trans HST.out.2 HST2.out⟩
end Go.Proofs.YtkipiefcnjfdjaaGreat
namespace Go.Proofs.YtkipiefcnjfdjaaGreat
open Go.RowKit Go.Bs Go.Maps
set_option linter.unusedVariables false
set_option linter.unusedSimpArgs false
theorem t_blk {w : World} {g : Nat} {t : TypeId} {v0 v1 v2 : Value} (h : Blk w g t #[v0, v1, v2]) : w.cell? ⟨g, 0, none⟩ = some v0 ∧ w.cell? ⟨g, 1, none⟩ = some v1 ∧ w.cell? ⟨g, 2, none⟩ = some v2 ∧ w.frozen? ⟨g, 0, none⟩ = false ∧ w.frozen? ⟨g, 1, none⟩ = false ∧ w.frozen? ⟨g, 2, none⟩ = false ∧ g < w.heap.size :=
 ⟨h.cell 0, h.cell 1, h.cell 2, h.free 0, h.free 1, h.free 2, h.lt⟩
def Rs.tok (B : List UInt8) (s : Rs) : Rs × Tok :=
 if (s.num B).1.k = 0 then
  (if (s.num B).2 % 2 = 0 then
   (if 1048576 < (s.num B).2 / 2 + 1 then ((s.num B).1.fail 2 s.p, ⟨[], 0, 0⟩)
   else if ((s.num B).1.take B (((s.num B).2 / 2 + 1 : Nat) : Int)).1.k = 0 then (((s.num B).1.take B (((s.num B).2 / 2 + 1 : Nat) : Int)).1, ⟨((s.num B).1.take B (((s.num B).2 / 2 + 1 : Nat) : Int)).2, 0, 0⟩)
   else (((s.num B).1.take B (((s.num B).2 / 2 + 1 : Nat) : Int)).1, ⟨[], 0, 0⟩))
  else if 1048572 < (s.num B).2 / 2 then ((s.num B).1.fail 2 s.p, ⟨[], 0, 0⟩)
  else if ((s.num B).1.num B).1.k = 0 then
   (if 65535 < ((s.num B).1.num B).2 then (((s.num B).1.num B).1.fail 10 (s.num B).1.p, ⟨[], 0, 0⟩)
   else (((s.num B).1.num B).1, ⟨[], ((((s.num B).1.num B).2 + 1 : Nat) : Int), (((s.num B).2 / 2 + 4 : Nat) : Int)⟩))
  else (((s.num B).1.num B).1, ⟨[], 0, 0⟩))
 else ((s.num B).1, ⟨[], 0, 0⟩)
set_option maxRecDepth 100000 in
set_option maxHeartbeats 6400000 in
theorem ref11_read (w : World) (a : Option Addr) (c : Nat) (B : List UInt8) (hl : rBytes.r (· < w.heap.size) w [.slice a B.length c] B) (s : Rs) (hs : s.ok B.length) (hB : B.length ≤ 1000000000000) :
  Calls Tryz.prog 219 #[CV a B.length c s] w fun r w' => ∃ v, r = .returned (.tuple #[CV a B.length c (s.tok B).1, .agg #[v, .int .i64 (s.tok B).2.off, .int .i64 (s.tok B).2.len]]) ∧ rBytes.r (fun q => w.heap.size ≤ q ∧ q < w'.heap.size) w' [v] (s.tok B).2.lit ∧ Below w.heap.size w w' := by
 have hR := hid (fun (W : World) (hW : Below w.heap.size w W) => ref04_read W a c B (lift hl hW) s hs hB)
 have hok := Rs.num_ok hs
 have hsm := Rs.num_small (B := B) (s := s)
 have hR2 := hid (fun (W : World) (hW : Below w.heap.size w W) => ref04_read W a c B (lift hl hW) (s.num B).1 hok hB)
 have hsm2 := Rs.num_small (B := B) (s := (s.num B).1)
 have hF := hid (fun (W : World) => ref02_fail W a B.length c (s.num B).1 2 s.p (by omega))
 have hF2 := hid (fun (W : World) => ref02_fail W a B.length c ((s.num B).1.num B).1 10 (s.num B).1.p (by omega))
 have hT := hid (fun (W : World) (hW : Below w.heap.size w W) (hn : (s.num B).2 / 2 + 1 ≤ 1048576) => ref02_take W a c B (lift hl hW) (s.num B).1 hok (((s.num B).2 / 2 + 1 : Nat) : Int) (by omega) hB)
 unfold Rs.tok
 generalize (s.num B).1.take B (((s.num B).2 / 2 + 1 : Nat) : Int) = T at *
 generalize ((s.num B).1.num B).1.fail 10 (s.num B).1.p = F2 at *
 generalize (s.num B).1.num B = M at *
 generalize (s.num B).1.fail 2 s.p = F1 at *
 generalize s.num B = N at *
 obtain ⟨s1, x⟩ := N
 obtain ⟨s2, D⟩ := T
 obtain ⟨s3, y⟩ := M
 dsimp only at *
 clear hl hs hok
 unfold CV at *
 by_cases hk : s1.k = 0
 ·have dk : (s1.k != (0 : Int)) = false := by simp [hk]
  rw [if_pos hk]
  have HK := hid hk
  clear hk
  by_cases h2 : x % 2 = 0
  ·have d2 : (((x : Int) % 2) == 0) = true := by rw [beq_iff_eq]; omega
   rw [if_pos h2]
   clear h2
   by_cases h3 : 1048576 < x / 2 + 1
   ·have d3 : decide ((1048576 : Int) < (x : Int) / 2 + 1) = true := decide_eq_true (by omega)
    rw [if_pos h3]
    clear h3
    dsimp only
    go_enter Tryz.func219, Tryz.ntmps219
    go_wp2_with fail
    refine (hR.out _ (by (repeat first | with_reducible (first | exact zR | assumption | apply zA | apply zS | apply zD | apply zN) | refine zT (by with_reducible assumption) ?_ | omega | simp <;> omega))).mono ?_
    rintro r w1 ⟨rfl, hb⟩
    have B1 : Blk w1 (w.heap.size + 1) 50 #[.slice none 0 0, .int .i64 0, .int .i64 0, .int .i64 0] := Blk.later (by (repeat first | assumption | exact kW (by first | (simp; done) | (simp; omega)) | apply kA | apply kD | apply kN | apply kF | simp <;> omega)) hb
    have B2 : Blk w1 (w.heap.size + 1 + 1) 253 #[.slice none 0 0, .int .i64 0, .int .i64 0] := Blk.later (by (repeat first | assumption | exact kW (by first | (simp; done) | (simp; omega)) | apply kA | apply kD | apply kN | apply kF | simp <;> omega)) hb
    have B0 : Blk w1 w.heap.size 50 #[.slice a B.length c, .int .i64 (s.p : Int), .int .i64 s.k, .int .i64 s.f] := Blk.later (by (repeat first | assumption | exact kW (by first | (simp; done) | (simp; omega)) | apply kA | apply kD | apply kN | apply kF | simp <;> omega)) hb
    obtain ⟨x0, x1, x2, x3, e0, e1, e2, e3, l0⟩ := c_blk B0
    have hbw1 : Below w.heap.size w w1 := by (repeat first | with_reducible (first | exact zR | assumption | apply zA | apply zS | apply zD | apply zN) | refine zT (by with_reducible assumption) ?_ | omega | simp <;> omega)
    have hsz1 := hb.size
    simp at hsz1
    clear hb
    go_wp2_with fail
    refine (hF.out _).mono ?_
    rintro r w2 ⟨rfl, hb⟩
    have B1 : Blk w2 (w.heap.size + 1) 50 #[.slice none 0 0, .int .i64 0, .int .i64 0, .int .i64 0] := Blk.later (by (repeat first | assumption | exact kW (by first | (simp; done) | (simp; omega)) | apply kA | apply kD | apply kN | apply kF | simp <;> omega)) hb
    have B2 : Blk w2 (w.heap.size + 1 + 1) 253 #[.slice none 0 0, .int .i64 0, .int .i64 0] := Blk.later (by (repeat first | assumption | exact kW (by first | (simp; done) | (simp; omega)) | apply kA | apply kD | apply kN | apply kF | simp <;> omega)) hb
    have hbw2 : Below w.heap.size w w2 := by (repeat first | with_reducible (first | exact zR | assumption | apply zA | apply zS | apply zD | apply zN) | refine zT (by with_reducible assumption) ?_ | omega | simp <;> omega)
    have hsz2 := hb.size
    simp at hsz2
    clear hb
    obtain ⟨y0, y1, y2, y3, g0, g1, g2, g3, l1⟩ := c_blk B1
    obtain ⟨z0, z1, z2, f0, f1, f2, l2⟩ := t_blk B2
    clear B1 B2
    go_wp2
    refine bodyPost_ret (v := .tuple #[.agg #[.slice a B.length c, .int .i64 (F1.p : Int), .int .i64 F1.k, .int .i64 F1.f], .agg #[.slice none 0 0, .int .i64 0, .int .i64 0]]) (by simp [results, Tryz.results219, go_sem, y0, y1, y2, y3, l1, z0, z1, z2, l2]) rfl ⟨_, rfl, empty_bytes rfl rfl (by omega), by (repeat first | with_reducible (first | exact zR | assumption | apply zA | apply zS | apply zD | apply zN) | refine zT (by with_reducible assumption) ?_ | omega | simp <;> omega)⟩
   ·have d3 : decide ((1048576 : Int) < (x : Int) / 2 + 1) = false := decide_eq_false (by omega)
    rw [if_neg h3]
    have hT2 := hid (fun (W : World) (hW : Below w.heap.size w W) => hT.out W hW (by omega))
    rw [show ((x / 2 + 1 : Nat) : Int) = (x : Int) / 2 + 1 by omega] at hT2
    have hx2 : x / 2 + 1 ≤ 1048576 := by omega
    clear h3 hT
    by_cases h4 : s2.k = 0
    ·have d4 : (s2.k != (0 : Int)) = false := by simp [h4]
     rw [if_pos h4]
     clear h4
     dsimp only
     go_enter Tryz.func219, Tryz.ntmps219
     go_wp2_with fail
     refine (hR.out _ (by (repeat first | with_reducible (first | exact zR | assumption | apply zA | apply zS | apply zD | apply zN) | refine zT (by with_reducible assumption) ?_ | omega | simp <;> omega))).mono ?_
     rintro r w1 ⟨rfl, hb⟩
     have B1 : Blk w1 (w.heap.size + 1) 50 #[.slice none 0 0, .int .i64 0, .int .i64 0, .int .i64 0] := Blk.later (by (repeat first | assumption | exact kW (by first | (simp; done) | (simp; omega)) | apply kA | apply kD | apply kN | apply kF | simp <;> omega)) hb
     have B2 : Blk w1 (w.heap.size + 1 + 1) 253 #[.slice none 0 0, .int .i64 0, .int .i64 0] := Blk.later (by (repeat first | assumption | exact kW (by first | (simp; done) | (simp; omega)) | apply kA | apply kD | apply kN | apply kF | simp <;> omega)) hb
     have B0 : Blk w1 w.heap.size 50 #[.slice a B.length c, .int .i64 (s.p : Int), .int .i64 s.k, .int .i64 s.f] := Blk.later (by (repeat first | assumption | exact kW (by first | (simp; done) | (simp; omega)) | apply kA | apply kD | apply kN | apply kF | simp <;> omega)) hb
     obtain ⟨x0, x1, x2, x3, e0, e1, e2, e3, l0⟩ := c_blk B0
     have hbw1 : Below w.heap.size w w1 := by (repeat first | with_reducible (first | exact zR | assumption | apply zA | apply zS | apply zD | apply zN) | refine zT (by with_reducible assumption) ?_ | omega | simp <;> omega)
     have hsz1 := hb.size
     simp at hsz1
     clear hb
     go_wp2_with fail
     refine (hT2.out _ (by (repeat first | with_reducible (first | exact zR | assumption | apply zA | apply zS | apply zD | apply zN) | refine zT (by with_reducible assumption) ?_ | omega | simp <;> omega))).mono ?_
     rintro r w2 ⟨v, rfl, hr, hb⟩
     have B1 : Blk w2 (w.heap.size + 1) 50 #[.slice none 0 0, .int .i64 0, .int .i64 0, .int .i64 0] := Blk.later (by (repeat first | assumption | exact kW (by first | (simp; done) | (simp; omega)) | apply kA | apply kD | apply kN | apply kF | simp <;> omega)) hb
     have B2 : Blk w2 (w.heap.size + 1 + 1) 253 #[.slice none 0 0, .int .i64 0, .int .i64 0] := Blk.later (by (repeat first | assumption | exact kW (by first | (simp; done) | (simp; omega)) | apply kA | apply kD | apply kN | apply kF | simp <;> omega)) hb
     have hbw2 : Below w.heap.size w w2 := by (repeat first | with_reducible (first | exact zR | assumption | apply zA | apply zS | apply zD | apply zN) | refine zT (by with_reducible assumption) ?_ | omega | simp <;> omega)
     have hsz2 := hb.size
     simp at hsz2
     clear hb
     obtain ⟨a1, c1, hv1, hr2, _⟩ := sl_form hr
     simp only [List.cons.injEq, and_true] at hv1
     subst hv1
     have HR := hid hr2
     clear hr hr2
     obtain ⟨y0, y1, y2, y3, g0, g1, g2, g3, l1⟩ := c_blk B1
     obtain ⟨z0, z1, z2, f0, f1, f2, l2⟩ := t_blk B2
     clear B1 B2
     go_wp2
     refine bodyPost_ret (v := .tuple #[.agg #[.slice a B.length c, .int .i64 (s2.p : Int), .int .i64 s2.k, .int .i64 s2.f], .agg #[.slice a1 D.length c1, .int .i64 0, .int .i64 0]]) (by simp [results, Tryz.results219, go_sem, y0, y1, y2, y3, l1, z0, z1, z2, l2]) rfl ⟨_, rfl, ?_, by (repeat first | with_reducible (first | exact zR | assumption | apply zA | apply zS | apply zD | apply zN) | refine zT (by with_reducible assumption) ?_ | omega | simp <;> omega)⟩
     refine rBytes.mono (rBytes.keep HR.out fun q hq => ?_) fun q hq => ⟨by have := hq.1; simp at this; omega, by have := hq.2; simp [World.setCell]; omega⟩
     have hq1 := hq.1
     have hq2 := hq.2
     simp at hq1
     repeat (first | rw [Below.heap_setCell _ _ _ _ (by dsimp only; omega)] | rw [Below.heap_alloc _ _ _ (by simp [World.setCell]; omega)])
    ·have d4 : (s2.k != (0 : Int)) = true := by simp [h4]
     rw [if_neg h4]
     clear h4
     dsimp only
     go_enter Tryz.func219, Tryz.ntmps219
     go_wp2_with fail
     refine (hR.out _ (by (repeat first | with_reducible (first | exact zR | assumption | apply zA | apply zS | apply zD | apply zN) | refine zT (by with_reducible assumption) ?_ | omega | simp <;> omega))).mono ?_
     rintro r w1 ⟨rfl, hb⟩
     have B1 : Blk w1 (w.heap.size + 1) 50 #[.slice none 0 0, .int .i64 0, .int .i64 0, .int .i64 0] := Blk.later (by (repeat first | assumption | exact kW (by first | (simp; done) | (simp; omega)) | apply kA | apply kD | apply kN | apply kF | simp <;> omega)) hb
     have B2 : Blk w1 (w.heap.size + 1 + 1) 253 #[.slice none 0 0, .int .i64 0, .int .i64 0] := Blk.later (by (repeat first | assumption | exact kW (by first | (simp; done) | (simp; omega)) | apply kA | apply kD | apply kN | apply kF | simp <;> omega)) hb
     have B0 : Blk w1 w.heap.size 50 #[.slice a B.length c, .int .i64 (s.p : Int), .int .i64 s.k, .int .i64 s.f] := Blk.later (by (repeat first | assumption | exact kW (by first | (simp; done) | (simp; omega)) | apply kA | apply kD | apply kN | apply kF | simp <;> omega)) hb
     obtain ⟨x0, x1, x2, x3, e0, e1, e2, e3, l0⟩ := c_blk B0
     have hbw1 : Below w.heap.size w w1 := by (repeat first | with_reducible (first | exact zR | assumption | apply zA | apply zS | apply zD | apply zN) | refine zT (by with_reducible assumption) ?_ | omega | simp <;> omega)
     have hsz1 := hb.size
     simp at hsz1
     clear hb
     go_wp2_with fail
     refine (hT2.out _ (by (repeat first | with_reducible (first | exact zR | assumption | apply zA | apply zS | apply zD | apply zN) | refine zT (by with_reducible assumption) ?_ | omega | simp <;> omega))).mono ?_
     rintro r w2 ⟨v, rfl, hr, hb⟩
     have B1 : Blk w2 (w.heap.size + 1) 50 #[.slice none 0 0, .int .i64 0, .int .i64 0, .int .i64 0] := Blk.later (by (repeat first | assumption | exact kW (by first | (simp; done) | (simp; omega)) | apply kA | apply kD | apply kN | apply kF | simp <;> omega)) hb
     have B2 : Blk w2 (w.heap.size + 1 + 1) 253 #[.slice none 0 0, .int .i64 0, .int .i64 0] := Blk.later (by (repeat first | assumption | exact kW (by first | (simp; done) | (simp; omega)) | apply kA | apply kD | apply kN | apply kF | simp <;> omega)) hb
     have hbw2 : Below w.heap.size w w2 := by (repeat first | with_reducible (first | exact zR | assumption | apply zA | apply zS | apply zD | apply zN) | refine zT (by with_reducible assumption) ?_ | omega | simp <;> omega)
     have hsz2 := hb.size
     simp at hsz2
     clear hb
     obtain ⟨a1, c1, hv1, hr2, _⟩ := sl_form hr
     simp only [List.cons.injEq, and_true] at hv1
     subst hv1
     have HR := hid hr2
     clear hr hr2
     obtain ⟨y0, y1, y2, y3, g0, g1, g2, g3, l1⟩ := c_blk B1
     obtain ⟨z0, z1, z2, f0, f1, f2, l2⟩ := t_blk B2
     clear B1 B2
     go_wp2
     refine bodyPost_ret (v := .tuple #[.agg #[.slice a B.length c, .int .i64 (s2.p : Int), .int .i64 s2.k, .int .i64 s2.f], .agg #[.slice none 0 0, .int .i64 0, .int .i64 0]]) (by simp [results, Tryz.results219, go_sem, y0, y1, y2, y3, l1, z0, z1, z2, l2]) rfl ⟨_, rfl, empty_bytes rfl rfl (by omega), by (repeat first | with_reducible (first | exact zR | assumption | apply zA | apply zS | apply zD | apply zN) | refine zT (by with_reducible assumption) ?_ | omega | simp <;> omega)⟩
  ·have d2 : (((x : Int) % 2) == 0) = false := by rw [beq_eq_false_iff_ne]; omega
   rw [if_neg h2]
   clear h2
   by_cases h3 : 1048572 < x / 2
   ·have d3 : decide ((1048572 : Int) < (x : Int) / 2) = true := decide_eq_true (by omega)
    rw [if_pos h3]
    clear h3
    dsimp only
    go_enter Tryz.func219, Tryz.ntmps219
    go_wp2_with fail
    refine (hR.out _ (by (repeat first | with_reducible (first | exact zR | assumption | apply zA | apply zS | apply zD | apply zN) | refine zT (by with_reducible assumption) ?_ | omega | simp <;> omega))).mono ?_
    rintro r w1 ⟨rfl, hb⟩
    have B1 : Blk w1 (w.heap.size + 1) 50 #[.slice none 0 0, .int .i64 0, .int .i64 0, .int .i64 0] := Blk.later (by (repeat first | assumption | exact kW (by first | (simp; done) | (simp; omega)) | apply kA | apply kD | apply kN | apply kF | simp <;> omega)) hb
    have B2 : Blk w1 (w.heap.size + 1 + 1) 253 #[.slice none 0 0, .int .i64 0, .int .i64 0] := Blk.later (by (repeat first | assumption | exact kW (by first | (simp; done) | (simp; omega)) | apply kA | apply kD | apply kN | apply kF | simp <;> omega)) hb
    have B0 : Blk w1 w.heap.size 50 #[.slice a B.length c, .int .i64 (s.p : Int), .int .i64 s.k, .int .i64 s.f] := Blk.later (by (repeat first | assumption | exact kW (by first | (simp; done) | (simp; omega)) | apply kA | apply kD | apply kN | apply kF | simp <;> omega)) hb
    obtain ⟨x0, x1, x2, x3, e0, e1, e2, e3, l0⟩ := c_blk B0
    have hbw1 : Below w.heap.size w w1 := by (repeat first | with_reducible (first | exact zR | assumption | apply zA | apply zS | apply zD | apply zN) | refine zT (by with_reducible assumption) ?_ | omega | simp <;> omega)
    have hsz1 := hb.size
    simp at hsz1
    clear hb
    go_wp2_with fail
    refine (hF.out _).mono ?_
    rintro r w2 ⟨rfl, hb⟩
    have B1 : Blk w2 (w.heap.size + 1) 50 #[.slice none 0 0, .int .i64 0, .int .i64 0, .int .i64 0] := Blk.later (by (repeat first | assumption | exact kW (by first | (simp; done) | (simp; omega)) | apply kA | apply kD | apply kN | apply kF | simp <;> omega)) hb
    have B2 : Blk w2 (w.heap.size + 1 + 1) 253 #[.slice none 0 0, .int .i64 0, .int .i64 0] := Blk.later (by (repeat first | assumption | exact kW (by first | (simp; done) | (simp; omega)) | apply kA | apply kD | apply kN | apply kF | simp <;> omega)) hb
    have hbw2 : Below w.heap.size w w2 := by (repeat first | with_reducible (first | exact zR | assumption | apply zA | apply zS | apply zD | apply zN) | refine zT (by with_reducible assumption) ?_ | omega | simp <;> omega)
    have hsz2 := hb.size
    simp at hsz2
    clear hb
    obtain ⟨y0, y1, y2, y3, g0, g1, g2, g3, l1⟩ := c_blk B1
    obtain ⟨z0, z1, z2, f0, f1, f2, l2⟩ := t_blk B2
    clear B1 B2
    go_wp2
    refine bodyPost_ret (v := .tuple #[.agg #[.slice a B.length c, .int .i64 (F1.p : Int), .int .i64 F1.k, .int .i64 F1.f], .agg #[.slice none 0 0, .int .i64 0, .int .i64 0]]) (by simp [results, Tryz.results219, go_sem, y0, y1, y2, y3, l1, z0, z1, z2, l2]) rfl ⟨_, rfl, empty_bytes rfl rfl (by omega), by (repeat first | with_reducible (first | exact zR | assumption | apply zA | apply zS | apply zD | apply zN) | refine zT (by with_reducible assumption) ?_ | omega | simp <;> omega)⟩
   ·have d3 : decide ((1048572 : Int) < (x : Int) / 2) = false := decide_eq_false (by omega)
    rw [if_neg h3]
    have hx2 : x / 2 ≤ 1048572 := by omega
    clear h3
    by_cases h4 : s3.k = 0
    ·have d4 : (s3.k != (0 : Int)) = false := by simp [h4]
     rw [if_pos h4]
     clear h4
     by_cases h5 : 65535 < y
     ·have d5 : decide ((65535 : Int) < (y : Int)) = true := decide_eq_true (by omega)
      rw [if_pos h5]
      clear h5
      dsimp only
      go_enter Tryz.func219, Tryz.ntmps219
      go_wp2_with fail
      refine (hR.out _ (by (repeat first | with_reducible (first | exact zR | assumption | apply zA | apply zS | apply zD | apply zN) | refine zT (by with_reducible assumption) ?_ | omega | simp <;> omega))).mono ?_
      rintro r w1 ⟨rfl, hb⟩
      have B1 : Blk w1 (w.heap.size + 1) 50 #[.slice none 0 0, .int .i64 0, .int .i64 0, .int .i64 0] := Blk.later (by (repeat first | assumption | exact kW (by first | (simp; done) | (simp; omega)) | apply kA | apply kD | apply kN | apply kF | simp <;> omega)) hb
      have B2 : Blk w1 (w.heap.size + 1 + 1) 253 #[.slice none 0 0, .int .i64 0, .int .i64 0] := Blk.later (by (repeat first | assumption | exact kW (by first | (simp; done) | (simp; omega)) | apply kA | apply kD | apply kN | apply kF | simp <;> omega)) hb
      have B0 : Blk w1 w.heap.size 50 #[.slice a B.length c, .int .i64 (s.p : Int), .int .i64 s.k, .int .i64 s.f] := Blk.later (by (repeat first | assumption | exact kW (by first | (simp; done) | (simp; omega)) | apply kA | apply kD | apply kN | apply kF | simp <;> omega)) hb
      obtain ⟨x0, x1, x2, x3, e0, e1, e2, e3, l0⟩ := c_blk B0
      have hbw1 : Below w.heap.size w w1 := by (repeat first | with_reducible (first | exact zR | assumption | apply zA | apply zS | apply zD | apply zN) | refine zT (by with_reducible assumption) ?_ | omega | simp <;> omega)
      have hsz1 := hb.size
      simp at hsz1
      clear hb
      go_wp2_with fail
      refine (hR2.out _ (by (repeat first | with_reducible (first | exact zR | assumption | apply zA | apply zS | apply zD | apply zN) | refine zT (by with_reducible assumption) ?_ | omega | simp <;> omega))).mono ?_
      rintro r w2 ⟨rfl, hb⟩
      have B1 : Blk w2 (w.heap.size + 1) 50 #[.slice none 0 0, .int .i64 0, .int .i64 0, .int .i64 0] := Blk.later (by (repeat first | assumption | exact kW (by first | (simp; done) | (simp; omega)) | apply kA | apply kD | apply kN | apply kF | simp <;> omega)) hb
      have B2 : Blk w2 (w.heap.size + 1 + 1) 253 #[.slice none 0 0, .int .i64 0, .int .i64 0] := Blk.later (by (repeat first | assumption | exact kW (by first | (simp; done) | (simp; omega)) | apply kA | apply kD | apply kN | apply kF | simp <;> omega)) hb
      have BD : Blk w2 w1.heap.size 50 #[.slice a B.length c, .int .i64 (s1.p : Int), .int .i64 s1.k, .int .i64 s1.f] := Blk.later (by (repeat first | assumption | exact kW (by first | (simp; done) | (simp; omega)) | apply kA | apply kD | apply kN | apply kF | simp <;> omega)) hb
      obtain ⟨v0, v1, v2, v3, q0, q1, q2, q3, l3⟩ := c_blk BD
      have hbw2 : Below w.heap.size w w2 := by (repeat first | with_reducible (first | exact zR | assumption | apply zA | apply zS | apply zD | apply zN) | refine zT (by with_reducible assumption) ?_ | omega | simp <;> omega)
      have hsz2 := hb.size
      simp at hsz2
      clear hb
      go_wp2_with fail
      refine (hF2.out _).mono ?_
      rintro r w3 ⟨rfl, hb⟩
      have B1 : Blk w3 (w.heap.size + 1) 50 #[.slice none 0 0, .int .i64 0, .int .i64 0, .int .i64 0] := Blk.later (by (repeat first | assumption | exact kW (by first | (simp; done) | (simp; omega)) | apply kA | apply kD | apply kN | apply kF | simp <;> omega)) hb
      have B2 : Blk w3 (w.heap.size + 1 + 1) 253 #[.slice none 0 0, .int .i64 0, .int .i64 0] := Blk.later (by (repeat first | assumption | exact kW (by first | (simp; done) | (simp; omega)) | apply kA | apply kD | apply kN | apply kF | simp <;> omega)) hb
      have hbw3 : Below w.heap.size w w3 := by (repeat first | with_reducible (first | exact zR | assumption | apply zA | apply zS | apply zD | apply zN) | refine zT (by with_reducible assumption) ?_ | omega | simp <;> omega)
      have hsz3 := hb.size
      simp at hsz3
      clear hb
      obtain ⟨y0, y1, y2, y3, g0, g1, g2, g3, l1⟩ := c_blk B1
      obtain ⟨z0, z1, z2, f0, f1, f2, l2⟩ := t_blk B2
      clear B1 B2
      go_wp2
      refine bodyPost_ret (v := .tuple #[.agg #[.slice a B.length c, .int .i64 (F2.p : Int), .int .i64 F2.k, .int .i64 F2.f], .agg #[.slice none 0 0, .int .i64 0, .int .i64 0]]) (by simp [results, Tryz.results219, go_sem, y0, y1, y2, y3, l1, z0, z1, z2, l2]) rfl ⟨_, rfl, empty_bytes rfl rfl (by omega), by (repeat first | with_reducible (first | exact zR | assumption | apply zA | apply zS | apply zD | apply zN) | refine zT (by with_reducible assumption) ?_ | omega | simp <;> omega)⟩
     ·have d5 : decide ((65535 : Int) < (y : Int)) = false := decide_eq_false (by omega)
      rw [if_neg h5]
      have hy2 : y ≤ 65535 := by omega
      clear h5
      dsimp only
      go_enter Tryz.func219, Tryz.ntmps219
      go_wp2_with fail
      refine (hR.out _ (by (repeat first | with_reducible (first | exact zR | assumption | apply zA | apply zS | apply zD | apply zN) | refine zT (by with_reducible assumption) ?_ | omega | simp <;> omega))).mono ?_
      rintro r w1 ⟨rfl, hb⟩
      have B1 : Blk w1 (w.heap.size + 1) 50 #[.slice none 0 0, .int .i64 0, .int .i64 0, .int .i64 0] := Blk.later (by (repeat first | assumption | exact kW (by first | (simp; done) | (simp; omega)) | apply kA | apply kD | apply kN | apply kF | simp <;> omega)) hb
      have B2 : Blk w1 (w.heap.size + 1 + 1) 253 #[.slice none 0 0, .int .i64 0, .int .i64 0] := Blk.later (by (repeat first | assumption | exact kW (by first | (simp; done) | (simp; omega)) | apply kA | apply kD | apply kN | apply kF | simp <;> omega)) hb
      have B0 : Blk w1 w.heap.size 50 #[.slice a B.length c, .int .i64 (s.p : Int), .int .i64 s.k, .int .i64 s.f] := Blk.later (by (repeat first | assumption | exact kW (by first | (simp; done) | (simp; omega)) | apply kA | apply kD | apply kN | apply kF | simp <;> omega)) hb
      obtain ⟨x0, x1, x2, x3, e0, e1, e2, e3, l0⟩ := c_blk B0
      have hbw1 : Below w.heap.size w w1 := by (repeat first | with_reducible (first | exact zR | assumption | apply zA | apply zS | apply zD | apply zN) | refine zT (by with_reducible assumption) ?_ | omega | simp <;> omega)
      have hsz1 := hb.size
      simp at hsz1
      clear hb
      go_wp2_with fail
      refine (hR2.out _ (by (repeat first | with_reducible (first | exact zR | assumption | apply zA | apply zS | apply zD | apply zN) | refine zT (by with_reducible assumption) ?_ | omega | simp <;> omega))).mono ?_
      rintro r w2 ⟨rfl, hb⟩
      have B1 : Blk w2 (w.heap.size + 1) 50 #[.slice none 0 0, .int .i64 0, .int .i64 0, .int .i64 0] := Blk.later (by (repeat first | assumption | exact kW (by first | (simp; done) | (simp; omega)) | apply kA | apply kD | apply kN | apply kF | simp <;> omega)) hb
      have B2 : Blk w2 (w.heap.size + 1 + 1) 253 #[.slice none 0 0, .int .i64 0, .int .i64 0] := Blk.later (by (repeat first | assumption | exact kW (by first | (simp; done) | (simp; omega)) | apply kA | apply kD | apply kN | apply kF | simp <;> omega)) hb
      have hbw2 : Below w.heap.size w w2 := by (repeat first | with_reducible (first | exact zR | assumption | apply zA | apply zS | apply zD | apply zN) | refine zT (by with_reducible assumption) ?_ | omega | simp <;> omega)
      have hsz2 := hb.size
      simp at hsz2
      clear hb
      obtain ⟨y0, y1, y2, y3, g0, g1, g2, g3, l1⟩ := c_blk B1
      obtain ⟨z0, z1, z2, f0, f1, f2, l2⟩ := t_blk B2
      clear B1 B2
      go_wp2
      refine bodyPost_ret (v := .tuple #[.agg #[.slice a B.length c, .int .i64 (s3.p : Int), .int .i64 s3.k, .int .i64 s3.f], .agg #[.slice none 0 0, .int .i64 ((y : Int) + 1), .int .i64 ((x : Int) / 2 + 4)]]) (by simp [results, Tryz.results219, go_sem, y0, y1, y2, y3, l1, z0, z1, z2, l2]) rfl ⟨_, rfl, empty_bytes rfl rfl (by omega), by (repeat first | with_reducible (first | exact zR | assumption | apply zA | apply zS | apply zD | apply zN) | refine zT (by with_reducible assumption) ?_ | omega | simp <;> omega)⟩
    ·have d4 : (s3.k != (0 : Int)) = true := by simp [h4]
     rw [if_neg h4]
     clear h4
     dsimp only
     go_enter Tryz.func219, Tryz.ntmps219
     go_wp2_with fail
     refine (hR.out _ (by (repeat first | with_reducible (first | exact zR | assumption | apply zA | apply zS | apply zD | apply zN) | refine zT (by with_reducible assumption) ?_ | omega | simp <;> omega))).mono ?_
     rintro r w1 ⟨rfl, hb⟩
     have B1 : Blk w1 (w.heap.size + 1) 50 #[.slice none 0 0, .int .i64 0, .int .i64 0, .int .i64 0] := Blk.later (by (repeat first | assumption | exact kW (by first | (simp; done) | (simp; omega)) | apply kA | apply kD | apply kN | apply kF | simp <;> omega)) hb
     have B2 : Blk w1 (w.heap.size + 1 + 1) 253 #[.slice none 0 0, .int .i64 0, .int .i64 0] := Blk.later (by (repeat first | assumption | exact kW (by first | (simp; done) | (simp; omega)) | apply kA | apply kD | apply kN | apply kF | simp <;> omega)) hb
     have B0 : Blk w1 w.heap.size 50 #[.slice a B.length c, .int .i64 (s.p : Int), .int .i64 s.k, .int .i64 s.f] := Blk.later (by (repeat first | assumption | exact kW (by first | (simp; done) | (simp; omega)) | apply kA | apply kD | apply kN | apply kF | simp <;> omega)) hb
     obtain ⟨x0, x1, x2, x3, e0, e1, e2, e3, l0⟩ := c_blk B0
     have hbw1 : Below w.heap.size w w1 := by (repeat first | with_reducible (first | exact zR | assumption | apply zA | apply zS | apply zD | apply zN) | refine zT (by with_reducible assumption) ?_ | omega | simp <;> omega)
     have hsz1 := hb.size
     simp at hsz1
     clear hb
     go_wp2_with fail
     refine (hR2.out _ (by (repeat first | with_reducible (first | exact zR | assumption | apply zA | apply zS | apply zD | apply zN) | refine zT (by with_reducible assumption) ?_ | omega | simp <;> omega))).mono ?_
     rintro r w2 ⟨rfl, hb⟩
     have B1 : Blk w2 (w.heap.size + 1) 50 #[.slice none 0 0, .int .i64 0, .int .i64 0, .int .i64 0] := Blk.later (by (repeat first | assumption | exact kW (by first | (simp; done) | (simp; omega)) | apply kA | apply kD | apply kN | apply kF | simp <;> omega)) hb
     have B2 : Blk w2 (w.heap.size + 1 + 1) 253 #[.slice none 0 0, .int .i64 0, .int .i64 0] := Blk.later (by (repeat first | assumption | exact kW (by first | (simp; done) | (simp; omega)) | apply kA | apply kD | apply kN | apply kF | simp <;> omega)) hb
     have hbw2 : Below w.heap.size w w2 := by (repeat first | with_reducible (first | exact zR | assumption | apply zA | apply zS | apply zD | apply zN) | refine zT (by with_reducible assumption) ?_ | omega | simp <;> omega)
     have hsz2 := hb.size
     simp at hsz2
     clear hb
     obtain ⟨y0, y1, y2, y3, g0, g1, g2, g3, l1⟩ := c_blk B1
     obtain ⟨z0, z1, z2, f0, f1, f2, l2⟩ := t_blk B2
     clear B1 B2
     go_wp2
     refine bodyPost_ret (v := .tuple #[.agg #[.slice a B.length c, .int .i64 (s3.p : Int), .int .i64 s3.k, .int .i64 s3.f], .agg #[.slice none 0 0, .int .i64 0, .int .i64 0]]) (by simp [results, Tryz.results219, go_sem, y0, y1, y2, y3, l1, z0, z1, z2, l2]) rfl ⟨_, rfl, empty_bytes rfl rfl (by omega), by (repeat first | with_reducible (first | exact zR | assumption | apply zA | apply zS | apply zD | apply zN) | refine zT (by with_reducible assumption) ?_ | omega | simp <;> omega)⟩
 ·have dk : (s1.k != (0 : Int)) = true := by simp [hk]
  rw [if_neg hk]
  clear hk
  dsimp only
  go_enter Tryz.func219, Tryz.ntmps219
  go_wp2_with fail
  refine (hR.out _ (by (repeat first | with_reducible (first | exact zR | assumption | apply zA | apply zS | apply zD | apply zN) | refine zT (by with_reducible assumption) ?_ | omega | simp <;> omega))).mono ?_
  rintro r w1 ⟨rfl, hb⟩
  have B1 : Blk w1 (w.heap.size + 1) 50 #[.slice none 0 0, .int .i64 0, .int .i64 0, .int .i64 0] := Blk.later (by (repeat first | assumption | exact kW (by first | (simp; done) | (simp; omega)) | apply kA | apply kD | apply kN | apply kF | simp <;> omega)) hb
  have B2 : Blk w1 (w.heap.size + 1 + 1) 253 #[.slice none 0 0, .int .i64 0, .int .i64 0] := Blk.later (by (repeat first | assumption | exact kW (by first | (simp; done) | (simp; omega)) | apply kA | apply kD | apply kN | apply kF | simp <;> omega)) hb
  have B0 : Blk w1 w.heap.size 50 #[.slice a B.length c, .int .i64 (s.p : Int), .int .i64 s.k, .int .i64 s.f] := Blk.later (by (repeat first | assumption | exact kW (by first | (simp; done) | (simp; omega)) | apply kA | apply kD | apply kN | apply kF | simp <;> omega)) hb
  obtain ⟨x0, x1, x2, x3, e0, e1, e2, e3, l0⟩ := c_blk B0
  have hbw1 : Below w.heap.size w w1 := by (repeat first | with_reducible (first | exact zR | assumption | apply zA | apply zS | apply zD | apply zN) | refine zT (by with_reducible assumption) ?_ | omega | simp <;> omega)
  have hsz1 := hb.size
  simp at hsz1
  clear hb
  obtain ⟨y0, y1, y2, y3, g0, g1, g2, g3, l1⟩ := c_blk B1
  obtain ⟨z0, z1, z2, f0, f1, f2, l2⟩ := t_blk B2
  clear B1 B2
  go_wp2
  refine bodyPost_ret (v := .tuple #[.agg #[.slice a B.length c, .int .i64 (s1.p : Int), .int .i64 s1.k, .int .i64 s1.f], .agg #[.slice none 0 0, .int .i64 0, .int .i64 0]]) (by simp [results, Tryz.results219, go_sem, y0, y1, y2, y3, l1, z0, z1, z2, l2]) rfl ⟨_, rfl, empty_bytes rfl rfl (by omega), by (repeat first | with_reducible (first | exact zR | assumption | apply zA | apply zS | apply zD | apply zN) | refine zT (by with_reducible assumption) ?_ | omega | simp <;> omega)⟩
end Go.Proofs.YtkipiefcnjfdjaaGreat
namespace Go.Proofs.YtkipiefcnjfdjaaGreat
open Go.RowKit Go.Bs Go.Maps
set_option linter.unusedVariables false
set_option linter.unusedSimpArgs false
def againL (off : Nat) : Nat → List UInt8 → List UInt8
 | 0, out => out
 | n + 1, out => againL off n (out ++ [out.getD (out.length - off) 0])
theorem againL_len (off : Nat) : ∀ (n : Nat) (out : List UInt8), (againL off n out).length = out.length + n
 | 0, out => rfl
 | n + 1, out => by simp only [againL, againL_len off n]; simp; omega
def exStep (B : List UInt8) (bound : Int) (s : Rs) (out : List UInt8) : Rs × List UInt8 :=
 if bound - out.length < (s.head B).2.2 then ((s.head B).1.fail 11 s.p, out)
 else if (s.head B).2.1 = false then (((s.head B).1.take B ((s.head B).2.2 : Int)).1, out ++ ((s.head B).1.take B ((s.head B).2.2 : Int)).2)
 else
  if out.length < ((s.head B).1.offset B).2 then (((s.head B).1.offset B).1.fail 10 (s.head B).1.p, out)
  else if ((s.head B).1.offset B).1.k = 0 then (((s.head B).1.offset B).1, againL ((s.head B).1.offset B).2 (s.head B).2.2 out) else (((s.head B).1.offset B).1, out)
def exF (B : List UInt8) (bound : Int) : Nat → Rs → List UInt8 → Rs × List UInt8
 | 0, s, out => (s, out)
 | f + 1, s, out => if s.p < B.length ∧ s.k = 0 then exF B bound f (exStep B bound s out).1 (exStep B bound s out).2 else (s, out)
def exB (B : List UInt8) (bound : Int) : List UInt8 × Int × Int :=
 if (exF B bound B.length ⟨0, 0, 0⟩ []).1.k = 0 then ((exF B bound B.length ⟨0, 0, 0⟩ []).2, 0, 0) else ([], (exF B bound B.length ⟨0, 0, 0⟩ []).1.k, (exF B bound B.length ⟨0, 0, 0⟩ []).1.f)
theorem Rs.fail_k {s : Rs} {c at_ : Int} (hc : c ≠ 0) : (s.fail c at_).k ≠ 0 := by
 unfold Rs.fail; split
 ·exact hc
 ·assumption
theorem Rs.fail_p {s : Rs} {c at_ : Int} : (s.fail c at_).p = s.p := by unfold Rs.fail; split <;> rfl
theorem Rs.num_more {B : List UInt8} {s : Rs} (h : (s.num B).1.k = 0) : s.p < (s.num B).1.p ∧ s.k = 0 := by
 unfold Rs.num at *
 split
 ·rename_i h0
  rw [if_pos h0] at h
  have := (vget_used (B.drop s.p) 0 0).2.2.2.2 (by dsimp only at h; omega)
  dsimp only; omega
 ·rename_i h0; rw [if_neg h0] at h; exact absurd h h0
theorem Rs.head_more {B : List UInt8} {s : Rs} (h : (s.head B).1.k = 0) : s.p < (s.head B).1.p ∧ s.k = 0 ∧ (s.num B).1.k = 0 ∧ 1 ≤ (s.head B).2.2 ∧ (s.head B).2.2 ≤ 1048576 := by
 unfold Rs.head at *
 by_cases h0 : (s.num B).1.k = 0
 ·have hm := Rs.num_more h0
  rw [if_pos h0] at h ⊢
  by_cases h1 : (s.num B).2 % 2 = 1
  ·rw [if_pos h1] at h ⊢
   by_cases h2 : 1048572 < (s.num B).2 / 2
   ·rw [if_pos h2] at h; exact absurd h (Rs.fail_k (by omega))
   ·rw [if_neg h2]; exact ⟨hm.1, hm.2, h0, by dsimp only; omega, by dsimp only; omega⟩
  ·rw [if_neg h1] at h ⊢
   by_cases h2 : 1048575 < (s.num B).2 / 2
   ·rw [if_pos h2] at h; exact absurd h (Rs.fail_k (by omega))
   ·rw [if_neg h2]; exact ⟨hm.1, hm.2, h0, by dsimp only; omega, by dsimp only; omega⟩
 ·rw [if_neg h0] at h; exact absurd h h0
theorem Rs.head_bad {B : List UInt8} {s : Rs} (h : (s.head B).1.k ≠ 0) : (s.head B).2.1 = false ∧ (s.head B).2.2 = 0 := by
 unfold Rs.head at *
 by_cases h0 : (s.num B).1.k = 0
 ·rw [if_pos h0] at h ⊢
  by_cases h1 : (s.num B).2 % 2 = 1
  ·rw [if_pos h1] at h ⊢
   by_cases h2 : 1048572 < (s.num B).2 / 2
   ·rw [if_pos h2]; exact ⟨rfl, rfl⟩
   ·rw [if_neg h2] at h; exact absurd h0 h
  ·rw [if_neg h1] at h ⊢
   by_cases h2 : 1048575 < (s.num B).2 / 2
   ·rw [if_pos h2]; exact ⟨rfl, rfl⟩
   ·rw [if_neg h2] at h; exact absurd h0 h
 ·rw [if_neg h0]; exact ⟨rfl, rfl⟩
theorem Rs.take_more {B : List UInt8} {s : Rs} {n : Int} (h : (s.take B n).1.k = 0) : s.p ≤ (s.take B n).1.p ∧ s.k = 0 ∧ (s.take B n).2.length = n.toNat := by
 unfold Rs.take at *
 cases hk : (s.skip B.length n).1
 ·exact absurd h (Rs.skip_false hk).1
 ·have := Rs.skip_true hk
  rw [this.2.2.2]
  refine ⟨by dsimp only; omega, this.1, ?_⟩
  simp; omega
theorem Rs.take_bad {B : List UInt8} {s : Rs} {n : Int} (h : (s.take B n).1.k ≠ 0) : (s.take B n).2 = [] := by
 unfold Rs.take at *
 cases hk : (s.skip B.length n).1
 ·simp
 ·have := Rs.skip_true hk
  rw [this.2.2.2] at h; exact absurd rfl h
theorem Rs.offset_more {B : List UInt8} {s : Rs} (h : (s.offset B).1.k = 0) : s.p < (s.offset B).1.p ∧ s.k = 0 ∧ (s.num B).1.k = 0 ∧ (s.offset B).2 = (s.num B).2 + 1 ∧ (s.num B).2 < 65536 := by
 unfold Rs.offset at *
 dsimp only at *
 by_cases h1 : 65536 ≤ (s.num B).2
 ·rw [if_pos h1] at h; exact absurd h (Rs.fail_k (by omega))
 ·rw [if_neg h1] at h ⊢
  have := Rs.num_more h
  exact ⟨this.1, this.2, h, by rw [if_pos h], by omega⟩
theorem Rs.num_of_bad {B : List UInt8} {s : Rs} (h : s.k ≠ 0) : s.num B = (s, 0) := by unfold Rs.num; rw [if_neg h]
theorem Rs.skip_of_bad {L : Nat} {s : Rs} {n : Int} (h : s.k ≠ 0) : s.skip L n = (false, s) := by unfold Rs.skip; rw [if_neg h]
theorem Rs.fail_of_bad {s : Rs} {c a : Int} (h : s.k ≠ 0) : s.fail c a = s := by unfold Rs.fail; rw [if_neg h]
theorem Rs.take_of_bad {B : List UInt8} {s : Rs} {n : Int} (h : s.k ≠ 0) : s.take B n = (s, []) := by unfold Rs.take; rw [Rs.skip_of_bad h]; simp
theorem exStep_ok {B : List UInt8} {bound : Int} {s : Rs} {out : List UInt8} (h : s.ok B.length) : (exStep B bound s out).1.ok B.length := by
 unfold exStep
 split
 ·exact Rs.fail_ok (Rs.head_ok h) (by omega)
 ·split
  ·exact Rs.take_ok (Rs.head_ok h) _
  ·split
   ·exact Rs.fail_ok (Rs.offset_ok (Rs.head_ok h)) (by omega)
   ·split
    ·exact Rs.offset_ok (Rs.head_ok h)
    ·exact Rs.offset_ok (Rs.head_ok h)
theorem exStep_more {B : List UInt8} {bound : Int} {s : Rs} {out : List UInt8} (h : (exStep B bound s out).1.k = 0) : s.p < (exStep B bound s out).1.p ∧ ((exStep B bound s out).2.length : Int) ≤ bound := by
 unfold exStep at *
 by_cases h1 : bound - out.length < (s.head B).2.2
 ·rw [if_pos h1] at h; exact absurd h (Rs.fail_k (by omega))
 ·rw [if_neg h1] at h ⊢
  by_cases h2 : (s.head B).2.1 = false
  ·rw [if_pos h2] at h ⊢
   have ht := Rs.take_more h
   have hh := Rs.head_more ht.2.1
   refine ⟨by dsimp only; omega, ?_⟩
   simp only [List.length_append, ht.2.2]
   omega
  ·rw [if_neg h2] at h ⊢
   by_cases h3 : out.length < ((s.head B).1.offset B).2
   ·rw [if_pos h3] at h; exact absurd h (Rs.fail_k (by omega))
   ·rw [if_neg h3] at h ⊢
    by_cases h4 : ((s.head B).1.offset B).1.k = 0
    ·rw [if_pos h4]
     have ho := Rs.offset_more h4
     have hh := Rs.head_more ho.2.1
     refine ⟨by dsimp only; omega, ?_⟩
     simp only [againL_len]; omega
    ·rw [if_neg h4] at h; exact absurd h h4
theorem exStep_len {B : List UInt8} {bound : Int} {s : Rs} {out : List UInt8} (h : (exStep B bound s out).1.k ≠ 0) : (exStep B bound s out).2 = out := by
 unfold exStep at *
 split
 ·rfl
 ·rename_i h1
  rw [if_neg h1] at h
  split
  ·rename_i h2
   rw [if_pos h2] at h
   rw [Rs.take_bad h]; simp
  ·rename_i h2
   rw [if_neg h2] at h
   split
   ·rfl
   ·rename_i h3
    rw [if_neg h3] at h
    split
    ·rename_i h4
     rw [if_pos h4] at h; exact absurd h4 h
    ·rfl
theorem exF_step {B : List UInt8} {bound : Int} : ∀ (f : Nat) (s : Rs) (out : List UInt8), s.ok B.length → B.length ≤ s.p + f → s.p < B.length → s.k = 0 → exF B bound f s out = exF B bound (f - 1) (exStep B bound s out).1 (exStep B bound s out).2
 | 0, s, out, _, h1, h2, _ => by omega
 | f + 1, s, out, _, _, h2, h3 => by simp only [exF]; rw [if_pos ⟨h2, h3⟩]; rfl
theorem exF_stop {B : List UInt8} {bound : Int} : ∀ (f : Nat) (s : Rs) (out : List UInt8), ¬ (s.p < B.length ∧ s.k = 0) → exF B bound f s out = (s, out)
 | 0, s, out, _ => rfl
 | f + 1, s, out, h => by simp only [exF]; rw [if_neg h]
theorem exF_any {B : List UInt8} {bound : Int} : ∀ (f g : Nat) (s : Rs) (out : List UInt8), s.ok B.length → B.length ≤ s.p + f → B.length ≤ s.p + g → exF B bound f s out = exF B bound g s out
 | 0, g, s, out, h, h1, h2 => by rw [exF_stop g s out (by have := h.le; omega)]; rfl
 | f + 1, 0, s, out, h, h1, h2 => by rw [exF_stop (f + 1) s out (by have := h.le; omega)]; rfl
 | f + 1, g + 1, s, out, h, h1, h2 => by
  simp only [exF]
  by_cases hc : s.p < B.length ∧ s.k = 0
  ·rw [if_pos hc, if_pos hc]
   by_cases hk : (exStep B bound s out).1.k = 0
   ·have := (exStep_more hk).1
    exact exF_any f g _ _ (exStep_ok h) (by omega) (by omega)
   ·rw [exF_stop f _ _ (fun e => hk e.2), exF_stop g _ _ (fun e => hk e.2)]
  ·rw [if_neg hc, if_neg hc]
def exR (B : List UInt8) (bound : Int) (s : Rs) (out : List UInt8) : Rs × List UInt8 := exF B bound (B.length - s.p) s out
theorem exR_go {B : List UInt8} {bound : Int} {s : Rs} {out : List UInt8} (h : s.ok B.length) (h1 : s.p < B.length) (h2 : s.k = 0) : exR B bound s out = exR B bound (exStep B bound s out).1 (exStep B bound s out).2 := by
 unfold exR
 rw [exF_step _ s out h (by omega) h1 h2]
 by_cases hk : (exStep B bound s out).1.k = 0
 ·have := (exStep_more hk).1
  exact exF_any _ _ _ _ (exStep_ok h) (by omega) (by omega)
 ·rw [exF_stop _ _ _ (fun e => hk e.2), exF_stop _ _ _ (fun e => hk e.2)]
theorem exR_stop {B : List UInt8} {bound : Int} {s : Rs} {out : List UInt8} (h : ¬ (s.p < B.length ∧ s.k = 0)) : exR B bound s out = (s, out) := exF_stop _ _ _ h
theorem exB_is (B : List UInt8) (bound : Int) : exB B bound = if (exR B bound ⟨0, 0, 0⟩ []).1.k = 0 then ((exR B bound ⟨0, 0, 0⟩ []).2, 0, 0) else ([], (exR B bound ⟨0, 0, 0⟩ []).1.k, (exR B bound ⟨0, 0, 0⟩ []).1.f) := rfl
end Go.Proofs.YtkipiefcnjfdjaaGreat
namespace Go.Proofs.YtkipiefcnjfdjaaGreat
open Go.RowKit Go.Bs Go.Maps
set_option linter.unusedVariables false
set_option linter.unusedSimpArgs false
theorem byteCells_one1 (x : UInt8) : ∀ u ∈ [Value.int .u8 (x.toNat : Int)], u.oneCell' = true := by
 intro u hu; simp at hu; subst hu; rfl
theorem byteCells_snoc (l : List UInt8) (x : UInt8) : byteCells l ++ [Value.int .u8 (x.toNat : Int)] = byteCells (l ++ [x]) := by simp [byteCells]
set_option maxRecDepth 100000 in
set_option maxHeartbeats 1600000 in
theorem expand_again (w : World) {base : Nat} {a : Option Addr} {c : Nat} (out : List UInt8) (hown : w.ownsRow base 5 1 (.slice a out.length c) out.length (byteCells out)) (hbase : base ≤ w.heap.size) (off n : Nat) (h1 : 1 ≤ off) (h2 : off ≤ out.length) (hn : out.length + n ≤ 1000000000000) :
  Calls Tryz.prog 256 #[.slice a out.length c, .int .i64 (off : Int), .int .i64 (n : Int)] w fun r w' => ∃ a' c', r = .returned (.slice a' (out.length + n) c') ∧ w'.ownsRow base 5 1 (.slice a' (out.length + n) c') (out.length + n) (byteCells (againL off n out)) ∧ Below base w w' := by
 obtain ⟨i0, hi, hz0, hz1, hz2⟩ := info_parts info8
 have HO := hid hown
 clear hown
 go_enter Tryz.func256, Tryz.ntmps256
 go_wp2_with fail
 go_loopw [0, 8] (fun o i wr => ∃ (k : Nat) (J : List UInt8) (aJ : Option Addr) (cJ : Nat), k ≤ n ∧ i = .int .i64 k ∧ o = .slice aJ J.length cJ ∧ wr.ownsRow base 5 1 (.slice aJ J.length cJ) J.length (byteCells J) ∧ Hid (againL off n out = againL off (n - k) J) ∧ Hid (J.length = out.length + k) ∧ Below base w wr ∧ base ≤ wr.heap.size) (fun _ i _ => n - (intOf i).toNat)
 case atStart => exact ⟨0, out, a, c, Nat.zero_le _, rfl, rfl, HO.out, hid rfl, hid rfl, Below.refl _ _, hbase⟩
 case round =>
  obtain ⟨k, J, aJ, cJ, hk, rfl, rfl, ho, hJ, hln, hb, hbs⟩ := hrel
  have HJO := hid ho
  rcases Nat.lt_or_ge k n with hlt | hge
  ·have d1 : decide ((k : Int) < (n : Int)) = true := decide_eq_true (by omega)
   have d1' : decide (k < n) = true := decide_eq_true hlt
   have hml : off ≤ J.length := by have := hln.out; omega
   have hJm : J.length + 1 ≤ 1000000000000 := by have := hln.out; omega
   have hst : Hid (againL off (n - k) J = againL off (n - (k + 1)) (J ++ [J.getD (J.length - off) 0])) := hid (by rw [show n - k = (n - (k + 1)) + 1 by omega]; rfl)
   have hgd : J.getD (J.length - off) 0 = J[J.length - off]'(by omega) := by rw [List.getD_eq_getElem?_getD, List.getElem?_eq_getElem (by omega)]; rfl
   rw [hgd] at hst
   obtain ⟨gb, ob, hA, hgb, hc⟩ := byte_at (own_bytes rfl ho) (i := J.length - off) (by omega)
   subst hA
   obtain ⟨m, hm⟩ : ∃ m, m = J.length - off := ⟨_, rfl⟩
   have e1 : (J.length : Int) - (off : Int) = (m : Int) := by omega
   generalize J[J.length - off]'(by omega) = x at *
   rw [← hm] at hc
   have i1 : (m : Int) < (J.length : Int) := by omega
   have i2 : (0 : Int) ≤ (m : Int) := by omega
   clear ho hgd hm
   go_wp2_with (at_builtin; go_loud (refine wpList_append_src rfl _ _ _ rfl base 5 i0 (.int .u8 0) 1 1 Tryz.underlying28 hi hz0 hz1 hz2 rfl (by decide) (.slice (some ⟨gb, ob, none⟩) J.length cJ) J.length (byteCells J) rfl (own_below HJO.out (by (repeat first | exact zR | assumption | apply zA | apply zS | apply zD | apply zN | refine zT (by assumption) ?_ | omega | simp <;> omega))) (some ⟨wr.heap.size, 0, none⟩) 1 1 [.int .u8 (x.toNat : Int)] rfl (src_new1 wr 5 _ rfl rfl rfl) (byteCells_one1 x) (by simp only [maxLen]; omega) (by omega) (by simp; omega) ?_; intro v' w3 hown3 hgrow3 hat3; obtain ⟨a3, c3, rfl⟩ := own_form hown3; have HO3 := hid hown3; have HG3 := hid hgrow3; clear hown3 hgrow3 hat3))
   have ho3 := HO3.out
   rw [byteCells_snoc, show J.length + 1 = (J ++ [x]).length by simp] at ho3
   have hb3 : Below base wr w3 := (Below.grown (Below.refl _ _) HG3.out (by simp; omega) (fun g e => (HJO.out.lt g e).1)) |> (fun h => (below_alloc (Below.refl _ _) _ |>.mono hbs).trans h)
   have HO4 := hid ho3
   have hs3 := hb3.size
   clear ho3 hc
   go_roundw
   case rel => exact ⟨k + 1, J ++ [x], a3, c3, by omega, by go_num, by simp, HO4.out, hid (hJ.out.trans hst.out), hid (by simp; have := hln.out; omega), hb.trans hb3, by omega⟩
   case measure => simp [intOf]; omega
  ·obtain rfl : k = n := by omega
   have d1 : decide ((k : Int) < (k : Int)) = false := decide_eq_false (by omega)
   have hfin : Hid (againL off k out = J) := hid (by rw [hJ.out, Nat.sub_self]; rfl)
   clear ho
   go_wp2
   go_ret
   have hl : J.length = out.length + k := hln.out
   rw [hfin.out, ← hl]
   exact ⟨_, _, rfl, HJO.out, hb⟩
def headR (x : Nat) : Nat := if x % 2 = 0 ∧ x / 2 < 1048576 then x / 2 + 1 else if x % 2 = 1 ∧ x / 2 ≤ 1048572 then x / 2 + 4 else 0
theorem ref12_head (w : World) (x : Nat) (hx : x < 18446744073709551616) : Calls Tryz.prog 218 #[.int .u64 (x : Int)] w fun r w' => r = .returned (.int .i64 (headR x : Int)) ∧ w = w' := by
 unfold headR
 by_cases h2 : x % 2 = 0
 ·have d2 : (((x : Int) % 2) == 0) = true := by rw [beq_iff_eq]; omega
  have d3 : (((x : Int) % 2) == 1) = false := by rw [beq_eq_false_iff_ne]; omega
  by_cases h3 : x / 2 < 1048576
  ·have d4 : decide ((x : Int) / 2 < 1048576) = true := decide_eq_true (by omega)
   rw [if_pos ⟨h2, h3⟩]
   go_enter Tryz.func218, Tryz.ntmps218
   go_wp2
   go_ret
   exact ⟨by simp, rfl⟩
  ·have d4 : decide ((x : Int) / 2 < 1048576) = false := decide_eq_false (by omega)
   rw [if_neg (fun e => h3 e.2), if_neg (fun e => by omega)]
   go_enter Tryz.func218, Tryz.ntmps218
   go_wp2
   go_ret
   exact ⟨rfl, rfl⟩
 ·have d2 : (((x : Int) % 2) == 0) = false := by rw [beq_eq_false_iff_ne]; omega
  have d3 : (((x : Int) % 2) == 1) = true := by rw [beq_iff_eq]; omega
  by_cases h3 : x / 2 ≤ 1048572
  ·have d4 : decide ((x : Int) / 2 ≤ 1048572) = true := decide_eq_true (by omega)
   rw [if_neg (fun e => h2 e.1), if_pos ⟨by omega, h3⟩]
   go_enter Tryz.func218, Tryz.ntmps218
   go_wp2
   go_ret
   exact ⟨by simp, rfl⟩
  ·have d4 : decide ((x : Int) / 2 ≤ 1048572) = false := decide_eq_false (by omega)
   rw [if_neg (fun e => h2 e.1), if_neg (fun e => h3 e.2)]
   go_enter Tryz.func218, Tryz.ntmps218
   go_wp2
   go_ret
   exact ⟨rfl, rfl⟩
end Go.Proofs.YtkipiefcnjfdjaaGreat
namespace Go.Proofs.YtkipiefcnjfdjaaGreat
open Go.RowKit Go.Bs Go.Maps
set_option linter.unusedVariables false
set_option linter.unusedSimpArgs false
theorem byteCells_app' (l l' : List UInt8) : byteCells l ++ byteCells l' = byteCells (l ++ l') := by simp [byteCells]
structure XInv (w W : World) (B : List UInt8) (a : Option Addr) (s : Rs) (out : List UInt8) (aO : Option Addr) (cO : Nat) : Prop where
 rd : RdAt W (w.heap.size + 1) B a s
 dat : rBytes.r (· < w.heap.size) W [.slice a B.length B.length] B
 fl : Blk W w.heap.size 48 #[.int .i64 0, .int .i64 0]
 own : W.ownsRow (w.heap.size + 2) 5 1 (.slice aO out.length cO) out.length (byteCells out)
 be : Below w.heap.size w W
 sz : w.heap.size + 2 ≤ W.heap.size
section
variable {w W W' : World} {B : List UInt8} {a : Option Addr} {s s' : Rs} {out out' : List UInt8} {aO aO' : Option Addr} {cO cO' : Nat}
theorem XInv.later (h : XInv w W B a s out aO cO) (hb : Below W.heap.size W W') : XInv w W' B a s out aO cO :=
 ⟨h.rd.later hb, rBytes.keep h.dat fun q hq => hb.block q (by have := h.sz; omega), h.fl.later hb, own_below h.own hb, below_then hb h.be, Nat.le_trans h.sz hb.size⟩
theorem own_tch {base : Nat} {e : TypeId} {size : Nat} {v : Value} {n : Nat} {xs : List Value} {g : Nat} (h : W.ownsRow base e size v n xs) (hg : g < base) (hb : Tch (· = g) W W') : W'.ownsRow base e size v n xs := by
 refine ⟨h.1, ?_⟩
 rcases h.2 with h0 | ⟨g', cap, cur, h1, h2, h3, h4⟩
 ·exact .inl h0
 ·exact .inr ⟨g', cap, cur, h1, h2, (hb.block _ (Blk.lt h3) (by omega)).trans h3, h4⟩
theorem XInv.step (h : XInv w W B a s out aO cO) (k : RdStep W (w.heap.size + 1) B a s' W') : XInv w W' B a s' out aO cO :=
 ⟨k.1, rBytes.keep h.dat fun q hq => k.2.block q (by have := h.sz; omega) (by omega), h.fl.tch k.2 (by omega), own_tch h.own (by omega) k.2, h.be.trans (k.below h.be.size (by omega)), Nat.le_trans h.sz k.size⟩
theorem XInv.row (h : XInv w W B a s out aO cO) (hb : Below (w.heap.size + 2) W W') (ho : W'.ownsRow (w.heap.size + 2) 5 1 (.slice aO' out'.length cO') out'.length (byteCells out')) : XInv w W' B a s out' aO' cO' := by
 have hd := rBytes.keep h.dat (w' := W') fun q hq => hb.block q (by omega)
 exact ⟨⟨h.rd.blk.below hb (by omega), rBytes.mono hd fun q hq => ⟨by have := h.sz; have := hb.size; omega, by omega⟩, h.rd.ok⟩, hd, h.fl.below hb (by omega), ho, h.be.trans (hb.mono (by omega)), Nat.le_trans h.sz hb.size⟩
end
def cellI (W : World) (g i : Nat) : Int := intOf ((W.cell? ⟨g, i, none⟩).getD undef)
theorem RdAt.cells {w : World} {g : Nat} {B : List UInt8} {a : Option Addr} {s : Rs} (h : RdAt w g B a s) : cellI w g 1 = s.p ∧ cellI w g 2 = s.k := by
 have c1 := h.blk.cell 1
 have c2 := h.blk.cell 2
 simp at c1 c2
 unfold cellI
 rw [c1, c2]
 exact ⟨rfl, rfl⟩
def exMu (L g : Nat) (W : World) : Nat := if cellI W g 2 = 0 then L + 1 - (cellI W g 1).toNat else 0
theorem exMu_is {w : World} {g : Nat} {B : List UInt8} {a : Option Addr} {s : Rs} (h : RdAt w g B a s) : exMu B.length g w = if s.k = 0 then B.length + 1 - s.p else 0 := by
 unfold exMu
 rw [h.cells.1, h.cells.2]
 simp
theorem exMu_lt {w w' : World} {g : Nat} {B : List UInt8} {a : Option Addr} {s s' : Rs} (h : RdAt w g B a s) (h' : RdAt w' g B a s') (hk : s.k = 0) (hp : s.p < B.length) (hs : s'.k = 0 → s.p < s'.p) : exMu B.length g w' < exMu B.length g w := by
 rw [exMu_is h, exMu_is h', if_pos hk]
 split
 ·have := hs (by assumption); omega
 ·omega
def exIn (bound : Int) (out : List UInt8) : Prop := out = [] ∨ (out.length : Int) ≤ bound
theorem exIn_len {bound : Int} {out : List UInt8} (h : exIn bound out) (hb : -9223372036854775808 ≤ bound ∧ bound ≤ 1048576) : out.length ≤ 1048576 ∧ -9223372036854775808 ≤ bound - (out.length : Int) := by
 rcases h with rfl | h
 ·simp; omega
 ·omega
theorem exIn_step {B : List UInt8} {bound : Int} {s : Rs} {out : List UInt8} (h : exIn bound out) : exIn bound (exStep B bound s out).2 := by
 by_cases hk : (exStep B bound s out).1.k = 0
 ·exact .inr (exStep_more hk).2
 ·rw [exStep_len hk]; exact h
set_option maxRecDepth 100000 in
set_option maxHeartbeats 12800000 in
theorem expand_bytes (w : World) (B : List UInt8) (a : Option Addr) (n c : Nat) (hl : rBytes.r (· < w.heap.size) w [.slice a n c] B) (hB : B.length ≤ 1000000000) (bound : Int) (hbd : -9223372036854775808 ≤ bound ∧ bound ≤ 1048576) :
    Calls Tryz.prog 214 #[.slice a n c, .int .i64 bound] w fun r w' => ∃ v, r = .returned (.tuple #[v, .agg #[.int .i64 (exB B bound).2.1, .int .i64 (exB B bound).2.2]]) ∧ rBytes.r (fun q => w.heap.size ≤ q ∧ q < w'.heap.size) w' [v] (exB B bound).1 ∧ Below w.heap.size w w' := by
  obtain ⟨rfl, hm, hcc, hcm⟩ := sl_len hl
  obtain ⟨i0, hi, hz0, hz1, hz2⟩ := info_parts info8
  have hcap : rBytes.r (· < w.heap.size) w [.slice a B.length B.length] B := by
    obtain ⟨a', c', e, h1, h2, h3⟩ := hl
    simp at e
    obtain ⟨rfl, rfl⟩ := e
    exact rSl_mk rfl (Nat.le_refl _) (by simp [maxLen]; omega) h3
  have HL := hid hl
  have HCAP := hid hcap
  clear hl hcap
  go_enter Tryz.func214, Tryz.ntmps214
  go_wp2
  refine wp_scope_two 1 0 (by omega)
    (fun a' W => ∃ (s : Rs) (out : List UInt8) (aO : Option Addr) (cO : Nat) (rest : Hid (exR B bound s out = exR B bound ⟨0, 0, 0⟩ [])) (u2 u3 u8 u9 u10 u11 u12 u13 u14 u15 u16 u17 u18 u19 u20 u21 u22 u23 u24 u25 u26 u27 u28 u29 u30 u31 u32 u33 u34 u35 u36 u37 u38 u39 u40 u41 u42 u43 u44 u45 u46 u47 u48 u49 u50 u51 u52 u53 u54 u55 u56 u57 u58 u59 u60 u61 u62 u63 u64 u65 u66 u67 u68 u69 u70 : Value), XInv w W B a s out aO cO ∧ exIn bound out ∧ a' = { tmps := #[.slice a B.length c, .int .i64 bound, u2, u3, .slice none 0 0, .pointer (some ⟨w.heap.size, 0, none⟩), .pointer (some ⟨w.heap.size + 1, 0, none⟩), .slice aO out.length cO, u8, u9, u10, u11, u12, u13, u14, u15, u16, u17, u18, u19, u20, u21, u22, u23, u24, u25, u26, u27, u28, u29, u30, u31, u32, u33, u34, u35, u36, u37, u38, u39, u40, u41, u42, u43, u44, u45, u46, u47, u48, u49, u50, u51, u52, u53, u54, u55, u56, u57, u58, u59, u60, u61, u62, u63, u64, u65, u66, u67, u68, u69, u70], defers := [] })
    (fun a' W => ∃ (s : Rs) (out : List UInt8) (aO : Option Addr) (cO : Nat) (rest : Hid (exR B bound ⟨0, 0, 0⟩ [] = (s, out))) (u2 u3 u8 u9 u10 u11 u12 u13 u14 u15 u16 u17 u18 u19 u20 u21 u22 u23 u24 u25 u26 u27 u28 u29 u30 u31 u32 u33 u34 u35 u36 u37 u38 u39 u40 u41 u42 u43 u44 u45 u46 u47 u48 u49 u50 u51 u52 u53 u54 u55 u56 u57 u58 u59 u60 u61 u62 u63 u64 u65 u66 u67 u68 u69 u70 : Value), XInv w W B a s out aO cO ∧ exIn bound out ∧ a' = { tmps := #[.slice a B.length c, .int .i64 bound, u2, u3, .slice none 0 0, .pointer (some ⟨w.heap.size, 0, none⟩), .pointer (some ⟨w.heap.size + 1, 0, none⟩), .slice aO out.length cO, u8, u9, u10, u11, u12, u13, u14, u15, u16, u17, u18, u19, u20, u21, u22, u23, u24, u25, u26, u27, u28, u29, u30, u31, u32, u33, u34, u35, u36, u37, u38, u39, u40, u41, u42, u43, u44, u45, u46, u47, u48, u49, u50, u51, u52, u53, u54, u55, u56, u57, u58, u59, u60, u61, u62, u63, u64, u65, u66, u67, u68, u69, u70], defers := [] })
    (fun _ W => exMu B.length (w.heap.size + 1) W) rfl rfl ?_ ?_ ?_
  · rintro a' W ⟨s, out, aO, cO, hex, u2, u3, u8, u9, u10, u11, u12, u13, u14, u15, u16, u17, u18, u19, u20, u21, u22, u23, u24, u25, u26, u27, u28, u29, u30, u31, u32, u33, u34, u35, u36, u37, u38, u39, u40, u41, u42, u43, u44, u45, u46, u47, u48, u49, u50, u51, u52, u53, u54, u55, u56, u57, u58, u59, u60, u61, u62, u63, u64, u65, u66, u67, u68, u69, u70, hI, hin, rfl⟩
    have hlen := exIn_len hin hbd
    have hok := hI.rd.ok
    have hpl := hok.le
    have HI := hid hI
    have HIN := hid hin
    have HLF := hid (rd_left W hI.rd)
    have hsz := hI.sz
    clear hI hin
    by_cases hp : s.p < B.length
    · have e0 : (((B.length : Int) - (s.p : Int)) == 0) = false := by rw [beq_eq_false_iff_ne]; omega
      by_cases hk : s.k = 0
      · have hgo := exR_go (bound := bound) (out := out) hok hp hk
        rw [hex.out] at hgo
        have hmore := exStep_more (B := B) (bound := bound) (s := s) (out := out)
        have hin2 := hid (exIn_step (B := B) (s := s) HIN.out)
        have hst2 : exStep B bound s out = exStep B bound s out := rfl
        conv at hst2 => rhs; unfold exStep
        generalize exStep B bound s out = ES at *
        have hhead := hid (fun (W : World) (h : RdAt W (w.heap.size + 1) B a s) => token_head W h (by omega))
        have hhok := Rs.head_ok (B := B) hok
        have hhle : (s.head B).2.2 ≤ 1048576 := by
          by_cases h0 : (s.head B).1.k = 0
          · exact (Rs.head_more h0).2.2.2.2
          · rw [(Rs.head_bad h0).2]; omega
        have hh1 : (s.head B).2.1 = true → 1 ≤ ((s.head B).1.offset B).2 ∨ ((s.head B).1.offset B).1.k ≠ 0 := fun _ => by
          by_cases h0 : ((s.head B).1.offset B).1.k = 0
          · left; rw [(Rs.offset_more h0).2.2.2.1]; omega
          · right; exact h0
        have htake := hid (fun (W : World) (h : RdAt W (w.heap.size + 1) B a (s.head B).1) => rd_take W h ((s.head B).2.2 : Int) (by omega) (by omega))
        have htl : ((s.head B).1.take B ((s.head B).2.2 : Int)).2.length ≤ 1048576 := by
          by_cases h0 : ((s.head B).1.take B ((s.head B).2.2 : Int)).1.k = 0
          · rw [(Rs.take_more h0).2.2]; omega
          · rw [Rs.take_bad h0]; simp
        have hoff := hid (fun (W : World) (h : RdAt W (w.heap.size + 1) B a (s.head B).1) => token_offset W h (by omega))
        have hatp := hid (fun (W : World) (h : RdAt W (w.heap.size + 1) B a (s.head B).1) => rd_at W h)
        have hfail := hid (fun (W : World) (h : RdAt W (w.heap.size + 1) B a (s.head B).1) => rd_fail W h 11 s.p (by omega))
        have hfail2 := hid (fun (W : World) (h : RdAt W (w.heap.size + 1) B a ((s.head B).1.offset B).1) => rd_fail W h 10 (s.head B).1.p (by omega))
        have hfk := (Rs.fail_k (s := (s.head B).1) (c := 11) (at_ := (s.p : Int)) (by omega))
        have hfk2 := (Rs.fail_k (s := ((s.head B).1.offset B).1) (c := 10) (at_ := ((s.head B).1.p : Int)) (by omega))
        generalize (s.head B).1.fail 11 s.p = F1 at *
        generalize ((s.head B).1.offset B).1.fail 10 (s.head B).1.p = F2 at *
        generalize (s.head B).1.take B ((s.head B).2.2 : Int) = TK at *
        generalize (s.head B).1.offset B = OF at *
        generalize s.head B = H at *
        obtain ⟨s1, ic, m⟩ := H
        obtain ⟨s2, D⟩ := TK
        obtain ⟨s3, of⟩ := OF
        dsimp only at *
        have HK := hid hk
        have hG := rd_good
        have dk : decide (s.k = 0) = true := decide_eq_true hk
        have HGO := hid hgo
        have HMORE := hid hmore
        have hpx := hp
        have HST2 := hid hst2
        clear hk hgo hmore hst2 hG hok
        by_cases hb1 : bound - (out.length : Int) < (m : Int)
        · have d1 : decide (bound - (out.length : Int) < (m : Int)) = true := decide_eq_true hb1
          have hes := HST2.out
          rw [if_pos hb1] at hes
          subst hes
          have HGO2 := hid (HGO.out.trans (exR_stop (fun e => hfk e.2)))
          clear hb1 HST2
          go_wp2_with fail
          refine HLF.out.mono ?_
          rintro r w1 ⟨rfl, hb1⟩
          have hG := rd_good w1 (HI.out.rd.later hb1)
          rw [dk] at hG
          have HG := hid hG
          clear hG dk
          go_wp2_with fail
          refine HG.out.mono ?_
          rintro r w2 ⟨rfl, hb2⟩
          have HI2 := hid (HI.out.later (below_then hb2 hb1))
          have HAT := hid (rd_at w2 HI2.out.rd)
          go_wp2_with fail
          refine HAT.out.mono ?_
          rintro r w2' ⟨rfl, rfl⟩
          have HHD := hid (hhead.out w2 HI2.out.rd)
          go_wp2_with fail
          refine HHD.out.mono ?_
          rintro r w3 ⟨rfl, hst3⟩
          have HI3 := hid (HI2.out.step hst3)
          clear hst3
          have HFL := hid (hfail.out w3 HI3.out.rd)
          go_wp2_with fail
          refine HFL.out.mono ?_
          rintro r w4 ⟨rfl, hst4⟩
          have HI4 := hid (HI3.out.step hst4)
          clear hst4
          go_wp2
          go_step3
          exact .inr ⟨rfl, F1, out, aO, cO, HGO2, _, _, _, _, _, _, _, _, _, _, _, _, _, _, _, _, _, _, _, _, _, _, _, _, _, _, _, _, _, _, _, _, _, _, _, _, _, _, _, _, _, _, _, _, _, _, _, _, _, _, _, _, _, _, _, _, _, _, _, _, _, _, _, _, _, HI4.out, HIN.out, rfl⟩
        · have d1 : decide (bound - (out.length : Int) < (m : Int)) = false := decide_eq_false hb1
          have hes := HST2.out
          rw [if_neg hb1] at hes
          clear HST2
          cases ic
          · simp only [if_true] at hes
            subst hes
            clear hb1
            go_wp2_with fail
            refine HLF.out.mono ?_
            rintro r w1 ⟨rfl, hb1⟩
            have hG := rd_good w1 (HI.out.rd.later hb1)
            rw [dk] at hG
            have HG := hid hG
            clear hG dk
            go_wp2_with fail
            refine HG.out.mono ?_
            rintro r w2 ⟨rfl, hb2⟩
            have HI2 := hid (HI.out.later (below_then hb2 hb1))
            have HAT := hid (rd_at w2 HI2.out.rd)
            go_wp2_with fail
            refine HAT.out.mono ?_
            rintro r w2' ⟨rfl, rfl⟩
            have HHD := hid (hhead.out w2 HI2.out.rd)
            go_wp2_with fail
            refine HHD.out.mono ?_
            rintro r w3 ⟨rfl, hst3⟩
            have HI3 := hid (HI2.out.step hst3)
            clear hst3
            have HTK := hid (htake.out w3 HI3.out.rd)
            go_wp2_with fail
            refine HTK.out.mono ?_
            rintro r w4 ⟨v, rfl, hr, hst4⟩
            obtain ⟨aD, cD, hv, hr2, _⟩ := sl_form hr
            simp only [List.cons.injEq, and_true] at hv
            subst hv
            have HI4 := hid (HI3.out.step hst4)
            have HS4 := hid (src_bytes hr2)
            have HONE := hid (byteCells_one D)
            have hsz4 := HI4.out.sz
            clear hst4 hr hr2
            go_wp2_with (at_builtin; go_loud (refine wpList_append_src rfl _ _ _ rfl (w.heap.size + 2) 5 i0 (.int .u8 0) 1 1 Tryz.underlying28 hi hz0 hz1 hz2 rfl (by decide) (.slice aO out.length cO) out.length (byteCells out) rfl HI4.out.own aD D.length cD (byteCells D) rfl HS4.out HONE.out (by simp only [maxLen]; omega) (by omega) (by omega) ?_; intro v' w5 hown5 hgrow5 hat5; obtain ⟨a5, c5, rfl⟩ := own_form hown5; have HO5 := hid hown5; have HG5 := hid hgrow5; clear hown5 hgrow5 hat5))
            have ho := HO5.out
            rw [byteCells_app', show out.length + D.length = (out ++ D).length by simp] at ho
            have hb5 : Below (w.heap.size + 2) w4 w5 := Below.grown (Below.refl _ _) HG5.out (by omega) (fun g e => (HI4.out.own.lt g e).1)
            have HI5 := hid (HI4.out.row hb5 ho)
            clear ho hb5
            rw [show out.length + D.length = (out ++ D).length by simp]
            go_step3
            exact .inl ⟨rfl, ⟨s2, out ++ D, a5, c5, hid HGO.out.symm, _, _, _, _, _, _, _, _, _, _, _, _, _, _, _, _, _, _, _, _, _, _, _, _, _, _, _, _, _, _, _, _, _, _, _, _, _, _, _, _, _, _, _, _, _, _, _, _, _, _, _, _, _, _, _, _, _, _, _, _, _, _, _, _, _, HI5.out, hin2.out, rfl⟩, exMu_lt HI.out.rd HI5.out.rd HK.out hpx (fun h => (HMORE.out h).1)⟩
          · simp only [Bool.true_eq_false, if_false] at hes
            by_cases h3 : out.length < of
            · have d3 : decide ((out.length : Int) < (of : Int)) = true := decide_eq_true (by omega)
              have d3' : decide (out.length < of) = true := decide_eq_true h3
              rw [if_pos h3] at hes
              subst hes
              clear hb1
              go_wp2_with fail
              refine HLF.out.mono ?_
              rintro r w1 ⟨rfl, hb1⟩
              have hG := rd_good w1 (HI.out.rd.later hb1)
              rw [dk] at hG
              have HG := hid hG
              clear hG dk
              go_wp2_with fail
              refine HG.out.mono ?_
              rintro r w2 ⟨rfl, hb2⟩
              have HI2 := hid (HI.out.later (below_then hb2 hb1))
              have HAT := hid (rd_at w2 HI2.out.rd)
              go_wp2_with fail
              refine HAT.out.mono ?_
              rintro r w2' ⟨rfl, rfl⟩
              have HHD := hid (hhead.out w2 HI2.out.rd)
              go_wp2_with fail
              refine HHD.out.mono ?_
              rintro r w3 ⟨rfl, hst3⟩
              have HI3 := hid (HI2.out.step hst3)
              clear hst3
              have HATP := hid (hatp.out w3 HI3.out.rd)
              go_wp2_with fail
              refine HATP.out.mono ?_
              rintro r w3' ⟨rfl, rfl⟩
              have HOF := hid (hoff.out w3 HI3.out.rd)
              go_wp2_with fail
              refine HOF.out.mono ?_
              rintro r w4 ⟨rfl, hst4⟩
              have HI4 := hid (HI3.out.step hst4)
              clear hst4
              have HFL := hid (hfail2.out w4 HI4.out.rd)
              go_wp2_with fail
              refine HFL.out.mono ?_
              rintro r w5 ⟨rfl, hst5⟩
              have HI5 := hid (HI4.out.step hst5)
              have hG5 := rd_good w5 HI5.out.rd
              rw [decide_eq_false hfk2] at hG5
              have HG5 := hid hG5
              clear hst5 hG5
              go_wp2_with fail
              refine HG5.out.mono ?_
              rintro r w6 ⟨rfl, hb6⟩
              have HI6 := hid (HI5.out.later hb6)
              go_wp2
              go_step3
              exact .inl ⟨rfl, ⟨F2, out, aO, cO, hid HGO.out.symm, _, _, _, _, _, _, _, _, _, _, _, _, _, _, _, _, _, _, _, _, _, _, _, _, _, _, _, _, _, _, _, _, _, _, _, _, _, _, _, _, _, _, _, _, _, _, _, _, _, _, _, _, _, _, _, _, _, _, _, _, _, _, _, _, _, HI6.out, HIN.out, rfl⟩, exMu_lt HI.out.rd HI6.out.rd HK.out hpx (fun h => absurd h hfk2)⟩
            · have d3 : decide ((out.length : Int) < (of : Int)) = false := decide_eq_false (by omega)
              have d3' : decide (out.length < of) = false := decide_eq_false h3
              rw [if_neg h3] at hes
              by_cases h4 : s3.k = 0
              · have d4 : decide (s3.k = 0) = true := decide_eq_true h4
                rw [if_pos h4] at hes
                have hof1 : 1 ≤ of := by rcases hh1 rfl with h | h; · exact h
                                         · exact absurd h4 h
                subst hes
                go_wp2_with fail
                refine HLF.out.mono ?_
                rintro r w1 ⟨rfl, hb1⟩
                have hG := rd_good w1 (HI.out.rd.later hb1)
                rw [dk] at hG
                have HG := hid hG
                clear hG dk
                go_wp2_with fail
                refine HG.out.mono ?_
                rintro r w2 ⟨rfl, hb2⟩
                have HI2 := hid (HI.out.later (below_then hb2 hb1))
                have HAT := hid (rd_at w2 HI2.out.rd)
                go_wp2_with fail
                refine HAT.out.mono ?_
                rintro r w2' ⟨rfl, rfl⟩
                have HHD := hid (hhead.out w2 HI2.out.rd)
                go_wp2_with fail
                refine HHD.out.mono ?_
                rintro r w3 ⟨rfl, hst3⟩
                have HI3 := hid (HI2.out.step hst3)
                clear hst3
                have HATP := hid (hatp.out w3 HI3.out.rd)
                go_wp2_with fail
                refine HATP.out.mono ?_
                rintro r w3' ⟨rfl, rfl⟩
                have HOF := hid (hoff.out w3 HI3.out.rd)
                go_wp2_with fail
                refine HOF.out.mono ?_
                rintro r w4 ⟨rfl, hst4⟩
                have HI4 := hid (HI3.out.step hst4)
                clear hst4
                have hG5 := rd_good w4 HI4.out.rd
                rw [d4] at hG5
                have HG5 := hid hG5
                clear hG5 d4
                go_wp2_with fail
                refine HG5.out.mono ?_
                rintro r w6 ⟨rfl, hb6⟩
                have HI6 := hid (HI4.out.later hb6)
                have HAG := hid (expand_again w6 out HI6.out.own HI6.out.sz of m hof1 (by omega) (by omega))
                have HAL := hid (againL_len of m out)
                have HIN2 := hid hin2.out
                clear hb1
                go_wp2_with fail
                refine HAG.out.mono ?_
                rintro r w7 ⟨a7, c7, rfl, hown7, hb7⟩
                rw [← HAL.out] at hown7
                have HI7 := hid (HI6.out.row hb7 hown7)
                clear hown7
                go_wp2
                rw [← HAL.out]
                go_step3
                exact .inl ⟨rfl, ⟨s3, _, a7, c7, hid HGO.out.symm, _, _, _, _, _, _, _, _, _, _, _, _, _, _, _, _, _, _, _, _, _, _, _, _, _, _, _, _, _, _, _, _, _, _, _, _, _, _, _, _, _, _, _, _, _, _, _, _, _, _, _, _, _, _, _, _, _, _, _, _, _, _, _, _, _, HI7.out, HIN2.out, rfl⟩, exMu_lt HI.out.rd HI7.out.rd HK.out hpx (fun h => (HMORE.out h).1)⟩
              · have d4 : decide (s3.k = 0) = false := decide_eq_false h4
                rw [if_neg h4] at hes
                subst hes
                clear hb1
                go_wp2_with fail
                refine HLF.out.mono ?_
                rintro r w1 ⟨rfl, hb1⟩
                have hG := rd_good w1 (HI.out.rd.later hb1)
                rw [dk] at hG
                have HG := hid hG
                clear hG dk
                go_wp2_with fail
                refine HG.out.mono ?_
                rintro r w2 ⟨rfl, hb2⟩
                have HI2 := hid (HI.out.later (below_then hb2 hb1))
                have HAT := hid (rd_at w2 HI2.out.rd)
                go_wp2_with fail
                refine HAT.out.mono ?_
                rintro r w2' ⟨rfl, rfl⟩
                have HHD := hid (hhead.out w2 HI2.out.rd)
                go_wp2_with fail
                refine HHD.out.mono ?_
                rintro r w3 ⟨rfl, hst3⟩
                have HI3 := hid (HI2.out.step hst3)
                clear hst3
                have HATP := hid (hatp.out w3 HI3.out.rd)
                go_wp2_with fail
                refine HATP.out.mono ?_
                rintro r w3' ⟨rfl, rfl⟩
                have HOF := hid (hoff.out w3 HI3.out.rd)
                go_wp2_with fail
                refine HOF.out.mono ?_
                rintro r w4 ⟨rfl, hst4⟩
                have HI4 := hid (HI3.out.step hst4)
                clear hst4
                have hG5 := rd_good w4 HI4.out.rd
                rw [d4] at hG5
                have HG5 := hid hG5
                clear hG5 d4
                go_wp2_with fail
                refine HG5.out.mono ?_
                rintro r w6 ⟨rfl, hb6⟩
                have HI6 := hid (HI4.out.later hb6)
                go_wp2
                go_step3
                exact .inl ⟨rfl, ⟨s3, out, aO, cO, hid HGO.out.symm, _, _, _, _, _, _, _, _, _, _, _, _, _, _, _, _, _, _, _, _, _, _, _, _, _, _, _, _, _, _, _, _, _, _, _, _, _, _, _, _, _, _, _, _, _, _, _, _, _, _, _, _, _, _, _, _, _, _, _, _, _, _, _, _, _, HI6.out, HIN.out, rfl⟩, exMu_lt HI.out.rd HI6.out.rd HK.out hpx (fun h => absurd h h4)⟩
      · have dk : decide (s.k = 0) = false := decide_eq_false hk
        have hst := exR_stop (bound := bound) (out := out) (fun e => hk e.2 : ¬ (s.p < B.length ∧ s.k = 0))
        have HEX := hid (hex.out.symm.trans hst)
        clear hk hst hex
        go_wp2_with fail
        refine HLF.out.mono ?_
        rintro r w1 ⟨rfl, hb1⟩
        have hG := rd_good w1 (HI.out.rd.later hb1)
        rw [dk] at hG
        have HG := hid hG
        clear hG dk
        go_wp2_with fail
        refine HG.out.mono ?_
        rintro r w2 ⟨rfl, hb2⟩
        have HI2 := hid (HI.out.later (below_then hb2 hb1))
        go_wp2
        go_step3
        exact .inr ⟨rfl, s, out, aO, cO, HEX, _, _, _, _, _, _, _, _, _, _, _, _, _, _, _, _, _, _, _, _, _, _, _, _, _, _, _, _, _, _, _, _, _, _, _, _, _, _, _, _, _, _, _, _, _, _, _, _, _, _, _, _, _, _, _, _, _, _, _, _, _, _, _, _, _, HI2.out, HIN.out, rfl⟩
    · have e0 : (((B.length : Int) - (s.p : Int)) == 0) = true := by rw [beq_iff_eq]; omega
      have hst := exR_stop (bound := bound) (out := out) (fun e => hp e.1 : ¬ (s.p < B.length ∧ s.k = 0))
      have HEX := hid (hex.out.symm.trans hst)
      clear hst hex
      go_wp2_with fail
      refine HLF.out.mono ?_
      rintro r w1 ⟨rfl, hb1⟩
      have HI2 := hid (HI.out.later hb1)
      go_wp2
      go_step3
      exact .inr ⟨rfl, s, out, aO, cO, HEX, _, _, _, _, _, _, _, _, _, _, _, _, _, _, _, _, _, _, _, _, _, _, _, _, _, _, _, _, _, _, _, _, _, _, _, _, _, _, _, _, _, _, _, _, _, _, _, _, _, _, _, _, _, _, _, _, _, _, _, _, _, _, _, _, _, HI2.out, HIN.out, rfl⟩
  · rintro a' W ⟨s, out, aO, cO, hex, u2, u3, u8, u9, u10, u11, u12, u13, u14, u15, u16, u17, u18, u19, u20, u21, u22, u23, u24, u25, u26, u27, u28, u29, u30, u31, u32, u33, u34, u35, u36, u37, u38, u39, u40, u41, u42, u43, u44, u45, u46, u47, u48, u49, u50, u51, u52, u53, u54, u55, u56, u57, u58, u59, u60, u61, u62, u63, u64, u65, u66, u67, u68, u69, u70, hI, hin, rfl⟩
    have HI := hid hI
    have HFA := hid (rd_fault W hI.rd)
    have hsz := hI.sz
    have hle := exIn_len hin hbd
    have hex2 := exB_is B bound
    rw [hex.out] at hex2
    dsimp only at hex2
    clear hin hI hex
    by_cases hk : s.k = 0
    · rw [if_pos hk] at hex2
      have HX := hid hex2
      have dk : decide (s.k = 0) = true := decide_eq_true hk
      have HK := hid hk
      clear hk hex2
      go_wp2_with fail
      refine HFA.out.mono ?_
      rintro r w1 ⟨rfl, hb1⟩
      have hG := fault_good (w1.alloc (.cells #[.int .i64 s.k, .int .i64 s.f] 48)) s.k s.f
      rw [dk] at hG
      have HG := hid hG
      clear hG dk
      go_wp2_with fail
      refine HG.out.mono ?_
      rintro r w2 ⟨rfl, hb2⟩
      have hb12 : Below W.heap.size W w2 := below_then hb2 (below_alloc hb1 _)
      have HI2 := hid (HI.out.later hb12)
      have hfl := HI2.out.fl
      obtain ⟨y0, y1, g0, g1, l1⟩ := f_blk hfl
      have hV := own_bytes2 rfl HI2.out.own
      have HV := hid hV
      clear hfl hV
      go_wp2
      simp only [manyX]
      refine bodyPost_ret (v := .tuple #[.slice aO out.length cO, .agg #[.int .i64 0, .int .i64 0]]) (by simp [results, Tryz.results214, go_sem, y0, y1, l1]) rfl ⟨_, by rw [HX.out], ?_, ?_⟩
      · rw [HX.out]
        refine rBytes.mono (rBytes.keep HV.out fun q hq => ?_) fun q hq => ⟨by omega, by simp [World.setCell]; exact hq.2⟩
        repeat (rw [Below.heap_setCell _ _ _ _ (by dsimp only; omega)])
      · have hbe := HI2.out.be
        (repeat (first | with_reducible exact Below.refl _ _ | with_reducible assumption | (with_reducible refine below_alloc ?_ _) | (with_reducible refine Below.setCell ?_ (by first | omega | (simp; done) | (simp; omega)) _) | (with_reducible refine Below.drew ?_) | (with_reducible refine below_drewN ?_ _) | (refine below_then (by with_reducible assumption) ?_)))
    · rw [if_neg hk] at hex2
      have HX := hid hex2
      have dk : decide (s.k = 0) = false := decide_eq_false hk
      have HK := hid hk
      clear hk hex2
      go_wp2_with fail
      refine HFA.out.mono ?_
      rintro r w1 ⟨rfl, hb1⟩
      have hG := fault_good (w1.alloc (.cells #[.int .i64 s.k, .int .i64 s.f] 48)) s.k s.f
      rw [dk] at hG
      have HG := hid hG
      clear hG dk
      go_wp2_with fail
      refine HG.out.mono ?_
      rintro r w2 ⟨rfl, hb2⟩
      have hb12 : Below W.heap.size W w2 := below_then hb2 (below_alloc hb1 _)
      have HI2 := hid (HI.out.later hb12)
      have hfl := HI2.out.fl
      obtain ⟨y0, y1, g0, g1, l1⟩ := f_blk hfl
      obtain ⟨z0, z1, e0, e1, l2⟩ := f_blk (Blk.later (Blk.newAt _ _ _ rfl) hb2)
      have hbe := HI2.out.be
      clear hfl
      go_wp2_with fail
      go_region
      all_goals
        go_wp2
        simp only [manyX]
        refine bodyPost_ret (v := .tuple #[.slice none 0 0, .agg #[.int .i64 s.k, .int .i64 s.f]]) (by simp [results, Tryz.results214, go_sem, y0, y1, l1]) rfl ⟨_, by rw [HX.out], by rw [HX.out]; exact empty_bytes rfl rfl (by omega), ?_⟩
        (repeat (first | with_reducible exact Below.refl _ _ | with_reducible assumption | (with_reducible refine below_alloc ?_ _) | (with_reducible refine Below.setCell ?_ (by first | omega | (simp; done) | (simp; omega)) _) | (with_reducible refine Below.drew ?_) | (with_reducible refine below_drewN ?_ _) | (refine below_then (by with_reducible assumption) ?_)))
  · intro K hK
    have HN := hid (rd_new (w.alloc (.cells #[.int .i64 0, .int .i64 0] 48)) B a _ c (lift HL.out (by (repeat first | with_reducible (first | exact zR | assumption | apply zA | apply zS | apply zD | apply zN) | refine zT (by with_reducible assumption) ?_ | omega | simp <;> omega))))
    go_wp2_with fail
    refine HN.out.mono ?_
    rintro r w1 ⟨rfl, hrd, hb⟩
    have hI : XInv w w1 B a ⟨0, 0, 0⟩ [] none 0 := ⟨by simpa using hrd, rBytes.keep HCAP.out fun q hq => (hb.block q (by simp; omega)).trans (Below.heap_alloc _ _ q hq), Blk.later (by (repeat first | assumption | exact kW (by first | (simp; done) | (simp; omega)) | apply kA | apply kD | apply kN | apply kF | simp <;> omega)) hb, ⟨rfl, .inl ⟨rfl, rfl⟩⟩, by (repeat first | with_reducible (first | exact zR | assumption | apply zA | apply zS | apply zD | apply zN) | refine zT (by with_reducible assumption) ?_ | omega | simp <;> omega), by have := hrd.blk.lt; simp at this; omega⟩
    have HI := hid hI
    clear hI hrd hb
    go_wp2
    go_step3
    rename_i hkk
    exact hkk _ _ (hK _ _ ⟨⟨0, 0, 0⟩, [], none, 0, hid rfl, _, _, _, _, _, _, _, _, _, _, _, _, _, _, _, _, _, _, _, _, _, _, _, _, _, _, _, _, _, _, _, _, _, _, _, _, _, _, _, _, _, _, _, _, _, _, _, _, _, _, _, _, _, _, _, _, _, _, _, _, _, _, _, _, _, HI.out, .inl rfl, rfl⟩)
end Go.Proofs.YtkipiefcnjfdjaaGreat
namespace Go.Proofs.YtkipiefcnjfdjaaGreat
open Go.RowKit Go.Bs Go.Maps
set_option linter.unusedVariables false
set_option linter.unusedSimpArgs false
theorem blockB_len (p : List UInt8) : (blockB p).length ≤ (varB p.length).length + p.length + 1 := by
 unfold blockB
 by_cases h : packR p = true
 ·have h2 := h
  unfold packR at h2
  have h3 := of_decide_eq_true h2
  rw [if_pos h]
  simp; omega
 ·rw [if_neg h]
  simp; omega
set_option maxRecDepth 100000 in
set_option maxHeartbeats 1600000 in
theorem block_bytes (w : World) (p : List UInt8) (a : Option Addr) (n c : Nat) (hl : rBytes.r (· < w.heap.size) w [.slice a n c] p) (hp : p.length ≤ 1048576) :
  Calls Tryz.prog 160 #[.slice a n c] w fun r w' => ∃ v, r = .returned (.tuple #[v, .int .i64 0]) ∧ rBytes.r (fun q => w.heap.size ≤ q ∧ q < w'.heap.size) w' [v] (blockB p) ∧ Below w.heap.size w w' := by
 obtain ⟨rfl, hm, _, _⟩ := sl_len hl
 have HS := hid (blob_size p.length (by omega) w)
 have hbl := blockB_len p
 have hvl := varB_len p.length
 have HL := hid hl
 clear hl
 generalize (varB p.length).length = k at *
 have hbK := hid hbl
 clear hbl
 go_enter Tryz.func160, Tryz.ntmps160
 go_wp2_with fail
 refine HS.out.mono ?_
 rintro r w1 ⟨rfl, hb1⟩
 have HN := hid (pen_new w1 (k + p.length + 1) (by omega))
 rw [show ((k + p.length + 1 : Nat) : Int) = (k : Int) + (p.length : Int) + 1 by omega] at HN
 have hs1 := hb1.size
 go_wp2_with fail
 refine HN.out.mono ?_
 rintro r w2 ⟨rfl, hp2, hb2⟩
 have hs2 := hb2.size
 have hbw2 := below_then hb2 hb1
 have HQ := hid (block_put w2 hp2 p a _ c (rBytes.mono (rBytes.keep HL.out fun q hq => hbw2.block q hq) fun q hq => ⟨by omega, fun hf => by have := (hp2.own_lt hf).1; omega⟩) hp (by have := hbK.out; simp; omega) (by have := hbK.out; simp; omega))
 have HP2 := hid hp2
 clear hp2
 go_wp2_with fail
 refine HQ.out.mono ?_
 rintro r w3 ⟨rfl, hst⟩
 have hb3 : Below w1.heap.size w2 w3 := HP2.out.below (Nat.le_refl _) (by omega) hst
 obtain ⟨a3, c3, hp3, _, _⟩ := hst
 rw [List.nil_append] at hp3
 have hs3 := hb3.size
 have hbw3 : Below w.heap.size w w3 := hbw2.trans (hb3.mono (by omega))
 have HB := hid (pen_bytes w3 hp3)
 clear hp3
 go_wp2_with fail
 refine HB.out.mono ?_
 rintro r w4 ⟨v, rfl, hv, hb4⟩
 have hbe := below_then hb4 hbw3
 have HV := hid (rBytes.mono (S' := fun q => w.heap.size ≤ q ∧ q < w4.heap.size) hv fun q hq => ⟨by have := hq.1; omega, hq.2⟩)
 clear hv
 go_wp2
 go_ret2
 exact ⟨_, rfl, HV.out, hbe⟩
end Go.Proofs.YtkipiefcnjfdjaaGreat
