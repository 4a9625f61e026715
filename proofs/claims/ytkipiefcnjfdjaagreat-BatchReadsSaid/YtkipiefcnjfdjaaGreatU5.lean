/- Needed by batchReads_walk, part 5: texts put together by shake.py; no condition. -/
import Derived.Test.YtkipiefcnjfdjaaGreatU4
import Derived.Deep.RegionHeld3
import Derived.IntWalk
import Derived.ScopeJumps
import Derived.WalkMore
import Derived.Test.YtkipiefcnjfdjaaGreatU1
import Derived.Deep.Cut
namespace Go.Proofs.YtkipiefcnjfdjaaGreat
open Go.RowKit Go.Bs Go.Maps
set_option linter.unusedVariables false
set_option linter.unusedSimpArgs false
theorem fault_good (w : World) (k f : Int) : Calls Tryz.prog 105 #[.agg #[.int .i64 k, .int .i64 f]] w fun r w' => r = .returned (.bool (decide (k = 0))) ∧ Below w.heap.size w w' := by
 go_enter Tryz.func105, Tryz.ntmps105
 go_wp2
 go_ret
 exact ⟨by first | rfl | simp, by (repeat first | exact zR | assumption | apply zA | apply zS | apply zD | apply zN | refine zT (by assumption) ?_ | omega | simp <;> omega)⟩
theorem fault_at (w : World) (k f : Int) (hk : k ≠ 0) : Calls Tryz.prog 103 #[.int .i64 k, .int .i64 f] w fun r w' => r = .returned (.agg #[.int .i64 k, .int .i64 f]) ∧ Below w.heap.size w w' := by
 have d1 : (k == (0 : Int)) = false := by simp [hk]
 go_enter Tryz.func103, Tryz.ntmps103
 go_wp2
 refine bodyPost_ret (v := .agg #[.int .i64 k, .int .i64 f]) (by simp [results, Tryz.results103, go_sem]) rfl ⟨rfl, by (repeat first | exact zR | assumption | apply zA | apply zS | apply zD | apply zN | refine zT (by assumption) ?_ | omega | simp <;> omega)⟩
set_option maxRecDepth 100000 in
theorem rd_new (w : World) (B : List UInt8) (a : Option Addr) (n c : Nat) (hl : rBytes.r (· < w.heap.size) w [.slice a n c] B) :
  Calls Tryz.prog 30 #[.slice a n c] w fun r w' => r = .returned (.pointer (some ⟨w.heap.size, 0, none⟩)) ∧ RdAt w' w.heap.size B a ⟨0, 0, 0⟩ ∧ Below w.heap.size w w' := by
 obtain ⟨rfl, hm, hc, hcm⟩ := sl_len hl
 have hD : rBytes.r (fun q => q < w.heap.size) w [.slice a B.length B.length] B := by
  obtain ⟨a', c', e, h1, h2, h3⟩ := hl
  simp at e
  obtain ⟨rfl, rfl⟩ := e
  exact rSl_mk rfl (Nat.le_refl _) (by simp [maxLen]; omega) h3
 have HD := hid hD
 have g1 : (B.length : Int) ≤ (c : Int) := by omega
 clear hl hD
 go_enter Tryz.func30, Tryz.ntmps30
 go_wp2
 go_ret
 refine ⟨rfl, ⟨by (repeat first | assumption | exact kW (by first | (simp; done) | (simp; omega)) | apply kA | apply kD | apply kN | apply kF | simp <;> omega), ?_, ⟨Nat.zero_le _, fun _ => rfl⟩⟩, by (repeat first | exact zR | assumption | apply zA | apply zS | apply zD | apply zN | refine zT (by assumption) ?_ | omega | simp <;> omega)⟩
 exact rBytes.mono (rBytes.keep HD.out fun q hq => Below.heap_alloc _ _ q hq) fun q hq => ⟨by simp; omega, by omega⟩
set_option maxRecDepth 100000 in
theorem rd_good (w : World) {g : Nat} {B : List UInt8} {a : Option Addr} {s : Rs} (h : RdAt w g B a s) : Calls Tryz.prog 96 #[.pointer (some ⟨g, 0, none⟩)] w fun r w' => r = .returned (.bool (decide (s.k = 0))) ∧ Below w.heap.size w w' := by
 have c2 : w.cell? ⟨g, 2, none⟩ = some (.int .i64 s.k) := h.blk.cell 2
 have c3 : w.cell? ⟨g, 3, none⟩ = some (.int .i64 s.f) := h.blk.cell 3
 clear h
 go_enter Tryz.func96, Tryz.ntmps96
 go_wp2_with fail
 refine (fault_good w s.k s.f).mono ?_
 rintro r w1 ⟨rfl, hb⟩
 go_wp2
 go_ret
 exact ⟨rfl, hb⟩
set_option maxRecDepth 100000 in
theorem rd_fail (w : World) {g : Nat} {B : List UInt8} {a : Option Addr} {s : Rs} (h : RdAt w g B a s) (k f : Int) (hk : k ≠ 0) : Calls Tryz.prog 153 #[.pointer (some ⟨g, 0, none⟩), .int .i64 k, .int .i64 f] w fun r w' => r = .returned (.tuple #[]) ∧ RdStep w g B a (s.fail k f) w' := by
 have HG := hid (rd_good w h)
 have HH := hid h
 by_cases h0 : s.k = 0
 ·have e : s.fail k f = ⟨s.p, k, f⟩ := by unfold Rs.fail; rw [if_pos h0]
  have hr : decide (s.k = 0) = true := decide_eq_true h0
  rw [hr] at HG
  rw [e]
  clear h h0 hr e
  go_enter Tryz.func153, Tryz.ntmps153
  go_wp2_with fail
  refine HG.out.mono ?_
  rintro r w1 ⟨rfl, hb⟩
  go_wp2_with fail
  refine (fault_at w1 k f hk).mono ?_
  rintro r w2 ⟨rfl, hb2⟩
  have hb12 := below_then hb2 hb
  have h2 := HH.out.later hb12
  have f2 := h2.blk.free 2
  have f3 := h2.blk.free 3
  have c2 := h2.blk.cell 2
  have c3 := h2.blk.cell 3
  have lt := h2.blk.lt
  simp at c2 c3
  have H2 := hid h2
  have hst : RdStep w2 g B a ⟨s.p, k, f⟩ ((w2.setCell ⟨g, 2, none⟩ (.int .i64 k)).setCell ⟨g, 3, none⟩ (.int .i64 f)) := by
   refine ⟨⟨(h2.blk.set 2 _).set 3 _, ?_, h2.ok.le, fun e => absurd e hk⟩, Tch.setCell (F := (· = g)) (Tch.setCell (F := (· = g)) (Tch.refl _ _) (fun _ => rfl) _) (fun _ => rfl) _⟩
   refine rBytes.mono (rBytes.keep h2.dat fun q hq => ?_) fun q hq => ⟨by simp [World.setCell]; exact hq.1, hq.2⟩
   rw [Below.heap_setCell _ _ _ _ (fun e => hq.2 e), Below.heap_setCell _ _ _ _ (fun e => hq.2 e)]
  have HST := hid (RdStep.trans (Tch.of_later (F := (· = g)) hb12) hst)
  clear h2 hst
  go_wp2
  go_end0
  exact ⟨rfl, HST.out⟩
 ·have e : s.fail k f = s := by unfold Rs.fail; rw [if_neg h0]
  have hr : decide (s.k = 0) = false := decide_eq_false h0
  rw [hr] at HG
  rw [e]
  clear h h0 hr e
  go_enter Tryz.func153, Tryz.ntmps153
  go_wp2_with fail
  refine HG.out.mono ?_
  rintro r w1 ⟨rfl, hb⟩
  go_wp2
  go_end0
  exact ⟨rfl, RdStep.later HH.out hb⟩
set_option maxRecDepth 100000 in
theorem rd_fault (w : World) {g : Nat} {B : List UInt8} {a : Option Addr} {s : Rs} (h : RdAt w g B a s) : Calls Tryz.prog 34 #[.pointer (some ⟨g, 0, none⟩)] w fun r w' => r = .returned (.agg #[.int .i64 s.k, .int .i64 s.f]) ∧ Below w.heap.size w w' := by
 have c2 : w.cell? ⟨g, 2, none⟩ = some (.int .i64 s.k) := h.blk.cell 2
 have c3 : w.cell? ⟨g, 3, none⟩ = some (.int .i64 s.f) := h.blk.cell 3
 have lt := h.blk.lt
 clear h
 go_enter Tryz.func34, Tryz.ntmps34
 go_wp2
 refine bodyPost_ret (v := .agg #[.int .i64 s.k, .int .i64 s.f]) (by simp [results, Tryz.results34, go_sem]) rfl ⟨rfl, by (repeat first | exact zR | assumption | apply zA | apply zS | apply zD | apply zN | refine zT (by assumption) ?_ | omega | simp <;> omega)⟩
theorem rd_at (w : World) {g : Nat} {B : List UInt8} {a : Option Addr} {s : Rs} (h : RdAt w g B a s) : Calls Tryz.prog 151 #[.pointer (some ⟨g, 0, none⟩)] w fun r w' => r = .returned (.int .i64 (s.p : Int)) ∧ w = w' := by
 have c1 : w.cell? ⟨g, 1, none⟩ = some (.int .i64 (s.p : Int)) := h.blk.cell 1
 clear h
 go_enter Tryz.func151, Tryz.ntmps151
 go_wp2
 go_ret
 exact ⟨rfl, rfl⟩
theorem rd_left (w : World) {g : Nat} {B : List UInt8} {a : Option Addr} {s : Rs} (h : RdAt w g B a s) : Calls Tryz.prog 169 #[.pointer (some ⟨g, 0, none⟩)] w fun r w' => r = .returned (.int .i64 ((B.length : Int) - (s.p : Int))) ∧ Below w.heap.size w w' := by
 have C0 := fun s : Later w => s.cell (h.blk.cell 0)
 have C1 := fun s : Later w => s.cell (h.blk.cell 1)
 simp at C0 C1
 have hle := h.ok.le
 have hle2 := h.len
 clear h
 go_enter Tryz.func169, Tryz.ntmps169
 go_wp2_with fail
 refine wp_region_later (by kernel_rfl) (by kernel_rfl) ?_
 repeat (go_big_quiet_step (fail))
 refine wpQuiet_nil ?_
 rintro W5 ⟨⟨W5', hb5⟩, rfl⟩
 go_wp2
 go_ret
 exact ⟨by first | rfl | simp, hb5⟩
set_option maxRecDepth 100000 in
theorem rd_skip (w : World) {g : Nat} {B : List UInt8} {a : Option Addr} {s : Rs} (h : RdAt w g B a s) (n : Int) (hn : n ≤ 9223372036854775807) : Calls Tryz.prog 212 #[.pointer (some ⟨g, 0, none⟩), .int .i64 n] w fun r w' => r = .returned (.bool (s.skip B.length n).1) ∧ RdStep w g B a (s.skip B.length n).2 w' := by
 have HG := hid (rd_good w h)
 have HH := hid h
 have hle := h.ok.le
 have hle2 := h.len
 by_cases h0 : s.k = 0
 ·have hr : decide (s.k = 0) = true := decide_eq_true h0
  rw [hr] at HG
  by_cases h1 : n < 0
  ·have e : s.skip B.length n = (false, ⟨s.p, 17, s.p⟩) := by unfold Rs.skip; rw [if_pos h0, if_pos h1]
   have ef : s.fail 17 s.p = ⟨s.p, 17, s.p⟩ := by unfold Rs.fail; rw [if_pos h0]
   have d1 : decide (n < (0 : Int)) = true := decide_eq_true h1
   rw [e]
   dsimp only
   rw [← ef]
   clear h h0 hr e ef
   go_enter Tryz.func212, Tryz.ntmps212
   go_wp2_with fail
   refine HG.out.mono ?_
   rintro r w1 ⟨rfl, hb⟩
   have hh1 := HH.out.later hb
   have c1 := hh1.blk.cell 1
   simp at c1
   have HF := hid (rd_fail w1 hh1 17 s.p (by omega))
   clear hh1
   go_wp2_with fail
   refine HF.out.mono ?_
   rintro r w2 ⟨rfl, hst⟩
   have HST := hid (RdStep.trans (Tch.of_later (F := (· = g)) hb) hst)
   clear hst
   go_wp2
   go_ret
   exact ⟨rfl, HST.out⟩
  ·have d1 : decide (n < (0 : Int)) = false := decide_eq_false h1
   by_cases h2 : (B.length : Int) - s.p < n
   ·have e : s.skip B.length n = (false, ⟨s.p, 1, B.length⟩) := by unfold Rs.skip; rw [if_pos h0, if_neg h1, if_pos h2]
    have ef : s.fail 1 B.length = ⟨s.p, 1, B.length⟩ := by unfold Rs.fail; rw [if_pos h0]
    have d2 : decide ((B.length : Int) - (s.p : Int) < n) = true := decide_eq_true h2
    rw [e]
    dsimp only
    rw [← ef]
    clear h h0 hr e ef
    go_enter Tryz.func212, Tryz.ntmps212
    go_wp2_with fail
    refine HG.out.mono ?_
    rintro r w1 ⟨rfl, hb⟩
    have hh1 := HH.out.later hb
    have HL := hid (rd_left w1 hh1)
    go_wp2_with fail
    refine HL.out.mono ?_
    rintro r w2 ⟨rfl, hb2⟩
    have hb12 := below_then hb2 hb
    have hh2 := HH.out.later hb12
    have c0 := hh2.blk.cell 0
    simp at c0
    have HF := hid (rd_fail w2 hh2 1 B.length (by omega))
    clear hh1 hh2
    go_wp2_with fail
    refine HF.out.mono ?_
    rintro r w3 ⟨rfl, hst⟩
    have HST := hid (RdStep.trans (Tch.of_later (F := (· = g)) hb12) hst)
    clear hst
    go_wp2
    go_ret
    exact ⟨rfl, HST.out⟩
   ·have e : s.skip B.length n = (true, ⟨s.p + n.toNat, 0, 0⟩) := by unfold Rs.skip; rw [if_pos h0, if_neg h1, if_neg h2]
    have d2 : decide ((B.length : Int) - (s.p : Int) < n) = false := decide_eq_false h2
    have hz := h.ok.zero h0
    rw [e]
    obtain ⟨m, rfl⟩ : ∃ m : Nat, n = m := ⟨n.toNat, by omega⟩
    have e1 : ((m : Int)).toNat = m := by omega
    rw [e1]
    have hle3 : s.p + m ≤ B.length := by omega
    have HZ := hid hz; have H0 := hid h0
    clear h h0 hr e e1 hz
    go_enter Tryz.func212, Tryz.ntmps212
    go_wp2_with fail
    refine HG.out.mono ?_
    rintro r w1 ⟨rfl, hb⟩
    have hh1 := HH.out.later hb
    have HL := hid (rd_left w1 hh1)
    go_wp2_with fail
    refine HL.out.mono ?_
    rintro r w2 ⟨rfl, hb2⟩
    have hb12 := below_then hb2 hb
    have hh2 := HH.out.later hb12
    have c1 := hh2.blk.cell 1
    have f1 := hh2.blk.free 1
    have lt := hh2.blk.lt
    simp at c1
    have hst : RdStep w2 g B a ⟨s.p + m, 0, 0⟩ (w2.setCell ⟨g, 1, none⟩ (.int .i64 ((s.p : Int) + (m : Int)))) := by
     refine ⟨⟨?_, ?_, hle3, fun _ => rfl⟩, Tch.setCell (F := (· = g)) (Tch.refl _ _) (fun _ => rfl) _⟩
     ·have := hh2.blk.set 1 (.int .i64 ((s.p : Int) + (m : Int)))
      rw [H0.out, HZ.out] at this
      simpa using this
     ·refine rBytes.mono (rBytes.keep hh2.dat fun q hq => ?_) fun q hq => ⟨by simp [World.setCell]; exact hq.1, hq.2⟩
      rw [Below.heap_setCell _ _ _ _ (fun e => hq.2 e)]
    have HST := hid (RdStep.trans (Tch.of_later (F := (· = g)) hb12) hst)
    clear hh1 hh2 hst
    go_wp2
    go_ret
    exact ⟨rfl, HST.out⟩
 ·have e : s.skip B.length n = (false, s) := by unfold Rs.skip; rw [if_neg h0]
  have hr : decide (s.k = 0) = false := decide_eq_false h0
  rw [hr] at HG
  rw [e]
  clear h h0 hr e
  go_enter Tryz.func212, Tryz.ntmps212
  go_wp2_with fail
  refine HG.out.mono ?_
  rintro r w1 ⟨rfl, hb⟩
  go_wp2
  go_ret
  exact ⟨rfl, RdStep.later HH.out hb⟩
end Go.Proofs.YtkipiefcnjfdjaaGreat
namespace Go.Proofs.YtkipiefcnjfdjaaGreat
open Go.RowKit Go.Bs Go.Maps
set_option linter.unusedVariables false
set_option linter.unusedSimpArgs false
theorem Rs.skip_true {s : Rs} {L : Nat} {n : Int} (h : (s.skip L n).1 = true) : s.k = 0 ∧ 0 ≤ n ∧ n ≤ (L : Int) - s.p ∧ (s.skip L n).2 = ⟨s.p + n.toNat, 0, 0⟩ := by
 unfold Rs.skip at *
 split at h
 ·rename_i h0
  split at h
  ·simp at h
  ·split at h
   ·simp at h
   ·rename_i h1 h2
    exact ⟨h0, by omega, by omega, by rw [if_pos h0, if_neg h1, if_neg h2]⟩
 ·simp at h
theorem Rs.skip_false {s : Rs} {L : Nat} {n : Int} (h : (s.skip L n).1 = false) : (s.skip L n).2.k ≠ 0 ∧ (s.skip L n).2.p = s.p := by
 unfold Rs.skip at *
 split at h
 ·rename_i h0
  split at h
  ·rename_i h1
   rw [if_pos h0, if_pos h1]; simp
  ·rename_i h1
   split at h
   ·rename_i h2
    rw [if_pos h0, if_neg h1, if_pos h2]; simp
   ·simp at h
 ·rename_i h0
  rw [if_neg h0]; exact ⟨h0, rfl⟩
set_option maxRecDepth 100000 in
theorem rd_byte (w : World) {g : Nat} {B : List UInt8} {a : Option Addr} {s : Rs} (h : RdAt w g B a s) : Calls Tryz.prog 157 #[.pointer (some ⟨g, 0, none⟩)] w fun r w' => r = .returned (.int .u8 ((s.byte B).2.toNat : Int)) ∧ RdStep w g B a (s.byte B).1 w' := by
 have HS := hid (rd_skip w h 1 (by omega))
 have hle2 := h.len
 unfold Rs.byte
 cases hk : (s.skip B.length 1).1
 ·rw [hk] at HS
  generalize (s.skip B.length 1).2 = s1 at *
  clear h hk
  go_enter Tryz.func157, Tryz.ntmps157
  go_wp2_with fail
  refine HS.out.mono ?_
  rintro r w1 ⟨rfl, hst⟩
  have HST := hid hst
  clear hst
  go_wp2
  go_ret
  exact ⟨rfl, HST.out⟩
 ·obtain ⟨h0, _, h2, h3⟩ := Rs.skip_true hk
  rw [hk, h3] at HS
  rw [h3]
  have hp : s.p < B.length := by omega
  have hbd : B.getD s.p 0 = B[s.p] := by simp [hp]
  simp only [if_true]
  rw [hbd]
  generalize hx : B[s.p] = x
  have HX := hid hx
  rw [show s.p + (1 : Int).toNat = s.p + 1 by omega] at *
  clear h hk h0 h2 h3 hbd hx
  go_enter Tryz.func157, Tryz.ntmps157
  go_wp2_with fail
  refine HS.out.mono ?_
  rintro r w1 ⟨rfl, hst⟩
  obtain ⟨ga, oa, hA, hga, hc⟩ := byte_at hst.1.dat hp
  rw [HX.out] at hc
  subst hA
  have c1 := hst.1.blk.cell 1
  simp at c1
  have C0 := fun s : Later w1 => s.cell (hst.1.blk.cell 0)
  have C1 := fun s : Later w1 => s.cell c1
  have CB := fun s : Later w1 => s.cell hc
  simp at C0
  have HST := hid hst
  clear hst hc c1
  have i1 : (s.p : Int) < (B.length : Int) := by omega
  have i2 : (0 : Int) ≤ (s.p : Int) := by omega
  have hb1 : (s.p : Int) ≤ 9223372036854775807 := by omega
  go_wp2_with fail
  have i3 : wrap64 (s.p : Int) = s.p := by simp only [wrap64]; omega
  refine wp_region_later (by kernel_rfl) (by kernel_rfl) ?_
  repeat (go_big_quiet_step (fail))
  refine wpQuiet_nil ?_
  clear i3
  rintro W5 ⟨⟨W5', hb5⟩, rfl⟩
  go_wp2
  go_ret
  exact ⟨rfl, HST.out.then hb5⟩
set_option maxRecDepth 100000 in
set_option maxHeartbeats 1600000 in
theorem rd_take (w : World) {g : Nat} {B : List UInt8} {a : Option Addr} {s : Rs} (h : RdAt w g B a s) (n : Int) (hn : n ≤ 9223372036854775807) (hB : B.length ≤ 1000000000000) : Calls Tryz.prog 158 #[.pointer (some ⟨g, 0, none⟩), .int .i64 n] w fun r w' => ∃ v, r = .returned v ∧ rBytes.r (fun q => w.heap.size ≤ q ∧ q < w'.heap.size) w' [v] (s.take B n).2 ∧ RdStep w g B a (s.take B n).1 w' := by
 have HS := hid (rd_skip w h n hn)
 unfold Rs.take
 cases hk : (s.skip B.length n).1
 ·rw [hk] at HS
  generalize (s.skip B.length n).2 = s1 at *
  clear h hk
  go_enter Tryz.func158, Tryz.ntmps158
  go_wp2_with fail
  refine HS.out.mono ?_
  rintro r w1 ⟨rfl, hst⟩
  have HST := hid hst
  clear hst
  go_wp2
  go_ret
  exact ⟨_, rfl, empty_bytes rfl rfl (by omega), HST.out⟩
 ·obtain ⟨h0, h1, h2, h3⟩ := Rs.skip_true hk
  rw [hk, h3] at HS
  rw [h3]
  obtain ⟨m, rfl⟩ : ∃ m : Nat, n = m := ⟨n.toNat, by omega⟩
  rw [show ((m : Int)).toNat = m by omega] at *
  obtain ⟨i0, hi, hz0, hz1, hz2⟩ := info_parts info8
  have hp : s.p + m ≤ B.length := by have := h.ok.le; omega
  simp only [if_true]
  clear h hk h0 h1 h2 h3
  go_enter Tryz.func158, Tryz.ntmps158
  go_wp2_with fail
  refine HS.out.mono ?_
  rintro r w1 ⟨rfl, hst⟩
  obtain ⟨aD, cD, hsl, hsub⟩ := cut_bytes hst.1.dat (lo := s.p) (hi := s.p + m) (by omega) hp
  have hlD : ((B.drop s.p).take (s.p + m - s.p)).length = m := by simp; omega
  rw [show s.p + m - s.p = m by omega] at hsl hsub hlD
  generalize hDe : (B.drop s.p).take m = D at *
  have HDE := hid hDe
  clear hDe
  have hDm : m = D.length := hlD.symm
  obtain ⟨P1, hP1⟩ : ∃ P1 : Nat, P1 = s.p + m := ⟨_, rfl⟩
  rw [← hP1, show (s.p : Int) = (P1 : Int) - (m : Int) by omega] at hsl
  have HSB := hid (fun (W : World) (hW : Below w1.heap.size w1 W) => src_bytes (l := D) (lift (w := w1) (A := rBytes) (cs := [.slice aD D.length cD]) (by rw [← hDm]; exact rBytes.mono hsub fun q hq => hq.1) hW))
  have HONE := hid (byteCells_one D)
  have c1 := hst.1.blk.cell 1
  have c0 := hst.1.blk.cell 0
  simp at c0
  rw [← hP1] at c1 hst hp
  simp at c1
  have lt := hst.1.blk.lt
  have HST := hid hst
  have HDM := hid hDm
  have hs1 := hst.size
  have HP1 := hid hP1
  have hPm : m ≤ P1 := by omega
  clear hst hsub hlD hDm hP1
  have hb1 : (P1 : Int) ≤ 9223372036854775807 := by omega
  go_wp2_with fail
  have j1 : IntKind.i64.wrap ((P1 : Int) - (m : Int)) = (P1 : Int) - (m : Int) := IntWalk.i64_in _ (by omega)
  go_region_held3 (fun w' => w'.cell? ⟨g, 0, none⟩ = some (.slice a B.length B.length) ∧ w'.cell? ⟨g, 1, none⟩ = some (.int .i64 (P1 : Int))) (((try dsimp only); refine ⟨?_, ?_⟩ <;> (first | assumption | (go_keep; done))))
   ((go_loud (refine step_append_src (by rfl) _ _ _ (by rfl) w1.heap.size 5 i0 (.int .u8 0) 1 1 Tryz.underlying28 hi hz0 hz1 hz2 rfl (by decide) _ 0 [] (by rfl) (own_empty _ (by simp) (by rfl)) aD m cD (byteCells D) (by rfl) (by rw [HDM.out]; exact HSB.out _ (by (repeat first | exact zR | assumption | apply zA | apply zS | apply zD | apply zN | refine zT (by assumption) ?_ | omega | simp <;> omega))) HONE.out (by clear j1; simp only [maxLen]; omega) (by clear j1; omega) (by simp) ?_; intro a5 c5 w5 hown5 hgrow5 hat5; rw [Nat.zero_add] at hown5; have k5 : Below w1.heap.size w1 w5 := Below.grown (by (repeat first | exact zR | assumption | apply zA | apply zS | apply zD | apply zN | refine zT (by assumption) ?_ | omega | simp <;> omega)) hgrow5 (by simp) (fun g e => by { have e' : some w1.heap.size = some g := e; injection e' with e'; clear j1; omega }); have e0 := (k5.cell (p := ⟨g, 0, none⟩) lt).trans c0; have e1 := (k5.cell (p := ⟨g, 1, none⟩) lt).trans c1; have HK5 := hid k5; have HO5 := hid hown5; clear hown5 hgrow5 hat5 k5)))
  all_goals
   clear j1
   have ho := HO5.out
   rw [List.nil_append] at ho
   have hA := own_bytes2 HDM.out ho
   have HA := hid hA
   clear ho hA
   go_wp2
   go_ret
   refine ⟨_, rfl, ?_, ?_⟩
   ·rw [HDE.out]
    exact rBytes.mono HA.out fun q hq => ⟨by omega, hq.2⟩
   ·rw [← HP1.out]
    exact HST.out.then HK5.out
set_option maxRecDepth 100000 in
set_option maxHeartbeats 1600000 in
theorem rd_since (w : World) {g : Nat} {B : List UInt8} {a : Option Addr} {s : Rs} (h : RdAt w g B a s) (at_ : Nat) (hat : at_ ≤ s.p) (hB : B.length ≤ 1000000000000) : Calls Tryz.prog 162 #[.pointer (some ⟨g, 0, none⟩), .int .i64 (at_ : Int)] w fun r w' => ∃ v, r = .returned v ∧ rBytes.r (fun q => w.heap.size ≤ q ∧ q < w'.heap.size) w' [v] ((B.drop at_).take (s.p - at_)) ∧ Below w.heap.size w w' := by
 obtain ⟨i0, hi, hz0, hz1, hz2⟩ := info_parts info8
 have hp : s.p ≤ B.length := h.ok.le
 obtain ⟨aD, cD, hsl, hsub⟩ := cut_bytes h.dat (lo := at_) (hi := s.p) hat hp
 have hlD : ((B.drop at_).take (s.p - at_)).length = s.p - at_ := by simp; omega
 obtain ⟨m, hm⟩ : ∃ m : Nat, m = s.p - at_ := ⟨_, rfl⟩
 rw [← hm] at hsl hsub hlD ⊢
 generalize (B.drop at_).take m = D at *
 have hDm : m = D.length := hlD.symm
 have HSB := hid (fun (W : World) (hW : Below w.heap.size w W) => src_bytes (l := D) (lift (w := w) (A := rBytes) (cs := [.slice aD D.length cD]) (by rw [← hDm]; exact rBytes.mono hsub fun q hq => hq.1) hW))
 have HONE := hid (byteCells_one D)
 have c1 := h.blk.cell 1
 have c0 := h.blk.cell 0
 simp at c0 c1
 have lt := h.blk.lt
 have HDM := hid hDm
 generalize s.p = P1 at *
 have d1 : decide ((at_ : Int) < 0) = false := decide_eq_false (by omega)
 have d2 : decide ((P1 : Int) < (at_ : Int)) = false := decide_eq_false (by omega)
 have d3 : decide (P1 < at_) = false := decide_eq_false (by omega)
 have hmB : m ≤ B.length := by omega
 clear h hsub hlD hDm hm
 go_enter Tryz.func162, Tryz.ntmps162
 go_wp2_with fail
 go_region_held3 (fun w' => w'.cell? ⟨g, 0, none⟩ = some (.slice a B.length B.length) ∧ w'.cell? ⟨g, 1, none⟩ = some (.int .i64 (P1 : Int))) (((try dsimp only); refine ⟨?_, ?_⟩ <;> (first | assumption | (go_keep; done))))
  ((go_loud (refine step_append_src (by rfl) _ _ _ (by rfl) w.heap.size 5 i0 (.int .u8 0) 1 1 Tryz.underlying28 hi hz0 hz1 hz2 rfl (by decide) _ 0 [] (by rfl) (own_empty _ (by simp) (by rfl)) aD m cD (byteCells D) (by rfl) (by rw [HDM.out]; exact HSB.out _ (by (repeat first | exact zR | assumption | apply zA | apply zS | apply zD | apply zN | refine zT (by assumption) ?_ | omega | simp <;> omega))) HONE.out (by simp only [maxLen]; omega) (by omega) (by simp) ?_; intro a5 c5 w5 hown5 hgrow5 hat5; rw [Nat.zero_add] at hown5; have k5 : Below w.heap.size w w5 := Below.grown (by (repeat first | exact zR | assumption | apply zA | apply zS | apply zD | apply zN | refine zT (by assumption) ?_ | omega | simp <;> omega)) hgrow5 (by simp) (fun g e => by { have e' : some w.heap.size = some g := e; injection e' with e'; omega }); have e0 := (k5.cell (p := ⟨g, 0, none⟩) lt).trans c0; have e1 := (k5.cell (p := ⟨g, 1, none⟩) lt).trans c1; have HK5 := hid k5; have HO5 := hid hown5; clear hown5 hgrow5 hat5 k5)))
 all_goals
  have ho := HO5.out
  rw [List.nil_append] at ho
  have hA := own_bytes2 HDM.out ho
  have HA := hid hA
  clear ho hA
  go_wp2
  go_ret
  exact ⟨_, rfl, HA.out, HK5.out⟩
end Go.Proofs.YtkipiefcnjfdjaaGreat
namespace Go.Proofs.YtkipiefcnjfdjaaGreat
open Go.RowKit Go.Bs Go.Maps
set_option linter.unusedVariables false
set_option linter.unusedSimpArgs false
def CV (a : Option Addr) (n c : Nat) (s : Rs) : Value := .agg #[.slice a n c, .int .i64 (s.p : Int), .int .i64 s.k, .int .i64 s.f]
theorem c_blk {w : World} {g : Nat} {t : TypeId} {v0 v1 v2 v3 : Value} (h : Blk w g t #[v0, v1, v2, v3]) : w.cell? ⟨g, 0, none⟩ = some v0 ∧ w.cell? ⟨g, 1, none⟩ = some v1 ∧ w.cell? ⟨g, 2, none⟩ = some v2 ∧ w.cell? ⟨g, 3, none⟩ = some v3 ∧ w.frozen? ⟨g, 0, none⟩ = false ∧ w.frozen? ⟨g, 1, none⟩ = false ∧ w.frozen? ⟨g, 2, none⟩ = false ∧ w.frozen? ⟨g, 3, none⟩ = false ∧ g < w.heap.size :=
 ⟨h.cell 0, h.cell 1, h.cell 2, h.cell 3, h.free 0, h.free 1, h.free 2, h.free 3, h.lt⟩
theorem f_blk {w : World} {g : Nat} {t : TypeId} {v0 v1 : Value} (h : Blk w g t #[v0, v1]) : w.cell? ⟨g, 0, none⟩ = some v0 ∧ w.cell? ⟨g, 1, none⟩ = some v1 ∧ w.frozen? ⟨g, 0, none⟩ = false ∧ w.frozen? ⟨g, 1, none⟩ = false ∧ g < w.heap.size :=
 ⟨h.cell 0, h.cell 1, h.free 0, h.free 1, h.lt⟩
theorem ref01_at (w : World) (k f : Int) (hk : k ≠ 0) : Calls Tryz.prog 127 #[.int .i64 k, .int .i64 f] w fun r w' => r = .returned (.agg #[.int .i64 k, .int .i64 f]) ∧ Below w.heap.size w w' := by
 have d1 : (k == (0 : Int)) = false := by simp [hk]
 have d2 : (k != (0 : Int)) = true := by simp [hk]
 go_enter Tryz.func127, Tryz.ntmps127
 go_wp2
 refine bodyPost_ret (v := .agg #[.int .i64 k, .int .i64 f]) (by simp [results, Tryz.results127, go_sem]) rfl ⟨rfl, by (repeat first | exact zR | assumption | apply zA | apply zS | apply zD | apply zN | refine zT (by assumption) ?_ | omega | simp <;> omega)⟩
set_option maxRecDepth 100000 in
theorem ref02_fail (w : World) (a : Option Addr) (n c : Nat) (s : Rs) (k f : Int) (hk : k ≠ 0) : Calls Tryz.prog 99 #[CV a n c s, .int .i64 k, .int .i64 f] w fun r w' => r = .returned (CV a n c (s.fail k f)) ∧ Below w.heap.size w w' := by
 unfold CV
 by_cases h0 : s.k = 0
 ·have e : s.fail k f = ⟨s.p, k, f⟩ := by unfold Rs.fail; rw [if_pos h0]
  have d1 : (s.k == (0 : Int)) = true := by simp [h0]
  have H0 := hid h0
  rw [e]
  clear h0 e
  go_enter Tryz.func99, Tryz.ntmps99
  go_wp2_with fail
  refine (ref01_at _ k f hk).mono ?_
  rintro r w1 ⟨rfl, hb⟩
  have B0 : Blk w1 w.heap.size 50 #[.slice a n c, .int .i64 (s.p : Int), .int .i64 s.k, .int .i64 s.f] := Blk.later (by (repeat first | assumption | exact kW (by first | (simp; done) | (simp; omega)) | apply kA | apply kD | apply kN | apply kF | simp <;> omega)) hb
  have B1 : Blk w1 (w.heap.size + 1) 50 #[.slice none 0 0, .int .i64 0, .int .i64 0, .int .i64 0] := Blk.later (by (repeat first | assumption | exact kW (by first | (simp; done) | (simp; omega)) | apply kA | apply kD | apply kN | apply kF | simp <;> omega)) hb
  have x0 := B0.cell 0; have x1 := B0.cell 1; have x2 := B0.cell 2; have x3 := B0.cell 3
  have y0 := B1.cell 0; have y1 := B1.cell 1; have y2 := B1.cell 2; have y3 := B1.cell 3
  simp at x0 x1 x2 x3 y0 y1 y2 y3
  have f2 := B0.free 2; have f3 := B0.free 3
  have g0 := B1.free 0; have g1 := B1.free 1; have g2 := B1.free 2; have g3 := B1.free 3
  have l0 := B0.lt; have l1 := B1.lt
  have hbw : Below w.heap.size w w1 := by (repeat first | exact zR | assumption | apply zA | apply zS | apply zD | apply zN | refine zT (by assumption) ?_ | omega | simp <;> omega)
  clear B0 B1 hb
  go_wp2
  refine bodyPost_ret (v := .agg #[.slice a n c, .int .i64 (s.p : Int), .int .i64 k, .int .i64 f]) (by simp [results, Tryz.results99, go_sem, y0, y1, y2, y3, l1]) rfl ⟨rfl, by (repeat first | with_reducible (first | exact zR | assumption | apply zA | apply zS | apply zD | apply zN) | refine zT (by with_reducible assumption) ?_ | omega | simp <;> omega)⟩
 ·have e : s.fail k f = s := by unfold Rs.fail; rw [if_neg h0]
  have d1 : (s.k == (0 : Int)) = false := by simp [h0]
  have H0 := hid h0
  rw [e]
  clear h0 e
  go_enter Tryz.func99, Tryz.ntmps99
  go_wp2
  refine bodyPost_ret (v := .agg #[.slice a n c, .int .i64 (s.p : Int), .int .i64 s.k, .int .i64 s.f]) (by simp [results, Tryz.results99, go_sem]) rfl ⟨rfl, by (repeat first | exact zR | assumption | apply zA | apply zS | apply zD | apply zN | refine zT (by assumption) ?_ | omega | simp <;> omega)⟩
end Go.Proofs.YtkipiefcnjfdjaaGreat
namespace Go.Proofs.YtkipiefcnjfdjaaGreat
open Go.RowKit Go.Bs Go.Maps
set_option linter.unusedVariables false
set_option linter.unusedSimpArgs false
set_option maxRecDepth 100000 in
set_option maxHeartbeats 1600000 in
theorem ref02_take (w : World) (a : Option Addr) (c : Nat) (B : List UInt8) (hl : rBytes.r (· < w.heap.size) w [.slice a B.length c] B) (s : Rs) (hs : s.ok B.length) (n : Int) (hn : n ≤ 9223372036854775807) (hB : B.length ≤ 1000000000000) :
  Calls Tryz.prog 166 #[CV a B.length c s, .int .i64 n] w fun r w' => ∃ v, r = .returned (.tuple #[CV a B.length c (s.take B n).1, v]) ∧ rBytes.r (fun q => w.heap.size ≤ q ∧ q < w'.heap.size) w' [v] (s.take B n).2 ∧ Below w.heap.size w w' := by
 obtain ⟨i0, hi, hz0, hz1, hz2⟩ := info_parts info8
 unfold Rs.take
 have hle := hs.le
 by_cases h0 : s.k = 0
 ·have d0 : (s.k != (0 : Int)) = false := by simp [h0]
  have hF := hid (fun (W : World) (k f : Int) (hk : k ≠ 0) => ref02_fail W a B.length c s k f hk)
  by_cases h1 : n < 0
  ·have e : s.skip B.length n = (false, s.fail 17 s.p) := by unfold Rs.skip Rs.fail; rw [if_pos h0, if_pos h1, if_pos h0]
   have d1 : decide (n < (0 : Int)) = true := decide_eq_true h1
   rw [e]
   generalize hs1 : s.fail 17 s.p = s1
   have HF := hid (fun (W : World) => hF.out W 17 s.p (by omega))
   rw [hs1] at HF
   clear hl hs h0 e hF
   unfold CV at *
   go_enter Tryz.func166, Tryz.ntmps166
   go_wp2_with fail
   refine (HF.out _).mono ?_
   rintro r w1 ⟨rfl, hb⟩
   have B1 : Blk w1 (w.heap.size + 1) 50 #[.slice none 0 0, .int .i64 0, .int .i64 0, .int .i64 0] := Blk.later (by (repeat first | assumption | exact kW (by first | (simp; done) | (simp; omega)) | apply kA | apply kD | apply kN | apply kF | simp <;> omega)) hb
   obtain ⟨y0, y1, y2, y3, g0, g1, g2, g3, l1⟩ := c_blk B1
   have hbw : Below w.heap.size w w1 := by (repeat first | with_reducible (first | exact zR | assumption | apply zA | apply zS | apply zD | apply zN) | refine zT (by with_reducible assumption) ?_ | omega | simp <;> omega)
   clear B1 hb
   go_wp2
   refine bodyPost_ret (v := .tuple #[.agg #[.slice a B.length c, .int .i64 (s1.p : Int), .int .i64 s1.k, .int .i64 s1.f], .slice none 0 0]) (by simp [results, Tryz.results166, go_sem, y0, y1, y2, y3, l1]) rfl ⟨_, rfl, empty_bytes rfl rfl (by omega), by (repeat first | with_reducible (first | exact zR | assumption | apply zA | apply zS | apply zD | apply zN) | refine zT (by with_reducible assumption) ?_ | omega | simp <;> omega)⟩
  ·have d1 : decide (n < (0 : Int)) = false := decide_eq_false h1
   by_cases h2 : (B.length : Int) - s.p < n
   ·have e : s.skip B.length n = (false, s.fail 1 B.length) := by unfold Rs.skip Rs.fail; rw [if_pos h0, if_neg h1, if_pos h2, if_pos h0]
    have d2 : decide ((B.length : Int) - (s.p : Int) < n) = true := decide_eq_true h2
    rw [e]
    generalize hs1 : s.fail 1 B.length = s1
    have HF := hid (fun (W : World) => hF.out W 1 B.length (by omega))
    rw [hs1] at HF
    clear hl hs h0 e hF
    unfold CV at *
    go_enter Tryz.func166, Tryz.ntmps166
    go_wp2_with fail
    refine (HF.out _).mono ?_
    rintro r w1 ⟨rfl, hb⟩
    have B1 : Blk w1 (w.heap.size + 1) 50 #[.slice none 0 0, .int .i64 0, .int .i64 0, .int .i64 0] := Blk.later (by (repeat first | assumption | exact kW (by first | (simp; done) | (simp; omega)) | apply kA | apply kD | apply kN | apply kF | simp <;> omega)) hb
    obtain ⟨y0, y1, y2, y3, g0, g1, g2, g3, l1⟩ := c_blk B1
    have hbw : Below w.heap.size w w1 := by (repeat first | with_reducible (first | exact zR | assumption | apply zA | apply zS | apply zD | apply zN) | refine zT (by with_reducible assumption) ?_ | omega | simp <;> omega)
    clear B1 hb
    go_wp2
    refine bodyPost_ret (v := .tuple #[.agg #[.slice a B.length c, .int .i64 (s1.p : Int), .int .i64 s1.k, .int .i64 s1.f], .slice none 0 0]) (by simp [results, Tryz.results166, go_sem, y0, y1, y2, y3, l1]) rfl ⟨_, rfl, empty_bytes rfl rfl (by omega), by (repeat first | with_reducible (first | exact zR | assumption | apply zA | apply zS | apply zD | apply zN) | refine zT (by with_reducible assumption) ?_ | omega | simp <;> omega)⟩
   ·have e : s.skip B.length n = (true, ⟨s.p + n.toNat, 0, 0⟩) := by unfold Rs.skip; rw [if_pos h0, if_neg h1, if_neg h2]
    have d2 : decide ((B.length : Int) - (s.p : Int) < n) = false := decide_eq_false h2
    have hz := hs.zero h0
    rw [e]
    obtain ⟨m, rfl⟩ : ∃ m : Nat, n = m := ⟨n.toNat, by omega⟩
    rw [show ((m : Int)).toNat = m by omega]
    have hp : s.p + m ≤ B.length := by omega
    simp only [if_true]
    obtain ⟨aD, cD, hsl, hsub⟩ := cut_bytes hl (lo := s.p) (hi := s.p + m) (by omega) hp
    have hlD : ((B.drop s.p).take (s.p + m - s.p)).length = m := by simp; omega
    rw [show s.p + m - s.p = m by omega] at hsl hsub hlD
    rw [show ((s.p + m : Nat) : Int) = (s.p : Int) + (m : Int) by omega] at hsl
    generalize (B.drop s.p).take m = D at *
    have hDm : m = D.length := hlD.symm
    have HSB := hid (fun (W : World) (hW : Below w.heap.size w W) => src_bytes (l := D) (lift (w := w) (A := rBytes) (cs := [.slice aD D.length cD]) (by rw [← hDm]; exact hsub) hW))
    have HONE := hid (byteCells_one D)
    have HDM := hid hDm
    have H0 := hid h0; have HZ := hid hz
    clear hl hs h0 hz e hsub hlD hDm
    unfold CV
    go_enter Tryz.func166, Tryz.ntmps166
    go_wp2_with (at_builtin; go_loud (refine wpList_append_src rfl _ _ _ rfl (w.heap.size + 2) 5 i0 (.int .u8 0) 1 1 Tryz.underlying28 hi hz0 hz1 hz2 rfl (by decide) (.slice none 0 0) 0 [] rfl ⟨rfl, .inl ⟨rfl, rfl⟩⟩ aD m cD (byteCells D) rfl (by rw [HDM.out]; exact HSB.out _ (by (repeat first | exact zR | assumption | apply zA | apply zS | apply zD | apply zN | refine zT (by assumption) ?_ | omega | simp <;> omega))) HONE.out (by simp only [maxLen]; omega) (by omega) (by first | omega | (simp; done) | (simp; omega)) ?_; intro v' w2 hown2 hgrow2 hat2; rw [Nat.zero_add, List.nil_append] at hown2; obtain ⟨a2, c2, rfl⟩ := own_form hown2; have k2 := Below.grown (Below.refl _ _) hgrow2 (Nat.le_refl _) (fun g e => by cases e); have B0 : Blk w2 w.heap.size 50 #[.slice a B.length c, .int .i64 (s.p : Int), .int .i64 s.k, .int .i64 s.f] := Blk.later (by (repeat first | assumption | exact kW (by first | (simp; done) | (simp; omega)) | apply kA | apply kD | apply kN | apply kF | simp <;> omega)) k2; have B1 : Blk w2 (w.heap.size + 1) 50 #[.slice none 0 0, .int .i64 0, .int .i64 0, .int .i64 0] := Blk.later (by (repeat first | assumption | exact kW (by first | (simp; done) | (simp; omega)) | apply kA | apply kD | apply kN | apply kF | simp <;> omega)) k2; obtain ⟨x0, x1, x2, x3, e0, e1, e2, e3, l0⟩ := c_blk B0; obtain ⟨y0, y1, y2, y3, g0, g1, g2, g3, l1⟩ := c_blk B1; have hbw : Below w.heap.size w w2 := by {(repeat (first | with_reducible exact Below.refl _ _ | with_reducible assumption | (with_reducible refine below_alloc ?_ _) | (with_reducible refine Below.setCell ?_ (by first | omega | (simp; done) | (simp; omega)) _) | (with_reducible refine Below.drew ?_) | (with_reducible refine below_drewN ?_ _) | (refine below_then (by with_reducible assumption) ?_)))}; have HO := hid hown2; clear hown2 hgrow2 hat2 B0 B1 k2))
    have hA := own_bytes2 HDM.out HO.out
    have HA := hid hA
    clear hA
    refine bodyPost_ret (v := .tuple #[.agg #[.slice a B.length c, .int .i64 ((s.p : Int) + (m : Int)), .int .i64 s.k, .int .i64 s.f], .slice a2 m c2]) (by simp [results, Tryz.results166, go_sem, y0, y1, y2, y3, l1]) rfl ⟨_, by rw [H0.out, HZ.out], ?_, by (repeat first | with_reducible (first | exact zR | assumption | apply zA | apply zS | apply zD | apply zN) | refine zT (by with_reducible assumption) ?_ | omega | simp <;> omega)⟩
    refine rBytes.mono (rBytes.keep HA.out fun q hq => ?_) fun q hq => ⟨by omega, by simp [World.setCell]; exact hq.2⟩
    repeat (rw [Below.heap_setCell _ _ _ _ (by dsimp only; omega)])
 ·have d0 : (s.k != (0 : Int)) = true := by simp [h0]
  have e : s.skip B.length n = (false, s) := by unfold Rs.skip; rw [if_neg h0]
  rw [e]
  clear hl hs h0 e
  unfold CV
  go_enter Tryz.func166, Tryz.ntmps166
  go_wp2
  refine bodyPost_ret (v := .tuple #[.agg #[.slice a B.length c, .int .i64 (s.p : Int), .int .i64 s.k, .int .i64 s.f], .slice none 0 0]) (by simp [results, Tryz.results166, go_sem]) rfl ⟨_, rfl, empty_bytes rfl rfl (by omega), by (repeat first | with_reducible (first | exact zR | assumption | apply zA | apply zS | apply zD | apply zN) | refine zT (by with_reducible assumption) ?_ | omega | simp <;> omega)⟩
end Go.Proofs.YtkipiefcnjfdjaaGreat
namespace Go.Proofs.YtkipiefcnjfdjaaGreat
open Go.RowKit Go.Bs Go.Maps
set_option linter.unusedVariables false
set_option linter.unusedSimpArgs false
def vget : Nat → Nat → List UInt8 → Nat × Nat × Int
 | i, x, [] => (0, i, 1)
 | i, x, c :: l =>
  if i = 9 ∧ 1 < c.toNat then (0, i + 1, 5)
  else if 0 < i ∧ c.toNat = 0 then (0, i + 1, 4)
  else if c.toNat < 128 then (x + c.toNat * 128 ^ i, i + 1, 0)
  else vget (i + 1) (x + c.toNat % 128 * 128 ^ i) l
def Rs.num (B : List UInt8) (s : Rs) : Rs × Nat :=
 if s.k = 0 then
  let r := vget 0 0 (B.drop s.p)
  (⟨s.p + r.2.1, r.2.2, if r.2.2 = 0 then 0 else if r.2.2 = 1 then B.length else s.p + r.2.1 - 1⟩, r.1)
 else (s, 0)
theorem vget_used : ∀ (l : List UInt8) (i x : Nat), (vget i x l).2.1 ≤ i + l.length ∧ i ≤ (vget i x l).2.1 ∧ ((vget i x l).2.2 = 0 ∨ (vget i x l).2.2 = 1 ∨ (vget i x l).2.2 = 4 ∨ (vget i x l).2.2 = 5) ∧ ((vget i x l).2.2 = 1 → (vget i x l).2.1 = i + l.length) ∧ ((vget i x l).2.2 ≠ 1 → i < (vget i x l).2.1)
 | [], i, x => by simp [vget]
 | c :: l, i, x => by
  unfold vget
  split
  ·simp
  ·split
   ·simp
   ·split
    ·simp
    ·have := vget_used l (i + 1) (x + c.toNat % 128 * 128 ^ i)
     refine ⟨by simp; omega, by omega, this.2.2.1, fun h => by have := this.2.2.2.1 h; simp; omega, fun h => by have := this.2.2.2.2 h; omega⟩
theorem Rs.num_ok {B : List UInt8} {s : Rs} (h : s.ok B.length) : (s.num B).1.ok B.length := by
 unfold Rs.num
 split
 ·have := vget_used (B.drop s.p) 0 0
  have hl : (B.drop s.p).length = B.length - s.p := by simp
  refine ⟨by dsimp only; have := h.le; omega, fun e => by dsimp only at e ⊢; rw [if_pos e]⟩
 ·exact h
theorem Rs.num_p {B : List UInt8} {s : Rs} : s.p ≤ (s.num B).1.p := by
 unfold Rs.num
 split
 ·dsimp only; omega
 ·exact Nat.le_refl _
theorem Rs.num_bad {B : List UInt8} {s : Rs} (h : (s.num B).1.k ≠ 0) : (s.num B).2 = 0 := by
 have key : ∀ (l : List UInt8) (i x : Nat), (vget i x l).2.2 ≠ 0 → (vget i x l).1 = 0 := by
  intro l
  induction l with
  | nil => intro i x h; rfl
  | cons c l ih =>
   intro i x h
   unfold vget at h ⊢
   split
   ·rfl
   ·rename_i h1
    rw [if_neg h1] at h
    split
    ·rfl
    ·rename_i h2
     rw [if_neg h2] at h
     split
     ·rename_i h3
      rw [if_pos h3] at h; simp at h
     ·rename_i h3
      rw [if_neg h3] at h
      exact ih _ _ h
 unfold Rs.num at *
 split
 ·rename_i h0
  rw [if_pos h0] at h
  exact key _ _ _ h
 ·rfl
theorem vget_small : ∀ (l : List UInt8) (i x : Nat), i ≤ 9 → x < 128 ^ i → (vget i x l).1 < 18446744073709551616
 | [], i, x, _, _ => by simp [vget]
 | c :: l, i, x, hi, hx => by
  unfold vget
  have hc := c.toNat_lt
  split
  ·simp
  ·rename_i h9
   split
   ·simp
   ·split
    ·rename_i h3
     dsimp only
     by_cases h : i = 9
     ·subst h
      have : c.toNat ≤ 1 := by omega
      have h1 : c.toNat * 128 ^ 9 ≤ 1 * 128 ^ 9 := Nat.mul_le_mul_right _ this
      have h2 : (128 : Nat) ^ 9 = 9223372036854775808 := by decide
      rw [h2] at *
      omega
     ·have h1 : c.toNat * 128 ^ i ≤ 127 * 128 ^ i := Nat.mul_le_mul_right _ (by omega)
      have h2 : (128 : Nat) ^ i ≤ 128 ^ 8 := Nat.pow_le_pow_right (by omega) (by omega)
      have h3 : (128 : Nat) ^ 8 = 72057594037927936 := by decide
      rw [h3] at h2
      omega
    ·rename_i h3
     have h9' : i ≠ 9 := fun e => h9 ⟨e, by omega⟩
     refine vget_small l (i + 1) _ (by omega) ?_
     have h1 : c.toNat % 128 * 128 ^ i ≤ 127 * 128 ^ i := Nat.mul_le_mul_right _ (by omega)
     rw [Nat.pow_succ]
     omega
theorem Rs.num_small {B : List UInt8} {s : Rs} : (s.num B).2 < 18446744073709551616 := by
 unfold Rs.num
 split
 ·exact vget_small _ 0 0 (by omega) (by simp)
 ·simp
end Go.Proofs.YtkipiefcnjfdjaaGreat
namespace Go.Bs
open Go.RowKit
set_option linter.unusedVariables false
def manyX (J : Nat → Act → World → Prop) (Q : Exit → Act → World → Prop) : Exit → Act → World → Prop
 | .goto l, a, w => J l a w
 | e, a, w => Q e a w
section
variable {P : Program} {a : Act} {w : World} {Q : Exit → Act → World → Prop}
theorem wp_scope_many {c : Code} (J : Nat → Act → World → Prop) (μ : Nat → Act → World → Nat)
  (pass : ∀ l a w, J l a w → ∃ rest, findLabel c l = some rest ∧ rest.wp P (manyX (fun l' a' w' => J l' a' w' ∧ μ l' a' w' < μ l a w) Q) a w)
  (first : c.wp P (manyX J Q) a w) : (Code.scope c).wp P Q a w := by
 intro b k cs
 have hg : ∀ {l rest}, findLabel c l = some rest → gotoIn l (.inScope c :: k) = some (.code rest :: .inScope c :: k) := fun hf => by simp [gotoIn, hf]
 have key : ∀ n l a w rest, findLabel c l = some rest → μ l a w = n → J l a w → ∃ e a' w', Q e a' w' ∧ Arrives P (lone (b.at a (.code rest :: .inScope c :: k)) cs w) b k cs e a' w' := by
  intro n
  induction n using Nat.strongRecOn with
  | _ n ih =>
   intro l a w rest hf hn hJ
   obtain ⟨rest', hf', hp⟩ := pass l a w hJ
   obtain rfl : rest' = rest := Option.some.inj (hf'.symm.trans hf)
   obtain ⟨e, a₁, w₁, hq, harr⟩ := hp b (.inScope c :: k) cs
   cases e with
   | normal => exact ⟨.normal, a₁, w₁, hq, Steps.trans harr (.one step_inScope)⟩
   | exit id => exact ⟨.exit id, a₁, w₁, hq, fun k' hk => harr k' (by simp [exitTo, hk])⟩
   | goto l' =>
    obtain ⟨hJ', hlt⟩ := hq
    obtain ⟨rest2, hf2, _⟩ := pass l' a₁ w₁ hJ'
    obtain ⟨e₂, a₂, w₂, hq₂, harr₂⟩ := ih _ (by omega) l' a₁ w₁ rest2 hf2 rfl hJ'
    exact ⟨e₂, a₂, w₂, hq₂, .of_steps (harr _ (hg hf2)) harr₂⟩
   | ret => exact ⟨_, a₁, w₁, hq, harr⟩
   | panic ch => exact ⟨_, a₁, w₁, hq, harr⟩
   | outgrown => exact ⟨_, a₁, w₁, hq, harr⟩
 obtain ⟨e, a₁, w₁, hq, harr⟩ := first b (.inScope c :: k) cs
 cases e with
 | normal => exact ⟨.normal, a₁, w₁, hq, .head step_scope (Steps.trans harr (.one step_inScope))⟩
 | exit id => exact ⟨.exit id, a₁, w₁, hq, fun k' hk => .head step_scope (harr k' (by simp [exitTo, hk]))⟩
 | goto l' =>
  obtain ⟨rest2, hf2, _⟩ := pass l' a₁ w₁ hq
  obtain ⟨e₂, a₂, w₂, hq₂, harr₂⟩ := key _ l' a₁ w₁ rest2 hf2 rfl hq
  exact ⟨e₂, a₂, w₂, hq₂, .of_steps (.head step_scope (harr _ (hg hf2))) harr₂⟩
 | ret => exact ⟨_, a₁, w₁, hq, .of_steps (.one step_scope) harr⟩
 | panic ch => exact ⟨_, a₁, w₁, hq, .of_steps (.one step_scope) harr⟩
 | outgrown => exact ⟨_, a₁, w₁, hq, .of_steps (.one step_scope) harr⟩
theorem wp_skip_seq {c : Code} (h : c.wp P Q a w) : (Code.skip.seq c).wp P Q a w := wp_seq (wp_skip h)
theorem wp_scope_entry {c rest : Code} (l : Nat) (J : Act → World → Prop) (μ : Act → World → Nat) (hf : findLabel c l = some (Code.skip.seq rest))
  (pass : ∀ a w, J a w → rest.wp P (Exit.jump l (fun a' w' => J a' w' ∧ μ a' w' < μ a w) Q) a w)
  (first : ∀ K : Exit → Act → World → Prop, (∀ a w, J a w → rest.wp P K a w) → c.wp P K a w) : (Code.scope c).wp P Q a w :=
 wp_scope_jumps l J μ hf (first _ fun a w h => wp_mono (pass a w h) fun e a' w' hq => by
  cases e <;> first | exact hq | exact ⟨hq.1, hq.2.1⟩) fun a w h => wp_skip_seq (pass a w h)
theorem wp_scope_two {c rest rest2 : Code} (l m : Nat) (hlm : l ≠ m) (J J2 : Act → World → Prop) (μ : Act → World → Nat) (hf : findLabel c l = some (Code.skip.seq rest)) (hf2 : findLabel c m = some (Code.skip.seq rest2))
  (pass : ∀ a w, J a w → rest.wp P (manyX (fun l' a' w' => (l' = l ∧ J a' w' ∧ μ a' w' < μ a w) ∨ (l' = m ∧ J2 a' w')) Q) a w)
  (last : ∀ a w, J2 a w → rest2.wp P (manyX (fun _ _ _ => False) Q) a w)
  (first : ∀ K : Exit → Act → World → Prop, (∀ a w, J a w → rest.wp P K a w) → c.wp P K a w) : (Code.scope c).wp P Q a w := by
 refine wp_scope_many (fun l' a w => (l' = l ∧ J a w) ∨ (l' = m ∧ J2 a w)) (fun l' a w => if l' = l then μ a w + 1 else 0) ?_ ?_
 ·rintro l' a w (⟨rfl, h⟩ | ⟨rfl, h⟩)
  ·refine ⟨_, hf, wp_skip_seq (wp_mono (pass a w h) fun e a' w' hq => ?_)⟩
   cases e <;> first | exact hq | skip
   rcases hq with ⟨rfl, h1, h2⟩ | ⟨rfl, h1⟩
   ·exact ⟨.inl ⟨rfl, h1⟩, by simp; omega⟩
   ·exact ⟨.inr ⟨rfl, h1⟩, by simp [Ne.symm hlm]⟩
  ·refine ⟨_, hf2, wp_skip_seq (wp_mono (last a w h) fun e a' w' hq => ?_)⟩
   cases e <;> first | exact hq | exact hq.elim
 ·refine first _ fun a w h => wp_mono (pass a w h) fun e a' w' hq => ?_
  cases e <;> first | exact hq | skip
  rcases hq with ⟨rfl, h1, _⟩ | ⟨rfl, h1⟩
  ·exact .inl ⟨rfl, h1⟩
  ·exact .inr ⟨rfl, h1⟩
end
end Go.Bs
namespace Go.Proofs.YtkipiefcnjfdjaaGreat
open Go.RowKit Go.Bs Go.Maps
set_option linter.unusedVariables false
set_option linter.unusedSimpArgs false
def vfin (L p i : Nat) (r : Nat × Nat × Int) : Rs × Nat := (⟨p + r.2.1 - i, r.2.2, if r.2.2 = 0 then 0 else if r.2.2 = 1 then L else ((p + r.2.1 - i : Nat) : Int) - 1⟩, r.1)
def vgo (B : List UInt8) (i X : Nat) (s : Rs) : Rs × Nat := if s.k = 0 then vfin B.length s.p i (vget i X (B.drop s.p)) else (s, 0)
theorem vgo_num (B : List UInt8) (s : Rs) : vgo B 0 0 s = s.num B := by
 unfold vgo Rs.num vfin
 simp
theorem vget_cons (i x : Nat) (c : UInt8) (l : List UInt8) : vget i x (c :: l) = if i = 9 ∧ 1 < c.toNat then (0, i + 1, 5) else if 0 < i ∧ c.toNat = 0 then (0, i + 1, 4) else if c.toNat < 128 then (x + c.toNat * 128 ^ i, i + 1, 0) else vget (i + 1) (x + c.toNat % 128 * 128 ^ i) l := by rw [vget]
theorem vgo_step {B : List UInt8} {s : Rs} (hs : s.ok B.length) (i X : Nat) : vgo B i X s =
  if (s.byte B).1.k = 0 then
   (if i = 9 ∧ 1 < (s.byte B).2.toNat then ((s.byte B).1.fail 5 ((s.byte B).1.p - 1), 0)
   else if 0 < i ∧ (s.byte B).2.toNat = 0 then ((s.byte B).1.fail 4 ((s.byte B).1.p - 1), 0)
   else if (s.byte B).2.toNat < 128 then ((s.byte B).1, X + (s.byte B).2.toNat * 128 ^ i)
   else vgo B (i + 1) (X + (s.byte B).2.toNat % 128 * 128 ^ i) (s.byte B).1)
  else ((s.byte B).1, 0) := by
 have hle := hs.le
 unfold Rs.byte
 by_cases h0 : s.k = 0
 ·by_cases h1 : s.p < B.length
  ·have e : s.skip B.length 1 = (true, ⟨s.p + 1, 0, 0⟩) := by
    unfold Rs.skip; rw [if_pos h0, if_neg (by omega), if_neg (by omega)]; simp
   rw [e]
   have hd : B.drop s.p = B.getD s.p 0 :: B.drop (s.p + 1) := by
    rw [List.drop_eq_getElem_cons h1]; simp [h1]
   simp only [if_true]
   unfold vgo
   rw [if_pos h0, hd, vget_cons]
   have hu := (vget_used (B.drop (s.p + 1)) (i + 1) (X + (B.getD s.p 0).toNat % 128 * 128 ^ i)).2.1
   have e1 : s.p + (i + 1) - i = s.p + 1 := by omega
   split
   ·simp [vfin, Rs.fail, e1]
   ·split
    ·simp [vfin, Rs.fail, e1]
    ·split
     ·simp [vfin, e1]
     ·generalize vget (i + 1) (X + (B.getD s.p 0).toNat % 128 * 128 ^ i) (B.drop (s.p + 1)) = r at *
      simp only [if_true, vfin]
      rw [show s.p + r.2.1 - i = s.p + 1 + r.2.1 - (i + 1) by omega]
  ·have e : s.skip B.length 1 = (false, ⟨s.p, 1, B.length⟩) := by
    unfold Rs.skip; rw [if_pos h0, if_neg (by omega), if_pos (by omega)]
   rw [e]
   have hd : B.drop s.p = [] := List.drop_eq_nil_of_le (by omega)
   unfold vgo
   rw [if_pos h0, hd]
   simp [vget, vfin]
 ·have e : s.skip B.length 1 = (false, s) := by unfold Rs.skip; rw [if_neg h0]
  rw [e]
  unfold vgo
  rw [if_neg h0]
  simp [h0]
theorem or_digit {i X m : Nat} (hX : X < 128 ^ i) (hx : X < 18446744073709551616) (hm : m * 128 ^ i < 18446744073709551616) : bits .or .u64 (X : Int) ((m * 128 ^ i : Nat) : Int) = ((X + m * 128 ^ i : Nat) : Int) := by
 rw [bits_or_u64_nat _ _ hx hm]
 have h1 : (128 : Nat) ^ i = 2 ^ (7 * i) := by rw [Nat.pow_mul]
 rw [h1] at hX ⊢
 rw [Nat.or_comm, ← Nat.shiftLeft_eq, ← Nat.shiftLeft_add_eq_or_of_lt hX, Nat.add_comm]
theorem or_digit2 {i X c : Nat} (hX : X < 128 ^ i) (hx : X < 18446744073709551616) (hm : c % 128 * 128 ^ i < 18446744073709551616) : bits .or .u64 (X : Int) (IntKind.u64.wrap ((c : Int) % 128 * 2 ^ (7 * i))) = ((X + c % 128 * 128 ^ i : Nat) : Int) := by
 have e : (c : Int) % 128 * 2 ^ (7 * i) = ((c % 128 * 128 ^ i : Nat) : Int) := by
  rw [show (128 : Nat) ^ i = 2 ^ (7 * i) by rw [Nat.pow_mul]]
  simp
 rw [e, IntKind.wrap_u64, Int.emod_eq_of_lt (by omega) (by omega)]
 exact or_digit hX hx hm
theorem digit_next {i X c : Nat} (hX : X < 128 ^ i) : X + c % 128 * 128 ^ i < 128 ^ (i + 1) := by
 have h1 : c % 128 * 128 ^ i ≤ 127 * 128 ^ i := Nat.mul_le_mul_right _ (by omega)
 rw [Nat.pow_succ]
 omega
theorem digit_fits {i X c : Nat} (hi : i ≤ 9) (hX : X < 128 ^ i) (h : i = 9 → c ≤ 1) : c % 128 * 128 ^ i < 18446744073709551616 ∧ X < 18446744073709551616 := by
 by_cases h9 : i = 9
 ·subst h9
  have h1 : (128 : Nat) ^ 9 = 9223372036854775808 := by decide
  rw [h1] at *
  have := h rfl
  have h2 : c % 128 * 9223372036854775808 ≤ 1 * 9223372036854775808 := Nat.mul_le_mul_right _ (by omega)
  omega
 ·have h1 : (128 : Nat) ^ i ≤ 128 ^ 8 := Nat.pow_le_pow_right (by omega) (by omega)
  have h3 : (128 : Nat) ^ 8 = 72057594037927936 := by decide
  have h2 : c % 128 * 128 ^ i ≤ 127 * 128 ^ i := Nat.mul_le_mul_right _ (by omega)
  omega
theorem byte_p {B : List UInt8} {s : Rs} {q : Nat} (hp : s.p = q) (h : (s.byte B).1.k = 0) : (s.byte B).1.p = q + 1 := by
 have h' : (s.skip B.length 1).2.k = 0 := h
 cases hk : (s.skip B.length 1).1
 ·exact absurd h' (Rs.skip_false hk).1
 ·have := (Rs.skip_true hk).2.2.2
  show (s.skip B.length 1).2.p = _
  rw [this, hp]; rfl
set_option maxRecDepth 100000 in
set_option maxHeartbeats 3200000 in
theorem varint_read (w : World) {g : Nat} {B : List UInt8} {a : Option Addr} {s : Rs} (h : RdAt w g B a s) (hB : B.length ≤ 1000000000000) : Calls Tryz.prog 210 #[.pointer (some ⟨g, 0, none⟩)] w fun r w' => r = .returned (.int .u64 ((s.num B).2 : Int)) ∧ RdStep w g B a (s.num B).1 w' := by
 have HH := hid h
 have HA := hid (rd_at w h)
 have hpL := h.ok.le
 clear h
 go_enter Tryz.func210, Tryz.ntmps210
 go_wp2
 refine wp_scope_entry 0 (fun a' W => ∃ (i X : Nat) (s' : Rs) (rest : Hid (vgo B i X s' = s.num B)) (u1 u4 u7 u8 u9 u10 u11 u12 u13 u14 u15 u16 u17 u18 u19 u20 u21 u22 u23 u24 u25 u26 u27 u28 u29 u30 u31 u32 u33 u34 u35 u36 u37 u38 u39 u40 u41 u42 u43 u44 u45 u46 u47 u48 u49 u50 u51 u52 u53 : Value), RdStep w g B a s' W ∧ s'.p = s.p + i ∧ i ≤ 9 ∧ X < 128 ^ i ∧ a' = { tmps := #[.pointer (some ⟨g, 0, none⟩), u1, .int .u64 0, .int .u64 (X : Int), u4, .int .i64 (7 * (i : Int)), .int .i64 (s.p : Int), u7, u8, u9, u10, u11, u12, u13, u14, u15, u16, u17, u18, u19, u20, u21, u22, u23, u24, u25, u26, u27, u28, u29, u30, u31, u32, u33, u34, u35, u36, u37, u38, u39, u40, u41, u42, u43, u44, u45, u46, u47, u48, u49, u50, u51, u52, u53], defers := [] }) (fun a' _ => 70 - (intOf (a'.tmps.getD 5 undef)).toNat) rfl ?_ ?_
 ·rintro a' W ⟨i, X, s', hrest, u1, u4, u7, u8, u9, u10, u11, u12, u13, u14, u15, u16, u17, u18, u19, u20, u21, u22, u23, u24, u25, u26, u27, u28, u29, u30, u31, u32, u33, u34, u35, u36, u37, u38, u39, u40, u41, u42, u43, u44, u45, u46, u47, u48, u49, u50, u51, u52, u53, hst, hp, hi, hX, rfl⟩
  have hk := hst.1
  have hB1 := hid (rd_byte W hk)
  have hvs := hid (vgo_step hk.ok i X)
  have hbok := Rs.byte_ok hk.ok
  have HBP : Hid ((s'.byte B).1.k = 0 → (s'.byte B).1.p = s.p + i + 1) := hid (byte_p hp)
  rw [hrest.out] at hvs
  clear hrest
  generalize s'.byte B = b at *
  obtain ⟨b1, c⟩ := b
  dsimp only at hB1 hvs hbok
  go_wp2_with fail
  refine hB1.out.mono ?_
  rintro r w1 ⟨rfl, hst1⟩
  have hstW := hst
  by_cases hbk : b1.k = 0
  ·have hG := rd_good w1 hst1.1
   rw [decide_eq_true hbk] at hG
   have HG := hid hG
   have HK := hid hbk
   have hc := c.toNat_lt
   have hbge : 1 ≤ b1.p := by have := HBP.out hbk; omega
   have hpl := hbok.le
   clear hG hbk
   go_wp2_with fail
   refine HG.out.mono ?_
   rintro r w2 ⟨rfl, hb2⟩
   by_cases h9 : i = 9
   ·have d1 : ((7 * (i : Int)) == 63) = true := by rw [h9]; rfl
    by_cases hc1 : 1 < c.toNat
    ·have d2 : decide ((1 : Int) < (c.toNat : Int)) = true := decide_eq_true (by omega)
     have HF := hid (rd_fail w2 (hst1.1.later hb2) 5 ((b1.p : Int) - 1) (by omega))
     have HAT := hid (rd_at w2 (hst1.1.later hb2))
     replace hvs := hvs.out
     rw [if_pos HK.out, if_pos ⟨h9, hc1⟩] at hvs
     have HN := hid hvs
     clear hvs
     (try clear h9); (try clear hc0); (try clear hc1); (try clear hi0); (try clear hc7)
     have HST1 := hid hst1
     clear hst1 hst hk hbok
     go_wp2_with fail
     refine HAT.out.mono ?_
     rintro r w2' ⟨rfl, rfl⟩
     go_wp2_with fail
     refine HF.out.mono ?_
     rintro r w3 ⟨rfl, hst3⟩
     have HST3 := hid (RdStep.trans HST1.out.2 (RdStep.trans (Tch.of_later (F := (· = g)) hb2) hst3))
     have HSTW := hid hstW
     clear hst3 hstW
     go_wp2
     simp only [Exit.jump]
     go_ret
     rw [HN.out]; exact ⟨rfl, RdStep.trans HSTW.out.2 HST3.out⟩
    ·have d2 : decide ((1 : Int) < (c.toNat : Int)) = false := decide_eq_false (by omega)
     have d5 : decide ((128 : Int) ≤ (c.toNat : Int)) = false := decide_eq_false (by omega)
     by_cases hc0 : c.toNat = 0
     ·have d3 : ((c.toNat : Int) == 0) = true := by rw [hc0]; rfl
      have d4 : decide ((s.p : Int) < (b1.p : Int) - 1) = true := decide_eq_true (by have := HBP.out HK.out; omega)
      have HF := hid (rd_fail w2 (hst1.1.later hb2) 4 ((b1.p : Int) - 1) (by omega))
      have HAT := hid (rd_at w2 (hst1.1.later hb2))
      replace hvs := hvs.out
      rw [if_pos HK.out, if_neg (fun e => hc1 e.2), if_pos ⟨by omega, hc0⟩] at hvs
      have HN := hid hvs
      clear hvs
      (try clear h9); (try clear hc0); (try clear hc1); (try clear hi0); (try clear hc7)
      have HST1 := hid hst1
      clear hst1 hst hk hbok
      go_wp2_with fail
      refine HAT.out.mono ?_
      rintro r w2' ⟨rfl, rfl⟩
      go_wp2_with fail
      refine HAT.out.mono ?_
      rintro r w2' ⟨rfl, rfl⟩
      go_wp2_with fail
      refine HF.out.mono ?_
      rintro r w3 ⟨rfl, hst3⟩
      have HST3 := hid (RdStep.trans HST1.out.2 (RdStep.trans (Tch.of_later (F := (· = g)) hb2) hst3))
      have HSTW := hid hstW
      clear hst3 hstW
      go_wp2
      simp only [Exit.jump]
      go_ret
      rw [HN.out]; exact ⟨rfl, RdStep.trans HSTW.out.2 HST3.out⟩
     ·have d3 : ((c.toNat : Int) == 0) = false := by simp [hc0]
      have HAT := hid (rd_at w2 (hst1.1.later hb2))
      replace hvs := hvs.out
      rw [if_pos HK.out, if_neg (fun e => hc1 e.2), if_neg (fun e => hc0 e.2), if_pos (by omega)] at hvs
      have HN := hid hvs
      clear hvs
      have HC7 : Hid (c.toNat % 128 = c.toNat) := hid (Nat.mod_eq_of_lt (by omega))
      have HSTW := hid hstW
      have hmul : c.toNat % 128 * 128 ^ i < 18446744073709551616 ∧ X < 18446744073709551616 := digit_fits hi hX (by omega)
      have E1 := hid (or_digit2 (c := c.toNat) hX hmul.2 hmul.1)
      clear hmul
      clear hstW; (try clear h9); (try clear hc0); (try clear hc1); (try clear hi0); (try clear hc7)
      have HST1 := hid hst1
      clear hst1 hst hk hbok
      go_wp2_with fail
      go_wp2
      simp only [Exit.jump]
      go_ret
      rw [HN.out]
      refine ⟨?_, RdStep.trans HSTW.out.2 (HST1.out.then hb2)⟩
      show Ending.returned (Value.int .u64 _) = _
      rw [E1.out, HC7.out]
   ·have d1 : ((7 * (i : Int)) == 63) = false := by rw [beq_eq_false_iff_ne]; omega
    by_cases hc0 : c.toNat = 0
    ·have d3 : ((c.toNat : Int) == 0) = true := by rw [hc0]; rfl
     by_cases hi0 : 0 < i
     ·have d4 : decide ((s.p : Int) < (b1.p : Int) - 1) = true := decide_eq_true (by have := HBP.out HK.out; omega)
      have HF := hid (rd_fail w2 (hst1.1.later hb2) 4 ((b1.p : Int) - 1) (by omega))
      have HAT := hid (rd_at w2 (hst1.1.later hb2))
      replace hvs := hvs.out
      rw [if_pos HK.out, if_neg (fun e => h9 e.1), if_pos ⟨hi0, hc0⟩] at hvs
      have HN := hid hvs
      clear hvs
      (try clear h9); (try clear hc0); (try clear hc1); (try clear hi0); (try clear hc7)
      have HST1 := hid hst1
      clear hst1 hst hk hbok
      go_wp2_with fail
      refine HAT.out.mono ?_
      rintro r w2' ⟨rfl, rfl⟩
      go_wp2_with fail
      refine HAT.out.mono ?_
      rintro r w2' ⟨rfl, rfl⟩
      go_wp2_with fail
      refine HF.out.mono ?_
      rintro r w3 ⟨rfl, hst3⟩
      have HST3 := hid (RdStep.trans HST1.out.2 (RdStep.trans (Tch.of_later (F := (· = g)) hb2) hst3))
      have HSTW := hid hstW
      clear hst3 hstW
      go_wp2
      simp only [Exit.jump]
      go_ret
      rw [HN.out]; exact ⟨rfl, RdStep.trans HSTW.out.2 HST3.out⟩
     ·have d4 : decide ((s.p : Int) < (b1.p : Int) - 1) = false := decide_eq_false (by have := HBP.out HK.out; omega)
      have d5 : decide ((128 : Int) ≤ (c.toNat : Int)) = false := decide_eq_false (by omega)
      have HAT := hid (rd_at w2 (hst1.1.later hb2))
      replace hvs := hvs.out
      rw [if_pos HK.out, if_neg (fun e => h9 e.1), if_neg (fun e => hi0 e.1), if_pos (by omega)] at hvs
      have HN := hid hvs
      clear hvs
      have HC7 : Hid (c.toNat % 128 = c.toNat) := hid (Nat.mod_eq_of_lt (by omega))
      have HSTW := hid hstW
      have hmul : c.toNat % 128 * 128 ^ i < 18446744073709551616 ∧ X < 18446744073709551616 := digit_fits hi hX (by omega)
      have E1 := hid (or_digit2 (c := c.toNat) hX hmul.2 hmul.1)
      clear hmul
      clear hstW; (try clear h9); (try clear hc0); (try clear hc1); (try clear hi0); (try clear hc7)
      have HST1 := hid hst1
      clear hst1 hst hk hbok
      go_wp2_with fail
      refine HAT.out.mono ?_
      rintro r w2' ⟨rfl, rfl⟩
      go_wp2_with fail
      go_wp2
      simp only [Exit.jump]
      go_ret
      rw [HN.out]
      refine ⟨?_, RdStep.trans HSTW.out.2 (HST1.out.then hb2)⟩
      show Ending.returned (Value.int .u64 _) = _
      rw [E1.out, HC7.out]
    ·have d3 : ((c.toNat : Int) == 0) = false := by simp [hc0]
     by_cases hc7 : c.toNat < 128
     ·have d5 : decide ((128 : Int) ≤ (c.toNat : Int)) = false := decide_eq_false (by omega)
      have HAT := hid (rd_at w2 (hst1.1.later hb2))
      replace hvs := hvs.out
      rw [if_pos HK.out, if_neg (fun e => h9 e.1), if_neg (fun e => hc0 e.2), if_pos hc7] at hvs
      have HN := hid hvs
      clear hvs
      have HC7 : Hid (c.toNat % 128 = c.toNat) := hid (Nat.mod_eq_of_lt (by omega))
      have HSTW := hid hstW
      have hmul : c.toNat % 128 * 128 ^ i < 18446744073709551616 ∧ X < 18446744073709551616 := digit_fits hi hX (by omega)
      have E1 := hid (or_digit2 (c := c.toNat) hX hmul.2 hmul.1)
      clear hmul
      clear hstW; (try clear h9); (try clear hc0); (try clear hc1); (try clear hi0); (try clear hc7)
      have HST1 := hid hst1
      clear hst1 hst hk hbok
      go_wp2_with fail
      go_wp2
      simp only [Exit.jump]
      go_ret
      rw [HN.out]
      refine ⟨?_, RdStep.trans HSTW.out.2 (HST1.out.then hb2)⟩
      show Ending.returned (Value.int .u64 _) = _
      rw [E1.out, HC7.out]
     ·have d5 : decide ((128 : Int) ≤ (c.toNat : Int)) = true := decide_eq_true (by omega)
      have HAT := hid (rd_at w2 (hst1.1.later hb2))
      replace hvs := hvs.out
      rw [if_pos HK.out, if_neg (fun e => h9 e.1), if_neg (fun e => hc0 e.2), if_neg hc7] at hvs
      have HN := hid hvs
      clear hvs
      have hi8 : i + 1 ≤ 9 := by omega
      have HX8 := hid (digit_next (c := c.toNat) hX)
      have HSTW := hid hstW
      have hmul : c.toNat % 128 * 128 ^ i < 18446744073709551616 ∧ X < 18446744073709551616 := digit_fits hi hX (fun e => absurd e h9)
      have E1 := hid (or_digit2 (c := c.toNat) hX hmul.2 hmul.1)
      clear hmul
      clear hstW; (try clear h9); (try clear hc0); (try clear hc1); (try clear hi0); (try clear hc7)
      have HST1 := hid hst1
      clear hst1 hst hk hbok
      go_wp2_with fail
      go_step3
      rw [E1.out, show 7 * (i : Int) + 7 = 7 * ((i + 1 : Nat) : Int) by omega]
      refine ⟨rfl, ⟨i + 1, _, b1, hid HN.out.symm, _, _, _, _, _, _, _, _, _, _, _, _, _, _, _, _, _, _, _, _, _, _, _, _, _, _, _, _, _, _, _, _, _, _, _, _, _, _, _, _, _, _, _, _, _, _, _, _, _, RdStep.trans HSTW.out.2 (HST1.out.then hb2), HBP.out HK.out, hi8, HX8.out, rfl⟩, ?_⟩
      simp [intOf]
      omega
  ·have hG := rd_good w1 hst1.1
   rw [decide_eq_false hbk] at hG
   have HG := hid hG
   replace hvs := hvs.out
   rw [if_neg hbk] at hvs
   have HN := hid hvs
   clear hvs
   have HST1 := hid hst1
   have HSTW := hid hstW
   clear hG hbk hst1 hst hk hbok hstW
   go_wp2_with fail
   refine HG.out.mono ?_
   rintro r w2 ⟨rfl, hb2⟩
   go_wp2
   simp only [Exit.jump]
   go_ret
   rw [HN.out]; exact ⟨rfl, RdStep.trans HSTW.out.2 (HST1.out.then hb2)⟩
 ·intro K hK
  go_wp2_with fail
  refine HA.out.mono ?_
  rintro r w1 ⟨rfl, rfl⟩
  go_wp2
  go_step3
  rename_i hkk
  exact hkk _ _ (hK _ _ ⟨0, 0, s, hid (vgo_num B s), _, _, _, _, _, _, _, _, _, _, _, _, _, _, _, _, _, _, _, _, _, _, _, _, _, _, _, _, _, _, _, _, _, _, _, _, _, _, _, _, _, _, _, _, _, _, _, _, _, RdStep.refl HH.out, by omega, by omega, by simp, rfl⟩)
end Go.Proofs.YtkipiefcnjfdjaaGreat
namespace Go.Proofs.YtkipiefcnjfdjaaGreat
open Go.RowKit Go.Bs Go.Maps
set_option linter.unusedVariables false
set_option linter.unusedSimpArgs false
def Rs.most (B : List UInt8) (s : Rs) (m : Nat) : Rs × Nat := if m < (s.num B).2 then ((s.num B).1.fail 2 s.p, 0) else s.num B
def Rs.int (B : List UInt8) (s : Rs) (m : Int) : Rs × Nat := if 0 ≤ m then s.most B m.toNat else ((s.num B).1.fail 2 s.p, 0)
def Rs.head (B : List UInt8) (s : Rs) : Rs × Bool × Nat :=
 if (s.num B).1.k = 0 then
  (if (s.num B).2 % 2 = 1 then (if 1048572 < (s.num B).2 / 2 then ((s.num B).1.fail 2 s.p, false, 0) else ((s.num B).1, true, (s.num B).2 / 2 + 4))
  else (if 1048575 < (s.num B).2 / 2 then ((s.num B).1.fail 2 s.p, false, 0) else ((s.num B).1, false, (s.num B).2 / 2 + 1)))
 else ((s.num B).1, false, 0)
def Rs.offset (B : List UInt8) (s : Rs) : Rs × Nat :=
 let t := if 65536 ≤ (s.num B).2 then (s.num B).1.fail 10 s.p else (s.num B).1
 (t, if t.k = 0 then (s.num B).2 + 1 else 0)
theorem Rs.most_ok {B : List UInt8} {s : Rs} (h : s.ok B.length) {m : Nat} : (s.most B m).1.ok B.length := by
 unfold Rs.most; split
 ·exact Rs.fail_ok (Rs.num_ok h) (by omega)
 ·exact Rs.num_ok h
theorem Rs.int_ok {B : List UInt8} {s : Rs} (h : s.ok B.length) {m : Int} : (s.int B m).1.ok B.length := by
 unfold Rs.int; split
 ·exact Rs.most_ok h
 ·exact Rs.fail_ok (Rs.num_ok h) (by omega)
theorem Rs.head_ok {B : List UInt8} {s : Rs} (h : s.ok B.length) : (s.head B).1.ok B.length := by
 unfold Rs.head; split
 ·split
  ·split
   ·exact Rs.fail_ok (Rs.num_ok h) (by omega)
   ·exact Rs.num_ok h
  ·split
   ·exact Rs.fail_ok (Rs.num_ok h) (by omega)
   ·exact Rs.num_ok h
 ·exact Rs.num_ok h
theorem Rs.offset_ok {B : List UInt8} {s : Rs} (h : s.ok B.length) : (s.offset B).1.ok B.length := by
 unfold Rs.offset; dsimp only; split
 ·exact Rs.fail_ok (Rs.num_ok h) (by omega)
 ·exact Rs.num_ok h
theorem Rs.int_le {B : List UInt8} {s : Rs} {m : Int} : (s.int B m).2 ≤ m.toNat := by
 unfold Rs.int Rs.most; split
 ·split
  ·simp
  ·omega
 ·simp
set_option maxRecDepth 100000 in
theorem varint_most (w : World) {g : Nat} {B : List UInt8} {a : Option Addr} {s : Rs} (h : RdAt w g B a s) (hB : B.length ≤ 1000000000000) (m : Nat) : Calls Tryz.prog 209 #[.pointer (some ⟨g, 0, none⟩), .int .u64 (m : Int)] w fun r w' => r = .returned (.int .u64 ((s.most B m).2 : Int)) ∧ RdStep w g B a (s.most B m).1 w' := by
 have HA := hid (rd_at w h)
 have HN := hid (varint_read w h hB)
 unfold Rs.most
 generalize s.num B = N at *
 obtain ⟨s1, x⟩ := N
 dsimp only at *
 clear h
 by_cases hm : m < x
 ·have d1 : decide (m < x) = true := decide_eq_true hm
  have d1' : decide ((m : Int) < (x : Int)) = true := decide_eq_true (by omega)
  rw [if_pos hm]
  clear hm
  go_enter Tryz.func209, Tryz.ntmps209
  go_wp2_with fail
  refine HA.out.mono ?_
  rintro r w' ⟨rfl, rfl⟩
  go_wp2_with fail
  refine HN.out.mono ?_
  rintro r w1 ⟨rfl, hst⟩
  have HF := hid (rd_fail w1 hst.1 2 s.p (by omega))
  have HST := hid hst
  clear hst
  go_wp2_with fail
  refine HF.out.mono ?_
  rintro r w2 ⟨rfl, hst2⟩
  have HST2 := hid hst2
  clear hst2
  go_wp2
  go_ret
  exact ⟨rfl, RdStep.trans HST.out.2 HST2.out⟩
 ·have d1 : decide (m < x) = false := decide_eq_false hm
  have d1' : decide ((m : Int) < (x : Int)) = false := decide_eq_false (by omega)
  rw [if_neg hm]
  clear hm
  go_enter Tryz.func209, Tryz.ntmps209
  go_wp2_with fail
  refine HA.out.mono ?_
  rintro r w' ⟨rfl, rfl⟩
  go_wp2_with fail
  refine HN.out.mono ?_
  rintro r w1 ⟨rfl, hst⟩
  have HST := hid hst
  clear hst
  go_wp2
  go_ret
  exact ⟨rfl, HST.out⟩
set_option maxRecDepth 100000 in
theorem varint_int (w : World) {g : Nat} {B : List UInt8} {a : Option Addr} {s : Rs} (h : RdAt w g B a s) (hB : B.length ≤ 1000000000000) (m : Int) (hm : -9223372036854775808 ≤ m ∧ m ≤ 9223372036854775807) : Calls Tryz.prog 152 #[.pointer (some ⟨g, 0, none⟩), .int .i64 m] w fun r w' => r = .returned (.int .i64 ((s.int B m).2 : Int)) ∧ RdStep w g B a (s.int B m).1 w' := by
 by_cases h0 : 0 ≤ m
 ·obtain ⟨n, rfl⟩ : ∃ n : Nat, m = n := ⟨m.toNat, by omega⟩
  have HM := hid (varint_most w h hB n)
  have hle : (s.int B n).2 ≤ 9223372036854775807 := by have := Rs.int_le (B := B) (s := s) (m := (n : Int)); omega
  have e : s.int B n = s.most B n := by unfold Rs.int; rw [if_pos h0]; rfl
  rw [e] at hle ⊢
  have d1 : decide ((0 : Int) ≤ (n : Int)) = true := decide_eq_true h0
  generalize s.most B n = N at *
  obtain ⟨s1, x⟩ := N
  dsimp only at *
  clear h e
  go_enter Tryz.func152, Tryz.ntmps152
  go_wp2_with fail
  refine HM.out.mono ?_
  rintro r w1 ⟨rfl, hst⟩
  have HST := hid hst
  clear hst
  go_wp2
  go_ret
  exact ⟨rfl, HST.out⟩
 ·have HA := hid (rd_at w h)
  have HN := hid (varint_read w h hB)
  have e : s.int B m = ((s.num B).1.fail 2 s.p, 0) := by unfold Rs.int; rw [if_neg h0]
  rw [e]
  have d1 : decide ((0 : Int) ≤ m) = false := decide_eq_false h0
  generalize s.num B = N at *
  obtain ⟨s1, x⟩ := N
  dsimp only at *
  clear h e h0
  go_enter Tryz.func152, Tryz.ntmps152
  go_wp2_with fail
  refine HA.out.mono ?_
  rintro r w' ⟨rfl, rfl⟩
  go_wp2_with fail
  refine HN.out.mono ?_
  rintro r w1 ⟨rfl, hst⟩
  have HF := hid (rd_fail w1 hst.1 2 s.p (by omega))
  have HST := hid hst
  clear hst
  go_wp2_with fail
  refine HF.out.mono ?_
  rintro r w2 ⟨rfl, hst2⟩
  have HST2 := hid hst2
  clear hst2
  go_wp2
  go_ret
  exact ⟨rfl, RdStep.trans HST.out.2 HST2.out⟩
set_option maxRecDepth 100000 in
set_option maxHeartbeats 1600000 in
theorem token_head (w : World) {g : Nat} {B : List UInt8} {a : Option Addr} {s : Rs} (h : RdAt w g B a s) (hB : B.length ≤ 1000000000000) : Calls Tryz.prog 254 #[.pointer (some ⟨g, 0, none⟩)] w fun r w' => r = .returned (.tuple #[.bool (s.head B).2.1, .int .i64 ((s.head B).2.2 : Int)]) ∧ RdStep w g B a (s.head B).1 w' := by
 have HA := hid (rd_at w h)
 have HN := hid (varint_read w h hB)
 have hsm := Rs.num_small (B := B) (s := s)
 unfold Rs.head
 generalize s.num B = N at *
 obtain ⟨s1, x⟩ := N
 dsimp only at *
 clear h
 by_cases hk : s1.k = 0
 ·rw [if_pos hk]
  by_cases h2 : x % 2 = 1
  ·have d2 : (((x : Int) % 2) == 1) = true := by rw [beq_iff_eq]; omega
   rw [if_pos h2]
   by_cases hl : 1048572 < x / 2
   ·have d3 : decide ((1048572 : Int) < (x : Int) / 2) = true := decide_eq_true (by omega)
    rw [if_pos hl]
    have dk : decide (s1.k = 0) = true := decide_eq_true hk
    clear hk h2 hl
    go_enter Tryz.func254, Tryz.ntmps254
    go_wp2_with fail
    refine HA.out.mono ?_
    rintro r w' ⟨rfl, rfl⟩
    go_wp2_with fail
    refine HN.out.mono ?_
    rintro r w1 ⟨rfl, hst⟩
    have HG := hid (rd_good w1 hst.1)
    rw [dk] at HG
    have HST := hid hst
    clear hst dk
    go_wp2_with fail
    refine HG.out.mono ?_
    rintro r w2 ⟨rfl, hb2⟩
    have HF := hid (rd_fail w2 (HST.out.1.later hb2) 2 s.p (by omega))
    go_wp2_with fail
    refine HF.out.mono ?_
    rintro r w3 ⟨rfl, hst3⟩
    have HST3 := hid hst3
    clear hst3
    go_wp2
    go_ret2
    exact ⟨rfl, RdStep.trans (HST.out.then hb2).2 HST3.out⟩
   ·have d3 : decide ((1048572 : Int) < (x : Int) / 2) = false := decide_eq_false (by omega)
    rw [if_neg hl]
    have dk : decide (s1.k = 0) = true := decide_eq_true hk
    clear hk h2
    go_enter Tryz.func254, Tryz.ntmps254
    go_wp2_with fail
    refine HA.out.mono ?_
    rintro r w' ⟨rfl, rfl⟩
    go_wp2_with fail
    refine HN.out.mono ?_
    rintro r w1 ⟨rfl, hst⟩
    have HG := hid (rd_good w1 hst.1)
    rw [dk] at HG
    have HST := hid hst
    clear hst dk
    go_wp2_with fail
    refine HG.out.mono ?_
    rintro r w2 ⟨rfl, hb2⟩
    go_wp2
    go_ret2
    exact ⟨by simp, HST.out.then hb2⟩
  ·have d2 : (((x : Int) % 2) == 1) = false := by rw [beq_eq_false_iff_ne]; omega
   rw [if_neg h2]
   by_cases hl : 1048575 < x / 2
   ·have d3 : decide ((1048575 : Int) < (x : Int) / 2) = true := decide_eq_true (by omega)
    rw [if_pos hl]
    have dk : decide (s1.k = 0) = true := decide_eq_true hk
    clear hk h2 hl
    go_enter Tryz.func254, Tryz.ntmps254
    go_wp2_with fail
    refine HA.out.mono ?_
    rintro r w' ⟨rfl, rfl⟩
    go_wp2_with fail
    refine HN.out.mono ?_
    rintro r w1 ⟨rfl, hst⟩
    have HG := hid (rd_good w1 hst.1)
    rw [dk] at HG
    have HST := hid hst
    clear hst dk
    go_wp2_with fail
    refine HG.out.mono ?_
    rintro r w2 ⟨rfl, hb2⟩
    have HF := hid (rd_fail w2 (HST.out.1.later hb2) 2 s.p (by omega))
    go_wp2_with fail
    refine HF.out.mono ?_
    rintro r w3 ⟨rfl, hst3⟩
    have HST3 := hid hst3
    clear hst3
    go_wp2
    go_ret2
    exact ⟨rfl, RdStep.trans (HST.out.then hb2).2 HST3.out⟩
   ·have d3 : decide ((1048575 : Int) < (x : Int) / 2) = false := decide_eq_false (by omega)
    rw [if_neg hl]
    have dk : decide (s1.k = 0) = true := decide_eq_true hk
    clear hk h2
    go_enter Tryz.func254, Tryz.ntmps254
    go_wp2_with fail
    refine HA.out.mono ?_
    rintro r w' ⟨rfl, rfl⟩
    go_wp2_with fail
    refine HN.out.mono ?_
    rintro r w1 ⟨rfl, hst⟩
    have HG := hid (rd_good w1 hst.1)
    rw [dk] at HG
    have HST := hid hst
    clear hst dk
    go_wp2_with fail
    refine HG.out.mono ?_
    rintro r w2 ⟨rfl, hb2⟩
    go_wp2
    go_ret2
    exact ⟨by simp, HST.out.then hb2⟩
 ·rw [if_neg hk]
  have dk : decide (s1.k = 0) = false := decide_eq_false hk
  clear hk
  go_enter Tryz.func254, Tryz.ntmps254
  go_wp2_with fail
  refine HA.out.mono ?_
  rintro r w' ⟨rfl, rfl⟩
  go_wp2_with fail
  refine HN.out.mono ?_
  rintro r w1 ⟨rfl, hst⟩
  have HG := hid (rd_good w1 hst.1)
  rw [dk] at HG
  have HST := hid hst
  clear hst dk
  go_wp2_with fail
  refine HG.out.mono ?_
  rintro r w2 ⟨rfl, hb2⟩
  go_wp2
  go_ret2
  exact ⟨rfl, HST.out.then hb2⟩
set_option maxRecDepth 100000 in
set_option maxHeartbeats 1600000 in
theorem token_offset (w : World) {g : Nat} {B : List UInt8} {a : Option Addr} {s : Rs} (h : RdAt w g B a s) (hB : B.length ≤ 1000000000000) : Calls Tryz.prog 255 #[.pointer (some ⟨g, 0, none⟩)] w fun r w' => r = .returned (.int .i64 ((s.offset B).2 : Int)) ∧ RdStep w g B a (s.offset B).1 w' := by
 have HA := hid (rd_at w h)
 have HN := hid (varint_read w h hB)
 have hsm := Rs.num_small (B := B) (s := s)
 unfold Rs.offset
 dsimp only
 generalize s.num B = N at *
 obtain ⟨s1, x⟩ := N
 dsimp only at *
 clear h
 by_cases hl : 65536 ≤ x
 ·have d1 : decide ((65536 : Int) ≤ (x : Int)) = true := decide_eq_true (by omega)
  have hnk : (s1.fail 10 s.p).k ≠ 0 := by unfold Rs.fail; split <;> simp_all
  rw [if_pos hl, if_neg hnk]
  have dk : decide ((s1.fail 10 s.p).k = 0) = false := decide_eq_false hnk
  have HFF := hid (fun (W : World) (h : RdAt W g B a s1) => rd_fail W h 10 s.p (by omega))
  generalize s1.fail 10 s.p = s2 at *
  clear hl hnk
  go_enter Tryz.func255, Tryz.ntmps255
  go_wp2_with fail
  refine HA.out.mono ?_
  rintro r w' ⟨rfl, rfl⟩
  go_wp2_with fail
  refine HN.out.mono ?_
  rintro r w1 ⟨rfl, hst⟩
  have HF := hid (HFF.out w1 hst.1)
  have HST := hid hst
  clear hst
  go_wp2_with fail
  refine HF.out.mono ?_
  rintro r w2 ⟨rfl, hst2⟩
  have HG := hid (rd_good w2 hst2.1)
  rw [dk] at HG
  have HST2 := hid hst2
  clear hst2 dk
  go_wp2_with fail
  refine HG.out.mono ?_
  rintro r w3 ⟨rfl, hb3⟩
  go_wp2
  go_ret
  exact ⟨rfl, RdStep.trans HST.out.2 (HST2.out.then hb3)⟩
 ·have d1 : decide ((65536 : Int) ≤ (x : Int)) = false := decide_eq_false (by omega)
  rw [if_neg hl]
  by_cases hk : s1.k = 0
  all_goals
   first | rw [if_pos hk] | rw [if_neg hk]
   first | have dk : decide (s1.k = 0) = true := decide_eq_true hk | have dk : decide (s1.k = 0) = false := decide_eq_false hk
   clear hk
   go_enter Tryz.func255, Tryz.ntmps255
   go_wp2_with fail
   refine HA.out.mono ?_
   rintro r w' ⟨rfl, rfl⟩
   go_wp2_with fail
   refine HN.out.mono ?_
   rintro r w1 ⟨rfl, hst⟩
   have HG := hid (rd_good w1 hst.1)
   rw [dk] at HG
   have HST := hid hst
   clear hst dk
   go_wp2_with fail
   refine HG.out.mono ?_
   rintro r w3 ⟨rfl, hb3⟩
   go_wp2
   go_ret
   exact ⟨by first | rfl | simp, HST.out.then hb3⟩
end Go.Proofs.YtkipiefcnjfdjaaGreat
namespace Go.Proofs.YtkipiefcnjfdjaaGreat
open Go.RowKit Go.Bs Go.Maps
set_option linter.unusedVariables false
set_option linter.unusedSimpArgs false
def dsum : List UInt8 → Nat
 | [] => 0
 | c :: l => c.toNat % 128 + 128 * dsum l
theorem dsum_snoc : ∀ (l : List UInt8) (c : UInt8), dsum (l ++ [c]) = dsum l + c.toNat % 128 * 128 ^ l.length
 | [], c => by simp [dsum]
 | d :: l, c => by
  simp only [List.cons_append, dsum, dsum_snoc l c, List.length_cons, Nat.pow_succ]
  rw [Nat.mul_add, Nat.mul_comm (128 ^ l.length) 128, Nat.mul_left_comm]
  omega
theorem dsum_lt : ∀ l : List UInt8, dsum l < 128 ^ l.length
 | [] => by simp [dsum]
 | c :: l => by
  have := dsum_lt l
  simp only [dsum, List.length_cons, Nat.pow_succ]
  omega
theorem dsum_drop : ∀ (l : List UInt8) (k : Nat), dsum (l.drop k) ≤ dsum l
 | [], k => by simp
 | c :: l, 0 => by simp
 | c :: l, k + 1 => by
  have := dsum_drop l k
  simp only [List.drop_succ_cons, dsum]
  omega
theorem dsum_at {l : List UInt8} {m : Nat} (h : m < l.length) : dsum (l.drop m) = l[m].toNat % 128 + 128 * dsum (l.drop (m + 1)) := by
 rw [List.drop_eq_getElem_cons h]; rfl
theorem dsum_take {l : List UInt8} {n : Nat} (h : n < l.length) : dsum (l.take (n + 1)) = dsum (l.take n) + l[n].toNat % 128 * 128 ^ n := by
 rw [List.take_succ_eq_append_getElem h, dsum_snoc, List.length_take, Nat.min_eq_left (by omega)]
theorem dsum_lt' (l : List UInt8) (n : Nat) : dsum (l.take n) < 128 ^ n := Nat.lt_of_lt_of_le (dsum_lt _) (Nat.pow_le_pow_right (by omega) (by simp; omega))
theorem digit_sum {i X c : Nat} (hi : i ≤ 9) (hX : X < 128 ^ i) (h : i = 9 → c ≤ 1) : X + c % 128 * 128 ^ i < 18446744073709551616 := by
 by_cases h9 : i = 9
 ·subst h9
  have h1 : (128 : Nat) ^ 9 = 9223372036854775808 := by decide
  rw [h1] at *
  have := h rfl
  have h2 : c % 128 * 9223372036854775808 ≤ 1 * 9223372036854775808 := Nat.mul_le_mul_right _ (by omega)
  omega
 ·have h1 : (128 : Nat) ^ i ≤ 128 ^ 8 := Nat.pow_le_pow_right (by omega) (by omega)
  have h3 : (128 : Nat) ^ 8 = 72057594037927936 := by decide
  have h2 : c % 128 * 128 ^ i ≤ 127 * 128 ^ i := Nat.mul_le_mul_right _ (by omega)
  omega
def gfin (L : Nat) (r : Nat × Nat × Int) : Nat × Nat × Int × Int :=
 if r.2.2 = 0 then (r.1, r.2.1, 0, 0) else if r.2.2 = 1 then (0, 0, 1, (L : Int)) else (0, 0, r.2.2, (r.2.1 : Int) - 1)
def gget (b : List UInt8) : Nat × Nat × Int × Int := gfin b.length (vget 0 0 b)
theorem vget_at {b : List UInt8} {n : Nat} (h : n < b.length) : vget n (dsum (b.take n)) (b.drop n) =
  if n = 9 ∧ 1 < b[n].toNat then (0, n + 1, 5) else if 0 < n ∧ b[n].toNat = 0 then (0, n + 1, 4) else if b[n].toNat < 128 then (dsum (b.take n) + b[n].toNat * 128 ^ n, n + 1, 0) else vget (n + 1) (dsum (b.take (n + 1))) (b.drop (n + 1)) := by
 rw [List.drop_eq_getElem_cons h, vget_cons, dsum_take h]
set_option maxRecDepth 100000 in
set_option maxHeartbeats 3200000 in
theorem ref04_get (w : World) (b : List UInt8) (a : Option Addr) (n c : Nat) (hl : rBytes.r (· < w.heap.size) w [.slice a n c] b) (hB : b.length ≤ 1000000000000) :
  Calls Tryz.prog 216 #[.slice a n c] w fun r w' => r = .returned (.tuple #[.int .u64 ((gget b).1 : Int), .int .i64 ((gget b).2.1 : Int), .agg #[.int .i64 (gget b).2.2.1, .int .i64 (gget b).2.2.2]]) ∧ Below w.heap.size w w' := by
 obtain ⟨rfl, hm, _, _⟩ := sl_len hl
 have HL := hid hl
 clear hl
 go_enter Tryz.func216, Tryz.ntmps216
 go_wp2_with fail
 refine wp_world (fun W => Blk W w.heap.size 48 #[.int .i64 0, .int .i64 0] ∧ Below w.heap.size w W) ⟨by (repeat first | assumption | exact kW (by first | (simp; done) | (simp; omega)) | apply kA | apply kD | apply kN | apply kF | simp <;> omega), by (repeat first | with_reducible (first | exact zR | assumption | apply zA | apply zS | apply zD | apply zN) | refine zT (by with_reducible assumption) ?_ | omega | simp <;> omega)⟩ ?_
 intro W ⟨hF, hbW⟩
 go_loopw [5] (fun i wr => ∃ n : Nat, n ≤ b.length ∧ n ≤ 9 ∧ i = .int .i64 n ∧ Hid (gget b = gfin b.length (vget n (dsum (b.take n)) (b.drop n))) ∧ wr = W) (fun i _ => b.length - (intOf i).toNat)
 case atStart => exact ⟨0, Nat.zero_le _, by omega, rfl, hid rfl, rfl⟩
 case round =>
  obtain ⟨n, hn, hn9, rfl, hg, rfl⟩ := hrel
  rcases Nat.lt_or_ge n b.length with hlt | hge
  ·obtain ⟨ga, oa, hA, hga, hc⟩ := byte_at (lift HL.out hbW) hlt
   subst hA
   have d0 : decide ((n : Int) < (b.length : Int)) = true := decide_eq_true (by omega)
   have d0' : decide (n < b.length) = true := decide_eq_true hlt
   have i1 : (n : Int) < (b.length : Int) := by omega
   have hgv := hg.out
   have hvat := vget_at hlt
   have hdt := dsum_take hlt
   generalize b[n] = e at hvat hdt hc
   have hc255 := e.toNat_lt
   by_cases h9 : n = 9
   ·have d1 : ((n : Int) == 9) = true := by rw [h9]; rfl
    have d3 : decide ((0 : Int) < (n : Int)) = true := decide_eq_true (by omega)
    have d3' : decide (0 < n) = true := decide_eq_true (by omega)
    by_cases hc1 : 1 < e.toNat
    ·have d2 : decide ((1 : Int) < (e.toNat : Int)) = true := decide_eq_true (by omega)
     have d2' : decide (1 < e.toNat) = true := decide_eq_true (by omega)
     rw [hvat, if_pos ⟨h9, hc1⟩] at hgv
     have HG := hid hgv
     clear hgv hg hvat hdt
     (try clear h9); (try clear hc0); (try clear hc1); (try clear hn0); (try clear hc7)
     go_wp2_with fail
     refine (ref01_at wr 5 n (by omega)).mono ?_
     rintro r w1 ⟨rfl, hb1⟩
     obtain ⟨y0, y1, g0, g1, l1⟩ := f_blk (hF.later hb1)
     have hbw1 := below_then hb1 hbW
     go_wp2
     refine bodyPost_ret (v := .tuple #[.int .u64 0, .int .i64 0, .agg #[.int .i64 5, .int .i64 n]]) (by simp [results, Tryz.results216, go_sem, y0, y1, l1]) rfl ⟨?_, by (repeat first | with_reducible (first | exact zR | assumption | apply zA | apply zS | apply zD | apply zN) | refine zT (by with_reducible assumption) ?_ | omega | simp <;> omega)⟩
     rw [HG.out]
     simp [gfin]
    ·have d2 : decide ((1 : Int) < (e.toNat : Int)) = false := decide_eq_false (by omega)
     have d2' : decide (1 < e.toNat) = false := decide_eq_false (by omega)
     by_cases hc0 : e.toNat = 0
     ·have d4 : ((e.toNat : Int) == 0) = true := by rw [hc0]; rfl
      rw [hvat, if_neg (fun e => hc1 e.2), if_pos ⟨by omega, hc0⟩] at hgv
      have HG := hid hgv
      clear hgv hg hvat hdt
      (try clear h9); (try clear hc0); (try clear hc1); (try clear hn0); (try clear hc7)
      go_wp2_with fail
      refine (ref01_at wr 4 n (by omega)).mono ?_
      rintro r w1 ⟨rfl, hb1⟩
      obtain ⟨y0, y1, g0, g1, l1⟩ := f_blk (hF.later hb1)
      have hbw1 := below_then hb1 hbW
      go_wp2
      refine bodyPost_ret (v := .tuple #[.int .u64 0, .int .i64 0, .agg #[.int .i64 4, .int .i64 n]]) (by simp [results, Tryz.results216, go_sem, y0, y1, l1]) rfl ⟨?_, by (repeat first | with_reducible (first | exact zR | assumption | apply zA | apply zS | apply zD | apply zN) | refine zT (by with_reducible assumption) ?_ | omega | simp <;> omega)⟩
      rw [HG.out]
      simp [gfin]
     ·have d4 : ((e.toNat : Int) == 0) = false := by rw [beq_eq_false_iff_ne]; omega
      have d5 : decide ((e.toNat : Int) < 128) = true := decide_eq_true (by omega)
      have d5' : decide (e.toNat < 128) = true := decide_eq_true (by omega)
      have hfit := digit_fits hn9 (dsum_lt' b n) (c := e.toNat) (fun _ => by omega)
      have hmod : e.toNat % 128 = e.toNat := Nat.mod_eq_of_lt (by omega)
      rw [hvat, if_neg (fun e => hc1 e.2), if_neg (fun e => hc0 e.2), if_pos (by omega)] at hgv
      have HDT := hid hdt
      have hL : dsum (b.take (n + 1)) < 18446744073709551616 := by
       rw [HDT.out]
       exact digit_sum hn9 (dsum_lt' b n) (fun _ => by omega)
      rw [← hmod, ← HDT.out] at hgv
      have HG := hid hgv
      have hn1 : Hid ((b.take (n + 1)).length = n + 1) := hid (by simp; omega)
      have HTK : Hid (∀ m, (h : m < n + 1) → (b.take (n + 1))[m]'(by rw [hn1.out]; exact h) = b[m]'(by omega)) := hid (fun m h => by simp)
      have hd0 : Hid (dsum ((b.take (n + 1)).drop (n + 1)) = 0) := hid (by rw [List.drop_eq_nil_of_le (by simp; omega)]; rfl)
      generalize b.take (n + 1) = L at *
      clear hgv hg hfit hmod HDT hvat hdt
      have H9 := hid h9; have h9n : n ≤ 9 ∧ 9 ≤ n := by omega
      have d09 : decide ((9 : Int) < (b.length : Int)) = true := decide_eq_true (by omega)
      have d09' : decide (9 < b.length) = true := decide_eq_true (by omega)
      have i19 : (9 : Int) < (b.length : Int) := by omega
      have hc9 := hc
      rw [show oa + n = oa + 9 by omega] at hc9
      (try clear h9); (try clear hc0); (try clear hc1); (try clear hn0); (try clear hc7)
      go_wp2_with fail
      go_loopw [6, 7] (fun x i w2 => ∃ (k : Nat) (j : Int), k ≤ n + 1 ∧ Hid (j = (k : Int) - 1) ∧ -1 ≤ j ∧ j ≤ n ∧ i = .int .i64 j ∧ x = .int .u64 ((dsum (L.drop k) : Nat) : Int) ∧ w2 = wr) (fun _ i _ => (intOf i + 1).toNat)
      case atStart => exact ⟨n + 1, n, by omega, hid (by omega), by omega, by omega, rfl, by rw [hd0.out]; rfl, rfl⟩
      case round =>
       obtain ⟨k, j, hk, hj, hj1, hj2, rfl, rfl, rfl⟩ := hrel
       rcases Nat.eq_zero_or_pos k with hk0 | hk0
       ·have e1 : j = -1 := by have := hj.out; omega
        subst e1
        subst hk0
        have e2 : Hid (L.drop 0 = L) := hid rfl
        rw [e2.out]
        obtain ⟨y0, y1, g0, g1, l1⟩ := f_blk hF
        go_wp2
        refine bodyPost_ret (v := .tuple #[.int .u64 ((dsum L : Nat) : Int), .int .i64 (10), .agg #[.int .i64 0, .int .i64 0]]) (by simp [results, Tryz.results216, go_sem, y0, y1, l1]) rfl ⟨?_, by (repeat first | with_reducible (first | exact zR | assumption | apply zA | apply zS | apply zD | apply zN) | refine zT (by with_reducible assumption) ?_ | omega | simp <;> omega)⟩
        rw [HG.out]
        simp [gfin, H9.out]
       ·obtain ⟨m, rfl⟩ : ∃ m, k = m + 1 := ⟨k - 1, by omega⟩
        obtain rfl : j = (m : Int) := by have := hj.out; omega
        have hmb : m < b.length := by omega
        obtain ⟨gb, ob, hA, _, hcm⟩ := byte_at (lift HL.out hbW) hmb
        simp only [Option.some.injEq, Addr.mk.injEq, and_true] at hA
        obtain ⟨rfl, rfl⟩ := hA
        have HS : Hid (dsum (L.drop m) = b[m].toNat % 128 + 128 * dsum (L.drop (m + 1))) := hid (by rw [dsum_at (by rw [hn1.out]; omega), HTK.out m (by omega)])
        have hle : dsum (L.drop m) < 18446744073709551616 := Nat.lt_of_le_of_lt (dsum_drop L m) hL
        rw [HS.out] at hle
        generalize dsum (L.drop (m + 1)) = X at *
        generalize b[m] = d at *
        have i1 : (m : Int) < (b.length : Int) := by omega
        have i2 : (0 : Int) ≤ (m : Int) := by omega
        have hd := d.toNat_lt
        have hle2 : 128 * (X : Int) + (d.toNat : Int) % 128 ≤ 18446744073709551615 := by omega
        have hle3 : 128 * (X : Int) ≤ 18446744073709551615 := by omega
        have HSM := hid hj
        clear hj
        go_wp2
        go_roundw
        case rel => exact ⟨m, (m : Int) - 1, by omega, hid rfl, by omega, by omega, by go_num, by rw [HS.out]; go_num, by first | trivial | rfl⟩
        case measure => simp [intOf]
   ·have d1 : ((n : Int) == 9) = false := by rw [beq_eq_false_iff_ne]; omega
    by_cases hc0 : e.toNat = 0
    ·have d4 : ((e.toNat : Int) == 0) = true := by rw [hc0]; rfl
     by_cases hn0 : 0 < n
     ·have d3 : decide ((0 : Int) < (n : Int)) = true := decide_eq_true (by omega)
      have d3' : decide (0 < n) = true := decide_eq_true (by omega)
      rw [hvat, if_neg (fun e => h9 e.1), if_pos ⟨hn0, hc0⟩] at hgv
      have HG := hid hgv
      clear hgv hg hvat hdt
      (try clear h9); (try clear hc0); (try clear hc1); (try clear hn0); (try clear hc7)
      go_wp2_with fail
      refine (ref01_at wr 4 n (by omega)).mono ?_
      rintro r w1 ⟨rfl, hb1⟩
      obtain ⟨y0, y1, g0, g1, l1⟩ := f_blk (hF.later hb1)
      have hbw1 := below_then hb1 hbW
      go_wp2
      refine bodyPost_ret (v := .tuple #[.int .u64 0, .int .i64 0, .agg #[.int .i64 4, .int .i64 n]]) (by simp [results, Tryz.results216, go_sem, y0, y1, l1]) rfl ⟨?_, by (repeat first | with_reducible (first | exact zR | assumption | apply zA | apply zS | apply zD | apply zN) | refine zT (by with_reducible assumption) ?_ | omega | simp <;> omega)⟩
      rw [HG.out]
      simp [gfin]
     ·have d3 : decide ((0 : Int) < (n : Int)) = false := decide_eq_false (by omega)
      have d3' : decide (0 < n) = false := decide_eq_false (by omega)
      have d5 : decide ((e.toNat : Int) < 128) = true := decide_eq_true (by omega)
      have d5' : decide (e.toNat < 128) = true := decide_eq_true (by omega)
      have hfit := digit_fits hn9 (dsum_lt' b n) (c := e.toNat) (fun e => absurd e h9)
      have hmod : e.toNat % 128 = e.toNat := Nat.mod_eq_of_lt (by omega)
      rw [hvat, if_neg (fun e => h9 e.1), if_neg (fun e => hn0 e.1), if_pos (by omega)] at hgv
      have HDT := hid hdt
      have hL : dsum (b.take (n + 1)) < 18446744073709551616 := by
       rw [HDT.out]
       exact digit_sum hn9 (dsum_lt' b n) (fun e => absurd e h9)
      rw [← hmod, ← HDT.out] at hgv
      have HG := hid hgv
      have hn1 : Hid ((b.take (n + 1)).length = n + 1) := hid (by simp; omega)
      have HTK : Hid (∀ m, (h : m < n + 1) → (b.take (n + 1))[m]'(by rw [hn1.out]; exact h) = b[m]'(by omega)) := hid (fun m h => by simp)
      have hd0 : Hid (dsum ((b.take (n + 1)).drop (n + 1)) = 0) := hid (by rw [List.drop_eq_nil_of_le (by simp; omega)]; rfl)
      generalize b.take (n + 1) = L at *
      clear hgv hg hfit hmod HDT hvat hdt
      (try clear h9); (try clear hc0); (try clear hc1); (try clear hn0); (try clear hc7)
      go_wp2_with fail
      go_loopw [6, 7] (fun x i w2 => ∃ (k : Nat) (j : Int), k ≤ n + 1 ∧ Hid (j = (k : Int) - 1) ∧ -1 ≤ j ∧ j ≤ n ∧ i = .int .i64 j ∧ x = .int .u64 ((dsum (L.drop k) : Nat) : Int) ∧ w2 = wr) (fun _ i _ => (intOf i + 1).toNat)
      case atStart => exact ⟨n + 1, n, by omega, hid (by omega), by omega, by omega, rfl, by rw [hd0.out]; rfl, rfl⟩
      case round =>
       obtain ⟨k, j, hk, hj, hj1, hj2, rfl, rfl, rfl⟩ := hrel
       rcases Nat.eq_zero_or_pos k with hk0 | hk0
       ·have e1 : j = -1 := by have := hj.out; omega
        subst e1
        subst hk0
        have e2 : Hid (L.drop 0 = L) := hid rfl
        rw [e2.out]
        obtain ⟨y0, y1, g0, g1, l1⟩ := f_blk hF
        go_wp2
        refine bodyPost_ret (v := .tuple #[.int .u64 ((dsum L : Nat) : Int), .int .i64 ((n : Int) + 1), .agg #[.int .i64 0, .int .i64 0]]) (by simp [results, Tryz.results216, go_sem, y0, y1, l1]) rfl ⟨?_, by (repeat first | with_reducible (first | exact zR | assumption | apply zA | apply zS | apply zD | apply zN) | refine zT (by with_reducible assumption) ?_ | omega | simp <;> omega)⟩
        rw [HG.out]
        simp [gfin]
       ·obtain ⟨m, rfl⟩ : ∃ m, k = m + 1 := ⟨k - 1, by omega⟩
        obtain rfl : j = (m : Int) := by have := hj.out; omega
        have hmb : m < b.length := by omega
        obtain ⟨gb, ob, hA, _, hcm⟩ := byte_at (lift HL.out hbW) hmb
        simp only [Option.some.injEq, Addr.mk.injEq, and_true] at hA
        obtain ⟨rfl, rfl⟩ := hA
        have HS : Hid (dsum (L.drop m) = b[m].toNat % 128 + 128 * dsum (L.drop (m + 1))) := hid (by rw [dsum_at (by rw [hn1.out]; omega), HTK.out m (by omega)])
        have hle : dsum (L.drop m) < 18446744073709551616 := Nat.lt_of_le_of_lt (dsum_drop L m) hL
        rw [HS.out] at hle
        generalize dsum (L.drop (m + 1)) = X at *
        generalize b[m] = d at *
        have i1 : (m : Int) < (b.length : Int) := by omega
        have i2 : (0 : Int) ≤ (m : Int) := by omega
        have hd := d.toNat_lt
        have hle2 : 128 * (X : Int) + (d.toNat : Int) % 128 ≤ 18446744073709551615 := by omega
        have hle3 : 128 * (X : Int) ≤ 18446744073709551615 := by omega
        have HSM := hid hj
        clear hj
        go_wp2
        go_roundw
        case rel => exact ⟨m, (m : Int) - 1, by omega, hid rfl, by omega, by omega, by go_num, by rw [HS.out]; go_num, by first | trivial | rfl⟩
        case measure => simp [intOf]
    ·have d4 : ((e.toNat : Int) == 0) = false := by rw [beq_eq_false_iff_ne]; omega
     by_cases hc7 : e.toNat < 128
     ·have d5 : decide ((e.toNat : Int) < 128) = true := decide_eq_true (by omega)
      have d5' : decide (e.toNat < 128) = true := decide_eq_true (by omega)
      have HN0 : ∃ q, decide ((0 : Int) < (n : Int)) = q ∧ decide (0 < n) = q := ⟨_, rfl, by simp⟩
      obtain ⟨q, d3, d3'⟩ := HN0
      cases q
      all_goals
       have hfit := digit_fits hn9 (dsum_lt' b n) (c := e.toNat) (fun e => absurd e h9)
       have hmod : e.toNat % 128 = e.toNat := Nat.mod_eq_of_lt (by omega)
       rw [hvat, if_neg (fun e => h9 e.1), if_neg (fun e => hc0 e.2), if_pos hc7] at hgv
       have HDT := hid hdt
       have hL : dsum (b.take (n + 1)) < 18446744073709551616 := by
        rw [HDT.out]
        exact digit_sum hn9 (dsum_lt' b n) (fun e => absurd e h9)
       rw [← hmod, ← HDT.out] at hgv
       have HG := hid hgv
       have hn1 : Hid ((b.take (n + 1)).length = n + 1) := hid (by simp; omega)
       have HTK : Hid (∀ m, (h : m < n + 1) → (b.take (n + 1))[m]'(by rw [hn1.out]; exact h) = b[m]'(by omega)) := hid (fun m h => by simp)
       have hd0 : Hid (dsum ((b.take (n + 1)).drop (n + 1)) = 0) := hid (by rw [List.drop_eq_nil_of_le (by simp; omega)]; rfl)
       generalize b.take (n + 1) = L at *
       clear hgv hg hfit hmod HDT hvat hdt
       (try clear h9); (try clear hc0); (try clear hc1); (try clear hn0); (try clear hc7)
       go_wp2_with fail
       go_loopw [6, 7] (fun x i w2 => ∃ (k : Nat) (j : Int), k ≤ n + 1 ∧ Hid (j = (k : Int) - 1) ∧ -1 ≤ j ∧ j ≤ n ∧ i = .int .i64 j ∧ x = .int .u64 ((dsum (L.drop k) : Nat) : Int) ∧ w2 = wr) (fun _ i _ => (intOf i + 1).toNat)
       case atStart => exact ⟨n + 1, n, by omega, hid (by omega), by omega, by omega, rfl, by rw [hd0.out]; rfl, rfl⟩
       case round =>
        obtain ⟨k, j, hk, hj, hj1, hj2, rfl, rfl, rfl⟩ := hrel
        rcases Nat.eq_zero_or_pos k with hk0 | hk0
        ·have e1 : j = -1 := by have := hj.out; omega
         subst e1
         subst hk0
         have e2 : Hid (L.drop 0 = L) := hid rfl
         rw [e2.out]
         obtain ⟨y0, y1, g0, g1, l1⟩ := f_blk hF
         go_wp2
         refine bodyPost_ret (v := .tuple #[.int .u64 ((dsum L : Nat) : Int), .int .i64 ((n : Int) + 1), .agg #[.int .i64 0, .int .i64 0]]) (by simp [results, Tryz.results216, go_sem, y0, y1, l1]) rfl ⟨?_, by (repeat first | with_reducible (first | exact zR | assumption | apply zA | apply zS | apply zD | apply zN) | refine zT (by with_reducible assumption) ?_ | omega | simp <;> omega)⟩
         rw [HG.out]
         simp [gfin]
        ·obtain ⟨m, rfl⟩ : ∃ m, k = m + 1 := ⟨k - 1, by omega⟩
         obtain rfl : j = (m : Int) := by have := hj.out; omega
         have hmb : m < b.length := by omega
         obtain ⟨gb, ob, hA, _, hcm⟩ := byte_at (lift HL.out hbW) hmb
         simp only [Option.some.injEq, Addr.mk.injEq, and_true] at hA
         obtain ⟨rfl, rfl⟩ := hA
         have HS : Hid (dsum (L.drop m) = b[m].toNat % 128 + 128 * dsum (L.drop (m + 1))) := hid (by rw [dsum_at (by rw [hn1.out]; omega), HTK.out m (by omega)])
         have hle : dsum (L.drop m) < 18446744073709551616 := Nat.lt_of_le_of_lt (dsum_drop L m) hL
         rw [HS.out] at hle
         generalize dsum (L.drop (m + 1)) = X at *
         generalize b[m] = d at *
         have i1 : (m : Int) < (b.length : Int) := by omega
         have i2 : (0 : Int) ≤ (m : Int) := by omega
         have hd := d.toNat_lt
         have hle2 : 128 * (X : Int) + (d.toNat : Int) % 128 ≤ 18446744073709551615 := by omega
         have hle3 : 128 * (X : Int) ≤ 18446744073709551615 := by omega
         have HSM := hid hj
         clear hj
         go_wp2
         go_roundw
         case rel => exact ⟨m, (m : Int) - 1, by omega, hid rfl, by omega, by omega, by go_num, by rw [HS.out]; go_num, by first | trivial | rfl⟩
         case measure => simp [intOf]
     ·have d5 : decide ((e.toNat : Int) < 128) = false := decide_eq_false (by omega)
      have d5' : decide (e.toNat < 128) = false := decide_eq_false (by omega)
      rw [hvat, if_neg (fun e => h9 e.1), if_neg (fun e => hc0 e.2), if_neg hc7] at hgv
      have HG := hid hgv
      have hn8 : n + 1 ≤ 9 := by omega
      clear hgv hg h9 hc0 hc7 hvat hdt
      have HN0 : ∃ q, decide ((0 : Int) < (n : Int)) = q ∧ decide (0 < n) = q := ⟨_, rfl, by simp⟩
      obtain ⟨q, d3, d3'⟩ := HN0
      cases q
      all_goals
       go_wp2
       go_roundw
       case rel => exact ⟨n + 1, by omega, hn8, by go_num, HG, by first | trivial | rfl⟩
       case measure => simp [intOf]; omega
  ·obtain rfl : n = b.length := by omega
   have hgv := hg.out
   rw [List.drop_length] at hgv
   have HG := hid hgv
   have d0 : decide ((b.length : Int) < (b.length : Int)) = false := decide_eq_false (by omega)
   clear hgv hg
   go_wp2_with fail
   refine (ref01_at wr 1 b.length (by omega)).mono ?_
   rintro r w1 ⟨rfl, hb1⟩
   obtain ⟨y0, y1, g0, g1, l1⟩ := f_blk (hF.later hb1)
   have hbw1 := below_then hb1 hbW
   go_wp2
   refine bodyPost_ret (v := .tuple #[.int .u64 0, .int .i64 0, .agg #[.int .i64 1, .int .i64 b.length]]) (by simp [results, Tryz.results216, go_sem, y0, y1, l1]) rfl ⟨?_, by (repeat first | with_reducible (first | exact zR | assumption | apply zA | apply zS | apply zD | apply zN) | refine zT (by with_reducible assumption) ?_ | omega | simp <;> omega)⟩
   rw [HG.out]
   simp [gfin, vget]
end Go.Proofs.YtkipiefcnjfdjaaGreat
namespace Go.Proofs.YtkipiefcnjfdjaaGreat
open Go.RowKit Go.Bs Go.Maps
set_option linter.unusedVariables false
set_option linter.unusedSimpArgs false
theorem vget_bad : ∀ (l : List UInt8) (i x : Nat), (vget i x l).2.2 ≠ 0 → (vget i x l).1 = 0
 | [], i, x, _ => rfl
 | c :: l, i, x, h => by
  rw [vget_cons] at h ⊢
  by_cases h1 : i = 9 ∧ 1 < c.toNat
  ·rw [if_pos h1]
  ·rw [if_neg h1] at h ⊢
   by_cases h2 : 0 < i ∧ c.toNat = 0
   ·rw [if_pos h2]
   ·rw [if_neg h2] at h ⊢
    by_cases h3 : c.toNat < 128
    ·rw [if_pos h3] at h; simp at h
    ·rw [if_neg h3] at h ⊢
     exact vget_bad l _ _ h
set_option maxRecDepth 100000 in
set_option maxHeartbeats 3200000 in
theorem ref04_read (w : World) (a : Option Addr) (c : Nat) (B : List UInt8) (hl : rBytes.r (· < w.heap.size) w [.slice a B.length c] B) (s : Rs) (hs : s.ok B.length) (hB : B.length ≤ 1000000000000) :
  Calls Tryz.prog 163 #[CV a B.length c s] w fun r w' => r = .returned (.tuple #[CV a B.length c (s.num B).1, .int .u64 ((s.num B).2 : Int)]) ∧ Below w.heap.size w w' := by
 have hle := hs.le
 by_cases h0 : s.k = 0
 ·have d0 : (s.k != (0 : Int)) = false := by simp [h0]
  obtain ⟨aD, cD, hsl, hsub⟩ := cut_to hl (lo := s.p) hle
  have hu := vget_used (B.drop s.p) 0 0
  have hln : (B.drop s.p).length = B.length - s.p := by simp
  have hGET := hid (fun (W : World) (hW : Below w.heap.size w W) => ref04_get W (B.drop s.p) aD _ cD (lift hsub hW) (by omega))
  have hnum : s.num B = (⟨s.p + (vget 0 0 (B.drop s.p)).2.1, (vget 0 0 (B.drop s.p)).2.2, if (vget 0 0 (B.drop s.p)).2.2 = 0 then 0 else if (vget 0 0 (B.drop s.p)).2.2 = 1 then B.length else s.p + (vget 0 0 (B.drop s.p)).2.1 - 1⟩, (vget 0 0 (B.drop s.p)).1) := by
   unfold Rs.num; rw [if_pos h0]
  unfold gget at hGET
  rw [hnum]
  have hsm := vget_small (B.drop s.p) 0 0 (by omega) (by simp)
  have hvx := vget_bad (B.drop s.p) 0 0
  generalize B.drop s.p = D at *
  generalize vget 0 0 D = R at *
  obtain ⟨x, u, k⟩ := R
  dsimp only at *
  have hz := hs.zero h0
  have H0 := hid h0; have HZ := hid hz
  clear hl hs h0 hz hsub hnum
  unfold CV
  by_cases hk0 : k = 0
  ·subst hk0
   simp only [gfin, if_true] at hGET ⊢
   go_enter Tryz.func163, Tryz.ntmps163
   go_wp2_with fail
   refine (hGET.out _ (by (repeat first | with_reducible (first | exact zR | assumption | apply zA | apply zS | apply zD | apply zN) | refine zT (by with_reducible assumption) ?_ | omega | simp <;> omega))).mono ?_
   rintro r w1 ⟨rfl, hb⟩
   have B0 : Blk w1 w.heap.size 50 #[.slice a B.length c, .int .i64 (s.p : Int), .int .i64 s.k, .int .i64 s.f] := Blk.later (by (repeat first | assumption | exact kW (by first | (simp; done) | (simp; omega)) | apply kA | apply kD | apply kN | apply kF | simp <;> omega)) hb
   have B1 : Blk w1 (w.heap.size + 1) 50 #[.slice none 0 0, .int .i64 0, .int .i64 0, .int .i64 0] := Blk.later (by (repeat first | assumption | exact kW (by first | (simp; done) | (simp; omega)) | apply kA | apply kD | apply kN | apply kF | simp <;> omega)) hb
   obtain ⟨x0, x1, x2, x3, e0, e1, e2, e3, l0⟩ := c_blk B0
   obtain ⟨y0, y1, y2, y3, g0, g1, g2, g3, l1⟩ := c_blk B1
   have hbw : Below w.heap.size w w1 := by (repeat first | with_reducible (first | exact zR | assumption | apply zA | apply zS | apply zD | apply zN) | refine zT (by with_reducible assumption) ?_ | omega | simp <;> omega)
   clear B0 B1 hb
   go_wp2
   refine bodyPost_ret (v := .tuple #[.agg #[.slice a B.length c, .int .i64 ((s.p : Int) + (u : Int)), .int .i64 s.k, .int .i64 s.f], .int .u64 (x : Int)]) (by simp [results, Tryz.results163, go_sem, y0, y1, y2, y3, l1]) rfl ⟨?_, by (repeat first | with_reducible (first | exact zR | assumption | apply zA | apply zS | apply zD | apply zN) | refine zT (by with_reducible assumption) ?_ | omega | simp <;> omega)⟩
   rw [H0.out, HZ.out]
   rfl
  ·by_cases hk1 : k = 1
   ·subst hk1
    have hu1 := hu.2.2.2.1 rfl
    have hx0 : x = 0 := by have := hvx; exact hvx (by omega)
    subst hx0
    have HP : Hid (((s.p + u : Nat) : Int) = (B.length : Int)) := hid (by omega)
    simp only [gfin, if_true, show ¬ ((1 : Int) = 0) by omega, if_false] at hGET ⊢
    rw [HP.out]
    go_enter Tryz.func163, Tryz.ntmps163
    go_wp2_with fail
    refine (hGET.out _ (by (repeat first | with_reducible (first | exact zR | assumption | apply zA | apply zS | apply zD | apply zN) | refine zT (by with_reducible assumption) ?_ | omega | simp <;> omega))).mono ?_
    rintro r w1 ⟨rfl, hb⟩
    have B0 : Blk w1 w.heap.size 50 #[.slice a B.length c, .int .i64 (s.p : Int), .int .i64 s.k, .int .i64 s.f] := Blk.later (by (repeat first | assumption | exact kW (by first | (simp; done) | (simp; omega)) | apply kA | apply kD | apply kN | apply kF | simp <;> omega)) hb
    have B1 : Blk w1 (w.heap.size + 1) 50 #[.slice none 0 0, .int .i64 0, .int .i64 0, .int .i64 0] := Blk.later (by (repeat first | assumption | exact kW (by first | (simp; done) | (simp; omega)) | apply kA | apply kD | apply kN | apply kF | simp <;> omega)) hb
    have hbw : Below w.heap.size w w1 := by (repeat first | with_reducible (first | exact zR | assumption | apply zA | apply zS | apply zD | apply zN) | refine zT (by with_reducible assumption) ?_ | omega | simp <;> omega)
    obtain ⟨x0, x1, x2, x3, e0, e1, e2, e3, l0⟩ := c_blk B0
    obtain ⟨y0, y1, y2, y3, g0, g1, g2, g3, l1⟩ := c_blk B1
    clear hb
    go_wp2_with fail
    refine (ref01_at _ 1 B.length (by omega)).mono ?_
    rintro r w2 ⟨rfl, hb2⟩
    have B0' : Blk w2 w.heap.size 50 #[.slice a B.length c, .int .i64 (B.length : Int), .int .i64 s.k, .int .i64 s.f] := Blk.later (Blk.alloc (Blk.set B0 1 (.int .i64 (B.length : Int))) _) hb2
    have B1' : Blk w2 (w.heap.size + 1) 50 #[.slice none 0 0, .int .i64 0, .int .i64 0, .int .i64 0] := Blk.later (Blk.alloc (Blk.far B1 (by simp) _) _) hb2
    have BF : Blk w2 w1.heap.size 48 #[.int .i64 1, .int .i64 ((B.length - s.p : Nat) : Int)] := Blk.later (Blk.newAt _ _ _ (by simp [World.setCell])) hb2
    have hbw2 : Below w.heap.size w w2 := by (repeat first | with_reducible (first | exact zR | assumption | apply zA | apply zS | apply zD | apply zN) | refine zT (by with_reducible assumption) ?_ | omega | simp <;> omega)
    clear x0 x1 x2 x3 e0 e1 e2 e3 l0 y0 y1 y2 y3 g0 g1 g2 g3 l1 B0 B1 hb2
    obtain ⟨x0, x1, x2, x3, e0, e1, e2, e3, l0⟩ := c_blk B0'
    obtain ⟨y0, y1, y2, y3, g0, g1, g2, g3, l1⟩ := c_blk B1'
    obtain ⟨z0, z1, f0, f1, lz⟩ := f_blk BF
    clear B0' B1' BF
    go_wp2
    refine bodyPost_ret (v := .tuple #[.agg #[.slice a B.length c, .int .i64 (B.length : Int), .int .i64 1, .int .i64 (B.length : Int)], .int .u64 0]) (by simp [results, Tryz.results163, go_sem, y0, y1, y2, y3, l1]) rfl ⟨rfl, by (repeat first | with_reducible (first | exact zR | assumption | apply zA | apply zS | apply zD | apply zN) | refine zT (by with_reducible assumption) ?_ | omega | simp <;> omega)⟩
   ·have hk4 : k ≠ 0 ∧ k ≠ 1 := ⟨hk0, hk1⟩
    have hu5 := hu.2.2.2.2 hk1
    have d2 : (k == (0 : Int)) = false := by simp [hk0]
    have d3 : (k == (1 : Int)) = false := by simp [hk1]
    have d4 : (k != (1 : Int)) = true := by simp [hk1]
    have hx0 : x = 0 := hvx hk0
    subst hx0
    simp only [gfin, hk0, hk1, if_false] at hGET ⊢
    go_enter Tryz.func163, Tryz.ntmps163
    go_wp2_with fail
    refine (hGET.out _ (by (repeat first | with_reducible (first | exact zR | assumption | apply zA | apply zS | apply zD | apply zN) | refine zT (by with_reducible assumption) ?_ | omega | simp <;> omega))).mono ?_
    rintro r w1 ⟨rfl, hb⟩
    have B0 : Blk w1 w.heap.size 50 #[.slice a B.length c, .int .i64 (s.p : Int), .int .i64 s.k, .int .i64 s.f] := Blk.later (by (repeat first | assumption | exact kW (by first | (simp; done) | (simp; omega)) | apply kA | apply kD | apply kN | apply kF | simp <;> omega)) hb
    have B1 : Blk w1 (w.heap.size + 1) 50 #[.slice none 0 0, .int .i64 0, .int .i64 0, .int .i64 0] := Blk.later (by (repeat first | assumption | exact kW (by first | (simp; done) | (simp; omega)) | apply kA | apply kD | apply kN | apply kF | simp <;> omega)) hb
    have hbw : Below w.heap.size w w1 := by (repeat first | with_reducible (first | exact zR | assumption | apply zA | apply zS | apply zD | apply zN) | refine zT (by with_reducible assumption) ?_ | omega | simp <;> omega)
    obtain ⟨x0, x1, x2, x3, e0, e1, e2, e3, l0⟩ := c_blk B0
    obtain ⟨y0, y1, y2, y3, g0, g1, g2, g3, l1⟩ := c_blk B1
    clear hb
    go_wp2_with fail
    refine (ref01_at _ k _ hk0).mono ?_
    rintro r w2 ⟨rfl, hb2⟩
    have B0' : Blk w2 w.heap.size 50 #[.slice a B.length c, .int .i64 ((s.p : Int) + ((u : Int) - 1) + 1), .int .i64 s.k, .int .i64 s.f] := Blk.later (Blk.alloc (Blk.set B0 1 (.int .i64 ((s.p : Int) + ((u : Int) - 1) + 1))) _) hb2
    have B1' : Blk w2 (w.heap.size + 1) 50 #[.slice none 0 0, .int .i64 0, .int .i64 0, .int .i64 0] := Blk.later (Blk.alloc (Blk.far B1 (by simp) _) _) hb2
    have BF : Blk w2 w1.heap.size 48 #[.int .i64 k, .int .i64 ((u : Int) - 1)] := Blk.later (Blk.newAt _ _ _ (by simp [World.setCell])) hb2
    have hbw2 : Below w.heap.size w w2 := by (repeat first | with_reducible (first | exact zR | assumption | apply zA | apply zS | apply zD | apply zN) | refine zT (by with_reducible assumption) ?_ | omega | simp <;> omega)
    clear x0 x1 x2 x3 e0 e1 e2 e3 l0 y0 y1 y2 y3 g0 g1 g2 g3 l1 B0 B1 hb2
    have HB0 := hid B0'
    have HB1 := hid B1'
    obtain ⟨x0, x1, x2, x3, e0, e1, e2, e3, l0⟩ := c_blk B0'
    obtain ⟨z0, z1, f0, f1, lz⟩ := f_blk BF
    clear B0' B1' BF
    have hK0 := hid hk0
    clear hk4 hk0 hk1
    go_upto_region 13 with (fail)
    refine wp_world (fun W => Blk W w.heap.size 50 #[.slice a B.length c, .int .i64 ((s.p : Int) + ((u : Int) - 1) + 1), .int .i64 k, .int .i64 ((s.p : Int) + ((u : Int) - 1))] ∧ Blk W (w.heap.size + 1) 50 #[.slice none 0 0, .int .i64 0, .int .i64 0, .int .i64 0] ∧ Below w.heap.size w W) ⟨?_, ?_, by (repeat first | with_reducible (first | exact zR | assumption | apply zA | apply zS | apply zD | apply zN) | refine zT (by with_reducible assumption) ?_ | omega | simp <;> omega)⟩ ?_
    ·exact Blk.set (Blk.set (Blk.set HB0.out 2 _) 3 _) 3 _
    ·exact Blk.far (Blk.far (Blk.far HB1.out (by simp) _) (by simp) _) (by simp) _
    rintro W ⟨B0, B1, hbW⟩
    clear x0 x1 x2 x3 e0 e1 e2 e3 l0 z0 z1 f0 f1 lz
    obtain ⟨x0, x1, x2, x3, e0, e1, e2, e3, l0⟩ := c_blk B0
    obtain ⟨y0, y1, y2, y3, g0, g1, g2, g3, l1⟩ := c_blk B1
    clear B0 B1
    go_wp2
    refine bodyPost_ret (v := .tuple #[.agg #[.slice a B.length c, .int .i64 ((s.p : Int) + ((u : Int) - 1) + 1), .int .i64 k, .int .i64 ((s.p : Int) + ((u : Int) - 1))], .int .u64 0]) (by simp [results, Tryz.results163, go_sem, y0, y1, y2, y3, l1]) rfl ⟨by rw [show ((s.p : Int) + ((u : Int) - 1) + 1) = ((s.p + u : Nat) : Int) by omega, show (s.p : Int) + ((u : Int) - 1) = (s.p : Int) + (u : Int) - 1 by omega]; rfl, by (repeat first | with_reducible (first | exact zR | assumption | apply zA | apply zS | apply zD | apply zN) | refine zT (by with_reducible assumption) ?_ | omega | simp <;> omega)⟩
 ·have d0 : (s.k != (0 : Int)) = true := by simp [h0]
  have hnum : s.num B = (s, 0) := by unfold Rs.num; rw [if_neg h0]
  rw [hnum]
  clear hl hs h0 hnum
  unfold CV
  go_enter Tryz.func163, Tryz.ntmps163
  go_wp2
  refine bodyPost_ret (v := .tuple #[.agg #[.slice a B.length c, .int .i64 (s.p : Int), .int .i64 s.k, .int .i64 s.f], .int .u64 0]) (by simp [results, Tryz.results163, go_sem]) rfl ⟨rfl, by (repeat first | with_reducible (first | exact zR | assumption | apply zA | apply zS | apply zD | apply zN) | refine zT (by with_reducible assumption) ?_ | omega | simp <;> omega)⟩
end Go.Proofs.YtkipiefcnjfdjaaGreat
