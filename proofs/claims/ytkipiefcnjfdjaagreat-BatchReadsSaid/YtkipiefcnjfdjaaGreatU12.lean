/- Needed by batchReads_walk, part 12: texts put together by shake.py; no condition. -/
import Derived.Test.YtkipiefcnjfdjaaGreatU6
import Derived.Test.YtkipiefcnjfdjaaGreatU11
import Derived.Deep.Cut
import Derived.Deep.RegionHeld3
import Derived.Test.YtkipiefcnjfdjaaGreatU3
import Derived.Test.YtkipiefcnjfdjaaGreatU7
namespace Go.Proofs.YtkipiefcnjfdjaaGreat
open Go.RowKit Go.Bs Go.Maps
set_option linter.unusedVariables false
set_option linter.unusedSimpArgs false
theorem headR_le (x : Nat) : headR x ≤ 1048576 := by
 unfold headR
 split
 ·omega
 ·split
  ·omega
  ·omega
structure YInv (w W : World) (B : List UInt8) (a : Option Addr) (c : Nat) (s : Rs) (out : List UInt8) (aO : Option Addr) (cO : Nat) : Prop where
 cb : Blk W (w.heap.size + 1) 50 #[.slice a B.length c, .int .i64 (s.p : Int), .int .i64 s.k, .int .i64 s.f]
 fl : Blk W w.heap.size 48 #[.int .i64 0, .int .i64 0]
 ok : s.ok B.length
 k : s.k = 0
 own : rBytes.r (fun q => w.heap.size + 2 ≤ q ∧ q < W.heap.size) W [.slice aO out.length cO] out
 be : Below w.heap.size w W
def exMuC (L g : Nat) (W : World) : Nat := L - (cellI W g 1).toNat
theorem YInv.mu {w W : World} {B : List UInt8} {a : Option Addr} {c : Nat} {s : Rs} {out : List UInt8} {aO : Option Addr} {cO : Nat} (h : YInv w W B a c s out aO cO) : exMuC B.length (w.heap.size + 1) W = B.length - s.p := by
 have c1 := h.cb.cell 1
 simp at c1
 unfold exMuC cellI
 rw [c1]
 simp [intOf]
set_option maxRecDepth 100000 in
set_option maxHeartbeats 12800000 in
theorem ref12_bytes (w : World) (B : List UInt8) (a : Option Addr) (n c : Nat) (hl : rBytes.r (· < w.heap.size) w [.slice a n c] B) (hB : B.length ≤ 1000000000) (bound : Int) (hbd : -9223372036854775808 ≤ bound ∧ bound ≤ 1048576) :
  Calls Tryz.prog 168 #[.slice a n c, .int .i64 bound] w fun r w' => ∃ v, r = .returned (.tuple #[v, .agg #[.int .i64 (exB B bound).2.1, .int .i64 (exB B bound).2.2]]) ∧ rBytes.r (fun q => w.heap.size ≤ q ∧ q < w'.heap.size) w' [v] (exB B bound).1 ∧ Below w.heap.size w w' := by
 obtain ⟨rfl, hm, hcc, hcm⟩ := sl_len hl
 have HL := hid hl
 have HEB := hid (exB_is B bound)
 clear hl
 go_enter Tryz.func168, Tryz.ntmps168
 go_wp2_with fail
 refine wp_world (fun W => YInv w W B a c ⟨0, 0, 0⟩ [] none 0) ⟨by (repeat first | assumption | exact kW (by first | (simp; done) | (simp; omega)) | apply kA | apply kD | apply kN | apply kF | simp <;> omega), by (repeat first | assumption | exact kW (by first | (simp; done) | (simp; omega)) | apply kA | apply kD | apply kN | apply kF | simp <;> omega), ⟨Nat.zero_le _, fun _ => rfl⟩, rfl, empty_bytes rfl rfl (by omega), by (repeat first | with_reducible (first | exact zR | assumption | apply zA | apply zS | apply zD | apply zN) | refine zT (by with_reducible assumption) ?_ | omega | simp <;> omega)⟩ ?_
 intro W0 hW0
 have HW0 := hid hW0
 clear hW0
 go_loopw [7] (fun o wr => ∃ (s : Rs) (out : List UInt8) (aO : Option Addr) (cO : Nat), o = .slice aO out.length cO ∧ YInv w wr B a c s out aO cO ∧ Hid (exR B bound s out = exR B bound ⟨0, 0, 0⟩ []) ∧ exIn bound out) (fun _ wr => exMuC B.length (w.heap.size + 1) wr)
 case atStart => exact ⟨⟨0, 0, 0⟩, [], none, 0, rfl, HW0.out, hid rfl, .inl rfl⟩
 case round =>
  obtain ⟨s, out, aO, cO, rfl, hI, hex, hin⟩ := hrel
  have hlen := exIn_len hin hbd
  have hok := hI.ok
  have hk := hI.k
  have hpl := hok.le
  have HI := hid hI
  have HIN := hid hin
  obtain ⟨x0, x1, x2, x3, e0, e1, e2, e3, l0⟩ := c_blk hI.cb
  have hbw := hI.be
  have hzw : w.heap.size + 1 < wr.heap.size := hI.cb.lt
  clear hI hin
  by_cases hp : s.p < B.length
  ·have d0 : decide ((s.p : Int) < (B.length : Int)) = true := decide_eq_true (by omega)
   have d0' : decide (s.p < B.length) = true := decide_eq_true hp
   have hgo := exR_go (bound := bound) (out := out) hok hp hk
   rw [hex.out] at hgo
   have HGO := hid hgo
   have HMORE := hid (exStep_more (B := B) (bound := bound) (s := s) (out := out))
   have hin2 := hid (exIn_step (B := B) (s := s) HIN.out)
   have hA := refA (B := B) (bound := bound) (s := s) (out := out)
   have hNB := ref_num_bad (B := B) (bound := bound) (s := s) (out := out)
   have hLG := ref_long (B := B) (bound := bound) (s := s) (out := out)
   have hGD := ref_good (B := B) (bound := bound) (s := s) (out := out)
   have hesok := exStep_ok (B := B) (bound := bound) (s := s) (out := out) hok
   unfold bndF at hA
   have hsm := Rs.num_small (B := B) (s := s)
   have hR := hid (fun (W : World) (hW : Below w.heap.size w W) => ref04_read W a c B (lift HL.out hW) s hok (by omega))
   have hT := hid (fun (W : World) (hW : Below w.heap.size w W) => ref11_read W a c B (lift HL.out hW) s hok (by omega))
   have hHD := hid (fun (W : World) => ref12_head W (s.num B).2 hsm)
   have HBAD : Hid ((exStep B bound s out).1.k ≠ 0 → exB B bound = ([], (exStep B bound s out).1.k, (exStep B bound s out).1.f)) := hid fun h => by
    rw [HEB.out, HGO.out, exR_stop (fun e => h e.2), if_neg h]
   generalize exStep B bound s out = ES at *
   generalize s.tok B = T at *
   generalize s.num B = N at *
   obtain ⟨s1, x⟩ := N
   obtain ⟨s2, tk⟩ := T
   obtain ⟨D, off, ln⟩ := tk
   dsimp only at *
   have hRle := headR_le x
   generalize hRx : headR x = R at *
   have HK := hid hk
   unfold CV at *
   clear hgo hk hok hRx
   by_cases hk1 : s1.k = 0
   ·have dk : (s1.k == (0 : Int)) = true := by simp [hk1]
    by_cases hR0 : 0 < R
    ·have dR : decide ((0 : Int) < (R : Int)) = true := decide_eq_true (by omega)
     have dR' : decide (0 < R) = true := decide_eq_true hR0
     by_cases hb : bound < (out.length : Int) + (R : Int)
     ·have db : decide (bound < (out.length : Int) + (R : Int)) = true := decide_eq_true hb
      have hes := hA ⟨hk1, hR0, hb⟩
      have hbad := HBAD.out (by rw [hes.1]; omega)
      rw [hes.1, hes.2] at hbad
      have HX := hid hbad
      clear hA hNB hLG hGD hk1 hR0 hb hes hbad
      go_wp2_with fail
      refine (hR.out _ (by (repeat first | with_reducible (first | exact zR | assumption | apply zA | apply zS | apply zD | apply zN) | refine zT (by with_reducible assumption) ?_ | omega | simp <;> omega))).mono ?_
      rintro r w1 ⟨rfl, hb1⟩
      have hbw1 : Below w.heap.size w w1 := below_then hb1 hbw
      have B1 := HI.out.cb.later hb1
      have F1 := HI.out.fl.later hb1
      obtain ⟨v0, v1, v2, v3, q0, q1, q2, q3, l1⟩ := c_blk B1
      clear x0 x1 x2 x3 e0 e1 e2 e3 l0
      go_wp2_with fail
      refine (hHD.out _).mono ?_
      rintro r w1' ⟨rfl, rfl⟩
      go_wp2_with fail
      refine (hHD.out _).mono ?_
      rintro r w1' ⟨rfl, rfl⟩
      go_wp2_with fail
      refine (ref01_at _ 11 _ (by omega)).mono ?_
      rintro r w2 ⟨rfl, hb2⟩
      have hbw2 : Below w.heap.size w w2 := by (repeat first | with_reducible (first | exact zR | assumption | apply zA | apply zS | apply zD | apply zN) | refine zT (by with_reducible assumption) ?_ | omega | simp <;> omega)
      obtain ⟨y0, y1, g0, g1, l2⟩ := f_blk ((F1.alloc _).later hb2)
      clear B1 F1
      go_wp2
      refine bodyPost_ret (v := .tuple #[.slice none 0 0, .agg #[.int .i64 11, .int .i64 (s.p : Int)]]) (by simp [results, Tryz.results168, go_sem, y0, y1, l2]) rfl ⟨_, by rw [HX.out], by rw [HX.out]; exact empty_bytes rfl rfl (by omega), by (repeat first | with_reducible (first | exact zR | assumption | apply zA | apply zS | apply zD | apply zN) | refine zT (by with_reducible assumption) ?_ | omega | simp <;> omega)⟩
     ·have db : decide (bound < (out.length : Int) + (R : Int)) = false := decide_eq_false hb
      have hgd := hGD hk1 hR0 (by omega)
      clear hA hNB hLG hGD hk1
      by_cases hk2 : s2.k = 0
      ·have dk2 : (s2.k != (0 : Int)) = false := by simp [hk2]
       rw [if_pos hk2] at hgd
       by_cases ho : (out.length : Int) < off
       ·have dho : decide ((out.length : Int) < off) = true := decide_eq_true ho
        rw [if_pos ho] at hgd
        have hbad := HBAD.out (by rw [hgd.1]; omega)
        rw [hgd.1, hgd.2] at hbad
        have HX := hid hbad
        clear hgd hbad hR0 hb hk2 ho
        go_wp2_with fail
        refine (hR.out _ (by (repeat first | with_reducible (first | exact zR | assumption | apply zA | apply zS | apply zD | apply zN) | refine zT (by with_reducible assumption) ?_ | omega | simp <;> omega))).mono ?_
        rintro r w1 ⟨rfl, hb1⟩
        have hbw1 : Below w.heap.size w w1 := below_then hb1 hbw
        have B1 := HI.out.cb.later hb1
        have F1 := HI.out.fl.later hb1
        obtain ⟨v0, v1, v2, v3, q0, q1, q2, q3, l1⟩ := c_blk B1
        clear x0 x1 x2 x3 e0 e1 e2 e3 l0
        go_wp2_with fail
        refine (hHD.out _).mono ?_
        rintro r w1' ⟨rfl, rfl⟩
        go_wp2_with fail
        refine (hHD.out _).mono ?_
        rintro r w1' ⟨rfl, rfl⟩
        go_wp2_with fail
        refine (hT.out _ (by (repeat first | with_reducible (first | exact zR | assumption | apply zA | apply zS | apply zD | apply zN) | refine zT (by with_reducible assumption) ?_ | omega | simp <;> omega))).mono ?_
        rintro r w2 ⟨v, rfl, hr, hb2⟩
        have hbw2 : Below w.heap.size w w2 := by (repeat first | with_reducible (first | exact zR | assumption | apply zA | apply zS | apply zD | apply zN) | refine zT (by with_reducible assumption) ?_ | omega | simp <;> omega)
        have B2 := (B1.alloc _).later hb2
        have F2 := (F1.alloc _).later hb2
        have H2 := Blk.later (Blk.newAt w1 _ _ rfl) hb2
        have hz2 := hb2.size
        simp at hz2
        obtain ⟨aD, cD, hv, hr2, _⟩ := sl_form hr
        simp only [List.cons.injEq, and_true] at hv
        subst hv
        have HR := hid (rBytes.mono (S' := (· < w2.heap.size)) hr2 fun q hq => hq.2)
        have HB1 := hid hb1
        have HB2 := hid hb2
        clear hr hr2 v0 v1 v2 v3 q0 q1 q2 q3 hb1 hb2
        obtain ⟨v0, v1, v2, v3, q0, q1, q2, q3, l4⟩ := c_blk H2
        go_wp2_with fail
        refine (ref01_at _ 10 _ (by omega)).mono ?_
        rintro r w3 ⟨rfl, hb3⟩
        have hbw3 : Below w.heap.size w w3 := by (repeat first | with_reducible (first | exact zR | assumption | apply zA | apply zS | apply zD | apply zN) | refine zT (by with_reducible assumption) ?_ | omega | simp <;> omega)
        obtain ⟨y0, y1, g0, g1, l3⟩ := f_blk (((F2.alloc _).alloc _).later hb3)
        clear B1 F1 B2 F2 H2
        go_wp2
        refine bodyPost_ret (v := .tuple #[.slice none 0 0, .agg #[.int .i64 10, .int .i64 (s1.p : Int)]]) (by simp [results, Tryz.results168, go_sem, y0, y1, l3]) rfl ⟨_, by rw [HX.out], by rw [HX.out]; exact empty_bytes rfl rfl (by omega), by (repeat first | with_reducible (first | exact zR | assumption | apply zA | apply zS | apply zD | apply zN) | refine zT (by with_reducible assumption) ?_ | omega | simp <;> omega)⟩
       ·have dho : decide ((out.length : Int) < off) = false := decide_eq_false ho
        rw [if_neg ho] at hgd
        obtain ⟨hes, hcs⟩ := hgd
        subst hes
        dsimp only at *
        obtain ⟨offn, rfl⟩ : ∃ k : Nat, off = k := ⟨off.toNat, by omega⟩
        obtain ⟨lnn, rfl⟩ : ∃ k : Nat, ln = k := ⟨ln.toNat, by omega⟩
        rw [show ((offn : Int)).toNat = offn by omega, show ((lnn : Int)).toNat = lnn by omega] at *
        have dho' : decide (out.length < offn) = false := decide_eq_false (by omega)
        have hc2 : lnn = 0 ∨ (D = [] ∧ 1 ≤ offn ∧ offn ≤ out.length) := by
         rcases hcs with h | h
         ·left; omega
         ·right; exact ⟨h.1, by omega, by omega⟩
        have hsz : out.length + D.length + lnn ≤ 1000000000 := by
         rcases hcs with h | h
         ·omega
         ·rw [h.1]; simp; omega
        have HC2 := hid hc2
        have HK2 := hid hk2
        clear hR0 hb hk2 ho hcs hc2
        go_wp2_with fail
        refine (hR.out _ (by (repeat first | with_reducible (first | exact zR | assumption | apply zA | apply zS | apply zD | apply zN) | refine zT (by with_reducible assumption) ?_ | omega | simp <;> omega))).mono ?_
        rintro r w1 ⟨rfl, hb1⟩
        have hbw1 : Below w.heap.size w w1 := below_then hb1 hbw
        have B1 := HI.out.cb.later hb1
        have F1 := HI.out.fl.later hb1
        obtain ⟨v0, v1, v2, v3, q0, q1, q2, q3, l1⟩ := c_blk B1
        clear x0 x1 x2 x3 e0 e1 e2 e3 l0
        go_wp2_with fail
        refine (hHD.out _).mono ?_
        rintro r w1' ⟨rfl, rfl⟩
        go_wp2_with fail
        refine (hHD.out _).mono ?_
        rintro r w1' ⟨rfl, rfl⟩
        go_wp2_with fail
        refine (hT.out _ (by (repeat first | with_reducible (first | exact zR | assumption | apply zA | apply zS | apply zD | apply zN) | refine zT (by with_reducible assumption) ?_ | omega | simp <;> omega))).mono ?_
        rintro r w2 ⟨v, rfl, hr, hb2⟩
        have hbw2 : Below w.heap.size w w2 := by (repeat first | with_reducible (first | exact zR | assumption | apply zA | apply zS | apply zD | apply zN) | refine zT (by with_reducible assumption) ?_ | omega | simp <;> omega)
        have B2 := (B1.alloc _).later hb2
        have F2 := (F1.alloc _).later hb2
        have H2 := Blk.later (Blk.newAt w1 _ _ rfl) hb2
        have hz2 := hb2.size
        simp at hz2
        obtain ⟨aD, cD, hv, hr2, _⟩ := sl_form hr
        simp only [List.cons.injEq, and_true] at hv
        subst hv
        have HR := hid (rBytes.mono (S' := (· < w2.heap.size)) hr2 fun q hq => hq.2)
        have HB1 := hid hb1
        have HB2 := hid hb2
        clear hr hr2 v0 v1 v2 v3 q0 q1 q2 q3 hb1 hb2
        have hown2 : rBytes.r (· < w2.heap.size) w2 [.slice aO out.length cO] out := rBytes.mono (rBytes.keep HI.out.own fun q hq => (HB2.out.block q (by have := HB1.out.size; simp; omega)).trans ((Below.heap_alloc _ _ q (by have := HB1.out.size; omega)).trans (HB1.out.block q hq.2))) fun q hq => by have := HB1.out.size; omega
        have HO2 := hid hown2
        clear hown2
        go_wp2_with fail
        refine (ref12_with _ out aO _ cO (lift HO2.out (by (repeat first | with_reducible (first | exact zR | assumption | apply zA | apply zS | apply zD | apply zN) | refine zT (by with_reducible assumption) ?_ | omega | simp <;> omega))) D aD _ cD (lift HR.out (by (repeat first | with_reducible (first | exact zR | assumption | apply zA | apply zS | apply zD | apply zN) | refine zT (by with_reducible assumption) ?_ | omega | simp <;> omega))) offn lnn HC2.out hsz).mono ?_
        rintro r w3 ⟨v, rfl, hr, hb3⟩
        have hbw3 : Below w.heap.size w w3 := by (repeat first | with_reducible (first | exact zR | assumption | apply zA | apply zS | apply zD | apply zN) | refine zT (by with_reducible assumption) ?_ | omega | simp <;> omega)
        have B3 := ((B2.alloc _).alloc _).later hb3
        have F3 := ((F2.alloc _).alloc _).later hb3
        have G3 : Blk w3 w2.heap.size 50 #[.slice a B.length c, .int .i64 (s2.p : Int), .int .i64 s2.k, .int .i64 s2.f] := Blk.later (Blk.alloc (Blk.newAt w2 _ _ rfl) _) hb3
        have hz3 := hb3.size
        simp at hz3
        obtain ⟨a3, c3, hv, hr2, _⟩ := sl_form hr
        simp only [List.cons.injEq, and_true] at hv
        subst hv
        have HR3 := hid hr2
        obtain ⟨x0, x1, x2, x3, e0, e1, e2, e3, l0⟩ := c_blk B3
        obtain ⟨v0, v1, v2, v3, q0, q1, q2, q3, l4⟩ := c_blk G3
        have HB3 := hid B3
        have HF3 := hid F3
        clear hr hr2 B1 F1 B2 F2 H2 B3 F3 G3 hb3
        have hpx : s.p < s2.p := (HMORE.out HK2.out).1
        go_wp2
        have hI4 : YInv w ((((w3.setCell ⟨w.heap.size + 1, 0, none⟩ (.slice a B.length c)).setCell ⟨w.heap.size + 1, 1, none⟩ (.int .i64 (s2.p : Int))).setCell ⟨w.heap.size + 1, 2, none⟩ (.int .i64 s2.k)).setCell ⟨w.heap.size + 1, 3, none⟩ (.int .i64 s2.f)) B a c s2 (againL offn lnn (out ++ D)) a3 c3 := by
         refine ⟨Blk.set (Blk.set (Blk.set (Blk.set HB3.out 0 _) 1 _) 2 _) 3 _, ?_, hesok, HK2.out, ?_, by (repeat first | with_reducible (first | exact zR | assumption | apply zA | apply zS | apply zD | apply zN) | refine zT (by with_reducible assumption) ?_ | omega | simp <;> omega)⟩
         ·exact Blk.far (Blk.far (Blk.far (Blk.far HF3.out (by simp) _) (by simp) _) (by simp) _) (by simp) _
         ·refine rBytes.mono (rBytes.keep HR3.out fun q hq => ?_) fun q hq => ⟨by have := hq.1; simp at this; omega, by have := hq.2; simp [World.setCell]; omega⟩
          have hq1 := hq.1
          simp at hq1
          repeat (rw [Below.heap_setCell _ _ _ _ (by dsimp only; omega)])
        have HI4 := hid hI4
        clear hI4
        go_roundw
        case rel => exact ⟨s2, _, a3, c3, rfl, HI4.out, hid HGO.out.symm, hin2.out⟩
        case measure =>
         rw [HI4.out.mu, HI.out.mu]
         omega
      ·have dk2 : (s2.k != (0 : Int)) = true := by simp [hk2]
       rw [if_neg hk2] at hgd
       have hbad := HBAD.out (by rw [hgd]; exact hk2)
       rw [hgd] at hbad
       have HX := hid hbad
       clear hgd hbad hR0 hb hk2
       go_wp2_with fail
       refine (hR.out _ (by (repeat first | with_reducible (first | exact zR | assumption | apply zA | apply zS | apply zD | apply zN) | refine zT (by with_reducible assumption) ?_ | omega | simp <;> omega))).mono ?_
       rintro r w1 ⟨rfl, hb1⟩
       have hbw1 : Below w.heap.size w w1 := below_then hb1 hbw
       have B1 := HI.out.cb.later hb1
       have F1 := HI.out.fl.later hb1
       obtain ⟨v0, v1, v2, v3, q0, q1, q2, q3, l1⟩ := c_blk B1
       clear x0 x1 x2 x3 e0 e1 e2 e3 l0
       go_wp2_with fail
       refine (hHD.out _).mono ?_
       rintro r w1' ⟨rfl, rfl⟩
       go_wp2_with fail
       refine (hHD.out _).mono ?_
       rintro r w1' ⟨rfl, rfl⟩
       go_wp2_with fail
       refine (hT.out _ (by (repeat first | with_reducible (first | exact zR | assumption | apply zA | apply zS | apply zD | apply zN) | refine zT (by with_reducible assumption) ?_ | omega | simp <;> omega))).mono ?_
       rintro r w2 ⟨v, rfl, hr, hb2⟩
       have hbw2 : Below w.heap.size w w2 := by (repeat first | with_reducible (first | exact zR | assumption | apply zA | apply zS | apply zD | apply zN) | refine zT (by with_reducible assumption) ?_ | omega | simp <;> omega)
       have B2 := (B1.alloc _).later hb2
       have F2 := (F1.alloc _).later hb2
       have H2 := Blk.later (Blk.newAt w1 _ _ rfl) hb2
       have hz2 := hb2.size
       simp at hz2
       obtain ⟨aD, cD, hv, hr2, _⟩ := sl_form hr
       simp only [List.cons.injEq, and_true] at hv
       subst hv
       have HR := hid (rBytes.mono (S' := (· < w2.heap.size)) hr2 fun q hq => hq.2)
       have HB1 := hid hb1
       have HB2 := hid hb2
       clear hr hr2 v0 v1 v2 v3 q0 q1 q2 q3 hb1 hb2
       obtain ⟨y0, y1, g0, g1, l3⟩ := f_blk F2
       clear B2 F2 H2 B1 F1
       go_wp2_with fail
       go_region
       all_goals
        go_wp2
        refine bodyPost_ret (v := .tuple #[.slice none 0 0, .agg #[.int .i64 s2.k, .int .i64 s2.f]]) (by simp [results, Tryz.results168, go_sem, y0, y1, l3]) rfl ⟨_, by rw [HX.out], by rw [HX.out]; exact empty_bytes rfl rfl (by omega), by (repeat first | with_reducible (first | exact zR | assumption | apply zA | apply zS | apply zD | apply zN) | refine zT (by with_reducible assumption) ?_ | omega | simp <;> omega)⟩
    ·have dR : decide ((0 : Int) < (R : Int)) = false := decide_eq_false (by omega)
     have dR' : decide (0 < R) = false := decide_eq_false hR0
     have hes := hLG hk1 (by omega)
     have hk2 := hes.2
     have dk2 : (s2.k != (0 : Int)) = true := by simp [hk2]
     have hbad := HBAD.out (by rw [hes.1]; exact hk2)
     rw [hes.1] at hbad
     have HX := hid hbad
     clear hA hNB hLG hGD hk1 hR0 hes hbad hk2
     go_wp2_with fail
     refine (hR.out _ (by (repeat first | with_reducible (first | exact zR | assumption | apply zA | apply zS | apply zD | apply zN) | refine zT (by with_reducible assumption) ?_ | omega | simp <;> omega))).mono ?_
     rintro r w1 ⟨rfl, hb1⟩
     have hbw1 : Below w.heap.size w w1 := below_then hb1 hbw
     have B1 := HI.out.cb.later hb1
     have F1 := HI.out.fl.later hb1
     obtain ⟨v0, v1, v2, v3, q0, q1, q2, q3, l1⟩ := c_blk B1
     clear x0 x1 x2 x3 e0 e1 e2 e3 l0
     go_wp2_with fail
     refine (hHD.out _).mono ?_
     rintro r w1' ⟨rfl, rfl⟩
     go_wp2_with fail
     refine (hT.out _ (by (repeat first | with_reducible (first | exact zR | assumption | apply zA | apply zS | apply zD | apply zN) | refine zT (by with_reducible assumption) ?_ | omega | simp <;> omega))).mono ?_
     rintro r w2 ⟨v, rfl, hr, hb2⟩
     have hbw2 : Below w.heap.size w w2 := by (repeat first | with_reducible (first | exact zR | assumption | apply zA | apply zS | apply zD | apply zN) | refine zT (by with_reducible assumption) ?_ | omega | simp <;> omega)
     have B2 := (B1.alloc _).later hb2
     have F2 := (F1.alloc _).later hb2
     have H2 := Blk.later (Blk.newAt w1 _ _ rfl) hb2
     have hz2 := hb2.size
     simp at hz2
     obtain ⟨aD, cD, hv, hr2, _⟩ := sl_form hr
     simp only [List.cons.injEq, and_true] at hv
     subst hv
     have HR := hid (rBytes.mono (S' := (· < w2.heap.size)) hr2 fun q hq => hq.2)
     have HB1 := hid hb1
     have HB2 := hid hb2
     clear hr hr2 v0 v1 v2 v3 q0 q1 q2 q3 hb1 hb2
     obtain ⟨y0, y1, g0, g1, l3⟩ := f_blk F2
     clear B2 F2 H2 B1 F1
     go_wp2_with fail
     go_region
     all_goals
      go_wp2
      refine bodyPost_ret (v := .tuple #[.slice none 0 0, .agg #[.int .i64 s2.k, .int .i64 s2.f]]) (by simp [results, Tryz.results168, go_sem, y0, y1, l3]) rfl ⟨_, by rw [HX.out], by rw [HX.out]; exact empty_bytes rfl rfl (by omega), by (repeat first | with_reducible (first | exact zR | assumption | apply zA | apply zS | apply zD | apply zN) | refine zT (by with_reducible assumption) ?_ | omega | simp <;> omega)⟩
   ·have dk : (s1.k == (0 : Int)) = false := by simp [hk1]
    have hes := hNB hk1
    have hk2 : s2.k ≠ 0 := by rw [hes.2]; exact hk1
    have dk2 : (s2.k != (0 : Int)) = true := by simp [hk2]
    have hbad := HBAD.out (by rw [hes.1]; exact hk2)
    rw [hes.1] at hbad
    have HX := hid hbad
    clear hA hNB hLG hGD hk1 hes hbad hk2
    go_wp2_with fail
    refine (hR.out _ (by (repeat first | with_reducible (first | exact zR | assumption | apply zA | apply zS | apply zD | apply zN) | refine zT (by with_reducible assumption) ?_ | omega | simp <;> omega))).mono ?_
    rintro r w1 ⟨rfl, hb1⟩
    have hbw1 : Below w.heap.size w w1 := below_then hb1 hbw
    have B1 := HI.out.cb.later hb1
    have F1 := HI.out.fl.later hb1
    obtain ⟨v0, v1, v2, v3, q0, q1, q2, q3, l1⟩ := c_blk B1
    clear x0 x1 x2 x3 e0 e1 e2 e3 l0
    go_wp2_with fail
    refine (hT.out _ (by (repeat first | with_reducible (first | exact zR | assumption | apply zA | apply zS | apply zD | apply zN) | refine zT (by with_reducible assumption) ?_ | omega | simp <;> omega))).mono ?_
    rintro r w2 ⟨v, rfl, hr, hb2⟩
    have hbw2 : Below w.heap.size w w2 := by (repeat first | with_reducible (first | exact zR | assumption | apply zA | apply zS | apply zD | apply zN) | refine zT (by with_reducible assumption) ?_ | omega | simp <;> omega)
    have B2 := (B1.alloc _).later hb2
    have F2 := (F1.alloc _).later hb2
    have H2 := Blk.later (Blk.newAt w1 _ _ rfl) hb2
    have hz2 := hb2.size
    simp at hz2
    obtain ⟨aD, cD, hv, hr2, _⟩ := sl_form hr
    simp only [List.cons.injEq, and_true] at hv
    subst hv
    have HR := hid (rBytes.mono (S' := (· < w2.heap.size)) hr2 fun q hq => hq.2)
    have HB1 := hid hb1
    have HB2 := hid hb2
    clear hr hr2 v0 v1 v2 v3 q0 q1 q2 q3 hb1 hb2
    obtain ⟨y0, y1, g0, g1, l3⟩ := f_blk F2
    clear B2 F2 H2 B1 F1
    go_wp2_with fail
    go_region
    all_goals
     go_wp2
     refine bodyPost_ret (v := .tuple #[.slice none 0 0, .agg #[.int .i64 s2.k, .int .i64 s2.f]]) (by simp [results, Tryz.results168, go_sem, y0, y1, l3]) rfl ⟨_, by rw [HX.out], by rw [HX.out]; exact empty_bytes rfl rfl (by omega), by (repeat first | with_reducible (first | exact zR | assumption | apply zA | apply zS | apply zD | apply zN) | refine zT (by with_reducible assumption) ?_ | omega | simp <;> omega)⟩
  ·have d0 : decide ((s.p : Int) < (B.length : Int)) = false := decide_eq_false (by omega)
   have d0' : decide (s.p < B.length) = false := decide_eq_false hp
   have hx := HEB.out
   rw [← hex.out, exR_stop (fun e => hp e.1), if_pos hk] at hx
   have HX := hid hx
   clear hx hex hk hok
   obtain ⟨y0, y1, g0, g1, l1⟩ := f_blk HI.out.fl
   go_wp2
   refine bodyPost_ret (v := .tuple #[.slice aO out.length cO, .agg #[.int .i64 0, .int .i64 0]]) (by simp [results, Tryz.results168, go_sem, y0, y1, l1]) rfl ⟨_, by rw [HX.out], ?_, by (repeat first | with_reducible (first | exact zR | assumption | apply zA | apply zS | apply zD | apply zN) | refine zT (by with_reducible assumption) ?_ | omega | simp <;> omega)⟩
   rw [HX.out]
   refine rBytes.mono (rBytes.keep HI.out.own fun q hq => ?_) fun q hq => ⟨by omega, by simp [World.setCell]; exact hq.2⟩
   repeat (rw [Below.heap_setCell _ _ _ _ (by dsimp only; omega)])
end Go.Proofs.YtkipiefcnjfdjaaGreat
namespace Go.Proofs.YtkipiefcnjfdjaaGreat
open Go.RowKit Go.Bs Go.Maps
set_option linter.unusedVariables false
set_option linter.unusedSimpArgs false
theorem take1 (B : List UInt8) (s : Rs) : (s.take B 1).1 = (s.byte B).1 := rfl
theorem take1_k {B : List UInt8} {s : Rs} (h : (s.byte B).1.k = 0) : (s.take B 1).2 = [(s.byte B).2] := by
 have h' : (s.skip B.length 1).2.k = 0 := h
 unfold Rs.take Rs.byte
 cases hk : (s.skip B.length 1).1
 ·exact absurd h' (Rs.skip_false hk).1
 ·have := Rs.skip_true hk
  have hp : s.p < B.length := by omega
  have e1 : (B.drop s.p).take 1 = [B[s.p]] := by rw [List.drop_eq_getElem_cons hp]; rfl
  have e2 : B.getD s.p 0 = B[s.p] := by simp [hp]
  simp only [if_true]
  rw [show (1 : Int).toNat = 1 from rfl, e1, e2]
structure LInv (w W : World) (B : List UInt8) (a : Option Addr) (c : Nat) (s sf : Rs) (ge : Nat) (D : List UInt8) (aD : Option Addr) (cD : Nat) : Prop where
 b0 : Blk W w.heap.size 50 #[.slice a B.length c, .int .i64 (s.p : Int), .int .i64 s.k, .int .i64 s.f]
 b1 : Blk W (w.heap.size + 1) 50 #[.slice none 0 0, .int .i64 0, .int .i64 0, .int .i64 0]
 be : Blk W ge 50 #[.slice a B.length c, .int .i64 (sf.p : Int), .int .i64 sf.k, .int .i64 sf.f]
 lo : w.heap.size + 1 < ge
 dat : rBytes.r (fun q => ge < q ∧ q < W.heap.size) W [.slice aD D.length cD] D
 bel : Below w.heap.size w W
theorem LInv.later {w V V' : World} {B : List UInt8} {a : Option Addr} {c : Nat} {s sf : Rs} {ge : Nat} {D : List UInt8} {aD : Option Addr} {cD : Nat} (h : LInv w V B a c s sf ge D aD cD) (hb : Below V.heap.size V V') : LInv w V' B a c s sf ge D aD cD :=
 ⟨h.b0.later hb, h.b1.later hb, h.be.later hb, h.lo, rBytes.mono (rBytes.keep h.dat fun q hq => hb.block q hq.2) fun q hq => ⟨hq.1, Nat.lt_of_lt_of_le hq.2 hb.size⟩, below_then hb h.bel⟩
theorem LInv.data {w V : World} {B : List UInt8} {a : Option Addr} {c : Nat} {s sf : Rs} {ge : Nat} {D D' : List UInt8} {aD aD' : Option Addr} {cD cD' : Nat} (h : LInv w V B a c s sf ge D aD cD) (hd : rBytes.r (fun q => ge < q ∧ q < V.heap.size) V [.slice aD' D'.length cD'] D') : LInv w V B a c s sf ge D' aD' cD' :=
 ⟨h.b0, h.b1, h.be, h.lo, hd, h.bel⟩
theorem LInv.set {w V : World} {B : List UInt8} {a : Option Addr} {c : Nat} {s sf : Rs} {ge : Nat} {D : List UInt8} {aD : Option Addr} {cD : Nat} (h : LInv w V B a c s sf ge D aD cD) (t : Rs) :
  LInv w ((((V.setCell ⟨ge, 0, none⟩ (.slice a B.length c)).setCell ⟨ge, 1, none⟩ (.int .i64 (t.p : Int))).setCell ⟨ge, 2, none⟩ (.int .i64 t.k)).setCell ⟨ge, 3, none⟩ (.int .i64 t.f)) B a c s t ge D aD cD := by
 have hlo := h.lo
 refine ⟨?_, ?_, ?_, hlo, ?_, ?_⟩
 ·exact Blk.far (Blk.far (Blk.far (Blk.far h.b0 (by dsimp only; omega) _) (by dsimp only; omega) _) (by dsimp only; omega) _) (by dsimp only; omega) _
 ·exact Blk.far (Blk.far (Blk.far (Blk.far h.b1 (by dsimp only; omega) _) (by dsimp only; omega) _) (by dsimp only; omega) _) (by dsimp only; omega) _
 ·exact Blk.set (Blk.set (Blk.set (Blk.set h.be 0 _) 1 _) 2 _) 3 _
 ·refine rBytes.mono (rBytes.keep h.dat fun q hq => ?_) fun q hq => ⟨hq.1, by have := hq.2; simp [World.setCell]; omega⟩
  have hq1 := hq.1
  repeat (rw [Below.heap_setCell _ _ _ _ (by dsimp only; omega)])
 ·have hb := h.bel
  (repeat (first | with_reducible exact Below.refl _ _ | with_reducible assumption | (with_reducible refine below_alloc ?_ _) | (with_reducible refine Below.setCell ?_ (by first | omega | (simp; done) | (simp; omega)) _) | (with_reducible refine Below.drew ?_) | (with_reducible refine below_drewN ?_ _) | (refine below_then (by with_reducible assumption) ?_)))
set_option maxRecDepth 100000 in
set_option maxHeartbeats 12800000 in
theorem ref16_loose (w : World) (a : Option Addr) (c : Nat) (B : List UInt8) (hl : rBytes.r (· < w.heap.size) w [.slice a B.length c] B) (s : Rs) (hs : s.ok B.length) (hB : B.length ≤ 1000000000) (most : Int) (hm : -9223372036854775808 ≤ most ∧ most ≤ 9223372036854775807) :
  Calls Tryz.prog 102 #[CV a B.length c s, .int .i64 most] w fun r w' => ∃ v, r = .returned (.tuple #[CV a B.length c (s.loose B most).1, v, .bool (s.loose B most).2.2]) ∧ rBytes.r (fun q => w.heap.size ≤ q ∧ q < w'.heap.size) w' [v] (s.loose B most).2.1 ∧ Below w.heap.size w w' := by
 have HL := hid hl
 have hI := hid (fun (W : World) (hW : Below w.heap.size w W) => ref04_int W a c B (lift HL.out hW) s hs (by omega) (min most 1048576) (by omega))
 have hiok := Rs.int_ok hs (m := min most 1048576)
 have hip := Rs.int_p (B := B) (s := s) (m := min most 1048576)
 have hile : (s.int B (min most 1048576)).2 ≤ 1048576 := by have := Rs.int_le (B := B) (s := s) (m := min most 1048576); omega
 have hbok := Rs.byte_ok hiok
 have hbp := Rs.byte_p hiok
 have hBY := hid (fun (W : World) (hW : Below w.heap.size w W) => ref02_take W a c B (lift HL.out hW) (s.int B (min most 1048576)).1 hiok 1 (by omega) (by omega))
 have hTK := hid (fun (W : World) (hW : Below w.heap.size w W) => ref02_take W a c B (lift HL.out hW) ((s.int B (min most 1048576)).1.byte B).1 hbok ((s.int B (min most 1048576)).2 : Int) (by omega) (by omega))
 have htok := Rs.take_ok (B := B) hbok ((s.int B (min most 1048576)).2 : Int)
 have htp := Rs.take_p hbok ((s.int B (min most 1048576)).2 : Int)
 have htl : (((s.int B (min most 1048576)).1.byte B).1.take B ((s.int B (min most 1048576)).2 : Int)).2.length ≤ 1048576 := by
  by_cases h0 : (((s.int B (min most 1048576)).1.byte B).1.take B ((s.int B (min most 1048576)).2 : Int)).1.k = 0
  ·rw [(Rs.take_more h0).2.2]; omega
  ·rw [Rs.take_bad h0]; simp
 have hBL := hid (fun (W : World) (hW : Below w.heap.size w W) => ref06_read W a c B (lift HL.out hW) ((s.int B (min most 1048576)).1.byte B).1 hbok (by omega) 1048576 (by omega))
 have hblok := Rs.blob_ok hbok 1048576
 have hblp := Rs.blob_p hbok 1048576
 have hbll : (((s.int B (min most 1048576)).1.byte B).1.blob B 1048576).2.length ≤ B.length := by
  unfold Rs.blob Rs.take
  dsimp only
  split
  ·simp; omega
  ·simp
 have hxf := exB_facts (((s.int B (min most 1048576)).1.byte B).1.blob B 1048576).2 ((s.int B (min most 1048576)).2 : Int)
 have hX := hid (fun (W : World) (aD : Option Addr) (nD cD : Nat) (hl : rBytes.r (· < W.heap.size) W [.slice aD nD cD] (((s.int B (min most 1048576)).1.byte B).1.blob B 1048576).2) => ref12_bytes W (((s.int B (min most 1048576)).1.byte B).1.blob B 1048576).2 aD nD cD hl (by omega) ((s.int B (min most 1048576)).2 : Int) (by omega))
 have hF7 := hid (fun (W : World) => ref02_fail W a B.length c ((s.int B (min most 1048576)).1.byte B).1 7 ((((s.int B (min most 1048576)).1.byte B).1.p : Int) - 1) (by omega))
 have hF3 := hid (fun (W : World) => ref02_fail W a B.length c (((s.int B (min most 1048576)).1.byte B).1.blob B 1048576).1 3 ((((s.int B (min most 1048576)).1.byte B).1.blob B 1048576).1.p : Int) (by omega))
 have hFX := hid (fun (W : World) (hk : (exB (((s.int B (min most 1048576)).1.byte B).1.blob B 1048576).2 ((s.int B (min most 1048576)).2 : Int)).2.1 ≠ 0) => ref02_fail W a B.length c (((s.int B (min most 1048576)).1.byte B).1.blob B 1048576).1 (exB (((s.int B (min most 1048576)).1.byte B).1.blob B 1048576).2 ((s.int B (min most 1048576)).2 : Int)).2.1 ((exB (((s.int B (min most 1048576)).1.byte B).1.blob B 1048576).2 ((s.int B (min most 1048576)).2 : Int)).2.2 + (((((s.int B (min most 1048576)).1.byte B).1.blob B 1048576).1.p : Int) - ((((s.int B (min most 1048576)).1.byte B).1.blob B 1048576).2.length : Int))) hk)
 have hfk3 := Rs.fail_k (s := (((s.int B (min most 1048576)).1.byte B).1.blob B 1048576).1) (c := 3) (at_ := ((((s.int B (min most 1048576)).1.byte B).1.blob B 1048576).1.p : Int)) (by omega)
 have hfkx := fun hk => Rs.fail_k (s := (((s.int B (min most 1048576)).1.byte B).1.blob B 1048576).1) (c := (exB (((s.int B (min most 1048576)).1.byte B).1.blob B 1048576).2 ((s.int B (min most 1048576)).2 : Int)).2.1) (at_ := ((exB (((s.int B (min most 1048576)).1.byte B).1.blob B 1048576).2 ((s.int B (min most 1048576)).2 : Int)).2.2 + (((((s.int B (min most 1048576)).1.byte B).1.blob B 1048576).1.p : Int) - ((((s.int B (min most 1048576)).1.byte B).1.blob B 1048576).2.length : Int)))) hk
 have hby1 := take1_k (B := B) (s := (s.int B (min most 1048576)).1)
 have hb1 : ((s.int B (min most 1048576)).1.byte B).1.k = 0 → ((s.int B (min most 1048576)).1.byte B).1.p = (s.int B (min most 1048576)).1.p + 1 := fun hk => byte_p rfl hk
 rw [take1] at hBY
 have hUeq : ((s.int B (min most 1048576)).1.byte B).1.unp B (s.int B (min most 1048576)).2 = (if (((s.int B (min most 1048576)).1.byte B).1.blob B 1048576).1.k = 0 then
  (if (exB (((s.int B (min most 1048576)).1.byte B).1.blob B 1048576).2 ((s.int B (min most 1048576)).2 : Int)).2.1 = 0 then
   (if (exB (((s.int B (min most 1048576)).1.byte B).1.blob B 1048576).2 ((s.int B (min most 1048576)).2 : Int)).1.length < (s.int B (min most 1048576)).2 then ((((s.int B (min most 1048576)).1.byte B).1.blob B 1048576).1.fail 3 ((((s.int B (min most 1048576)).1.byte B).1.blob B 1048576).1.p : Int), (exB (((s.int B (min most 1048576)).1.byte B).1.blob B 1048576).2 ((s.int B (min most 1048576)).2 : Int)).1) else ((((s.int B (min most 1048576)).1.byte B).1.blob B 1048576).1, (exB (((s.int B (min most 1048576)).1.byte B).1.blob B 1048576).2 ((s.int B (min most 1048576)).2 : Int)).1))
  else ((((s.int B (min most 1048576)).1.byte B).1.blob B 1048576).1.fail (exB (((s.int B (min most 1048576)).1.byte B).1.blob B 1048576).2 ((s.int B (min most 1048576)).2 : Int)).2.1 ((exB (((s.int B (min most 1048576)).1.byte B).1.blob B 1048576).2 ((s.int B (min most 1048576)).2 : Int)).2.2 + (((((s.int B (min most 1048576)).1.byte B).1.blob B 1048576).1.p : Int) - ((((s.int B (min most 1048576)).1.byte B).1.blob B 1048576).2.length : Int))), []))
 else ((((s.int B (min most 1048576)).1.byte B).1.blob B 1048576).1, [])) := by unfold Rs.unp; rfl
 unfold Rs.loose
 generalize ((s.int B (min most 1048576)).1.byte B).1.unp B (s.int B (min most 1048576)).2 = U at *
 generalize ((s.int B (min most 1048576)).1.byte B).1.fail 7 ((((s.int B (min most 1048576)).1.byte B).1.p : Int) - 1) = F7 at *
 generalize (((s.int B (min most 1048576)).1.byte B).1.blob B 1048576).1.fail 3 ((((s.int B (min most 1048576)).1.byte B).1.blob B 1048576).1.p : Int) = F3 at *
 generalize (((s.int B (min most 1048576)).1.byte B).1.blob B 1048576).1.fail (exB (((s.int B (min most 1048576)).1.byte B).1.blob B 1048576).2 ((s.int B (min most 1048576)).2 : Int)).2.1 ((exB (((s.int B (min most 1048576)).1.byte B).1.blob B 1048576).2 ((s.int B (min most 1048576)).2 : Int)).2.2 + (((((s.int B (min most 1048576)).1.byte B).1.blob B 1048576).1.p : Int) - ((((s.int B (min most 1048576)).1.byte B).1.blob B 1048576).2.length : Int))) = FX at *
 generalize exB (((s.int B (min most 1048576)).1.byte B).1.blob B 1048576).2 ((s.int B (min most 1048576)).2 : Int) = X at *
 generalize ((s.int B (min most 1048576)).1.byte B).1.blob B 1048576 = BL at *
 generalize ((s.int B (min most 1048576)).1.byte B).1.take B ((s.int B (min most 1048576)).2 : Int) = T at *
 generalize ((s.int B (min most 1048576)).1.take B 1).2 = WY at *
 generalize (s.int B (min most 1048576)).1.byte B = Y at *
 generalize s.int B (min most 1048576) = N at *
 obtain ⟨sd, n⟩ := N
 obtain ⟨se, y⟩ := Y
 obtain ⟨st, DT⟩ := T
 obtain ⟨sb, TB⟩ := BL
 obtain ⟨DX, kx, fx⟩ := X
 dsimp only at *
 have hM : (if most ≤ 1048576 then most else 1048576) = min most 1048576 := by split <;> omega
 have hM1 : (1048576 : Int) < most → min most 1048576 = 1048576 := by omega
 have hM2 : ¬ (1048576 : Int) < most → min most 1048576 = most := by omega
 generalize min most 1048576 = M at *
 have hy := y.toNat_lt
 have hzs := hs.le
 clear hl hs
 unfold CV at *
 have HOKS := hid (And.intro hbok.le (And.intro htok.le hblok.le))
 have hcut := hid (fun (W : World) (hW : Below w.heap.size w W) (p : Nat) (h1 : s.p ≤ p) (h2 : p ≤ B.length) => cut_bytes (lift HL.out hW) (lo := s.p) (hi := p) h1 h2)
 have hBB := hid (fun (W : World) (D : List UInt8) (aD : Option Addr) (cD : Nat) (h : rBytes.r (· < W.heap.size) W [.slice aD D.length cD] D) (hlen : D.length ≤ 1048576) => ref16_bytes W D aD _ cD h hlen)
 clear hiok hbok htok hblok
 obtain ⟨qm, hqm⟩ : ∃ q, decide ((1048576 : Int) < most) = q := ⟨_, rfl⟩
 have hmq : Hid (M = if qm = true then 1048576 else most) := hid (by
  cases qm
  ·rw [if_neg (by simp)]; exact hM2 (of_decide_eq_false hqm)
  ·rw [if_pos rfl]; exact hM1 (of_decide_eq_true hqm))
 clear hM hM1 hM2
 rw [hmq.out] at hI
 clear hmq
 by_cases hk : se.k = 0
 ·have dk : (se.k != (0 : Int)) = false := by simp [hk]
  have hwy := hby1 hk
  have hp1 := hid (hb1 hk)
  subst hwy
  rw [if_pos hk]
  have HK := hid hk
  clear hk hb1 hby1
  by_cases h0 : y.toNat = 0
  ·have d0 : ((y.toNat : Int) == 0) = true := by rw [h0]; rfl
   have d1 : decide ((1 : Int) < (y.toNat : Int)) = false := decide_eq_false (by omega)
   have d1' : decide (1 < y.toNat) = false := decide_eq_false (by omega)
   rw [if_pos h0]
   clear h0 hUeq
   by_cases ht : st.k = 0
   ·have dt : (st.k != (0 : Int)) = false := by simp [ht]
    rw [if_pos ht]
    clear ht
    dsimp only
    go_enter Tryz.func102, Tryz.ntmps102
    cases qm
    all_goals
     simp only [if_true, if_false, Bool.false_eq_true] at hI
     go_wp2_with fail
     refine (hI.out _ (by (repeat first | with_reducible (first | exact zR | assumption | apply zA | apply zS | apply zD | apply zN) | refine zT (by with_reducible assumption) ?_ | omega | simp <;> omega))).mono ?_
     rintro r w1 ⟨rfl, hb⟩
     have B0 : Blk w1 w.heap.size 50 #[.slice a B.length c, .int .i64 (s.p : Int), .int .i64 s.k, .int .i64 s.f] := Blk.later (by (repeat first | assumption | exact kW (by first | (simp; done) | (simp; omega)) | apply kA | apply kD | apply kN | apply kF | simp <;> omega)) hb
     have B1 : Blk w1 (w.heap.size + 1) 50 #[.slice none 0 0, .int .i64 0, .int .i64 0, .int .i64 0] := Blk.later (by (repeat first | assumption | exact kW (by first | (simp; done) | (simp; omega)) | apply kA | apply kD | apply kN | apply kF | simp <;> omega)) hb
     have hbw1 : Below w.heap.size w w1 := by (repeat first | with_reducible (first | exact zR | assumption | apply zA | apply zS | apply zD | apply zN) | refine zT (by with_reducible assumption) ?_ | omega | simp <;> omega)
     have hz1 := hb.size
     simp at hz1
     clear hb
     go_wp2_with fail
     refine (hBY.out _ (by (repeat first | with_reducible (first | exact zR | assumption | apply zA | apply zS | apply zD | apply zN) | refine zT (by with_reducible assumption) ?_ | omega | simp <;> omega))).mono ?_
     rintro r w2 ⟨v, rfl, hr, hb⟩
     obtain ⟨aW, cW, hv, hr2, _⟩ := sl_form hr
     simp only [List.cons.injEq, and_true] at hv
     subst hv
     have HW2 := hid (rBytes.mono (S' := (· < w2.heap.size)) hr2 fun q hq => hq.2)
     have C0 := (B0.alloc _).later hb
     have C1 := (B1.alloc _).later hb
     have CD : Blk w2 w1.heap.size 50 #[.slice a B.length c, .int .i64 (sd.p : Int), .int .i64 sd.k, .int .i64 sd.f] := Blk.later (Blk.newAt w1 _ _ rfl) hb
     have hbw2 : Below w.heap.size w w2 := by (repeat first | with_reducible (first | exact zR | assumption | apply zA | apply zS | apply zD | apply zN) | refine zT (by with_reducible assumption) ?_ | omega | simp <;> omega)
     have hz2 := hb.size
     simp at hz2
     clear hb hr hr2 B0 B1
     have hV2 : LInv w (w2.alloc (.cells #[.slice a B.length c, .int .i64 (se.p : Int), .int .i64 se.k, .int .i64 se.f] 50)) B a c s se w2.heap.size [] none 0 := ⟨C0.alloc _, C1.alloc _, Blk.newAt _ _ _ rfl, by omega, empty_bytes rfl rfl (by omega), by (repeat first | with_reducible (first | exact zR | assumption | apply zA | apply zS | apply zD | apply zN) | refine zT (by with_reducible assumption) ?_ | omega | simp <;> omega)⟩
     have HV2 := hid hV2
     clear hV2
     obtain ⟨gw, ow, hA, hgw, hcw⟩ := byte_at HW2.out (i := 0) (by simp)
     subst hA
     simp at hcw
     obtain ⟨x0, x1, x2, x3, e0, e1, e2, e3, l0⟩ := c_blk CD
     clear C0 C1
     go_wp2_with fail
     refine (hTK.out _ (by (repeat first | with_reducible (first | exact zR | assumption | apply zA | apply zS | apply zD | apply zN) | refine zT (by with_reducible assumption) ?_ | omega | simp <;> omega))).mono ?_
     rintro r w3 ⟨v, rfl, hr, hb⟩
     obtain ⟨a3, c3, hv, hr2, _⟩ := sl_form hr
     simp only [List.cons.injEq, and_true] at hv
     subst hv
     have hV3 := (HV2.out.later hb).data (rBytes.mono hr2 fun q hq => (⟨by have := hq.1; simp at this; omega, hq.2⟩ : w2.heap.size < q ∧ q < w3.heap.size))
     have HV3 := hid (hV3.set st)
     obtain ⟨x0, x1, x2, x3, e0, e1, e2, e3, l0⟩ := c_blk hV3.be
     clear hr hr2 hb hV3
     go_upto_region 21 with (fail)
     refine wp_world (fun V => LInv w V B a c s st w2.heap.size DT a3 c3) (HV3.out) ?_
     intro V hV
     clear x0 x1 x2 x3 e0 e1 e2 e3 l0
     obtain ⟨x0, x1, x2, x3, e0, e1, e2, e3, l0⟩ := c_blk hV.be
     obtain ⟨y0, y1, y2, y3, g0, g1, g2, g3, l1⟩ := c_blk hV.b1
     obtain ⟨z0, z1, z2, z3, f0, f1, f2, f3, l2⟩ := c_blk hV.b0
     have hbl := hV.bel
     have hlo := hV.lo
     have HDV := hid hV.dat
     have HV1 := hid hV.b1
     have hpl2 := HOKS.out.2.1
     obtain ⟨aC, cC, hsl, hsub⟩ := hcut.out V hbl st.p (by omega) hpl2
     have hlS : ((B.drop s.p).take (st.p - s.p)).length = st.p - s.p := by simp; omega
     generalize hS : (B.drop s.p).take (st.p - s.p) = SS at *
     have HS := hid hS
     have HLS := hid hlS
     have HSUB := hid hsub
     have HDW : Hid (rBytes.r (· < V.heap.size) V [.slice a3 DT.length c3] DT) := hid (rBytes.mono HDV.out fun q hq => hq.2)
     have HB := hid (fun (W : World) (hW : Below V.heap.size V W) => hBB.out W DT a3 c3 (lift HDW.out hW) (htl))
     clear hV hS hlS hsub
     generalize hBB2 : blockB DT = BB at *
     have HBB2 := hid hBB2
     clear hBB2
     have iz1 : (0 : Int) ≤ (s.p : Int) := by omega
     have iz2 : (s.p : Int) ≤ (st.p : Int) := by omega
     go_wp2_with fail
     refine wp_region_held_drew (S := fun w' => w'.cell? ⟨w2.heap.size, 0, none⟩ = some (.slice a B.length c) ∧ w'.cell? ⟨w2.heap.size, 1, none⟩ = some (.int .i64 (st.p : Int)) ∧ w'.cell? ⟨w2.heap.size, 2, none⟩ = some (.int .i64 st.k) ∧ w'.cell? ⟨w2.heap.size, 3, none⟩ = some (.int .i64 st.f) ∧ w'.cell? ⟨w.heap.size, 1, none⟩ = some (.int .i64 (s.p : Int))) (by kernel_rfl) ⟨x0, x1, x2, x3, z1⟩ (fun hHeld => ?_)
     refine wpAnyH_take (i := 0) (oi := _) (v := ?_) rfl (by decide +kernel) (by decide +kernel) (by decide +kernel) (fun _ _ _ h => h) (Or.inl ⟨by rfl, ?_⟩) (by assumption) ?_
     rotate_left
     ·(intro w hSw; (try dsimp only at hSw); go_simp <;> with_reducible rfl)
     (try simp only [Act.put, List.setIfInBounds_toArray, List.set_cons_zero, List.set_cons_succ])
     refine wpAnyH_take (i := 1) (oi := _) (v := ?_) rfl (by decide +kernel) (by decide +kernel) (by decide +kernel) (fun _ _ _ h => h) (Or.inl ⟨by rfl, ?_⟩) (by assumption) ?_
     rotate_left
     ·(intro w hSw; (try dsimp only at hSw); go_simp <;> with_reducible rfl)
     (try simp only [Act.put, List.setIfInBounds_toArray, List.set_cons_zero, List.set_cons_succ])
     refine wpAnyH_take (i := 2) (oi := _) (v := ?_) rfl (by decide +kernel) (by decide +kernel) (by decide +kernel) (fun _ _ _ h => h) (Or.inl ⟨by rfl, ?_⟩) (by assumption) ?_
     rotate_left
     ·(intro w hSw; (try dsimp only at hSw); go_simp <;> with_reducible rfl)
     (try simp only [Act.put, List.setIfInBounds_toArray, List.set_cons_zero, List.set_cons_succ])
     refine wpAnyH_take (i := 4) (oi := _) (v := ?_) rfl (by decide +kernel) (by decide +kernel) (by decide +kernel) (fun _ _ _ h => h) (Or.inl ⟨by rfl, ?_⟩) (by assumption) ?_
     rotate_left
     ·(intro w hSw; (try dsimp only at hSw); go_simp <;> with_reducible rfl)
     (try simp only [Act.put, List.setIfInBounds_toArray, List.set_cons_zero, List.set_cons_succ])
     refine wpAnyH_take (i := 5) (oi := _) (v := ?_) rfl (by decide +kernel) (by decide +kernel) (by decide +kernel) (fun _ _ _ h => h) (Or.inl ⟨by rfl, ?_⟩) (by assumption) ?_
     rotate_left
     ·(intro w hSw; (try dsimp only at hSw); go_simp <;> with_reducible rfl)
     (try simp only [Act.put, List.setIfInBounds_toArray, List.set_cons_zero, List.set_cons_succ])
     refine wpAnyH_take (i := 6) (oi := _) (v := ?_) rfl (by decide +kernel) (by decide +kernel) (by decide +kernel) (fun _ _ _ h => h) (Or.inl ⟨by rfl, ?_⟩) (by assumption) ?_
     rotate_left
     ·(intro w hSw; (try dsimp only at hSw); go_simp <;> with_reducible rfl)
     (try simp only [Act.put, List.setIfInBounds_toArray, List.set_cons_zero, List.set_cons_succ])
     refine wpAnyH_take (i := 7) (oi := _) (v := ?_) rfl (by decide +kernel) (by decide +kernel) (by decide +kernel) (fun _ _ _ h => h) (Or.inl ⟨by rfl, ?_⟩) (by assumption) ?_
     rotate_left
     ·(intro w hSw; (try dsimp only at hSw); go_simp <;> with_reducible rfl)
     (try simp only [Act.put, List.setIfInBounds_toArray, List.set_cons_zero, List.set_cons_succ])
     refine wpAnyH_take (i := 8) (oi := _) (v := ?_) rfl (by decide +kernel) (by decide +kernel) (by decide +kernel) (fun _ _ _ h => h) (Or.inl ⟨by rfl, ?_⟩) (by assumption) ?_
     rotate_left
     ·(intro w hSw; (try dsimp only at hSw); go_simp <;> with_reducible rfl)
     (try simp only [Act.put, List.setIfInBounds_toArray, List.set_cons_zero, List.set_cons_succ])
     refine wpAnyH_take (i := 9) (oi := _) (v := ?_) rfl (by decide +kernel) (by decide +kernel) (by decide +kernel) (fun _ _ _ h => h) (Or.inl ⟨by rfl, ?_⟩) (by assumption) ?_
     rotate_left
     ·(intro w hSw; (try dsimp only at hSw); go_simp <;> with_reducible rfl)
     (try simp only [Act.put, List.setIfInBounds_toArray, List.set_cons_zero, List.set_cons_succ])
     refine wpAnyH_take (i := 10) (oi := _) (v := ?_) rfl (by decide +kernel) (by decide +kernel) (by decide +kernel) (fun _ _ _ h => h) (Or.inl ⟨by rfl, ?_⟩) (by assumption) ?_
     rotate_left
     ·(intro w hSw; (try dsimp only at hSw); go_simp <;> with_reducible rfl)
     (try simp only [Act.put, List.setIfInBounds_toArray, List.set_cons_zero, List.set_cons_succ])
     refine wpAnyH_ready (rs := [3]) (by decide +kernel) (by simp) ?_
     refine AllReadyH.cons (o := _) rfl (fun K hK => ?_) AllReadyH.nil
     (go_simp; go_at_call 90; refine (HB.out _ (by (repeat first | with_reducible (first | exact zR | assumption | apply zA | apply zS | apply zD | apply zN) | refine zT (by with_reducible assumption) ?_ | omega | simp <;> omega))).mono ?_; rintro e w8 ⟨v8, rfl, hr8, hb8⟩; obtain ⟨a8, c8, hv8, hr8', _⟩ := sl_form hr8; simp only [List.cons.injEq, and_true] at hv8; subst hv8; have hbv8 : Below V.heap.size V w8 := (by (repeat first | with_reducible (first | exact zR | assumption | apply zA | apply zS | apply zD | apply zN) | refine zT (by with_reducible assumption) ?_ | omega | simp <;> omega)); have k0 := (hbv8.cell (p := ⟨w2.heap.size, 0, none⟩) l0).trans x0; have k1 := (hbv8.cell (p := ⟨w2.heap.size, 1, none⟩) l0).trans x1; have k2 := (hbv8.cell (p := ⟨w2.heap.size, 2, none⟩) l0).trans x2; have k3 := (hbv8.cell (p := ⟨w2.heap.size, 3, none⟩) l0).trans x3; have k4 := (hbv8.cell (p := ⟨w.heap.size, 1, none⟩) l2).trans z1; have B8 := HV1.out.later hbv8; obtain ⟨m0, m1, m2, m3, p0, p1, p2, p3, l8⟩ := c_blk B8; have HR8 := hid hr8'; have HB8 := hid hbv8; have hs8 := hbv8.size; clear B8 y0 y1 y2 y3 g0 g1 g2 g3 l1; clear hr8 hr8' hb8 hbv8; (try dsimp only))
     refine hK.out _ _ ?_ (fun hHeld => ?_)
     ·((try dsimp only); refine ⟨?_, ?_, ?_, ?_, ?_⟩ <;> (first | assumption | (go_keep; done)))
     clear hK K
     (try simp only [Act.put, List.setIfInBounds_toArray, List.set_cons_zero, List.set_cons_succ])
     refine wpAnyH_ready (rs := [11]) (by decide +kernel) (by simp) ?_
     refine AllReadyH.cons (o := _) rfl (fun K hK => ?_) AllReadyH.nil
     (go_simp; go_at_call 21; refine (same_bytes BB SS a8 aC _ c8 _ cC _ (rBytes.mono HR8.out fun q hq => hq.2) (lift HSUB.out HB8.out)).mono ?_; rintro e w9 ⟨rfl, rfl⟩; (try dsimp only))
     refine hK.out _ _ ?_ (fun hHeld => ?_)
     ·((try dsimp only); refine ⟨?_, ?_, ?_, ?_, ?_⟩ <;> (first | assumption | (go_keep; done)))
     clear hK K
     (try simp only [Act.put, List.setIfInBounds_toArray, List.set_cons_zero, List.set_cons_succ])
     refine wpAnyH_ready (rs := [12]) (by decide +kernel) (by simp) ?_
     refine AllReadyH.cons (o := _) rfl (fun K hK => ?_) AllReadyH.nil
     go_simp
     refine hK.out _ _ ?_ (fun hHeld => ?_)
     ·refine ⟨?_, ?_, ?_, ?_, ?_⟩
      all_goals
       rw [World.cell?_setCell_far _ _ _ _ (by dsimp only; omega), World.cell?_setCell_far _ _ _ _ (by dsimp only; omega), World.cell?_setCell_far _ _ _ _ (by dsimp only; omega), World.cell?_setCell_far _ _ _ _ (by dsimp only; omega)]
       assumption
     clear hK K
     (try simp only [Act.put, List.setIfInBounds_toArray, List.set_cons_zero, List.set_cons_succ])
     refine wpAnyH_take (i := 13) (oi := _) (v := ?_) rfl (by decide +kernel) (by decide +kernel) (by decide +kernel) (fun _ _ _ h => h) (Or.inl ⟨by rfl, ?_⟩) (by assumption) ?_
     rotate_left
     ·(intro w hSw; (try dsimp only at hSw); go_simp <;> with_reducible rfl)
     (try simp only [Act.put, List.setIfInBounds_toArray, List.set_cons_zero, List.set_cons_succ])
     refine wpAnyH_take (i := 14) (oi := _) (v := ?_) rfl (by decide +kernel) (by decide +kernel) (by decide +kernel) (fun _ _ _ h => h) (Or.inl ⟨by rfl, ?_⟩) (by assumption) ?_
     rotate_left
     ·(intro w hSw; (try dsimp only at hSw); go_simp <;> with_reducible rfl)
     (try simp only [Act.put, List.setIfInBounds_toArray, List.set_cons_zero, List.set_cons_succ])
     simp only [List.getElem_toArray, List.getElem_cons_zero, List.getElem_cons_succ, Act.put, List.setIfInBounds_toArray, List.set_cons_zero, List.set_cons_succ]
     refine wpAnyH_done (by kernel_rfl) ?_ _
     have hbe8 : Below w.heap.size w w8 := below_then HB8.out hbl
     go_wp2
     refine bodyPost_ret (v := .tuple #[.agg #[.slice a B.length c, .int .i64 (st.p : Int), .int .i64 st.k, .int .i64 st.f], .slice a3 DT.length c3, .bool (decide (BB = SS))]) (by simp [results, Tryz.results102, go_sem, m0, m1, m2, m3, l8]) rfl ⟨_, by rw [HS.out, HBB2.out], ?_, by (repeat first | with_reducible (first | exact zR | assumption | apply zA | apply zS | apply zD | apply zN) | refine zT (by with_reducible assumption) ?_ | omega | simp <;> omega)⟩
     refine rBytes.mono (rBytes.keep (rBytes.keep HDV.out fun q hq => HB8.out.block q hq.2) fun q hq => ?_) fun q hq => ⟨by omega, by simp [World.setCell]; omega⟩
     repeat (rw [Below.heap_setCell _ _ _ _ (by dsimp only; omega)])
   ·have dt : (st.k != (0 : Int)) = true := by simp [ht]
    rw [if_neg ht]
    clear ht
    dsimp only
    go_enter Tryz.func102, Tryz.ntmps102
    cases qm
    all_goals
     simp only [if_true, if_false, Bool.false_eq_true] at hI
     go_wp2_with fail
     refine (hI.out _ (by (repeat first | with_reducible (first | exact zR | assumption | apply zA | apply zS | apply zD | apply zN) | refine zT (by with_reducible assumption) ?_ | omega | simp <;> omega))).mono ?_
     rintro r w1 ⟨rfl, hb⟩
     have B0 : Blk w1 w.heap.size 50 #[.slice a B.length c, .int .i64 (s.p : Int), .int .i64 s.k, .int .i64 s.f] := Blk.later (by (repeat first | assumption | exact kW (by first | (simp; done) | (simp; omega)) | apply kA | apply kD | apply kN | apply kF | simp <;> omega)) hb
     have B1 : Blk w1 (w.heap.size + 1) 50 #[.slice none 0 0, .int .i64 0, .int .i64 0, .int .i64 0] := Blk.later (by (repeat first | assumption | exact kW (by first | (simp; done) | (simp; omega)) | apply kA | apply kD | apply kN | apply kF | simp <;> omega)) hb
     have hbw1 : Below w.heap.size w w1 := by (repeat first | with_reducible (first | exact zR | assumption | apply zA | apply zS | apply zD | apply zN) | refine zT (by with_reducible assumption) ?_ | omega | simp <;> omega)
     have hz1 := hb.size
     simp at hz1
     clear hb
     go_wp2_with fail
     refine (hBY.out _ (by (repeat first | with_reducible (first | exact zR | assumption | apply zA | apply zS | apply zD | apply zN) | refine zT (by with_reducible assumption) ?_ | omega | simp <;> omega))).mono ?_
     rintro r w2 ⟨v, rfl, hr, hb⟩
     obtain ⟨aW, cW, hv, hr2, _⟩ := sl_form hr
     simp only [List.cons.injEq, and_true] at hv
     subst hv
     have HW2 := hid (rBytes.mono (S' := (· < w2.heap.size)) hr2 fun q hq => hq.2)
     have C0 := (B0.alloc _).later hb
     have C1 := (B1.alloc _).later hb
     have CD : Blk w2 w1.heap.size 50 #[.slice a B.length c, .int .i64 (sd.p : Int), .int .i64 sd.k, .int .i64 sd.f] := Blk.later (Blk.newAt w1 _ _ rfl) hb
     have hbw2 : Below w.heap.size w w2 := by (repeat first | with_reducible (first | exact zR | assumption | apply zA | apply zS | apply zD | apply zN) | refine zT (by with_reducible assumption) ?_ | omega | simp <;> omega)
     have hz2 := hb.size
     simp at hz2
     clear hb hr hr2 B0 B1
     have hV2 : LInv w (w2.alloc (.cells #[.slice a B.length c, .int .i64 (se.p : Int), .int .i64 se.k, .int .i64 se.f] 50)) B a c s se w2.heap.size [] none 0 := ⟨C0.alloc _, C1.alloc _, Blk.newAt _ _ _ rfl, by omega, empty_bytes rfl rfl (by omega), by (repeat first | with_reducible (first | exact zR | assumption | apply zA | apply zS | apply zD | apply zN) | refine zT (by with_reducible assumption) ?_ | omega | simp <;> omega)⟩
     have HV2 := hid hV2
     clear hV2
     obtain ⟨gw, ow, hA, hgw, hcw⟩ := byte_at HW2.out (i := 0) (by simp)
     subst hA
     simp at hcw
     obtain ⟨x0, x1, x2, x3, e0, e1, e2, e3, l0⟩ := c_blk CD
     clear C0 C1
     go_wp2_with fail
     refine (hTK.out _ (by (repeat first | with_reducible (first | exact zR | assumption | apply zA | apply zS | apply zD | apply zN) | refine zT (by with_reducible assumption) ?_ | omega | simp <;> omega))).mono ?_
     rintro r w3 ⟨v, rfl, hr, hb⟩
     obtain ⟨a3, c3, hv, hr2, _⟩ := sl_form hr
     simp only [List.cons.injEq, and_true] at hv
     subst hv
     have hV3 := (HV2.out.later hb).data (rBytes.mono hr2 fun q hq => (⟨by have := hq.1; simp at this; omega, hq.2⟩ : w2.heap.size < q ∧ q < w3.heap.size))
     have HV3 := hid (hV3.set st)
     obtain ⟨x0, x1, x2, x3, e0, e1, e2, e3, l0⟩ := c_blk hV3.be
     clear hr hr2 hb hV3
     go_upto_region 21 with (fail)
     refine wp_world (fun V => LInv w V B a c s st w2.heap.size DT a3 c3) (HV3.out) ?_
     intro V hV
     clear x0 x1 x2 x3 e0 e1 e2 e3 l0
     obtain ⟨x0, x1, x2, x3, e0, e1, e2, e3, l0⟩ := c_blk hV.be
     obtain ⟨y0, y1, y2, y3, g0, g1, g2, g3, l1⟩ := c_blk hV.b1
     have hbl := hV.bel
     go_wp2
     refine bodyPost_ret (v := .tuple #[.agg #[.slice a B.length c, .int .i64 (st.p : Int), .int .i64 st.k, .int .i64 st.f], .slice none 0 0, .bool false]) (by simp [results, Tryz.results102, go_sem, y0, y1, y2, y3, l1]) rfl ⟨_, rfl, empty_bytes rfl rfl (by omega), by (repeat first | with_reducible (first | exact zR | assumption | apply zA | apply zS | apply zD | apply zN) | refine zT (by with_reducible assumption) ?_ | omega | simp <;> omega)⟩
  ·have d0 : ((y.toNat : Int) == 0) = false := by rw [beq_eq_false_iff_ne]; omega
   rw [if_neg h0]
   by_cases h1 : y.toNat = 1
   ·have d1 : decide ((1 : Int) < (y.toNat : Int)) = false := decide_eq_false (by omega)
    have d1' : decide (1 < y.toNat) = false := decide_eq_false (by omega)
    rw [if_pos h1]
    clear h0 h1
    by_cases hb : sb.k = 0
    ·have db : (sb.k == (0 : Int)) = true := by simp [hb]
     rw [if_pos hb] at hUeq
     by_cases hx : kx = 0
     ·have dx : (kx != (0 : Int)) = false := by simp [hx]
      rw [if_pos hx] at hUeq
      by_cases hn : DX.length < n
      ·have dn : decide ((DX.length : Int) < (n : Int)) = true := decide_eq_true (by omega)
       have dn' : decide (DX.length < n) = true := decide_eq_true hn
       rw [if_pos hn] at hUeq
       subst hUeq
       dsimp only
       rw [if_neg hfk3]
       have dt : (F3.k != (0 : Int)) = true := by simp [hfk3]
       clear hb hx hn
       dsimp only
       go_enter Tryz.func102, Tryz.ntmps102
       cases qm
       all_goals
        simp only [if_true, if_false, Bool.false_eq_true] at hI
        go_wp2_with fail
        refine (hI.out _ (by (repeat first | with_reducible (first | exact zR | assumption | apply zA | apply zS | apply zD | apply zN) | refine zT (by with_reducible assumption) ?_ | omega | simp <;> omega))).mono ?_
        rintro r w1 ⟨rfl, hb⟩
        have B0 : Blk w1 w.heap.size 50 #[.slice a B.length c, .int .i64 (s.p : Int), .int .i64 s.k, .int .i64 s.f] := Blk.later (by (repeat first | assumption | exact kW (by first | (simp; done) | (simp; omega)) | apply kA | apply kD | apply kN | apply kF | simp <;> omega)) hb
        have B1 : Blk w1 (w.heap.size + 1) 50 #[.slice none 0 0, .int .i64 0, .int .i64 0, .int .i64 0] := Blk.later (by (repeat first | assumption | exact kW (by first | (simp; done) | (simp; omega)) | apply kA | apply kD | apply kN | apply kF | simp <;> omega)) hb
        have hbw1 : Below w.heap.size w w1 := by (repeat first | with_reducible (first | exact zR | assumption | apply zA | apply zS | apply zD | apply zN) | refine zT (by with_reducible assumption) ?_ | omega | simp <;> omega)
        have hz1 := hb.size
        simp at hz1
        clear hb
        go_wp2_with fail
        refine (hBY.out _ (by (repeat first | with_reducible (first | exact zR | assumption | apply zA | apply zS | apply zD | apply zN) | refine zT (by with_reducible assumption) ?_ | omega | simp <;> omega))).mono ?_
        rintro r w2 ⟨v, rfl, hr, hb⟩
        obtain ⟨aW, cW, hv, hr2, _⟩ := sl_form hr
        simp only [List.cons.injEq, and_true] at hv
        subst hv
        have HW2 := hid (rBytes.mono (S' := (· < w2.heap.size)) hr2 fun q hq => hq.2)
        have C0 := (B0.alloc _).later hb
        have C1 := (B1.alloc _).later hb
        have CD : Blk w2 w1.heap.size 50 #[.slice a B.length c, .int .i64 (sd.p : Int), .int .i64 sd.k, .int .i64 sd.f] := Blk.later (Blk.newAt w1 _ _ rfl) hb
        have hbw2 : Below w.heap.size w w2 := by (repeat first | with_reducible (first | exact zR | assumption | apply zA | apply zS | apply zD | apply zN) | refine zT (by with_reducible assumption) ?_ | omega | simp <;> omega)
        have hz2 := hb.size
        simp at hz2
        clear hb hr hr2 B0 B1
        have hV2 : LInv w (w2.alloc (.cells #[.slice a B.length c, .int .i64 (se.p : Int), .int .i64 se.k, .int .i64 se.f] 50)) B a c s se w2.heap.size [] none 0 := ⟨C0.alloc _, C1.alloc _, Blk.newAt _ _ _ rfl, by omega, empty_bytes rfl rfl (by omega), by (repeat first | with_reducible (first | exact zR | assumption | apply zA | apply zS | apply zD | apply zN) | refine zT (by with_reducible assumption) ?_ | omega | simp <;> omega)⟩
        have HV2 := hid hV2
        clear hV2
        obtain ⟨gw, ow, hA, hgw, hcw⟩ := byte_at HW2.out (i := 0) (by simp)
        subst hA
        simp at hcw
        obtain ⟨x0, x1, x2, x3, e0, e1, e2, e3, l0⟩ := c_blk CD
        clear C0 C1
        go_wp2_with fail
        refine (hBL.out _ (by (repeat first | with_reducible (first | exact zR | assumption | apply zA | apply zS | apply zD | apply zN) | refine zT (by with_reducible assumption) ?_ | omega | simp <;> omega))).mono ?_
        rintro r w3 ⟨v, rfl, hr, hb⟩
        obtain ⟨a3, c3, hv, hr2, _⟩ := sl_form hr
        simp only [List.cons.injEq, and_true] at hv
        subst hv
        have hV3 := (HV2.out.later hb).data (rBytes.mono hr2 fun q hq => (⟨by have := hq.1; simp at this; omega, hq.2⟩ : w2.heap.size < q ∧ q < w3.heap.size))
        have HV3 := hid ((hV3.set sb).later (below_alloc (Below.refl _ _) (.cells #[.slice a B.length c, .int .i64 (sb.p : Int), .int .i64 sb.k, .int .i64 sb.f] 50)))
        obtain ⟨x0, x1, x2, x3, e0, e1, e2, e3, l0⟩ := c_blk hV3.be
        clear hr hr2 hb hV3
        go_upto_region 14 with (fail)
        refine wp_world (fun V => LInv w V B a c s sb w2.heap.size TB a3 c3) (HV3.out) ?_
        intro V hV
        clear x0 x1 x2 x3 e0 e1 e2 e3 l0
        have HVV := hid hV
        obtain ⟨x0, x1, x2, x3, e0, e1, e2, e3, l0⟩ := c_blk hV.be
        clear hV
        go_wp2_with fail
        refine (hX.out V a3 _ c3 (rBytes.mono HVV.out.dat fun q hq => hq.2)).mono ?_
        rintro r w4 ⟨v, rfl, hr, hb⟩
        obtain ⟨a4, c4, hv, hr2, _⟩ := sl_form hr
        simp only [List.cons.injEq, and_true] at hv
        subst hv
        have hzV := HVV.out.be.lt
        have hV4 := (HVV.out.later hb).data (rBytes.mono hr2 fun q hq => (⟨by omega, hq.2⟩ : w2.heap.size < q ∧ q < w4.heap.size))
        have HV4 := hid hV4
        clear hr hr2 hb hV4 x0 x1 x2 x3 e0 e1 e2 e3 l0
        obtain ⟨x0, x1, x2, x3, e0, e1, e2, e3, l0⟩ := c_blk HV4.out.be
        go_wp2_with fail
        refine (hF3.out _).mono ?_
        rintro r w5 ⟨rfl, hb⟩
        have hb45 : Below w4.heap.size w4 w5 := by (repeat first | with_reducible (first | exact zR | assumption | apply zA | apply zS | apply zD | apply zN) | refine zT (by with_reducible assumption) ?_ | omega | simp <;> omega)
        have HV5 := hid ((HV4.out.later hb45).set F3)
        have hV5 := HV4.out.later hb45
        clear x0 x1 x2 x3 e0 e1 e2 e3 l0
        obtain ⟨x0, x1, x2, x3, e0, e1, e2, e3, l0⟩ := c_blk hV5.be
        clear hb hV5
        go_upto_region 21 with (fail)
        refine wp_world (fun V => LInv w V B a c s F3 w2.heap.size DX a4 c4) (HV5.out) ?_
        intro V hV
        clear x0 x1 x2 x3 e0 e1 e2 e3 l0
        obtain ⟨x0, x1, x2, x3, e0, e1, e2, e3, l0⟩ := c_blk hV.be
        obtain ⟨y0, y1, y2, y3, g0, g1, g2, g3, l1⟩ := c_blk hV.b1
        have hbl := hV.bel
        go_wp2
        refine bodyPost_ret (v := .tuple #[.agg #[.slice a B.length c, .int .i64 (F3.p : Int), .int .i64 F3.k, .int .i64 F3.f], .slice none 0 0, .bool false]) (by simp [results, Tryz.results102, go_sem, y0, y1, y2, y3, l1]) rfl ⟨_, rfl, empty_bytes rfl rfl (by omega), by (repeat first | with_reducible (first | exact zR | assumption | apply zA | apply zS | apply zD | apply zN) | refine zT (by with_reducible assumption) ?_ | omega | simp <;> omega)⟩
      ·have dn : decide ((DX.length : Int) < (n : Int)) = false := decide_eq_false (by omega)
       have dn' : decide (DX.length < n) = false := decide_eq_false hn
       rw [if_neg hn] at hUeq
       subst hUeq
       dsimp only
       rw [if_pos hb]
       have dt : (sb.k != (0 : Int)) = false := by simp [hb]
       clear hb hx hn
       dsimp only
       go_enter Tryz.func102, Tryz.ntmps102
       cases qm
       all_goals
        simp only [if_true, if_false, Bool.false_eq_true] at hI
        go_wp2_with fail
        refine (hI.out _ (by (repeat first | with_reducible (first | exact zR | assumption | apply zA | apply zS | apply zD | apply zN) | refine zT (by with_reducible assumption) ?_ | omega | simp <;> omega))).mono ?_
        rintro r w1 ⟨rfl, hb⟩
        have B0 : Blk w1 w.heap.size 50 #[.slice a B.length c, .int .i64 (s.p : Int), .int .i64 s.k, .int .i64 s.f] := Blk.later (by (repeat first | assumption | exact kW (by first | (simp; done) | (simp; omega)) | apply kA | apply kD | apply kN | apply kF | simp <;> omega)) hb
        have B1 : Blk w1 (w.heap.size + 1) 50 #[.slice none 0 0, .int .i64 0, .int .i64 0, .int .i64 0] := Blk.later (by (repeat first | assumption | exact kW (by first | (simp; done) | (simp; omega)) | apply kA | apply kD | apply kN | apply kF | simp <;> omega)) hb
        have hbw1 : Below w.heap.size w w1 := by (repeat first | with_reducible (first | exact zR | assumption | apply zA | apply zS | apply zD | apply zN) | refine zT (by with_reducible assumption) ?_ | omega | simp <;> omega)
        have hz1 := hb.size
        simp at hz1
        clear hb
        go_wp2_with fail
        refine (hBY.out _ (by (repeat first | with_reducible (first | exact zR | assumption | apply zA | apply zS | apply zD | apply zN) | refine zT (by with_reducible assumption) ?_ | omega | simp <;> omega))).mono ?_
        rintro r w2 ⟨v, rfl, hr, hb⟩
        obtain ⟨aW, cW, hv, hr2, _⟩ := sl_form hr
        simp only [List.cons.injEq, and_true] at hv
        subst hv
        have HW2 := hid (rBytes.mono (S' := (· < w2.heap.size)) hr2 fun q hq => hq.2)
        have C0 := (B0.alloc _).later hb
        have C1 := (B1.alloc _).later hb
        have CD : Blk w2 w1.heap.size 50 #[.slice a B.length c, .int .i64 (sd.p : Int), .int .i64 sd.k, .int .i64 sd.f] := Blk.later (Blk.newAt w1 _ _ rfl) hb
        have hbw2 : Below w.heap.size w w2 := by (repeat first | with_reducible (first | exact zR | assumption | apply zA | apply zS | apply zD | apply zN) | refine zT (by with_reducible assumption) ?_ | omega | simp <;> omega)
        have hz2 := hb.size
        simp at hz2
        clear hb hr hr2 B0 B1
        have hV2 : LInv w (w2.alloc (.cells #[.slice a B.length c, .int .i64 (se.p : Int), .int .i64 se.k, .int .i64 se.f] 50)) B a c s se w2.heap.size [] none 0 := ⟨C0.alloc _, C1.alloc _, Blk.newAt _ _ _ rfl, by omega, empty_bytes rfl rfl (by omega), by (repeat first | with_reducible (first | exact zR | assumption | apply zA | apply zS | apply zD | apply zN) | refine zT (by with_reducible assumption) ?_ | omega | simp <;> omega)⟩
        have HV2 := hid hV2
        clear hV2
        obtain ⟨gw, ow, hA, hgw, hcw⟩ := byte_at HW2.out (i := 0) (by simp)
        subst hA
        simp at hcw
        obtain ⟨x0, x1, x2, x3, e0, e1, e2, e3, l0⟩ := c_blk CD
        clear C0 C1
        go_wp2_with fail
        refine (hBL.out _ (by (repeat first | with_reducible (first | exact zR | assumption | apply zA | apply zS | apply zD | apply zN) | refine zT (by with_reducible assumption) ?_ | omega | simp <;> omega))).mono ?_
        rintro r w3 ⟨v, rfl, hr, hb⟩
        obtain ⟨a3, c3, hv, hr2, _⟩ := sl_form hr
        simp only [List.cons.injEq, and_true] at hv
        subst hv
        have hV3 := (HV2.out.later hb).data (rBytes.mono hr2 fun q hq => (⟨by have := hq.1; simp at this; omega, hq.2⟩ : w2.heap.size < q ∧ q < w3.heap.size))
        have HV3 := hid ((hV3.set sb).later (below_alloc (Below.refl _ _) (.cells #[.slice a B.length c, .int .i64 (sb.p : Int), .int .i64 sb.k, .int .i64 sb.f] 50)))
        obtain ⟨x0, x1, x2, x3, e0, e1, e2, e3, l0⟩ := c_blk hV3.be
        clear hr hr2 hb hV3
        go_upto_region 14 with (fail)
        refine wp_world (fun V => LInv w V B a c s sb w2.heap.size TB a3 c3) (HV3.out) ?_
        intro V hV
        clear x0 x1 x2 x3 e0 e1 e2 e3 l0
        have HVV := hid hV
        obtain ⟨x0, x1, x2, x3, e0, e1, e2, e3, l0⟩ := c_blk hV.be
        clear hV
        go_wp2_with fail
        refine (hX.out V a3 _ c3 (rBytes.mono HVV.out.dat fun q hq => hq.2)).mono ?_
        rintro r w4 ⟨v, rfl, hr, hb⟩
        obtain ⟨a4, c4, hv, hr2, _⟩ := sl_form hr
        simp only [List.cons.injEq, and_true] at hv
        subst hv
        have hzV := HVV.out.be.lt
        have hV4 := (HVV.out.later hb).data (rBytes.mono hr2 fun q hq => (⟨by omega, hq.2⟩ : w2.heap.size < q ∧ q < w4.heap.size))
        have HV4 := hid hV4
        clear hr hr2 hb hV4 x0 x1 x2 x3 e0 e1 e2 e3 l0
        obtain ⟨x0, x1, x2, x3, e0, e1, e2, e3, l0⟩ := c_blk HV4.out.be
        go_upto_region 21 with (fail)
        refine wp_world (fun V => LInv w V B a c s sb w2.heap.size DX a4 c4) (HV4.out.later (below_alloc (Below.refl _ _) (.cells #[.int .i64 kx, .int .i64 fx] 48))) ?_
        intro V hV
        clear x0 x1 x2 x3 e0 e1 e2 e3 l0
        obtain ⟨x0, x1, x2, x3, e0, e1, e2, e3, l0⟩ := c_blk hV.be
        obtain ⟨y0, y1, y2, y3, g0, g1, g2, g3, l1⟩ := c_blk hV.b1
        obtain ⟨z0, z1, z2, z3, f0, f1, f2, f3, l2⟩ := c_blk hV.b0
        have hbl := hV.bel
        have hlo := hV.lo
        have HDV := hid hV.dat
        have HV1 := hid hV.b1
        have hpl2 := HOKS.out.2.2
        obtain ⟨aC, cC, hsl, hsub⟩ := hcut.out V hbl sb.p (by omega) hpl2
        have hlS : ((B.drop s.p).take (sb.p - s.p)).length = sb.p - s.p := by simp; omega
        generalize hS : (B.drop s.p).take (sb.p - s.p) = SS at *
        have HS := hid hS
        have HLS := hid hlS
        have HSUB := hid hsub
        have HDW : Hid (rBytes.r (· < V.heap.size) V [.slice a4 DX.length c4] DX) := hid (rBytes.mono HDV.out fun q hq => hq.2)
        have HB := hid (fun (W : World) (hW : Below V.heap.size V W) => hBB.out W DX a4 c4 (lift HDW.out hW) (by have := hxf.1; omega))
        clear hV hS hlS hsub
        generalize hBB2 : blockB DX = BB at *
        have HBB2 := hid hBB2
        clear hBB2
        have iz1 : (0 : Int) ≤ (s.p : Int) := by omega
        have iz2 : (s.p : Int) ≤ (sb.p : Int) := by omega
        go_wp2_with fail
        refine wp_region_held_drew (S := fun w' => w'.cell? ⟨w2.heap.size, 0, none⟩ = some (.slice a B.length c) ∧ w'.cell? ⟨w2.heap.size, 1, none⟩ = some (.int .i64 (sb.p : Int)) ∧ w'.cell? ⟨w2.heap.size, 2, none⟩ = some (.int .i64 sb.k) ∧ w'.cell? ⟨w2.heap.size, 3, none⟩ = some (.int .i64 sb.f) ∧ w'.cell? ⟨w.heap.size, 1, none⟩ = some (.int .i64 (s.p : Int))) (by kernel_rfl) ⟨x0, x1, x2, x3, z1⟩ (fun hHeld => ?_)
        refine wpAnyH_take (i := 0) (oi := _) (v := ?_) rfl (by decide +kernel) (by decide +kernel) (by decide +kernel) (fun _ _ _ h => h) (Or.inl ⟨by rfl, ?_⟩) (by assumption) ?_
        rotate_left
        ·(intro w hSw; (try dsimp only at hSw); go_simp <;> with_reducible rfl)
        (try simp only [Act.put, List.setIfInBounds_toArray, List.set_cons_zero, List.set_cons_succ])
        refine wpAnyH_take (i := 1) (oi := _) (v := ?_) rfl (by decide +kernel) (by decide +kernel) (by decide +kernel) (fun _ _ _ h => h) (Or.inl ⟨by rfl, ?_⟩) (by assumption) ?_
        rotate_left
        ·(intro w hSw; (try dsimp only at hSw); go_simp <;> with_reducible rfl)
        (try simp only [Act.put, List.setIfInBounds_toArray, List.set_cons_zero, List.set_cons_succ])
        refine wpAnyH_take (i := 2) (oi := _) (v := ?_) rfl (by decide +kernel) (by decide +kernel) (by decide +kernel) (fun _ _ _ h => h) (Or.inl ⟨by rfl, ?_⟩) (by assumption) ?_
        rotate_left
        ·(intro w hSw; (try dsimp only at hSw); go_simp <;> with_reducible rfl)
        (try simp only [Act.put, List.setIfInBounds_toArray, List.set_cons_zero, List.set_cons_succ])
        refine wpAnyH_take (i := 4) (oi := _) (v := ?_) rfl (by decide +kernel) (by decide +kernel) (by decide +kernel) (fun _ _ _ h => h) (Or.inl ⟨by rfl, ?_⟩) (by assumption) ?_
        rotate_left
        ·(intro w hSw; (try dsimp only at hSw); go_simp <;> with_reducible rfl)
        (try simp only [Act.put, List.setIfInBounds_toArray, List.set_cons_zero, List.set_cons_succ])
        refine wpAnyH_take (i := 5) (oi := _) (v := ?_) rfl (by decide +kernel) (by decide +kernel) (by decide +kernel) (fun _ _ _ h => h) (Or.inl ⟨by rfl, ?_⟩) (by assumption) ?_
        rotate_left
        ·(intro w hSw; (try dsimp only at hSw); go_simp <;> with_reducible rfl)
        (try simp only [Act.put, List.setIfInBounds_toArray, List.set_cons_zero, List.set_cons_succ])
        refine wpAnyH_take (i := 6) (oi := _) (v := ?_) rfl (by decide +kernel) (by decide +kernel) (by decide +kernel) (fun _ _ _ h => h) (Or.inl ⟨by rfl, ?_⟩) (by assumption) ?_
        rotate_left
        ·(intro w hSw; (try dsimp only at hSw); go_simp <;> with_reducible rfl)
        (try simp only [Act.put, List.setIfInBounds_toArray, List.set_cons_zero, List.set_cons_succ])
        refine wpAnyH_take (i := 7) (oi := _) (v := ?_) rfl (by decide +kernel) (by decide +kernel) (by decide +kernel) (fun _ _ _ h => h) (Or.inl ⟨by rfl, ?_⟩) (by assumption) ?_
        rotate_left
        ·(intro w hSw; (try dsimp only at hSw); go_simp <;> with_reducible rfl)
        (try simp only [Act.put, List.setIfInBounds_toArray, List.set_cons_zero, List.set_cons_succ])
        refine wpAnyH_take (i := 8) (oi := _) (v := ?_) rfl (by decide +kernel) (by decide +kernel) (by decide +kernel) (fun _ _ _ h => h) (Or.inl ⟨by rfl, ?_⟩) (by assumption) ?_
        rotate_left
        ·(intro w hSw; (try dsimp only at hSw); go_simp <;> with_reducible rfl)
        (try simp only [Act.put, List.setIfInBounds_toArray, List.set_cons_zero, List.set_cons_succ])
        refine wpAnyH_take (i := 9) (oi := _) (v := ?_) rfl (by decide +kernel) (by decide +kernel) (by decide +kernel) (fun _ _ _ h => h) (Or.inl ⟨by rfl, ?_⟩) (by assumption) ?_
        rotate_left
        ·(intro w hSw; (try dsimp only at hSw); go_simp <;> with_reducible rfl)
        (try simp only [Act.put, List.setIfInBounds_toArray, List.set_cons_zero, List.set_cons_succ])
        refine wpAnyH_take (i := 10) (oi := _) (v := ?_) rfl (by decide +kernel) (by decide +kernel) (by decide +kernel) (fun _ _ _ h => h) (Or.inl ⟨by rfl, ?_⟩) (by assumption) ?_
        rotate_left
        ·(intro w hSw; (try dsimp only at hSw); go_simp <;> with_reducible rfl)
        (try simp only [Act.put, List.setIfInBounds_toArray, List.set_cons_zero, List.set_cons_succ])
        refine wpAnyH_ready (rs := [3]) (by decide +kernel) (by simp) ?_
        refine AllReadyH.cons (o := _) rfl (fun K hK => ?_) AllReadyH.nil
        (go_simp; go_at_call 90; refine (HB.out _ (by (repeat first | with_reducible (first | exact zR | assumption | apply zA | apply zS | apply zD | apply zN) | refine zT (by with_reducible assumption) ?_ | omega | simp <;> omega))).mono ?_; rintro e w8 ⟨v8, rfl, hr8, hb8⟩; obtain ⟨a8, c8, hv8, hr8', _⟩ := sl_form hr8; simp only [List.cons.injEq, and_true] at hv8; subst hv8; have hbv8 : Below V.heap.size V w8 := (by (repeat first | with_reducible (first | exact zR | assumption | apply zA | apply zS | apply zD | apply zN) | refine zT (by with_reducible assumption) ?_ | omega | simp <;> omega)); have k0 := (hbv8.cell (p := ⟨w2.heap.size, 0, none⟩) l0).trans x0; have k1 := (hbv8.cell (p := ⟨w2.heap.size, 1, none⟩) l0).trans x1; have k2 := (hbv8.cell (p := ⟨w2.heap.size, 2, none⟩) l0).trans x2; have k3 := (hbv8.cell (p := ⟨w2.heap.size, 3, none⟩) l0).trans x3; have k4 := (hbv8.cell (p := ⟨w.heap.size, 1, none⟩) l2).trans z1; have B8 := HV1.out.later hbv8; obtain ⟨m0, m1, m2, m3, p0, p1, p2, p3, l8⟩ := c_blk B8; have HR8 := hid hr8'; have HB8 := hid hbv8; have hs8 := hbv8.size; clear B8 y0 y1 y2 y3 g0 g1 g2 g3 l1; clear hr8 hr8' hb8 hbv8; (try dsimp only))
        refine hK.out _ _ ?_ (fun hHeld => ?_)
        ·((try dsimp only); refine ⟨?_, ?_, ?_, ?_, ?_⟩ <;> (first | assumption | (go_keep; done)))
        clear hK K
        (try simp only [Act.put, List.setIfInBounds_toArray, List.set_cons_zero, List.set_cons_succ])
        refine wpAnyH_ready (rs := [11]) (by decide +kernel) (by simp) ?_
        refine AllReadyH.cons (o := _) rfl (fun K hK => ?_) AllReadyH.nil
        (go_simp; go_at_call 21; refine (same_bytes BB SS a8 aC _ c8 _ cC _ (rBytes.mono HR8.out fun q hq => hq.2) (lift HSUB.out HB8.out)).mono ?_; rintro e w9 ⟨rfl, rfl⟩; (try dsimp only))
        refine hK.out _ _ ?_ (fun hHeld => ?_)
        ·((try dsimp only); refine ⟨?_, ?_, ?_, ?_, ?_⟩ <;> (first | assumption | (go_keep; done)))
        clear hK K
        (try simp only [Act.put, List.setIfInBounds_toArray, List.set_cons_zero, List.set_cons_succ])
        refine wpAnyH_ready (rs := [12]) (by decide +kernel) (by simp) ?_
        refine AllReadyH.cons (o := _) rfl (fun K hK => ?_) AllReadyH.nil
        go_simp
        refine hK.out _ _ ?_ (fun hHeld => ?_)
        ·refine ⟨?_, ?_, ?_, ?_, ?_⟩
         all_goals
          rw [World.cell?_setCell_far _ _ _ _ (by dsimp only; omega), World.cell?_setCell_far _ _ _ _ (by dsimp only; omega), World.cell?_setCell_far _ _ _ _ (by dsimp only; omega), World.cell?_setCell_far _ _ _ _ (by dsimp only; omega)]
          assumption
        clear hK K
        (try simp only [Act.put, List.setIfInBounds_toArray, List.set_cons_zero, List.set_cons_succ])
        refine wpAnyH_take (i := 13) (oi := _) (v := ?_) rfl (by decide +kernel) (by decide +kernel) (by decide +kernel) (fun _ _ _ h => h) (Or.inl ⟨by rfl, ?_⟩) (by assumption) ?_
        rotate_left
        ·(intro w hSw; (try dsimp only at hSw); go_simp <;> with_reducible rfl)
        (try simp only [Act.put, List.setIfInBounds_toArray, List.set_cons_zero, List.set_cons_succ])
        refine wpAnyH_take (i := 14) (oi := _) (v := ?_) rfl (by decide +kernel) (by decide +kernel) (by decide +kernel) (fun _ _ _ h => h) (Or.inl ⟨by rfl, ?_⟩) (by assumption) ?_
        rotate_left
        ·(intro w hSw; (try dsimp only at hSw); go_simp <;> with_reducible rfl)
        (try simp only [Act.put, List.setIfInBounds_toArray, List.set_cons_zero, List.set_cons_succ])
        simp only [List.getElem_toArray, List.getElem_cons_zero, List.getElem_cons_succ, Act.put, List.setIfInBounds_toArray, List.set_cons_zero, List.set_cons_succ]
        refine wpAnyH_done (by kernel_rfl) ?_ _
        have hbe8 : Below w.heap.size w w8 := below_then HB8.out hbl
        go_wp2
        refine bodyPost_ret (v := .tuple #[.agg #[.slice a B.length c, .int .i64 (sb.p : Int), .int .i64 sb.k, .int .i64 sb.f], .slice a4 DX.length c4, .bool (decide (BB = SS))]) (by simp [results, Tryz.results102, go_sem, m0, m1, m2, m3, l8]) rfl ⟨_, by rw [HS.out, HBB2.out], ?_, by (repeat first | with_reducible (first | exact zR | assumption | apply zA | apply zS | apply zD | apply zN) | refine zT (by with_reducible assumption) ?_ | omega | simp <;> omega)⟩
        refine rBytes.mono (rBytes.keep (rBytes.keep HDV.out fun q hq => HB8.out.block q hq.2) fun q hq => ?_) fun q hq => ⟨by omega, by simp [World.setCell]; omega⟩
        repeat (rw [Below.heap_setCell _ _ _ _ (by dsimp only; omega)])
     ·have dx : (kx != (0 : Int)) = true := by simp [hx]
      rw [if_neg hx] at hUeq
      subst hUeq
      have hfx := hfkx hx
      have hdx := hxf.2.2.2 hx
      subst hdx
      dsimp only
      rw [if_neg hfx]
      have dt : (FX.k != (0 : Int)) = true := by simp [hfx]
      have HX0 := hid hx
      have hsbp := HOKS.out.2.2
      have hfx1 := hxf.2.1
      have hfx2 := hxf.2.2.1
      have hFX2 := hid (fun (W : World) => hFX.out W HX0.out)
      rw [show fx + ((sb.p : Int) - (TB.length : Int)) = (sb.p : Int) - (TB.length : Int) + fx by omega] at hFX2
      clear hb hx hfx hFX
      dsimp only
      go_enter Tryz.func102, Tryz.ntmps102
      cases qm
      all_goals
       simp only [if_true, if_false, Bool.false_eq_true] at hI
       go_wp2_with fail
       refine (hI.out _ (by (repeat first | with_reducible (first | exact zR | assumption | apply zA | apply zS | apply zD | apply zN) | refine zT (by with_reducible assumption) ?_ | omega | simp <;> omega))).mono ?_
       rintro r w1 ⟨rfl, hb⟩
       have B0 : Blk w1 w.heap.size 50 #[.slice a B.length c, .int .i64 (s.p : Int), .int .i64 s.k, .int .i64 s.f] := Blk.later (by (repeat first | assumption | exact kW (by first | (simp; done) | (simp; omega)) | apply kA | apply kD | apply kN | apply kF | simp <;> omega)) hb
       have B1 : Blk w1 (w.heap.size + 1) 50 #[.slice none 0 0, .int .i64 0, .int .i64 0, .int .i64 0] := Blk.later (by (repeat first | assumption | exact kW (by first | (simp; done) | (simp; omega)) | apply kA | apply kD | apply kN | apply kF | simp <;> omega)) hb
       have hbw1 : Below w.heap.size w w1 := by (repeat first | with_reducible (first | exact zR | assumption | apply zA | apply zS | apply zD | apply zN) | refine zT (by with_reducible assumption) ?_ | omega | simp <;> omega)
       have hz1 := hb.size
       simp at hz1
       clear hb
       go_wp2_with fail
       refine (hBY.out _ (by (repeat first | with_reducible (first | exact zR | assumption | apply zA | apply zS | apply zD | apply zN) | refine zT (by with_reducible assumption) ?_ | omega | simp <;> omega))).mono ?_
       rintro r w2 ⟨v, rfl, hr, hb⟩
       obtain ⟨aW, cW, hv, hr2, _⟩ := sl_form hr
       simp only [List.cons.injEq, and_true] at hv
       subst hv
       have HW2 := hid (rBytes.mono (S' := (· < w2.heap.size)) hr2 fun q hq => hq.2)
       have C0 := (B0.alloc _).later hb
       have C1 := (B1.alloc _).later hb
       have CD : Blk w2 w1.heap.size 50 #[.slice a B.length c, .int .i64 (sd.p : Int), .int .i64 sd.k, .int .i64 sd.f] := Blk.later (Blk.newAt w1 _ _ rfl) hb
       have hbw2 : Below w.heap.size w w2 := by (repeat first | with_reducible (first | exact zR | assumption | apply zA | apply zS | apply zD | apply zN) | refine zT (by with_reducible assumption) ?_ | omega | simp <;> omega)
       have hz2 := hb.size
       simp at hz2
       clear hb hr hr2 B0 B1
       have hV2 : LInv w (w2.alloc (.cells #[.slice a B.length c, .int .i64 (se.p : Int), .int .i64 se.k, .int .i64 se.f] 50)) B a c s se w2.heap.size [] none 0 := ⟨C0.alloc _, C1.alloc _, Blk.newAt _ _ _ rfl, by omega, empty_bytes rfl rfl (by omega), by (repeat first | with_reducible (first | exact zR | assumption | apply zA | apply zS | apply zD | apply zN) | refine zT (by with_reducible assumption) ?_ | omega | simp <;> omega)⟩
       have HV2 := hid hV2
       clear hV2
       obtain ⟨gw, ow, hA, hgw, hcw⟩ := byte_at HW2.out (i := 0) (by simp)
       subst hA
       simp at hcw
       obtain ⟨x0, x1, x2, x3, e0, e1, e2, e3, l0⟩ := c_blk CD
       clear C0 C1
       go_wp2_with fail
       refine (hBL.out _ (by (repeat first | with_reducible (first | exact zR | assumption | apply zA | apply zS | apply zD | apply zN) | refine zT (by with_reducible assumption) ?_ | omega | simp <;> omega))).mono ?_
       rintro r w3 ⟨v, rfl, hr, hb⟩
       obtain ⟨a3, c3, hv, hr2, _⟩ := sl_form hr
       simp only [List.cons.injEq, and_true] at hv
       subst hv
       have hV3 := (HV2.out.later hb).data (rBytes.mono hr2 fun q hq => (⟨by have := hq.1; simp at this; omega, hq.2⟩ : w2.heap.size < q ∧ q < w3.heap.size))
       have HV3 := hid ((hV3.set sb).later (below_alloc (Below.refl _ _) (.cells #[.slice a B.length c, .int .i64 (sb.p : Int), .int .i64 sb.k, .int .i64 sb.f] 50)))
       obtain ⟨x0, x1, x2, x3, e0, e1, e2, e3, l0⟩ := c_blk hV3.be
       clear hr hr2 hb hV3
       go_upto_region 14 with (fail)
       refine wp_world (fun V => LInv w V B a c s sb w2.heap.size TB a3 c3) (HV3.out) ?_
       intro V hV
       clear x0 x1 x2 x3 e0 e1 e2 e3 l0
       have HVV := hid hV
       obtain ⟨x0, x1, x2, x3, e0, e1, e2, e3, l0⟩ := c_blk hV.be
       clear hV
       go_wp2_with fail
       refine (hX.out V a3 _ c3 (rBytes.mono HVV.out.dat fun q hq => hq.2)).mono ?_
       rintro r w4 ⟨v, rfl, hr, hb⟩
       obtain ⟨a4, c4, hv, hr2, _⟩ := sl_form hr
       simp only [List.cons.injEq, and_true] at hv
       subst hv
       have hzV := HVV.out.be.lt
       have hV4 := (HVV.out.later hb).data (rBytes.mono hr2 fun q hq => (⟨by omega, hq.2⟩ : w2.heap.size < q ∧ q < w4.heap.size))
       have HV4 := hid hV4
       clear hr hr2 hb hV4 x0 x1 x2 x3 e0 e1 e2 e3 l0
       obtain ⟨x0, x1, x2, x3, e0, e1, e2, e3, l0⟩ := c_blk HV4.out.be
       go_wp2_with fail
       refine (hFX2.out _).mono ?_
       rintro r w5 ⟨rfl, hb⟩
       have hb45 : Below w4.heap.size w4 w5 := by (repeat first | with_reducible (first | exact zR | assumption | apply zA | apply zS | apply zD | apply zN) | refine zT (by with_reducible assumption) ?_ | omega | simp <;> omega)
       have HV5 := hid ((HV4.out.later hb45).set FX)
       have hV5 := HV4.out.later hb45
       clear x0 x1 x2 x3 e0 e1 e2 e3 l0
       obtain ⟨x0, x1, x2, x3, e0, e1, e2, e3, l0⟩ := c_blk hV5.be
       clear hb hV5
       go_upto_region 21 with (fail)
       refine wp_world (fun V => LInv w V B a c s FX w2.heap.size [] a4 c4) (HV5.out) ?_
       intro V hV
       clear x0 x1 x2 x3 e0 e1 e2 e3 l0
       obtain ⟨x0, x1, x2, x3, e0, e1, e2, e3, l0⟩ := c_blk hV.be
       obtain ⟨y0, y1, y2, y3, g0, g1, g2, g3, l1⟩ := c_blk hV.b1
       have hbl := hV.bel
       go_wp2
       refine bodyPost_ret (v := .tuple #[.agg #[.slice a B.length c, .int .i64 (FX.p : Int), .int .i64 FX.k, .int .i64 FX.f], .slice none 0 0, .bool false]) (by simp [results, Tryz.results102, go_sem, y0, y1, y2, y3, l1]) rfl ⟨_, rfl, empty_bytes rfl rfl (by omega), by (repeat first | with_reducible (first | exact zR | assumption | apply zA | apply zS | apply zD | apply zN) | refine zT (by with_reducible assumption) ?_ | omega | simp <;> omega)⟩
    ·have db : (sb.k == (0 : Int)) = false := by simp [hb]
     rw [if_neg hb] at hUeq
     subst hUeq
     dsimp only
     rw [if_neg hb]
     have dt : (sb.k != (0 : Int)) = true := by simp [hb]
     clear hb
     dsimp only
     go_enter Tryz.func102, Tryz.ntmps102
     cases qm
     all_goals
      simp only [if_true, if_false, Bool.false_eq_true] at hI
      go_wp2_with fail
      refine (hI.out _ (by (repeat first | with_reducible (first | exact zR | assumption | apply zA | apply zS | apply zD | apply zN) | refine zT (by with_reducible assumption) ?_ | omega | simp <;> omega))).mono ?_
      rintro r w1 ⟨rfl, hb⟩
      have B0 : Blk w1 w.heap.size 50 #[.slice a B.length c, .int .i64 (s.p : Int), .int .i64 s.k, .int .i64 s.f] := Blk.later (by (repeat first | assumption | exact kW (by first | (simp; done) | (simp; omega)) | apply kA | apply kD | apply kN | apply kF | simp <;> omega)) hb
      have B1 : Blk w1 (w.heap.size + 1) 50 #[.slice none 0 0, .int .i64 0, .int .i64 0, .int .i64 0] := Blk.later (by (repeat first | assumption | exact kW (by first | (simp; done) | (simp; omega)) | apply kA | apply kD | apply kN | apply kF | simp <;> omega)) hb
      have hbw1 : Below w.heap.size w w1 := by (repeat first | with_reducible (first | exact zR | assumption | apply zA | apply zS | apply zD | apply zN) | refine zT (by with_reducible assumption) ?_ | omega | simp <;> omega)
      have hz1 := hb.size
      simp at hz1
      clear hb
      go_wp2_with fail
      refine (hBY.out _ (by (repeat first | with_reducible (first | exact zR | assumption | apply zA | apply zS | apply zD | apply zN) | refine zT (by with_reducible assumption) ?_ | omega | simp <;> omega))).mono ?_
      rintro r w2 ⟨v, rfl, hr, hb⟩
      obtain ⟨aW, cW, hv, hr2, _⟩ := sl_form hr
      simp only [List.cons.injEq, and_true] at hv
      subst hv
      have HW2 := hid (rBytes.mono (S' := (· < w2.heap.size)) hr2 fun q hq => hq.2)
      have C0 := (B0.alloc _).later hb
      have C1 := (B1.alloc _).later hb
      have CD : Blk w2 w1.heap.size 50 #[.slice a B.length c, .int .i64 (sd.p : Int), .int .i64 sd.k, .int .i64 sd.f] := Blk.later (Blk.newAt w1 _ _ rfl) hb
      have hbw2 : Below w.heap.size w w2 := by (repeat first | with_reducible (first | exact zR | assumption | apply zA | apply zS | apply zD | apply zN) | refine zT (by with_reducible assumption) ?_ | omega | simp <;> omega)
      have hz2 := hb.size
      simp at hz2
      clear hb hr hr2 B0 B1
      have hV2 : LInv w (w2.alloc (.cells #[.slice a B.length c, .int .i64 (se.p : Int), .int .i64 se.k, .int .i64 se.f] 50)) B a c s se w2.heap.size [] none 0 := ⟨C0.alloc _, C1.alloc _, Blk.newAt _ _ _ rfl, by omega, empty_bytes rfl rfl (by omega), by (repeat first | with_reducible (first | exact zR | assumption | apply zA | apply zS | apply zD | apply zN) | refine zT (by with_reducible assumption) ?_ | omega | simp <;> omega)⟩
      have HV2 := hid hV2
      clear hV2
      obtain ⟨gw, ow, hA, hgw, hcw⟩ := byte_at HW2.out (i := 0) (by simp)
      subst hA
      simp at hcw
      obtain ⟨x0, x1, x2, x3, e0, e1, e2, e3, l0⟩ := c_blk CD
      clear C0 C1
      go_wp2_with fail
      refine (hBL.out _ (by (repeat first | with_reducible (first | exact zR | assumption | apply zA | apply zS | apply zD | apply zN) | refine zT (by with_reducible assumption) ?_ | omega | simp <;> omega))).mono ?_
      rintro r w3 ⟨v, rfl, hr, hb⟩
      obtain ⟨a3, c3, hv, hr2, _⟩ := sl_form hr
      simp only [List.cons.injEq, and_true] at hv
      subst hv
      have hV3 := (HV2.out.later hb).data (rBytes.mono hr2 fun q hq => (⟨by have := hq.1; simp at this; omega, hq.2⟩ : w2.heap.size < q ∧ q < w3.heap.size))
      have HV3 := hid ((hV3.set sb).later (below_alloc (Below.refl _ _) (.cells #[.slice a B.length c, .int .i64 (sb.p : Int), .int .i64 sb.k, .int .i64 sb.f] 50)))
      obtain ⟨x0, x1, x2, x3, e0, e1, e2, e3, l0⟩ := c_blk hV3.be
      clear hr hr2 hb hV3
      go_upto_region 14 with (fail)
      refine wp_world (fun V => LInv w V B a c s sb w2.heap.size TB a3 c3) (HV3.out) ?_
      intro V hV
      clear x0 x1 x2 x3 e0 e1 e2 e3 l0
      obtain ⟨x0, x1, x2, x3, e0, e1, e2, e3, l0⟩ := c_blk hV.be
      obtain ⟨y0, y1, y2, y3, g0, g1, g2, g3, l1⟩ := c_blk hV.b1
      have hbl := hV.bel
      go_wp2
      refine bodyPost_ret (v := .tuple #[.agg #[.slice a B.length c, .int .i64 (sb.p : Int), .int .i64 sb.k, .int .i64 sb.f], .slice none 0 0, .bool false]) (by simp [results, Tryz.results102, go_sem, y0, y1, y2, y3, l1]) rfl ⟨_, rfl, empty_bytes rfl rfl (by omega), by (repeat first | with_reducible (first | exact zR | assumption | apply zA | apply zS | apply zD | apply zN) | refine zT (by with_reducible assumption) ?_ | omega | simp <;> omega)⟩
   ·have d1 : decide ((1 : Int) < (y.toNat : Int)) = true := decide_eq_true (by omega)
    have d1' : decide (1 < y.toNat) = true := decide_eq_true (by omega)
    rw [if_neg h1]
    clear h0 h1 hUeq
    rw [show (se.p : Int) - 1 = (sd.p : Int) by have := hp1.out; omega] at hF7
    dsimp only
    go_enter Tryz.func102, Tryz.ntmps102
    cases qm
    all_goals
     simp only [if_true, if_false, Bool.false_eq_true] at hI
     go_wp2_with fail
     refine (hI.out _ (by (repeat first | with_reducible (first | exact zR | assumption | apply zA | apply zS | apply zD | apply zN) | refine zT (by with_reducible assumption) ?_ | omega | simp <;> omega))).mono ?_
     rintro r w1 ⟨rfl, hb⟩
     have B0 : Blk w1 w.heap.size 50 #[.slice a B.length c, .int .i64 (s.p : Int), .int .i64 s.k, .int .i64 s.f] := Blk.later (by (repeat first | assumption | exact kW (by first | (simp; done) | (simp; omega)) | apply kA | apply kD | apply kN | apply kF | simp <;> omega)) hb
     have B1 : Blk w1 (w.heap.size + 1) 50 #[.slice none 0 0, .int .i64 0, .int .i64 0, .int .i64 0] := Blk.later (by (repeat first | assumption | exact kW (by first | (simp; done) | (simp; omega)) | apply kA | apply kD | apply kN | apply kF | simp <;> omega)) hb
     have hbw1 : Below w.heap.size w w1 := by (repeat first | with_reducible (first | exact zR | assumption | apply zA | apply zS | apply zD | apply zN) | refine zT (by with_reducible assumption) ?_ | omega | simp <;> omega)
     have hz1 := hb.size
     simp at hz1
     clear hb
     go_wp2_with fail
     refine (hBY.out _ (by (repeat first | with_reducible (first | exact zR | assumption | apply zA | apply zS | apply zD | apply zN) | refine zT (by with_reducible assumption) ?_ | omega | simp <;> omega))).mono ?_
     rintro r w2 ⟨v, rfl, hr, hb⟩
     obtain ⟨aW, cW, hv, hr2, _⟩ := sl_form hr
     simp only [List.cons.injEq, and_true] at hv
     subst hv
     have HW2 := hid (rBytes.mono (S' := (· < w2.heap.size)) hr2 fun q hq => hq.2)
     have C0 := (B0.alloc _).later hb
     have C1 := (B1.alloc _).later hb
     have CD : Blk w2 w1.heap.size 50 #[.slice a B.length c, .int .i64 (sd.p : Int), .int .i64 sd.k, .int .i64 sd.f] := Blk.later (Blk.newAt w1 _ _ rfl) hb
     have hbw2 : Below w.heap.size w w2 := by (repeat first | with_reducible (first | exact zR | assumption | apply zA | apply zS | apply zD | apply zN) | refine zT (by with_reducible assumption) ?_ | omega | simp <;> omega)
     have hz2 := hb.size
     simp at hz2
     clear hb hr hr2 B0 B1
     have hV2 : LInv w (w2.alloc (.cells #[.slice a B.length c, .int .i64 (se.p : Int), .int .i64 se.k, .int .i64 se.f] 50)) B a c s se w2.heap.size [] none 0 := ⟨C0.alloc _, C1.alloc _, Blk.newAt _ _ _ rfl, by omega, empty_bytes rfl rfl (by omega), by (repeat first | with_reducible (first | exact zR | assumption | apply zA | apply zS | apply zD | apply zN) | refine zT (by with_reducible assumption) ?_ | omega | simp <;> omega)⟩
     have HV2 := hid hV2
     clear hV2
     obtain ⟨gw, ow, hA, hgw, hcw⟩ := byte_at HW2.out (i := 0) (by simp)
     subst hA
     simp at hcw
     obtain ⟨x0, x1, x2, x3, e0, e1, e2, e3, l0⟩ := c_blk CD
     clear C0 C1
     go_wp2_with fail
     refine (hF7.out _).mono ?_
     rintro r w3 ⟨rfl, hb⟩
     have hV3 := HV2.out.later hb
     obtain ⟨y0, y1, y2, y3, g0, g1, g2, g3, l1⟩ := c_blk hV3.b1
     have hbl := hV3.bel
     clear hb hV3 x0 x1 x2 x3 e0 e1 e2 e3 l0
     go_wp2
     refine bodyPost_ret (v := .tuple #[.agg #[.slice a B.length c, .int .i64 (F7.p : Int), .int .i64 F7.k, .int .i64 F7.f], .slice none 0 0, .bool false]) (by simp [results, Tryz.results102, go_sem, y0, y1, y2, y3, l1]) rfl ⟨_, rfl, empty_bytes rfl rfl (by omega), by (repeat first | with_reducible (first | exact zR | assumption | apply zA | apply zS | apply zD | apply zN) | refine zT (by with_reducible assumption) ?_ | omega | simp <;> omega)⟩
 ·have dk : (se.k != (0 : Int)) = true := by simp [hk]
  rw [if_neg hk]
  clear hk hb1 hby1 hUeq
  dsimp only
  go_enter Tryz.func102, Tryz.ntmps102
  cases qm
  all_goals
   simp only [if_true, if_false, Bool.false_eq_true] at hI
   go_wp2_with fail
   refine (hI.out _ (by (repeat first | with_reducible (first | exact zR | assumption | apply zA | apply zS | apply zD | apply zN) | refine zT (by with_reducible assumption) ?_ | omega | simp <;> omega))).mono ?_
   rintro r w1 ⟨rfl, hb⟩
   have B0 : Blk w1 w.heap.size 50 #[.slice a B.length c, .int .i64 (s.p : Int), .int .i64 s.k, .int .i64 s.f] := Blk.later (by (repeat first | assumption | exact kW (by first | (simp; done) | (simp; omega)) | apply kA | apply kD | apply kN | apply kF | simp <;> omega)) hb
   have B1 : Blk w1 (w.heap.size + 1) 50 #[.slice none 0 0, .int .i64 0, .int .i64 0, .int .i64 0] := Blk.later (by (repeat first | assumption | exact kW (by first | (simp; done) | (simp; omega)) | apply kA | apply kD | apply kN | apply kF | simp <;> omega)) hb
   have hbw1 : Below w.heap.size w w1 := by (repeat first | with_reducible (first | exact zR | assumption | apply zA | apply zS | apply zD | apply zN) | refine zT (by with_reducible assumption) ?_ | omega | simp <;> omega)
   have hz1 := hb.size
   simp at hz1
   clear hb
   go_wp2_with fail
   refine (hBY.out _ (by (repeat first | with_reducible (first | exact zR | assumption | apply zA | apply zS | apply zD | apply zN) | refine zT (by with_reducible assumption) ?_ | omega | simp <;> omega))).mono ?_
   rintro r w2 ⟨v, rfl, hr, hb⟩
   obtain ⟨aW, cW, hv, hr2, _⟩ := sl_form hr
   simp only [List.cons.injEq, and_true] at hv
   subst hv
   have HW2 := hid (rBytes.mono (S' := (· < w2.heap.size)) hr2 fun q hq => hq.2)
   have C0 := (B0.alloc _).later hb
   have C1 := (B1.alloc _).later hb
   have CD : Blk w2 w1.heap.size 50 #[.slice a B.length c, .int .i64 (sd.p : Int), .int .i64 sd.k, .int .i64 sd.f] := Blk.later (Blk.newAt w1 _ _ rfl) hb
   have hbw2 : Below w.heap.size w w2 := by (repeat first | with_reducible (first | exact zR | assumption | apply zA | apply zS | apply zD | apply zN) | refine zT (by with_reducible assumption) ?_ | omega | simp <;> omega)
   have hz2 := hb.size
   simp at hz2
   clear hb hr hr2 B0 B1
   obtain ⟨y0, y1, y2, y3, g0, g1, g2, g3, l1⟩ := c_blk C1
   clear C0 C1 CD HW2
   go_wp2
   refine bodyPost_ret (v := .tuple #[.agg #[.slice a B.length c, .int .i64 (se.p : Int), .int .i64 se.k, .int .i64 se.f], .slice none 0 0, .bool false]) (by simp [results, Tryz.results102, go_sem, y0, y1, y2, y3, l1]) rfl ⟨_, rfl, empty_bytes rfl rfl (by omega), by (repeat first | with_reducible (first | exact zR | assumption | apply zA | apply zS | apply zD | apply zN) | refine zT (by with_reducible assumption) ?_ | omega | simp <;> omega)⟩
end Go.Proofs.YtkipiefcnjfdjaaGreat
