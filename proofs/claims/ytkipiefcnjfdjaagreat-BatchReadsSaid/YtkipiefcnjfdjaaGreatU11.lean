/- Needed by batchReads_walk, part 11: texts put together by shake.py; no condition. -/
import Derived.Test.YtkipiefcnjfdjaaGreatU10
import Derived.Test.YtkipiefcnjfdjaaGreatU9
import Derived.Test.YtkipiefcnjfdjaaGreatU6
namespace Go.Proofs.YtkipiefcnjfdjaaGreat
open Go.RowKit Go.Bs Go.Maps
set_option linter.unusedVariables false
set_option linter.unusedSimpArgs false
theorem OwnEls.far4 {α : Type} {w : World} {lo : Nat} {A : Rp α} {e : TypeId} {sz : Nat} {v : Value} {xs : List α} {g : Nat} {a b c d : Value} (h : OwnEls lo A lo e sz w v xs) (hg : g < lo) : OwnEls lo A lo e sz ((((w.setCell ⟨g, 0, none⟩ a).setCell ⟨g, 1, none⟩ b).setCell ⟨g, 2, none⟩ c).setCell ⟨g, 3, none⟩ d) v xs :=
 OwnEls.tch3 (g := g) h ((((((Tch.refl _ w).setCell (fun _ => .inl rfl) _).setCell (fun _ => .inl rfl) _).setCell (fun _ => .inl rfl) _).setCell (fun _ => .inl rfl) _)) hg
set_option maxRecDepth 100000 in
set_option maxHeartbeats 6400000 in
theorem ref23_read (w : World) (a : Option Addr) (c : Nat) (B : List UInt8) (hl : rBytes.r (· < w.heap.size) w [.slice a B.length c] B) (s : Rs) (hs : s.ok B.length) (hB : B.length ≤ 1000000000000) (pos : Int) (hpos : 0 ≤ pos ∧ pos ≤ 18446744073709551615) :
  Calls Tryz.prog 165 #[CV a B.length c s, .int .u64 pos] w fun r w' => ∃ v, r = .returned (.tuple #[CV a B.length c (s.links B pos).1, v]) ∧ rLinksW.r (Fresh w w') w' [v] (s.links B pos).2 ∧ Below w.heap.size w w' := by
 obtain ⟨i0, hi, hz0, hz1, hz2⟩ := info_parts infoLink
 have hI := hid (fun (W : World) (hW : Below w.heap.size w W) => ref04_int W a c B (lift hl hW) s hs hB 16 (by omega))
 have hNm := Rs.int_le (B := B) (s := s) (m := 16)
 have hNz := Rs.int_none (B := B) (s := s) (m := 16)
 have hok := Rs.int_ok (B := B) hs (m := 16)
 have HL := hid hl
 have HDL := hid (fun (W : World) (hW : Below w.heap.size w W) (t : Rs) (ht : t.ok B.length) => ref22_read W a c B (lift HL.out hW) t ht hB pos hpos 4 (by omega))
 unfold Rs.links
 generalize s.int B 16 = I at *
 obtain ⟨s1, N⟩ := I
 dsimp only at *
 have hN : N ≤ 16 := by omega
 have HNZ := hid hNz
 have HOK := hid hok
 clear hl hs hNz hok hNm
 unfold CV at *
 go_enter Tryz.func165, Tryz.ntmps165
 go_wp2_with fail
 refine (hI.out _ (by (repeat first | with_reducible (first | exact zR | assumption | apply zA | apply zS | apply zD | apply zN) | refine zT (by with_reducible assumption) ?_ | omega | simp <;> omega))).mono ?_
 rintro r w1 ⟨rfl, hb⟩
 have B1 : Blk w1 (w.heap.size + 1) 50 #[.slice none 0 0, .int .i64 0, .int .i64 0, .int .i64 0] := Blk.later (by (repeat first | assumption | exact kW (by first | (simp; done) | (simp; omega)) | apply kA | apply kD | apply kN | apply kF | simp <;> omega)) hb
 have hbw : Below w.heap.size w w1 := by (repeat first | with_reducible (first | exact zR | assumption | apply zA | apply zS | apply zD | apply zN) | refine zT (by with_reducible assumption) ?_ | omega | simp <;> omega)
 have hs1 := hb.size
 simp at hs1
 have l1 := B1.lt
 have BD : Blk (w1.alloc (.cells #[.slice a B.length c, .int .i64 (s1.p : Int), .int .i64 s1.k, .int .i64 s1.f] 50)) w1.heap.size 50 #[.slice a B.length c, .int .i64 (s1.p : Int), .int .i64 s1.k, .int .i64 s1.f] := by (repeat first | assumption | exact kW (by first | (simp; done) | (simp; omega)) | apply kA | apply kD | apply kN | apply kF | simp <;> omega)
 have BR : Blk (w1.alloc (.cells #[.slice a B.length c, .int .i64 (s1.p : Int), .int .i64 s1.k, .int .i64 s1.f] 50)) (w.heap.size + 1) 50 #[.slice none 0 0, .int .i64 0, .int .i64 0, .int .i64 0] := B1.alloc _
 have hbD : Below w.heap.size w (w1.alloc (.cells #[.slice a B.length c, .int .i64 (s1.p : Int), .int .i64 s1.k, .int .i64 s1.f] 50)) := by (repeat first | with_reducible (first | exact zR | assumption | apply zA | apply zS | apply zD | apply zN) | refine zT (by with_reducible assumption) ?_ | omega | simp <;> omega)
 clear hb B1
 go_wp2_with fail
 go_loopw [8, 9] (fun v i wr => ∃ (k : Nat) (J : List Link) (st : Rs), k ≤ N ∧ i = .int .i64 k ∧ Hid (J.length = k) ∧ OwnEls (w1.heap.size + 1) rLink (w1.heap.size + 1) 209 2 wr v J ∧ Hid (∀ x ∈ J, 0 ≤ x.stream ∧ x.stream ≤ 18446744073709551615) ∧ Blk wr w1.heap.size 50 #[.slice a B.length c, .int .i64 (st.p : Int), .int .i64 st.k, .int .i64 st.f] ∧ Blk wr (w.heap.size + 1) 50 #[.slice none 0 0, .int .i64 0, .int .i64 0, .int .i64 0] ∧ Below w.heap.size w wr ∧ w1.heap.size + 1 ≤ wr.heap.size ∧ Hid (st.ok B.length) ∧ Hid (st.k = 0 → Rs.linksF B pos N s1 none [] = Rs.linksF B pos (N - k) st (J.getLast?.map Link.stream) J) ∧ Hid (st.k ≠ 0 → Rs.linksF B pos N s1 none [] = (st, []))) (fun _ i _ => N - (intOf i).toNat)
 case atStart => exact ⟨0, [], s1, Nat.zero_le _, rfl, hid rfl, OwnEls.nil, hid (by simp), BD, BR, hbD, by simp, HOK, hid (fun _ => rfl), hid (fun h => by rw [HNZ.out h]; rfl)⟩
 case round =>
  obtain ⟨k, J, st, hk, rfl, hJl, hown, hJb, hD, hRs, hbe, hsz, hok, hsp, hsn⟩ := hrel
  obtain ⟨av, cv, rfl⟩ := OwnEls.form hown
  have hJ9 : J.length ≤ 16 := by have := hJl.out; omega
  obtain ⟨x0, x1, x2, x3, f0, f1, f2, f3, l0⟩ := c_blk hD
  obtain ⟨y0, y1, y2, y3, g0, g1, g2, g3, l1⟩ := c_blk hRs
  have HO := hid hown
  have HD := hid hD
  have HRS := hid hRs
  have HBE := hid hbe
  clear hown hD hRs
  rcases Nat.lt_or_ge k N with hlt2 | hge
  ·have i1 : (k : Int) < (N : Int) := by omega
   have d1 : decide ((k : Int) < (N : Int)) = true := decide_eq_true i1
   have d1' : decide (k < N) = true := decide_eq_true hlt2
   by_cases hk0 : st.k = 0
   ·have dk : (st.k == (0 : Int)) = true := by simp [hk0]
    have hsp1 := hsp.out hk0
    have hstep : Rs.linksF B pos (N - k) st (J.getLast?.map Link.stream) J = (if ((st.stream B (J.getLast?.map Link.stream)).1.delta B pos 4).1.k = 0 then Rs.linksF B pos (N - (k + 1)) ((st.stream B (J.getLast?.map Link.stream)).1.delta B pos 4).1 (some (st.stream B (J.getLast?.map Link.stream)).2) (J ++ [⟨(st.stream B (J.getLast?.map Link.stream)).2, ((st.stream B (J.getLast?.map Link.stream)).1.delta B pos 4).2⟩]) else (((st.stream B (J.getLast?.map Link.stream)).1.delta B pos 4).1, [])) := by
     rw [show N - k = (N - (k + 1)) + 1 by omega]; rfl
    rw [hstep] at hsp1
    have hVR := hid (fun (W : World) (hW : Below w.heap.size w W) => (by have := ref04_read W a c B (lift HL.out hW) st hok.out hB; unfold CV at this; exact this : Calls Tryz.prog 163 #[.agg #[.slice a B.length c, .int .i64 (st.p : Int), .int .i64 st.k, .int .i64 st.f]] W fun r w' => r = .returned (.tuple #[.agg #[.slice a B.length c, .int .i64 ((st.num B).1.p : Int), .int .i64 (st.num B).1.k, .int .i64 (st.num B).1.f], .int .u64 ((st.num B).2 : Int)]) ∧ Below W.heap.size W w'))
    have hx := Rs.num_small (B := B) (s := st)
    have hnok := Rs.num_ok (B := B) hok.out
    have HFL := hid (fun (W : World) (t : Rs) => (by have := ref02_fail W a B.length c t 13 (st.p : Int) (by omega); unfold CV at this; exact this : Calls Tryz.prog 99 #[.agg #[.slice a B.length c, .int .i64 (t.p : Int), .int .i64 t.k, .int .i64 t.f], .int .i64 13, .int .i64 (st.p : Int)] W fun r w' => r = .returned (.agg #[.slice a B.length c, .int .i64 ((t.fail 13 (st.p : Int)).p : Int), .int .i64 (t.fail 13 (st.p : Int)).k, .int .i64 (t.fail 13 (st.p : Int)).f]) ∧ Below W.heap.size W w'))
    clear hsp hsn hstep hk0
    by_cases hJe : J = []
    ·subst hJe
     have hk00 : k = 0 := by have := hJl.out; simpa using this.symm
     subst hk00
     have hS : st.stream B (([] : List Link).getLast?.map Link.stream) = ((st.num B).1, ((st.num B).2 : Int)) := rfl
     rw [hS] at hsp1
     clear hS
     generalize st.num B = R at *
     obtain ⟨st1, x⟩ := R
     dsimp only at *
     have HOK1 := hid hnok
     have hxb : (0 : Int) ≤ (x : Int) ∧ (x : Int) ≤ 18446744073709551615 := by omega
     clear hnok HFL
     simp only [List.length_nil] at *
     go_wp2_with fail
     refine (hVR.out _ HBE.out).mono ?_
     rintro r w3 ⟨rfl, hb3⟩
     have D3 := HD.out.later hb3
     have R3 := HRS.out.later hb3
     have HO3 := hid (OwnEls.below HO.out hb3)
     have hbe3 := below_then hb3 HBE.out
     have hs3 := hb3.size
     obtain ⟨x0, x1, x2, x3, f0, f1, f2, f3, l0⟩ := c_blk D3
     have D4 : Blk (w3.alloc (.cells #[.slice a B.length c, .int .i64 (st1.p : Int), .int .i64 st1.k, .int .i64 st1.f] 50)) w1.heap.size 50 #[.slice a B.length c, .int .i64 (st.p : Int), .int .i64 st.k, .int .i64 st.f] := D3.alloc _
     have R4 : Blk (w3.alloc (.cells #[.slice a B.length c, .int .i64 (st1.p : Int), .int .i64 st1.k, .int .i64 st1.f] 50)) (w.heap.size + 1) 50 #[.slice none 0 0, .int .i64 0, .int .i64 0, .int .i64 0] := R3.alloc _
     have X4 : Blk (w3.alloc (.cells #[.slice a B.length c, .int .i64 (st1.p : Int), .int .i64 st1.k, .int .i64 st1.f] 50)) w3.heap.size 50 #[.slice a B.length c, .int .i64 (st1.p : Int), .int .i64 st1.k, .int .i64 st1.f] := Blk.newAt _ _ _ rfl
     have hbe4 : Below w.heap.size w (w3.alloc (.cells #[.slice a B.length c, .int .i64 (st1.p : Int), .int .i64 st1.k, .int .i64 st1.f] 50)) := by (repeat first | with_reducible (first | exact zR | assumption | apply zA | apply zS | apply zD | apply zN) | refine zT (by with_reducible assumption) ?_ | omega | simp <;> omega)
     have hT4 : Tch (fun b => b = w1.heap.size ∨ w3.heap.size ≤ b) w3 (w3.alloc (.cells #[.slice a B.length c, .int .i64 (st1.p : Int), .int .i64 st1.k, .int .i64 st1.f] 50)) := (Tch.refl _ _).alloc _
     have hz4 : (w3.alloc (.cells #[.slice a B.length c, .int .i64 (st1.p : Int), .int .i64 st1.k, .int .i64 st1.f] 50)).heap.size = w3.heap.size + 1 := by simp
     have HVL : Hid (∀ q, (Value.slice av 0 cv).ownBlock = some q → w1.heap.size + 1 ≤ q ∧ q < w3.heap.size) := hid (by
      obtain ⟨cells0, OA0⟩ := HO3.out
      exact fun q e => own_lt OA0.1 q e)
     clear hb3 D3 R3 y0 y1 y2 y3 g0 g1 g2 g3 l1
     go_wp2_with fail
     have D6 := D4
     have R6 := R4
     have hbe6 := hbe4
     have hT6 := hT4
     have hz6 : w3.heap.size + 1 ≤ (w3.alloc (.cells #[.slice a B.length c, .int .i64 (st1.p : Int), .int .i64 st1.k, .int .i64 st1.f] 50)).heap.size := by omega
     clear D4 R4 X4 hbe4 hT4 hz4 x0 x1 x2 x3 f0 f1 f2 f3 l0
     generalize (w3.alloc (.cells #[.slice a B.length c, .int .i64 (st1.p : Int), .int .i64 st1.k, .int .i64 st1.f] 50)) = w4 at *
     have HDC := HDL.out w4 hbe6 st1 HOK1.out
     have hOKD := Rs.delta_ok (B := B) (below := pos) (most := 4) HOK1.out
     generalize hDL : st1.delta B pos 4 = DL at *
     obtain ⟨D, bk⟩ := DL
     dsimp only at *
     have HOKD := hid hOKD
     have HSP := hid hsp1
     have HSP1 : Hid (D.k = 0 → Rs.linksF B pos N s1 none [] = Rs.linksF B pos (N - (0 + 1)) D ((([] : List Link) ++ [(⟨(x : Int), bk⟩ : Link)]).getLast?.map Link.stream) (([] : List Link) ++ [⟨(x : Int), bk⟩])) := hid (fun h => by rw [HSP.out, if_pos h]; simp)
     have HSP2 : Hid (D.k ≠ 0 → Rs.linksF B pos N s1 none [] = (D, [])) := hid (fun h => by rw [HSP.out, if_neg h])
     clear hsp1 hOKD hDL
     refine HDC.mono ?_
     rintro r w6 ⟨v6, rfl, hv6, hb6⟩
     obtain ⟨a6, c6, hfv, _, _⟩ := sl_form hv6
     simp only [List.cons.injEq, and_true] at hfv
     subst hfv
     have D7 := D6.later hb6
     have R7 := R6.later hb6
     have hbe7 := below_then hb6 hbe6
     have hs6 := hb6.size
     have HO7 := hid (OwnEls.below (OwnEls.tch3 HO3.out hT6 (by omega)) hb6)
     obtain ⟨cells, OA⟩ := OwnEls.below HO7.out (show Below w6.heap.size w6 ((w6.alloc (.cells #[.slice a B.length c, .int .i64 (D.p : Int), .int .i64 D.k, .int .i64 D.f] 50)).alloc (.cells #[.int .u64 ((x : Int)), .slice a6 bk.length c6] 209)) from by (repeat first | with_reducible (first | exact zR | assumption | apply zA | apply zS | apply zD | apply zN) | refine zT (by with_reducible assumption) ?_ | omega | simp <;> omega))
     have hx8 : rLink.r (fun b => w1.heap.size + 1 ≤ b ∧ b < (((w6.alloc (.cells #[.slice a B.length c, .int .i64 (D.p : Int), .int .i64 D.k, .int .i64 D.f] 50)).alloc (.cells #[.int .u64 ((x : Int)), .slice a6 bk.length c6] 209))).heap.size ∧ (Value.slice av 0 cv).ownBlock ≠ some b) (((w6.alloc (.cells #[.slice a B.length c, .int .i64 (D.p : Int), .int .i64 D.k, .int .i64 D.f] 50)).alloc (.cells #[.int .u64 ((x : Int)), .slice a6 bk.length c6] 209))) [.int .u64 ((x : Int)), .slice a6 bk.length c6] ⟨(x : Int), bk⟩ := by
      refine link_mk (x := ⟨(x : Int), bk⟩) hxb (rU64s.mono (rU64s.keep hv6 (w' := ((w6.alloc (.cells #[.slice a B.length c, .int .i64 (D.p : Int), .int .i64 D.k, .int .i64 D.f] 50)).alloc (.cells #[.int .u64 ((x : Int)), .slice a6 bk.length c6] 209))) fun b hb => (by (repeat first | with_reducible (first | exact zR | assumption | apply zA | apply zS | apply zD | apply zN) | refine zT (by with_reducible assumption) ?_ | omega | simp <;> omega) : Below w6.heap.size w6 ((w6.alloc (.cells #[.slice a B.length c, .int .i64 (D.p : Int), .int .i64 D.k, .int .i64 D.f] 50)).alloc (.cells #[.int .u64 ((x : Int)), .slice a6 bk.length c6] 209))).block b hb.2) fun b hb => ⟨?_, ?_, fun e => ?_⟩)
      ·have := hb.1; omega
      ·have := hb.2; simp; omega
      ·have := (HVL.out b e).2; have := hb.1; omega
     have HX := hid hx8
     have HA := hid OA
     have HS9 : Hid (w1.heap.size + 1 ≤ (((w6.alloc (.cells #[.slice a B.length c, .int .i64 (D.p : Int), .int .i64 D.k, .int .i64 D.f] 50)).alloc (.cells #[.int .u64 ((x : Int)), .slice a6 bk.length c6] 209))).heap.size) := hid (by simp; omega)
     have F8 : Blk (((w6.alloc (.cells #[.slice a B.length c, .int .i64 (D.p : Int), .int .i64 D.k, .int .i64 D.f] 50)).alloc (.cells #[.int .u64 ((x : Int)), .slice a6 bk.length c6] 209))) w6.heap.size 50 #[.slice a B.length c, .int .i64 (D.p : Int), .int .i64 D.k, .int .i64 D.f] := (Blk.newAt w6 _ _ rfl).alloc _
     clear hx8 OA HO7 hv6 hb6 D6 R6 hbe6 hT6
     go_wp2_with (at_builtin; (try rw [HY.out]); go_loud (refine wpList_append_src rfl _ _ _ rfl (w1.heap.size + 1) 209 i0 (.agg #[.int .u64 0, .slice none 0 0]) 2 32 Tryz.underlying73 hi hz0 hz1 hz2 rfl (by decide) (Value.slice av 0 cv) 0 _ rfl HA.out.1 (some ⟨w6.heap.size + 1, 0, none⟩) 1 1 [.int .u64 ((x : Int)), .slice a6 bk.length c6] rfl (src_new1 (w6.alloc (.cells #[.slice a B.length c, .int .i64 (D.p : Int), .int .i64 D.k, .int .i64 D.f] 50)) 209 _ rfl (by simp) rfl) (by intro u hu; simp at hu; rcases hu with rfl | rfl <;> rfl) (by simp only [maxLen]; omega) (by omega) HS9.out ?_; intro v9 w9 hown9 hgrow9 hat9; obtain ⟨a9, c9, rfl⟩ := own_form hown9; have OP := hid (OwnEls.push HA.out rfl HX.out hown9 hgrow9 hat9 hgrow9.size); have hb9 : Below (w1.heap.size + 1) w6 w9 := (Below.grown ((by (repeat first | with_reducible (first | exact zR | assumption | apply zA | apply zS | apply zD | apply zN) | refine zT (by with_reducible assumption) ?_ | omega | simp <;> omega) : Below w6.heap.size w6 ((w6.alloc (.cells #[.slice a B.length c, .int .i64 (D.p : Int), .int .i64 D.k, .int .i64 D.f] 50)).alloc (.cells #[.int .u64 ((x : Int)), .slice a6 bk.length c6] 209))).mono (by omega)) hgrow9 HS9.out (fun g e => (HVL.out g e).1)); have F9 : Blk w9 w6.heap.size 50 #[.slice a B.length c, .int .i64 (D.p : Int), .int .i64 D.k, .int .i64 D.f] := (hgrow9.block w6.heap.size (by simp; omega) (fun e => by have := (HVL.out _ e.symm).2; omega)).trans F8; have D9 := D7.below hb9 (by omega); have R9 := R7.below hb9 (by omega); have hs9 := hb9.size; have hbe9 : Below w.heap.size w w9 := hbe7.trans (hb9.mono (by omega)); clear hown9 hgrow9 hat9; obtain ⟨x0, x1, x2, x3, f0, f1, f2, f3, l0⟩ := c_blk D9; obtain ⟨z0, z1, z2, z3, e0, e1, e2, e3, l5⟩ := c_blk F9))
     have HJ9 : Hid (∀ t ∈ ([] : List Link) ++ [(⟨(x : Int), bk⟩ : Link)], 0 ≤ t.stream ∧ t.stream ≤ 18446744073709551615) := hid (fun t ht => by
      rw [List.mem_append, List.mem_singleton] at ht
      rcases ht with ht | rfl
      ·exact hJb.out t ht
      ·exact hxb)
     have HRR := hid R9
     have HDD := hid D9
     have HBE9 := hid hbe9
     clear R9 D9 F9 hbe9
     go_roundw
     case rel => exact ⟨0 + 1, ([] : List Link) ++ [⟨(x : Int), bk⟩], D, by omega, by go_num, hid (by first | (rw [List.length_append, hJl.out]; rfl) | rfl), OwnEls.far4 OP.out (by omega), HJ9, (((HDD.out.set 0 _).set 1 _).set 2 _).set 3 _, Blk.far (Blk.far (Blk.far (Blk.far HRR.out (by dsimp only; omega) _) (by dsimp only; omega) _) (by dsimp only; omega) _) (by dsimp only; omega) _, (((HBE9.out.setCell (by dsimp only; omega) _).setCell (by dsimp only; omega) _).setCell (by dsimp only; omega) _).setCell (by dsimp only; omega) _, by simp [World.setCell]; omega, HOKD, HSP1, HSP2⟩
     case measure => simp [intOf]; omega
    ·obtain ⟨m, rfl⟩ : ∃ m, k = m + 1 := ⟨k - 1, by
      have := hJl.out
      have : J.length ≠ 0 := fun e => hJe (List.eq_nil_of_length_eq_zero e)
      omega⟩
     have hmJ : m < J.length := by have := hJl.out; omega
     have hlast : J.getLast?.map Link.stream = some J[m].stream := by
      have := hJl.out
      rw [List.getLast?_eq_getElem?, this, Nat.add_sub_cancel, List.getElem?_eq_getElem hmJ]
      rfl
     have hzb := hJb.out J[m] (List.getElem_mem hmJ)
     obtain ⟨bq, o, hA, hbb, a1, c1, hc0, hc1, hst, hd⟩ := link_at (OwnEls.slice (Nat.le_refl _) HO.out) hmJ
     subst hA
     have hbr : bq < wr.heap.size := hbb.2
     have hbl := hbb.1
     rw [hlast] at hsp1
     clear hlast hd hc1 hbb hJe
     generalize J[m] = z at *
     have i1' : (m : Int) + 1 < (N : Int) := by omega
     have i2 : (m : Int) < (J.length : Int) := by omega
     have d2 : decide ((m : Int) + 1 < (N : Int)) = true := decide_eq_true i1'
     have v0 : 0 ≤ 18446744073709551615 - z.stream := by omega
     have v0' : 18446744073709551615 - z.stream ≤ 18446744073709551615 := by omega
     by_cases hk1 : (st.num B).1.k = 0
     ·by_cases hf : 18446744073709551615 - z.stream ≤ ((st.num B).2 : Int)
      ·have hS : (st.stream B (some z.stream)).1 = (st.num B).1.fail 13 st.p := by
        simp only [Rs.stream]
        rw [if_pos hf]
       rw [hS] at hsp1
       clear hS
       generalize (st.stream B (some z.stream)).2 = sv at *
       generalize st.num B = R at *
       obtain ⟨st1, x⟩ := R
       dsimp only at *
       have dk1 : (st1.k == (0 : Int)) = true := by simp [hk1]
       have hfk : (st1.fail 13 (st.p : Int)).k ≠ 0 := Rs.fail_k (by omega)
       have HOK1 := hid (Rs.fail_ok hnok (c := 13) (at_ := (st.p : Int)) (by omega))
       have HF := hid (fun (W : World) => HFL.out W st1)
       rw [Rs.delta_of_bad hfk] at hsp1
       dsimp only at hsp1
       rw [if_neg hfk] at hsp1
       clear hk1 HFL hnok
       generalize st1.fail 13 (st.p : Int) = st2 at *
       by_cases hlt3 : 18446744073709551615 - z.stream < (x : Int)
       ·have d4 : decide (18446744073709551615 - z.stream < (x : Int)) = true := decide_eq_true hlt3
        clear hlt3 hf
        obtain ⟨y, hy, hy0, hy1⟩ : ∃ y, IntKind.u64.wrap (IntKind.u64.wrap (z.stream + (x : Int)) + 1) = y ∧ 0 ≤ y ∧ y ≤ 18446744073709551615 := ⟨_, rfl, (wrap_u64_range _).1, (wrap_u64_range _).2⟩
        have HY := hid hy
        have hxb : 0 ≤ y ∧ y ≤ 18446744073709551615 := ⟨hy0, hy1⟩
        clear hy
        go_wp2_with fail
        refine (hVR.out _ HBE.out).mono ?_
        rintro r w3 ⟨rfl, hb3⟩
        have D3 := HD.out.later hb3
        have R3 := HRS.out.later hb3
        have HO3 := hid (OwnEls.below HO.out hb3)
        have hbe3 := below_then hb3 HBE.out
        have hs3 := hb3.size
        have X0' := (hb3.cell (p := ⟨bq, o + m * 2, none⟩) hbr).trans hc0
        have hbr3 : bq < w3.heap.size := by omega
        clear hc0
        obtain ⟨x0, x1, x2, x3, f0, f1, f2, f3, l0⟩ := c_blk D3
        have D4 : Blk (w3.alloc (.cells #[.slice a B.length c, .int .i64 (st1.p : Int), .int .i64 st1.k, .int .i64 st1.f] 50)) w1.heap.size 50 #[.slice a B.length c, .int .i64 (st.p : Int), .int .i64 st.k, .int .i64 st.f] := D3.alloc _
        have R4 : Blk (w3.alloc (.cells #[.slice a B.length c, .int .i64 (st1.p : Int), .int .i64 st1.k, .int .i64 st1.f] 50)) (w.heap.size + 1) 50 #[.slice none 0 0, .int .i64 0, .int .i64 0, .int .i64 0] := R3.alloc _
        have X4 : Blk (w3.alloc (.cells #[.slice a B.length c, .int .i64 (st1.p : Int), .int .i64 st1.k, .int .i64 st1.f] 50)) w3.heap.size 50 #[.slice a B.length c, .int .i64 (st1.p : Int), .int .i64 st1.k, .int .i64 st1.f] := Blk.newAt _ _ _ rfl
        have hbe4 : Below w.heap.size w (w3.alloc (.cells #[.slice a B.length c, .int .i64 (st1.p : Int), .int .i64 st1.k, .int .i64 st1.f] 50)) := by (repeat first | with_reducible (first | exact zR | assumption | apply zA | apply zS | apply zD | apply zN) | refine zT (by with_reducible assumption) ?_ | omega | simp <;> omega)
        have hT4 : Tch (fun b => b = w1.heap.size ∨ w3.heap.size ≤ b) w3 (w3.alloc (.cells #[.slice a B.length c, .int .i64 (st1.p : Int), .int .i64 st1.k, .int .i64 st1.f] 50)) := (Tch.refl _ _).alloc _
        have hz4 : (w3.alloc (.cells #[.slice a B.length c, .int .i64 (st1.p : Int), .int .i64 st1.k, .int .i64 st1.f] 50)).heap.size = w3.heap.size + 1 := by simp
        have HVL : Hid (∀ q, (Value.slice (some ⟨bq, o, none⟩) J.length cv).ownBlock = some q → w1.heap.size + 1 ≤ q ∧ q < w3.heap.size) := hid (by
         obtain ⟨cells0, OA0⟩ := HO3.out
         exact fun q e => own_lt OA0.1 q e)
        clear hb3 D3 R3 y0 y1 y2 y3 g0 g1 g2 g3 l1
        go_wp2_with fail
        refine (HF.out _).mono ?_
        rintro r w5 ⟨rfl, hb5⟩
        have D5 := D4.later hb5
        have R5 := R4.later hb5
        have X5 := X4.later hb5
        have hbe5 := below_then hb5 hbe4
        have hs5 := hb5.size
        have hT5 := hT4.trans (Tch.of_later (F := fun b => b = w1.heap.size ∨ w3.heap.size ≤ b) hb5) fun b _ h => h
        clear x0 x1 x2 x3 f0 f1 f2 f3 l0
        obtain ⟨x0, x1, x2, x3, f0, f1, f2, f3, l0⟩ := c_blk X5
        go_wp2_with fail
        have D6 : Blk ((((w5.setCell ⟨w3.heap.size, 0, none⟩ (.slice a B.length c)).setCell ⟨w3.heap.size, 1, none⟩ (.int .i64 (st2.p : Int))).setCell ⟨w3.heap.size, 2, none⟩ (.int .i64 st2.k)).setCell ⟨w3.heap.size, 3, none⟩ (.int .i64 st2.f)) w1.heap.size 50 #[.slice a B.length c, .int .i64 (st.p : Int), .int .i64 st.k, .int .i64 st.f] := Blk.far (Blk.far (Blk.far (Blk.far D5 (by dsimp only; omega) _) (by dsimp only; omega) _) (by dsimp only; omega) _) (by dsimp only; omega) _
        have R6 : Blk ((((w5.setCell ⟨w3.heap.size, 0, none⟩ (.slice a B.length c)).setCell ⟨w3.heap.size, 1, none⟩ (.int .i64 (st2.p : Int))).setCell ⟨w3.heap.size, 2, none⟩ (.int .i64 st2.k)).setCell ⟨w3.heap.size, 3, none⟩ (.int .i64 st2.f)) (w.heap.size + 1) 50 #[.slice none 0 0, .int .i64 0, .int .i64 0, .int .i64 0] := Blk.far (Blk.far (Blk.far (Blk.far R5 (by dsimp only; omega) _) (by dsimp only; omega) _) (by dsimp only; omega) _) (by dsimp only; omega) _
        have hbe6 : Below w.heap.size w ((((w5.setCell ⟨w3.heap.size, 0, none⟩ (.slice a B.length c)).setCell ⟨w3.heap.size, 1, none⟩ (.int .i64 (st2.p : Int))).setCell ⟨w3.heap.size, 2, none⟩ (.int .i64 st2.k)).setCell ⟨w3.heap.size, 3, none⟩ (.int .i64 st2.f)) := (((hbe5.setCell (by dsimp only; omega) _).setCell (by dsimp only; omega) _).setCell (by dsimp only; omega) _).setCell (by dsimp only; omega) _
        have hT6 : Tch (fun b => b = w1.heap.size ∨ w3.heap.size ≤ b) w3 ((((w5.setCell ⟨w3.heap.size, 0, none⟩ (.slice a B.length c)).setCell ⟨w3.heap.size, 1, none⟩ (.int .i64 (st2.p : Int))).setCell ⟨w3.heap.size, 2, none⟩ (.int .i64 st2.k)).setCell ⟨w3.heap.size, 3, none⟩ (.int .i64 st2.f)) := (((hT5.setCell (fun h => by dsimp only at h; omega) _).setCell (fun h => by dsimp only at h; omega) _).setCell (fun h => by dsimp only at h; omega) _).setCell (fun h => by dsimp only at h; omega) _
        have hz6 : w3.heap.size + 1 ≤ (((((w5.setCell ⟨w3.heap.size, 0, none⟩ (.slice a B.length c)).setCell ⟨w3.heap.size, 1, none⟩ (.int .i64 (st2.p : Int))).setCell ⟨w3.heap.size, 2, none⟩ (.int .i64 st2.k)).setCell ⟨w3.heap.size, 3, none⟩ (.int .i64 st2.f))).heap.size := by simp [World.setCell]; omega
        clear D4 R4 X4 hbe4 D5 R5 X5 hbe5 hb5 x0 x1 x2 x3 f0 f1 f2 f3 l0 hz4 hT4 hT5
        generalize ((((w5.setCell ⟨w3.heap.size, 0, none⟩ (.slice a B.length c)).setCell ⟨w3.heap.size, 1, none⟩ (.int .i64 (st2.p : Int))).setCell ⟨w3.heap.size, 2, none⟩ (.int .i64 st2.k)).setCell ⟨w3.heap.size, 3, none⟩ (.int .i64 st2.f)) = w4 at *
        have HDC := HDL.out w4 hbe6 st2 HOK1.out
        have hOKD := Rs.delta_ok (B := B) (below := pos) (most := 4) HOK1.out
        generalize hDL : st2.delta B pos 4 = DL at *
        obtain ⟨D, bk⟩ := DL
        dsimp only at *
        have HOKD := hid hOKD
        have hDE : D = st2 := by
         rw [Rs.delta_of_bad hfk] at hDL
         exact (congrArg Prod.fst hDL).symm
        have HSP : Hid (Rs.linksF B pos N s1 none [] = (D, [])) := hid (by rw [hDE]; exact hsp1)
        have hfk' : D.k ≠ 0 := by rw [hDE]; exact hfk
        have HFK := hid hfk'
        clear hDE hfk hfk'
        have HSP1 : Hid (D.k = 0 → Rs.linksF B pos N s1 none [] = Rs.linksF B pos (N - (m + 1 + 1)) D ((J ++ [(⟨y, bk⟩ : Link)]).getLast?.map Link.stream) (J ++ [⟨y, bk⟩])) := hid (fun h => absurd h HFK.out)
        have HSP2 : Hid (D.k ≠ 0 → Rs.linksF B pos N s1 none [] = (D, [])) := hid (fun _ => HSP.out)
        clear hsp1 hOKD hDL
        refine HDC.mono ?_
        rintro r w6 ⟨v6, rfl, hv6, hb6⟩
        obtain ⟨a6, c6, hfv, _, _⟩ := sl_form hv6
        simp only [List.cons.injEq, and_true] at hfv
        subst hfv
        have D7 := D6.later hb6
        have R7 := R6.later hb6
        have hbe7 := below_then hb6 hbe6
        have hs6 := hb6.size
        have HO7 := hid (OwnEls.below (OwnEls.tch3 HO3.out hT6 (by omega)) hb6)
        obtain ⟨cells, OA⟩ := OwnEls.below HO7.out (show Below w6.heap.size w6 ((w6.alloc (.cells #[.slice a B.length c, .int .i64 (D.p : Int), .int .i64 D.k, .int .i64 D.f] 50)).alloc (.cells #[.int .u64 (y), .slice a6 bk.length c6] 209)) from by (repeat first | with_reducible (first | exact zR | assumption | apply zA | apply zS | apply zD | apply zN) | refine zT (by with_reducible assumption) ?_ | omega | simp <;> omega))
        have hx8 : rLink.r (fun b => w1.heap.size + 1 ≤ b ∧ b < (((w6.alloc (.cells #[.slice a B.length c, .int .i64 (D.p : Int), .int .i64 D.k, .int .i64 D.f] 50)).alloc (.cells #[.int .u64 (y), .slice a6 bk.length c6] 209))).heap.size ∧ (Value.slice (some ⟨bq, o, none⟩) J.length cv).ownBlock ≠ some b) (((w6.alloc (.cells #[.slice a B.length c, .int .i64 (D.p : Int), .int .i64 D.k, .int .i64 D.f] 50)).alloc (.cells #[.int .u64 (y), .slice a6 bk.length c6] 209))) [.int .u64 (y), .slice a6 bk.length c6] ⟨y, bk⟩ := by
         refine link_mk (x := ⟨y, bk⟩) hxb (rU64s.mono (rU64s.keep hv6 (w' := ((w6.alloc (.cells #[.slice a B.length c, .int .i64 (D.p : Int), .int .i64 D.k, .int .i64 D.f] 50)).alloc (.cells #[.int .u64 (y), .slice a6 bk.length c6] 209))) fun b hb => (by (repeat first | with_reducible (first | exact zR | assumption | apply zA | apply zS | apply zD | apply zN) | refine zT (by with_reducible assumption) ?_ | omega | simp <;> omega) : Below w6.heap.size w6 ((w6.alloc (.cells #[.slice a B.length c, .int .i64 (D.p : Int), .int .i64 D.k, .int .i64 D.f] 50)).alloc (.cells #[.int .u64 (y), .slice a6 bk.length c6] 209))).block b hb.2) fun b hb => ⟨?_, ?_, fun e => ?_⟩)
         ·have := hb.1; omega
         ·have := hb.2; simp; omega
         ·have := (HVL.out b e).2; have := hb.1; omega
        have HX := hid hx8
        have HA := hid OA
        have HS9 : Hid (w1.heap.size + 1 ≤ (((w6.alloc (.cells #[.slice a B.length c, .int .i64 (D.p : Int), .int .i64 D.k, .int .i64 D.f] 50)).alloc (.cells #[.int .u64 (y), .slice a6 bk.length c6] 209))).heap.size) := hid (by simp; omega)
        have F8 : Blk (((w6.alloc (.cells #[.slice a B.length c, .int .i64 (D.p : Int), .int .i64 D.k, .int .i64 D.f] 50)).alloc (.cells #[.int .u64 (y), .slice a6 bk.length c6] 209))) w6.heap.size 50 #[.slice a B.length c, .int .i64 (D.p : Int), .int .i64 D.k, .int .i64 D.f] := (Blk.newAt w6 _ _ rfl).alloc _
        clear hx8 OA HO7 hv6 hb6 D6 R6 hbe6 hT6
        go_wp2_with (at_builtin; (try rw [HY.out]); go_loud (refine wpList_append_src rfl _ _ _ rfl (w1.heap.size + 1) 209 i0 (.agg #[.int .u64 0, .slice none 0 0]) 2 32 Tryz.underlying73 hi hz0 hz1 hz2 rfl (by decide) (Value.slice (some ⟨bq, o, none⟩) J.length cv) J.length _ rfl HA.out.1 (some ⟨w6.heap.size + 1, 0, none⟩) 1 1 [.int .u64 (y), .slice a6 bk.length c6] rfl (src_new1 (w6.alloc (.cells #[.slice a B.length c, .int .i64 (D.p : Int), .int .i64 D.k, .int .i64 D.f] 50)) 209 _ rfl (by simp) rfl) (by intro u hu; simp at hu; rcases hu with rfl | rfl <;> rfl) (by simp only [maxLen]; omega) (by omega) HS9.out ?_; intro v9 w9 hown9 hgrow9 hat9; obtain ⟨a9, c9, rfl⟩ := own_form hown9; have OP := hid (OwnEls.push HA.out rfl HX.out hown9 hgrow9 hat9 hgrow9.size); have hb9 : Below (w1.heap.size + 1) w6 w9 := (Below.grown ((by (repeat first | with_reducible (first | exact zR | assumption | apply zA | apply zS | apply zD | apply zN) | refine zT (by with_reducible assumption) ?_ | omega | simp <;> omega) : Below w6.heap.size w6 ((w6.alloc (.cells #[.slice a B.length c, .int .i64 (D.p : Int), .int .i64 D.k, .int .i64 D.f] 50)).alloc (.cells #[.int .u64 (y), .slice a6 bk.length c6] 209))).mono (by omega)) hgrow9 HS9.out (fun g e => (HVL.out g e).1)); have F9 : Blk w9 w6.heap.size 50 #[.slice a B.length c, .int .i64 (D.p : Int), .int .i64 D.k, .int .i64 D.f] := (hgrow9.block w6.heap.size (by simp; omega) (fun e => by have := (HVL.out _ e.symm).2; omega)).trans F8; have D9 := D7.below hb9 (by omega); have R9 := R7.below hb9 (by omega); have hs9 := hb9.size; have hbe9 : Below w.heap.size w w9 := hbe7.trans (hb9.mono (by omega)); clear hown9 hgrow9 hat9; obtain ⟨x0, x1, x2, x3, f0, f1, f2, f3, l0⟩ := c_blk D9; obtain ⟨z0, z1, z2, z3, e0, e1, e2, e3, l5⟩ := c_blk F9))
        have HJ9 : Hid (∀ t ∈ J ++ [(⟨y, bk⟩ : Link)], 0 ≤ t.stream ∧ t.stream ≤ 18446744073709551615) := hid (fun t ht => by
         rw [List.mem_append, List.mem_singleton] at ht
         rcases ht with ht | rfl
         ·exact hJb.out t ht
         ·exact hxb)
        have HRR := hid R9
        have HDD := hid D9
        have HBE9 := hid hbe9
        clear R9 D9 F9 hbe9
        go_roundw
        case rel => exact ⟨m + 1 + 1, J ++ [⟨y, bk⟩], D, by omega, by go_num, hid (by first | (rw [List.length_append, hJl.out]; rfl) | rfl), OwnEls.far4 OP.out (by omega), HJ9, (((HDD.out.set 0 _).set 1 _).set 2 _).set 3 _, Blk.far (Blk.far (Blk.far (Blk.far HRR.out (by dsimp only; omega) _) (by dsimp only; omega) _) (by dsimp only; omega) _) (by dsimp only; omega) _, (((HBE9.out.setCell (by dsimp only; omega) _).setCell (by dsimp only; omega) _).setCell (by dsimp only; omega) _).setCell (by dsimp only; omega) _, by simp [World.setCell]; omega, HOKD, HSP1, HSP2⟩
        case measure => simp [intOf]; omega
       ·have d4 : decide (18446744073709551615 - z.stream < (x : Int)) = false := decide_eq_false hlt3
        have hxe : (x : Int) = 18446744073709551615 - z.stream := by omega
        have d5 : ((x : Int) == 18446744073709551615 - z.stream) = true := by simp [hxe]
        have d5' : decide ((x : Int) = 18446744073709551615 - z.stream) = true := decide_eq_true hxe
        have HXE := hid hxe
        clear hlt3 hf hxe
        obtain ⟨y, hy, hy0, hy1⟩ : ∃ y, IntKind.u64.wrap (IntKind.u64.wrap (z.stream + (x : Int)) + 1) = y ∧ 0 ≤ y ∧ y ≤ 18446744073709551615 := ⟨_, rfl, (wrap_u64_range _).1, (wrap_u64_range _).2⟩
        have HY := hid hy
        have hxb : 0 ≤ y ∧ y ≤ 18446744073709551615 := ⟨hy0, hy1⟩
        clear hy
        go_wp2_with fail
        refine (hVR.out _ HBE.out).mono ?_
        rintro r w3 ⟨rfl, hb3⟩
        have D3 := HD.out.later hb3
        have R3 := HRS.out.later hb3
        have HO3 := hid (OwnEls.below HO.out hb3)
        have hbe3 := below_then hb3 HBE.out
        have hs3 := hb3.size
        have X0' := (hb3.cell (p := ⟨bq, o + m * 2, none⟩) hbr).trans hc0
        have hbr3 : bq < w3.heap.size := by omega
        clear hc0
        obtain ⟨x0, x1, x2, x3, f0, f1, f2, f3, l0⟩ := c_blk D3
        have D4 : Blk (w3.alloc (.cells #[.slice a B.length c, .int .i64 (st1.p : Int), .int .i64 st1.k, .int .i64 st1.f] 50)) w1.heap.size 50 #[.slice a B.length c, .int .i64 (st.p : Int), .int .i64 st.k, .int .i64 st.f] := D3.alloc _
        have R4 : Blk (w3.alloc (.cells #[.slice a B.length c, .int .i64 (st1.p : Int), .int .i64 st1.k, .int .i64 st1.f] 50)) (w.heap.size + 1) 50 #[.slice none 0 0, .int .i64 0, .int .i64 0, .int .i64 0] := R3.alloc _
        have X4 : Blk (w3.alloc (.cells #[.slice a B.length c, .int .i64 (st1.p : Int), .int .i64 st1.k, .int .i64 st1.f] 50)) w3.heap.size 50 #[.slice a B.length c, .int .i64 (st1.p : Int), .int .i64 st1.k, .int .i64 st1.f] := Blk.newAt _ _ _ rfl
        have hbe4 : Below w.heap.size w (w3.alloc (.cells #[.slice a B.length c, .int .i64 (st1.p : Int), .int .i64 st1.k, .int .i64 st1.f] 50)) := by (repeat first | with_reducible (first | exact zR | assumption | apply zA | apply zS | apply zD | apply zN) | refine zT (by with_reducible assumption) ?_ | omega | simp <;> omega)
        have hT4 : Tch (fun b => b = w1.heap.size ∨ w3.heap.size ≤ b) w3 (w3.alloc (.cells #[.slice a B.length c, .int .i64 (st1.p : Int), .int .i64 st1.k, .int .i64 st1.f] 50)) := (Tch.refl _ _).alloc _
        have hz4 : (w3.alloc (.cells #[.slice a B.length c, .int .i64 (st1.p : Int), .int .i64 st1.k, .int .i64 st1.f] 50)).heap.size = w3.heap.size + 1 := by simp
        have HVL : Hid (∀ q, (Value.slice (some ⟨bq, o, none⟩) J.length cv).ownBlock = some q → w1.heap.size + 1 ≤ q ∧ q < w3.heap.size) := hid (by
         obtain ⟨cells0, OA0⟩ := HO3.out
         exact fun q e => own_lt OA0.1 q e)
        clear hb3 D3 R3 y0 y1 y2 y3 g0 g1 g2 g3 l1
        go_wp2_with fail
        refine (HF.out _).mono ?_
        rintro r w5 ⟨rfl, hb5⟩
        have D5 := D4.later hb5
        have R5 := R4.later hb5
        have X5 := X4.later hb5
        have hbe5 := below_then hb5 hbe4
        have hs5 := hb5.size
        have hT5 := hT4.trans (Tch.of_later (F := fun b => b = w1.heap.size ∨ w3.heap.size ≤ b) hb5) fun b _ h => h
        clear x0 x1 x2 x3 f0 f1 f2 f3 l0
        obtain ⟨x0, x1, x2, x3, f0, f1, f2, f3, l0⟩ := c_blk X5
        go_wp2_with fail
        have D6 : Blk ((((w5.setCell ⟨w3.heap.size, 0, none⟩ (.slice a B.length c)).setCell ⟨w3.heap.size, 1, none⟩ (.int .i64 (st2.p : Int))).setCell ⟨w3.heap.size, 2, none⟩ (.int .i64 st2.k)).setCell ⟨w3.heap.size, 3, none⟩ (.int .i64 st2.f)) w1.heap.size 50 #[.slice a B.length c, .int .i64 (st.p : Int), .int .i64 st.k, .int .i64 st.f] := Blk.far (Blk.far (Blk.far (Blk.far D5 (by dsimp only; omega) _) (by dsimp only; omega) _) (by dsimp only; omega) _) (by dsimp only; omega) _
        have R6 : Blk ((((w5.setCell ⟨w3.heap.size, 0, none⟩ (.slice a B.length c)).setCell ⟨w3.heap.size, 1, none⟩ (.int .i64 (st2.p : Int))).setCell ⟨w3.heap.size, 2, none⟩ (.int .i64 st2.k)).setCell ⟨w3.heap.size, 3, none⟩ (.int .i64 st2.f)) (w.heap.size + 1) 50 #[.slice none 0 0, .int .i64 0, .int .i64 0, .int .i64 0] := Blk.far (Blk.far (Blk.far (Blk.far R5 (by dsimp only; omega) _) (by dsimp only; omega) _) (by dsimp only; omega) _) (by dsimp only; omega) _
        have hbe6 : Below w.heap.size w ((((w5.setCell ⟨w3.heap.size, 0, none⟩ (.slice a B.length c)).setCell ⟨w3.heap.size, 1, none⟩ (.int .i64 (st2.p : Int))).setCell ⟨w3.heap.size, 2, none⟩ (.int .i64 st2.k)).setCell ⟨w3.heap.size, 3, none⟩ (.int .i64 st2.f)) := (((hbe5.setCell (by dsimp only; omega) _).setCell (by dsimp only; omega) _).setCell (by dsimp only; omega) _).setCell (by dsimp only; omega) _
        have hT6 : Tch (fun b => b = w1.heap.size ∨ w3.heap.size ≤ b) w3 ((((w5.setCell ⟨w3.heap.size, 0, none⟩ (.slice a B.length c)).setCell ⟨w3.heap.size, 1, none⟩ (.int .i64 (st2.p : Int))).setCell ⟨w3.heap.size, 2, none⟩ (.int .i64 st2.k)).setCell ⟨w3.heap.size, 3, none⟩ (.int .i64 st2.f)) := (((hT5.setCell (fun h => by dsimp only at h; omega) _).setCell (fun h => by dsimp only at h; omega) _).setCell (fun h => by dsimp only at h; omega) _).setCell (fun h => by dsimp only at h; omega) _
        have hz6 : w3.heap.size + 1 ≤ (((((w5.setCell ⟨w3.heap.size, 0, none⟩ (.slice a B.length c)).setCell ⟨w3.heap.size, 1, none⟩ (.int .i64 (st2.p : Int))).setCell ⟨w3.heap.size, 2, none⟩ (.int .i64 st2.k)).setCell ⟨w3.heap.size, 3, none⟩ (.int .i64 st2.f))).heap.size := by simp [World.setCell]; omega
        clear D4 R4 X4 hbe4 D5 R5 X5 hbe5 hb5 x0 x1 x2 x3 f0 f1 f2 f3 l0 hz4 hT4 hT5
        generalize ((((w5.setCell ⟨w3.heap.size, 0, none⟩ (.slice a B.length c)).setCell ⟨w3.heap.size, 1, none⟩ (.int .i64 (st2.p : Int))).setCell ⟨w3.heap.size, 2, none⟩ (.int .i64 st2.k)).setCell ⟨w3.heap.size, 3, none⟩ (.int .i64 st2.f)) = w4 at *
        have HDC := HDL.out w4 hbe6 st2 HOK1.out
        have hOKD := Rs.delta_ok (B := B) (below := pos) (most := 4) HOK1.out
        generalize hDL : st2.delta B pos 4 = DL at *
        obtain ⟨D, bk⟩ := DL
        dsimp only at *
        have HOKD := hid hOKD
        have hDE : D = st2 := by
         rw [Rs.delta_of_bad hfk] at hDL
         exact (congrArg Prod.fst hDL).symm
        have HSP : Hid (Rs.linksF B pos N s1 none [] = (D, [])) := hid (by rw [hDE]; exact hsp1)
        have hfk' : D.k ≠ 0 := by rw [hDE]; exact hfk
        have HFK := hid hfk'
        clear hDE hfk hfk'
        have HSP1 : Hid (D.k = 0 → Rs.linksF B pos N s1 none [] = Rs.linksF B pos (N - (m + 1 + 1)) D ((J ++ [(⟨y, bk⟩ : Link)]).getLast?.map Link.stream) (J ++ [⟨y, bk⟩])) := hid (fun h => absurd h HFK.out)
        have HSP2 : Hid (D.k ≠ 0 → Rs.linksF B pos N s1 none [] = (D, [])) := hid (fun _ => HSP.out)
        clear hsp1 hOKD hDL
        refine HDC.mono ?_
        rintro r w6 ⟨v6, rfl, hv6, hb6⟩
        obtain ⟨a6, c6, hfv, _, _⟩ := sl_form hv6
        simp only [List.cons.injEq, and_true] at hfv
        subst hfv
        have D7 := D6.later hb6
        have R7 := R6.later hb6
        have hbe7 := below_then hb6 hbe6
        have hs6 := hb6.size
        have HO7 := hid (OwnEls.below (OwnEls.tch3 HO3.out hT6 (by omega)) hb6)
        obtain ⟨cells, OA⟩ := OwnEls.below HO7.out (show Below w6.heap.size w6 ((w6.alloc (.cells #[.slice a B.length c, .int .i64 (D.p : Int), .int .i64 D.k, .int .i64 D.f] 50)).alloc (.cells #[.int .u64 (y), .slice a6 bk.length c6] 209)) from by (repeat first | with_reducible (first | exact zR | assumption | apply zA | apply zS | apply zD | apply zN) | refine zT (by with_reducible assumption) ?_ | omega | simp <;> omega))
        have hx8 : rLink.r (fun b => w1.heap.size + 1 ≤ b ∧ b < (((w6.alloc (.cells #[.slice a B.length c, .int .i64 (D.p : Int), .int .i64 D.k, .int .i64 D.f] 50)).alloc (.cells #[.int .u64 (y), .slice a6 bk.length c6] 209))).heap.size ∧ (Value.slice (some ⟨bq, o, none⟩) J.length cv).ownBlock ≠ some b) (((w6.alloc (.cells #[.slice a B.length c, .int .i64 (D.p : Int), .int .i64 D.k, .int .i64 D.f] 50)).alloc (.cells #[.int .u64 (y), .slice a6 bk.length c6] 209))) [.int .u64 (y), .slice a6 bk.length c6] ⟨y, bk⟩ := by
         refine link_mk (x := ⟨y, bk⟩) hxb (rU64s.mono (rU64s.keep hv6 (w' := ((w6.alloc (.cells #[.slice a B.length c, .int .i64 (D.p : Int), .int .i64 D.k, .int .i64 D.f] 50)).alloc (.cells #[.int .u64 (y), .slice a6 bk.length c6] 209))) fun b hb => (by (repeat first | with_reducible (first | exact zR | assumption | apply zA | apply zS | apply zD | apply zN) | refine zT (by with_reducible assumption) ?_ | omega | simp <;> omega) : Below w6.heap.size w6 ((w6.alloc (.cells #[.slice a B.length c, .int .i64 (D.p : Int), .int .i64 D.k, .int .i64 D.f] 50)).alloc (.cells #[.int .u64 (y), .slice a6 bk.length c6] 209))).block b hb.2) fun b hb => ⟨?_, ?_, fun e => ?_⟩)
         ·have := hb.1; omega
         ·have := hb.2; simp; omega
         ·have := (HVL.out b e).2; have := hb.1; omega
        have HX := hid hx8
        have HA := hid OA
        have HS9 : Hid (w1.heap.size + 1 ≤ (((w6.alloc (.cells #[.slice a B.length c, .int .i64 (D.p : Int), .int .i64 D.k, .int .i64 D.f] 50)).alloc (.cells #[.int .u64 (y), .slice a6 bk.length c6] 209))).heap.size) := hid (by simp; omega)
        have F8 : Blk (((w6.alloc (.cells #[.slice a B.length c, .int .i64 (D.p : Int), .int .i64 D.k, .int .i64 D.f] 50)).alloc (.cells #[.int .u64 (y), .slice a6 bk.length c6] 209))) w6.heap.size 50 #[.slice a B.length c, .int .i64 (D.p : Int), .int .i64 D.k, .int .i64 D.f] := (Blk.newAt w6 _ _ rfl).alloc _
        clear hx8 OA HO7 hv6 hb6 D6 R6 hbe6 hT6
        go_wp2_with (at_builtin; (try rw [HY.out]); go_loud (refine wpList_append_src rfl _ _ _ rfl (w1.heap.size + 1) 209 i0 (.agg #[.int .u64 0, .slice none 0 0]) 2 32 Tryz.underlying73 hi hz0 hz1 hz2 rfl (by decide) (Value.slice (some ⟨bq, o, none⟩) J.length cv) J.length _ rfl HA.out.1 (some ⟨w6.heap.size + 1, 0, none⟩) 1 1 [.int .u64 (y), .slice a6 bk.length c6] rfl (src_new1 (w6.alloc (.cells #[.slice a B.length c, .int .i64 (D.p : Int), .int .i64 D.k, .int .i64 D.f] 50)) 209 _ rfl (by simp) rfl) (by intro u hu; simp at hu; rcases hu with rfl | rfl <;> rfl) (by simp only [maxLen]; omega) (by omega) HS9.out ?_; intro v9 w9 hown9 hgrow9 hat9; obtain ⟨a9, c9, rfl⟩ := own_form hown9; have OP := hid (OwnEls.push HA.out rfl HX.out hown9 hgrow9 hat9 hgrow9.size); have hb9 : Below (w1.heap.size + 1) w6 w9 := (Below.grown ((by (repeat first | with_reducible (first | exact zR | assumption | apply zA | apply zS | apply zD | apply zN) | refine zT (by with_reducible assumption) ?_ | omega | simp <;> omega) : Below w6.heap.size w6 ((w6.alloc (.cells #[.slice a B.length c, .int .i64 (D.p : Int), .int .i64 D.k, .int .i64 D.f] 50)).alloc (.cells #[.int .u64 (y), .slice a6 bk.length c6] 209))).mono (by omega)) hgrow9 HS9.out (fun g e => (HVL.out g e).1)); have F9 : Blk w9 w6.heap.size 50 #[.slice a B.length c, .int .i64 (D.p : Int), .int .i64 D.k, .int .i64 D.f] := (hgrow9.block w6.heap.size (by simp; omega) (fun e => by have := (HVL.out _ e.symm).2; omega)).trans F8; have D9 := D7.below hb9 (by omega); have R9 := R7.below hb9 (by omega); have hs9 := hb9.size; have hbe9 : Below w.heap.size w w9 := hbe7.trans (hb9.mono (by omega)); clear hown9 hgrow9 hat9; obtain ⟨x0, x1, x2, x3, f0, f1, f2, f3, l0⟩ := c_blk D9; obtain ⟨z0, z1, z2, z3, e0, e1, e2, e3, l5⟩ := c_blk F9))
        have HJ9 : Hid (∀ t ∈ J ++ [(⟨y, bk⟩ : Link)], 0 ≤ t.stream ∧ t.stream ≤ 18446744073709551615) := hid (fun t ht => by
         rw [List.mem_append, List.mem_singleton] at ht
         rcases ht with ht | rfl
         ·exact hJb.out t ht
         ·exact hxb)
        have HRR := hid R9
        have HDD := hid D9
        have HBE9 := hid hbe9
        clear R9 D9 F9 hbe9
        go_roundw
        case rel => exact ⟨m + 1 + 1, J ++ [⟨y, bk⟩], D, by omega, by go_num, hid (by first | (rw [List.length_append, hJl.out]; rfl) | rfl), OwnEls.far4 OP.out (by omega), HJ9, (((HDD.out.set 0 _).set 1 _).set 2 _).set 3 _, Blk.far (Blk.far (Blk.far (Blk.far HRR.out (by dsimp only; omega) _) (by dsimp only; omega) _) (by dsimp only; omega) _) (by dsimp only; omega) _, (((HBE9.out.setCell (by dsimp only; omega) _).setCell (by dsimp only; omega) _).setCell (by dsimp only; omega) _).setCell (by dsimp only; omega) _, by simp [World.setCell]; omega, HOKD, HSP1, HSP2⟩
        case measure => simp [intOf]; omega
      ·have hS : st.stream B (some z.stream) = ((st.num B).1, z.stream + ((st.num B).2 : Int) + 1) := by
        simp only [Rs.stream]
        rw [if_neg hf, Int.add_comm ((st.num B).2 : Int)]
       rw [hS] at hsp1
       clear hS
       generalize st.num B = R at *
       obtain ⟨st1, x⟩ := R
       dsimp only at *
       have dk1 : (st1.k == (0 : Int)) = true := by simp [hk1]
       have HOK1 := hid hnok
       have d4 : decide (18446744073709551615 - z.stream < (x : Int)) = false := decide_eq_false (by omega)
       have hxe : ¬ (x : Int) = 18446744073709551615 - z.stream := by omega
       have d5 : ((x : Int) == 18446744073709551615 - z.stream) = false := by simp [hxe]
       have v1 : 0 ≤ z.stream + (x : Int) := by omega
       have v2 : z.stream + (x : Int) ≤ 18446744073709551615 := by omega
       have v3 : 0 ≤ z.stream + (x : Int) + 1 := by omega
       have v4 : z.stream + (x : Int) + 1 ≤ 18446744073709551615 := by omega
       have hxb : 0 ≤ z.stream + (x : Int) + 1 ∧ z.stream + (x : Int) + 1 ≤ 18446744073709551615 := ⟨v3, v4⟩
       clear hk1 HFL hnok hf hxe
       go_wp2_with fail
       refine (hVR.out _ HBE.out).mono ?_
       rintro r w3 ⟨rfl, hb3⟩
       have D3 := HD.out.later hb3
       have R3 := HRS.out.later hb3
       have HO3 := hid (OwnEls.below HO.out hb3)
       have hbe3 := below_then hb3 HBE.out
       have hs3 := hb3.size
       have X0' := (hb3.cell (p := ⟨bq, o + m * 2, none⟩) hbr).trans hc0
       have hbr3 : bq < w3.heap.size := by omega
       clear hc0
       obtain ⟨x0, x1, x2, x3, f0, f1, f2, f3, l0⟩ := c_blk D3
       have D4 : Blk (w3.alloc (.cells #[.slice a B.length c, .int .i64 (st1.p : Int), .int .i64 st1.k, .int .i64 st1.f] 50)) w1.heap.size 50 #[.slice a B.length c, .int .i64 (st.p : Int), .int .i64 st.k, .int .i64 st.f] := D3.alloc _
       have R4 : Blk (w3.alloc (.cells #[.slice a B.length c, .int .i64 (st1.p : Int), .int .i64 st1.k, .int .i64 st1.f] 50)) (w.heap.size + 1) 50 #[.slice none 0 0, .int .i64 0, .int .i64 0, .int .i64 0] := R3.alloc _
       have X4 : Blk (w3.alloc (.cells #[.slice a B.length c, .int .i64 (st1.p : Int), .int .i64 st1.k, .int .i64 st1.f] 50)) w3.heap.size 50 #[.slice a B.length c, .int .i64 (st1.p : Int), .int .i64 st1.k, .int .i64 st1.f] := Blk.newAt _ _ _ rfl
       have hbe4 : Below w.heap.size w (w3.alloc (.cells #[.slice a B.length c, .int .i64 (st1.p : Int), .int .i64 st1.k, .int .i64 st1.f] 50)) := by (repeat first | with_reducible (first | exact zR | assumption | apply zA | apply zS | apply zD | apply zN) | refine zT (by with_reducible assumption) ?_ | omega | simp <;> omega)
       have hT4 : Tch (fun b => b = w1.heap.size ∨ w3.heap.size ≤ b) w3 (w3.alloc (.cells #[.slice a B.length c, .int .i64 (st1.p : Int), .int .i64 st1.k, .int .i64 st1.f] 50)) := (Tch.refl _ _).alloc _
       have hz4 : (w3.alloc (.cells #[.slice a B.length c, .int .i64 (st1.p : Int), .int .i64 st1.k, .int .i64 st1.f] 50)).heap.size = w3.heap.size + 1 := by simp
       have HVL : Hid (∀ q, (Value.slice (some ⟨bq, o, none⟩) J.length cv).ownBlock = some q → w1.heap.size + 1 ≤ q ∧ q < w3.heap.size) := hid (by
        obtain ⟨cells0, OA0⟩ := HO3.out
        exact fun q e => own_lt OA0.1 q e)
       clear hb3 D3 R3 y0 y1 y2 y3 g0 g1 g2 g3 l1
       go_wp2_with fail
       have D6 := D4
       have R6 := R4
       have hbe6 := hbe4
       have hT6 := hT4
       have hz6 : w3.heap.size + 1 ≤ (w3.alloc (.cells #[.slice a B.length c, .int .i64 (st1.p : Int), .int .i64 st1.k, .int .i64 st1.f] 50)).heap.size := by omega
       clear D4 R4 X4 hbe4 hT4 hz4 x0 x1 x2 x3 f0 f1 f2 f3 l0
       generalize (w3.alloc (.cells #[.slice a B.length c, .int .i64 (st1.p : Int), .int .i64 st1.k, .int .i64 st1.f] 50)) = w4 at *
       have HDC := HDL.out w4 hbe6 st1 HOK1.out
       have hOKD := Rs.delta_ok (B := B) (below := pos) (most := 4) HOK1.out
       generalize hDL : st1.delta B pos 4 = DL at *
       obtain ⟨D, bk⟩ := DL
       dsimp only at *
       have HOKD := hid hOKD
       have HSP := hid hsp1
       have HSP1 : Hid (D.k = 0 → Rs.linksF B pos N s1 none [] = Rs.linksF B pos (N - (m + 1 + 1)) D ((J ++ [(⟨z.stream + (x : Int) + 1, bk⟩ : Link)]).getLast?.map Link.stream) (J ++ [⟨z.stream + (x : Int) + 1, bk⟩])) := hid (fun h => by rw [HSP.out, if_pos h]; simp)
       have HSP2 : Hid (D.k ≠ 0 → Rs.linksF B pos N s1 none [] = (D, [])) := hid (fun h => by rw [HSP.out, if_neg h])
       clear hsp1 hOKD hDL
       refine HDC.mono ?_
       rintro r w6 ⟨v6, rfl, hv6, hb6⟩
       obtain ⟨a6, c6, hfv, _, _⟩ := sl_form hv6
       simp only [List.cons.injEq, and_true] at hfv
       subst hfv
       have D7 := D6.later hb6
       have R7 := R6.later hb6
       have hbe7 := below_then hb6 hbe6
       have hs6 := hb6.size
       have HO7 := hid (OwnEls.below (OwnEls.tch3 HO3.out hT6 (by omega)) hb6)
       obtain ⟨cells, OA⟩ := OwnEls.below HO7.out (show Below w6.heap.size w6 ((w6.alloc (.cells #[.slice a B.length c, .int .i64 (D.p : Int), .int .i64 D.k, .int .i64 D.f] 50)).alloc (.cells #[.int .u64 (z.stream + (x : Int) + 1), .slice a6 bk.length c6] 209)) from by (repeat first | with_reducible (first | exact zR | assumption | apply zA | apply zS | apply zD | apply zN) | refine zT (by with_reducible assumption) ?_ | omega | simp <;> omega))
       have hx8 : rLink.r (fun b => w1.heap.size + 1 ≤ b ∧ b < (((w6.alloc (.cells #[.slice a B.length c, .int .i64 (D.p : Int), .int .i64 D.k, .int .i64 D.f] 50)).alloc (.cells #[.int .u64 (z.stream + (x : Int) + 1), .slice a6 bk.length c6] 209))).heap.size ∧ (Value.slice (some ⟨bq, o, none⟩) J.length cv).ownBlock ≠ some b) (((w6.alloc (.cells #[.slice a B.length c, .int .i64 (D.p : Int), .int .i64 D.k, .int .i64 D.f] 50)).alloc (.cells #[.int .u64 (z.stream + (x : Int) + 1), .slice a6 bk.length c6] 209))) [.int .u64 (z.stream + (x : Int) + 1), .slice a6 bk.length c6] ⟨z.stream + (x : Int) + 1, bk⟩ := by
        refine link_mk (x := ⟨z.stream + (x : Int) + 1, bk⟩) hxb (rU64s.mono (rU64s.keep hv6 (w' := ((w6.alloc (.cells #[.slice a B.length c, .int .i64 (D.p : Int), .int .i64 D.k, .int .i64 D.f] 50)).alloc (.cells #[.int .u64 (z.stream + (x : Int) + 1), .slice a6 bk.length c6] 209))) fun b hb => (by (repeat first | with_reducible (first | exact zR | assumption | apply zA | apply zS | apply zD | apply zN) | refine zT (by with_reducible assumption) ?_ | omega | simp <;> omega) : Below w6.heap.size w6 ((w6.alloc (.cells #[.slice a B.length c, .int .i64 (D.p : Int), .int .i64 D.k, .int .i64 D.f] 50)).alloc (.cells #[.int .u64 (z.stream + (x : Int) + 1), .slice a6 bk.length c6] 209))).block b hb.2) fun b hb => ⟨?_, ?_, fun e => ?_⟩)
        ·have := hb.1; omega
        ·have := hb.2; simp; omega
        ·have := (HVL.out b e).2; have := hb.1; omega
       have HX := hid hx8
       have HA := hid OA
       have HS9 : Hid (w1.heap.size + 1 ≤ (((w6.alloc (.cells #[.slice a B.length c, .int .i64 (D.p : Int), .int .i64 D.k, .int .i64 D.f] 50)).alloc (.cells #[.int .u64 (z.stream + (x : Int) + 1), .slice a6 bk.length c6] 209))).heap.size) := hid (by simp; omega)
       have F8 : Blk (((w6.alloc (.cells #[.slice a B.length c, .int .i64 (D.p : Int), .int .i64 D.k, .int .i64 D.f] 50)).alloc (.cells #[.int .u64 (z.stream + (x : Int) + 1), .slice a6 bk.length c6] 209))) w6.heap.size 50 #[.slice a B.length c, .int .i64 (D.p : Int), .int .i64 D.k, .int .i64 D.f] := (Blk.newAt w6 _ _ rfl).alloc _
       clear hx8 OA HO7 hv6 hb6 D6 R6 hbe6 hT6
       go_wp2_with (at_builtin; (try rw [HY.out]); go_loud (refine wpList_append_src rfl _ _ _ rfl (w1.heap.size + 1) 209 i0 (.agg #[.int .u64 0, .slice none 0 0]) 2 32 Tryz.underlying73 hi hz0 hz1 hz2 rfl (by decide) (Value.slice (some ⟨bq, o, none⟩) J.length cv) J.length _ rfl HA.out.1 (some ⟨w6.heap.size + 1, 0, none⟩) 1 1 [.int .u64 (z.stream + (x : Int) + 1), .slice a6 bk.length c6] rfl (src_new1 (w6.alloc (.cells #[.slice a B.length c, .int .i64 (D.p : Int), .int .i64 D.k, .int .i64 D.f] 50)) 209 _ rfl (by simp) rfl) (by intro u hu; simp at hu; rcases hu with rfl | rfl <;> rfl) (by simp only [maxLen]; omega) (by omega) HS9.out ?_; intro v9 w9 hown9 hgrow9 hat9; obtain ⟨a9, c9, rfl⟩ := own_form hown9; have OP := hid (OwnEls.push HA.out rfl HX.out hown9 hgrow9 hat9 hgrow9.size); have hb9 : Below (w1.heap.size + 1) w6 w9 := (Below.grown ((by (repeat first | with_reducible (first | exact zR | assumption | apply zA | apply zS | apply zD | apply zN) | refine zT (by with_reducible assumption) ?_ | omega | simp <;> omega) : Below w6.heap.size w6 ((w6.alloc (.cells #[.slice a B.length c, .int .i64 (D.p : Int), .int .i64 D.k, .int .i64 D.f] 50)).alloc (.cells #[.int .u64 (z.stream + (x : Int) + 1), .slice a6 bk.length c6] 209))).mono (by omega)) hgrow9 HS9.out (fun g e => (HVL.out g e).1)); have F9 : Blk w9 w6.heap.size 50 #[.slice a B.length c, .int .i64 (D.p : Int), .int .i64 D.k, .int .i64 D.f] := (hgrow9.block w6.heap.size (by simp; omega) (fun e => by have := (HVL.out _ e.symm).2; omega)).trans F8; have D9 := D7.below hb9 (by omega); have R9 := R7.below hb9 (by omega); have hs9 := hb9.size; have hbe9 : Below w.heap.size w w9 := hbe7.trans (hb9.mono (by omega)); clear hown9 hgrow9 hat9; obtain ⟨x0, x1, x2, x3, f0, f1, f2, f3, l0⟩ := c_blk D9; obtain ⟨z0, z1, z2, z3, e0, e1, e2, e3, l5⟩ := c_blk F9))
       have HJ9 : Hid (∀ t ∈ J ++ [(⟨z.stream + (x : Int) + 1, bk⟩ : Link)], 0 ≤ t.stream ∧ t.stream ≤ 18446744073709551615) := hid (fun t ht => by
        rw [List.mem_append, List.mem_singleton] at ht
        rcases ht with ht | rfl
        ·exact hJb.out t ht
        ·exact hxb)
       have HRR := hid R9
       have HDD := hid D9
       have HBE9 := hid hbe9
       clear R9 D9 F9 hbe9
       go_roundw
       case rel => exact ⟨m + 1 + 1, J ++ [⟨z.stream + (x : Int) + 1, bk⟩], D, by omega, by go_num, hid (by first | (rw [List.length_append, hJl.out]; rfl) | rfl), OwnEls.far4 OP.out (by omega), HJ9, (((HDD.out.set 0 _).set 1 _).set 2 _).set 3 _, Blk.far (Blk.far (Blk.far (Blk.far HRR.out (by dsimp only; omega) _) (by dsimp only; omega) _) (by dsimp only; omega) _) (by dsimp only; omega) _, (((HBE9.out.setCell (by dsimp only; omega) _).setCell (by dsimp only; omega) _).setCell (by dsimp only; omega) _).setCell (by dsimp only; omega) _, by simp [World.setCell]; omega, HOKD, HSP1, HSP2⟩
       case measure => simp [intOf]; omega
     ·have hS : (st.stream B (some z.stream)).1 = (st.num B).1 := by
       simp only [Rs.stream]
       split
       ·exact Rs.fail_of_bad hk1
       ·rfl
      rw [hS] at hsp1
      clear hS
      generalize (st.stream B (some z.stream)).2 = sv at *
      generalize st.num B = R at *
      obtain ⟨st1, x⟩ := R
      dsimp only at *
      have dk1 : (st1.k == (0 : Int)) = false := by simp [hk1]
      have HOK1 := hid hnok
      have hfk := hk1
      rw [Rs.delta_of_bad hfk] at hsp1
      dsimp only at hsp1
      rw [if_neg hfk] at hsp1
      have hxb : (0 : Int) ≤ (x : Int) ∧ (x : Int) ≤ 18446744073709551615 := by omega
      clear hk1 HFL hnok
      go_wp2_with fail
      refine (hVR.out _ HBE.out).mono ?_
      rintro r w3 ⟨rfl, hb3⟩
      have D3 := HD.out.later hb3
      have R3 := HRS.out.later hb3
      have HO3 := hid (OwnEls.below HO.out hb3)
      have hbe3 := below_then hb3 HBE.out
      have hs3 := hb3.size
      have X0' := (hb3.cell (p := ⟨bq, o + m * 2, none⟩) hbr).trans hc0
      have hbr3 : bq < w3.heap.size := by omega
      clear hc0
      obtain ⟨x0, x1, x2, x3, f0, f1, f2, f3, l0⟩ := c_blk D3
      have D4 : Blk (w3.alloc (.cells #[.slice a B.length c, .int .i64 (st1.p : Int), .int .i64 st1.k, .int .i64 st1.f] 50)) w1.heap.size 50 #[.slice a B.length c, .int .i64 (st.p : Int), .int .i64 st.k, .int .i64 st.f] := D3.alloc _
      have R4 : Blk (w3.alloc (.cells #[.slice a B.length c, .int .i64 (st1.p : Int), .int .i64 st1.k, .int .i64 st1.f] 50)) (w.heap.size + 1) 50 #[.slice none 0 0, .int .i64 0, .int .i64 0, .int .i64 0] := R3.alloc _
      have X4 : Blk (w3.alloc (.cells #[.slice a B.length c, .int .i64 (st1.p : Int), .int .i64 st1.k, .int .i64 st1.f] 50)) w3.heap.size 50 #[.slice a B.length c, .int .i64 (st1.p : Int), .int .i64 st1.k, .int .i64 st1.f] := Blk.newAt _ _ _ rfl
      have hbe4 : Below w.heap.size w (w3.alloc (.cells #[.slice a B.length c, .int .i64 (st1.p : Int), .int .i64 st1.k, .int .i64 st1.f] 50)) := by (repeat first | with_reducible (first | exact zR | assumption | apply zA | apply zS | apply zD | apply zN) | refine zT (by with_reducible assumption) ?_ | omega | simp <;> omega)
      have hT4 : Tch (fun b => b = w1.heap.size ∨ w3.heap.size ≤ b) w3 (w3.alloc (.cells #[.slice a B.length c, .int .i64 (st1.p : Int), .int .i64 st1.k, .int .i64 st1.f] 50)) := (Tch.refl _ _).alloc _
      have hz4 : (w3.alloc (.cells #[.slice a B.length c, .int .i64 (st1.p : Int), .int .i64 st1.k, .int .i64 st1.f] 50)).heap.size = w3.heap.size + 1 := by simp
      have HVL : Hid (∀ q, (Value.slice (some ⟨bq, o, none⟩) J.length cv).ownBlock = some q → w1.heap.size + 1 ≤ q ∧ q < w3.heap.size) := hid (by
       obtain ⟨cells0, OA0⟩ := HO3.out
       exact fun q e => own_lt OA0.1 q e)
      clear hb3 D3 R3 y0 y1 y2 y3 g0 g1 g2 g3 l1
      go_wp2_with fail
      have D6 := D4
      have R6 := R4
      have hbe6 := hbe4
      have hT6 := hT4
      have hz6 : w3.heap.size + 1 ≤ (w3.alloc (.cells #[.slice a B.length c, .int .i64 (st1.p : Int), .int .i64 st1.k, .int .i64 st1.f] 50)).heap.size := by omega
      clear D4 R4 X4 hbe4 hT4 hz4 x0 x1 x2 x3 f0 f1 f2 f3 l0
      generalize (w3.alloc (.cells #[.slice a B.length c, .int .i64 (st1.p : Int), .int .i64 st1.k, .int .i64 st1.f] 50)) = w4 at *
      have HDC := HDL.out w4 hbe6 st1 HOK1.out
      have hOKD := Rs.delta_ok (B := B) (below := pos) (most := 4) HOK1.out
      generalize hDL : st1.delta B pos 4 = DL at *
      obtain ⟨D, bk⟩ := DL
      dsimp only at *
      have HOKD := hid hOKD
      have hDE : D = st1 := by
       rw [Rs.delta_of_bad hfk] at hDL
       exact (congrArg Prod.fst hDL).symm
      have HSP : Hid (Rs.linksF B pos N s1 none [] = (D, [])) := hid (by rw [hDE]; exact hsp1)
      have hfk' : D.k ≠ 0 := by rw [hDE]; exact hfk
      have HFK := hid hfk'
      clear hDE hfk hfk'
      have HSP1 : Hid (D.k = 0 → Rs.linksF B pos N s1 none [] = Rs.linksF B pos (N - (m + 1 + 1)) D ((J ++ [(⟨(x : Int), bk⟩ : Link)]).getLast?.map Link.stream) (J ++ [⟨(x : Int), bk⟩])) := hid (fun h => absurd h HFK.out)
      have HSP2 : Hid (D.k ≠ 0 → Rs.linksF B pos N s1 none [] = (D, [])) := hid (fun _ => HSP.out)
      clear hsp1 hOKD hDL
      refine HDC.mono ?_
      rintro r w6 ⟨v6, rfl, hv6, hb6⟩
      obtain ⟨a6, c6, hfv, _, _⟩ := sl_form hv6
      simp only [List.cons.injEq, and_true] at hfv
      subst hfv
      have D7 := D6.later hb6
      have R7 := R6.later hb6
      have hbe7 := below_then hb6 hbe6
      have hs6 := hb6.size
      have HO7 := hid (OwnEls.below (OwnEls.tch3 HO3.out hT6 (by omega)) hb6)
      obtain ⟨cells, OA⟩ := OwnEls.below HO7.out (show Below w6.heap.size w6 ((w6.alloc (.cells #[.slice a B.length c, .int .i64 (D.p : Int), .int .i64 D.k, .int .i64 D.f] 50)).alloc (.cells #[.int .u64 ((x : Int)), .slice a6 bk.length c6] 209)) from by (repeat first | with_reducible (first | exact zR | assumption | apply zA | apply zS | apply zD | apply zN) | refine zT (by with_reducible assumption) ?_ | omega | simp <;> omega))
      have hx8 : rLink.r (fun b => w1.heap.size + 1 ≤ b ∧ b < (((w6.alloc (.cells #[.slice a B.length c, .int .i64 (D.p : Int), .int .i64 D.k, .int .i64 D.f] 50)).alloc (.cells #[.int .u64 ((x : Int)), .slice a6 bk.length c6] 209))).heap.size ∧ (Value.slice (some ⟨bq, o, none⟩) J.length cv).ownBlock ≠ some b) (((w6.alloc (.cells #[.slice a B.length c, .int .i64 (D.p : Int), .int .i64 D.k, .int .i64 D.f] 50)).alloc (.cells #[.int .u64 ((x : Int)), .slice a6 bk.length c6] 209))) [.int .u64 ((x : Int)), .slice a6 bk.length c6] ⟨(x : Int), bk⟩ := by
       refine link_mk (x := ⟨(x : Int), bk⟩) hxb (rU64s.mono (rU64s.keep hv6 (w' := ((w6.alloc (.cells #[.slice a B.length c, .int .i64 (D.p : Int), .int .i64 D.k, .int .i64 D.f] 50)).alloc (.cells #[.int .u64 ((x : Int)), .slice a6 bk.length c6] 209))) fun b hb => (by (repeat first | with_reducible (first | exact zR | assumption | apply zA | apply zS | apply zD | apply zN) | refine zT (by with_reducible assumption) ?_ | omega | simp <;> omega) : Below w6.heap.size w6 ((w6.alloc (.cells #[.slice a B.length c, .int .i64 (D.p : Int), .int .i64 D.k, .int .i64 D.f] 50)).alloc (.cells #[.int .u64 ((x : Int)), .slice a6 bk.length c6] 209))).block b hb.2) fun b hb => ⟨?_, ?_, fun e => ?_⟩)
       ·have := hb.1; omega
       ·have := hb.2; simp; omega
       ·have := (HVL.out b e).2; have := hb.1; omega
      have HX := hid hx8
      have HA := hid OA
      have HS9 : Hid (w1.heap.size + 1 ≤ (((w6.alloc (.cells #[.slice a B.length c, .int .i64 (D.p : Int), .int .i64 D.k, .int .i64 D.f] 50)).alloc (.cells #[.int .u64 ((x : Int)), .slice a6 bk.length c6] 209))).heap.size) := hid (by simp; omega)
      have F8 : Blk (((w6.alloc (.cells #[.slice a B.length c, .int .i64 (D.p : Int), .int .i64 D.k, .int .i64 D.f] 50)).alloc (.cells #[.int .u64 ((x : Int)), .slice a6 bk.length c6] 209))) w6.heap.size 50 #[.slice a B.length c, .int .i64 (D.p : Int), .int .i64 D.k, .int .i64 D.f] := (Blk.newAt w6 _ _ rfl).alloc _
      clear hx8 OA HO7 hv6 hb6 D6 R6 hbe6 hT6
      go_wp2_with (at_builtin; (try rw [HY.out]); go_loud (refine wpList_append_src rfl _ _ _ rfl (w1.heap.size + 1) 209 i0 (.agg #[.int .u64 0, .slice none 0 0]) 2 32 Tryz.underlying73 hi hz0 hz1 hz2 rfl (by decide) (Value.slice (some ⟨bq, o, none⟩) J.length cv) J.length _ rfl HA.out.1 (some ⟨w6.heap.size + 1, 0, none⟩) 1 1 [.int .u64 ((x : Int)), .slice a6 bk.length c6] rfl (src_new1 (w6.alloc (.cells #[.slice a B.length c, .int .i64 (D.p : Int), .int .i64 D.k, .int .i64 D.f] 50)) 209 _ rfl (by simp) rfl) (by intro u hu; simp at hu; rcases hu with rfl | rfl <;> rfl) (by simp only [maxLen]; omega) (by omega) HS9.out ?_; intro v9 w9 hown9 hgrow9 hat9; obtain ⟨a9, c9, rfl⟩ := own_form hown9; have OP := hid (OwnEls.push HA.out rfl HX.out hown9 hgrow9 hat9 hgrow9.size); have hb9 : Below (w1.heap.size + 1) w6 w9 := (Below.grown ((by (repeat first | with_reducible (first | exact zR | assumption | apply zA | apply zS | apply zD | apply zN) | refine zT (by with_reducible assumption) ?_ | omega | simp <;> omega) : Below w6.heap.size w6 ((w6.alloc (.cells #[.slice a B.length c, .int .i64 (D.p : Int), .int .i64 D.k, .int .i64 D.f] 50)).alloc (.cells #[.int .u64 ((x : Int)), .slice a6 bk.length c6] 209))).mono (by omega)) hgrow9 HS9.out (fun g e => (HVL.out g e).1)); have F9 : Blk w9 w6.heap.size 50 #[.slice a B.length c, .int .i64 (D.p : Int), .int .i64 D.k, .int .i64 D.f] := (hgrow9.block w6.heap.size (by simp; omega) (fun e => by have := (HVL.out _ e.symm).2; omega)).trans F8; have D9 := D7.below hb9 (by omega); have R9 := R7.below hb9 (by omega); have hs9 := hb9.size; have hbe9 : Below w.heap.size w w9 := hbe7.trans (hb9.mono (by omega)); clear hown9 hgrow9 hat9; obtain ⟨x0, x1, x2, x3, f0, f1, f2, f3, l0⟩ := c_blk D9; obtain ⟨z0, z1, z2, z3, e0, e1, e2, e3, l5⟩ := c_blk F9))
      have HJ9 : Hid (∀ t ∈ J ++ [(⟨(x : Int), bk⟩ : Link)], 0 ≤ t.stream ∧ t.stream ≤ 18446744073709551615) := hid (fun t ht => by
       rw [List.mem_append, List.mem_singleton] at ht
       rcases ht with ht | rfl
       ·exact hJb.out t ht
       ·exact hxb)
      have HRR := hid R9
      have HDD := hid D9
      have HBE9 := hid hbe9
      clear R9 D9 F9 hbe9
      go_roundw
      case rel => exact ⟨m + 1 + 1, J ++ [⟨(x : Int), bk⟩], D, by omega, by go_num, hid (by first | (rw [List.length_append, hJl.out]; rfl) | rfl), OwnEls.far4 OP.out (by omega), HJ9, (((HDD.out.set 0 _).set 1 _).set 2 _).set 3 _, Blk.far (Blk.far (Blk.far (Blk.far HRR.out (by dsimp only; omega) _) (by dsimp only; omega) _) (by dsimp only; omega) _) (by dsimp only; omega) _, (((HBE9.out.setCell (by dsimp only; omega) _).setCell (by dsimp only; omega) _).setCell (by dsimp only; omega) _).setCell (by dsimp only; omega) _, by simp [World.setCell]; omega, HOKD, HSP1, HSP2⟩
      case measure => simp [intOf]; omega
   ·have dk : (st.k == (0 : Int)) = false := by simp [hk0]
    have dn : (st.k != (0 : Int)) = true := by simp [hk0]
    have HSP := hid (hsn.out hk0)
    clear hsp hsn hk0
    go_wp2
    rw [HSP.out]
    refine bodyPost_ret (v := .tuple #[.agg #[.slice a B.length c, .int .i64 (st.p : Int), .int .i64 st.k, .int .i64 st.f], .slice none 0 0]) (by simp [results, Tryz.results165, go_sem, y0, y1, y2, y3, l1]) rfl ⟨_, rfl, OwnEls.sliceW (e := 0) (Nat.le_refl _) OwnEls.nil, by (repeat first | with_reducible (first | exact zR | assumption | apply zA | apply zS | apply zD | apply zN) | refine zT (by with_reducible assumption) ?_ | omega | simp <;> omega)⟩
  ·obtain rfl : k = N := by omega
   have d1 : decide ((k : Int) < (k : Int)) = false := decide_eq_false (by omega)
   by_cases hk0 : st.k = 0
   ·have dn : (st.k != (0 : Int)) = false := by simp [hk0]
    have hsp1 := hsp.out hk0
    rw [Nat.sub_self] at hsp1
    have HSP : Hid (Rs.linksF B pos k s1 none [] = (st, J)) := hid hsp1
    have HV := hid (OwnEls.sliceW (Nat.le_refl _) HO.out)
    clear hsp hsn hk0 hsp1
    go_wp2
    rw [HSP.out]
    refine bodyPost_ret (v := .tuple #[.agg #[.slice a B.length c, .int .i64 (st.p : Int), .int .i64 st.k, .int .i64 st.f], .slice av J.length cv]) (by simp [results, Tryz.results165, go_sem, y0, y1, y2, y3, l1]) rfl ⟨_, rfl, ?_, by (repeat first | with_reducible (first | exact zR | assumption | apply zA | apply zS | apply zD | apply zN) | refine zT (by with_reducible assumption) ?_ | omega | simp <;> omega)⟩
    refine rLinksW.mono (rLinksW.keep HV.out fun q hq => ?_) fun q hq => ⟨by have := hq.1; omega, by have := hq.2; simp [World.setCell]; omega⟩
    have := hq.1
    repeat (rw [Below.heap_setCell _ _ _ _ (by dsimp only; omega)])
   ·have dn : (st.k != (0 : Int)) = true := by simp [hk0]
    have HSP := hid (hsn.out hk0)
    clear hsp hsn hk0
    go_wp2
    rw [HSP.out]
    refine bodyPost_ret (v := .tuple #[.agg #[.slice a B.length c, .int .i64 (st.p : Int), .int .i64 st.k, .int .i64 st.f], .slice none 0 0]) (by simp [results, Tryz.results165, go_sem, y0, y1, y2, y3, l1]) rfl ⟨_, rfl, OwnEls.sliceW (e := 0) (Nat.le_refl _) OwnEls.nil, by (repeat first | with_reducible (first | exact zR | assumption | apply zA | apply zS | apply zD | apply zN) | refine zT (by with_reducible assumption) ?_ | omega | simp <;> omega)⟩
end Go.Proofs.YtkipiefcnjfdjaaGreat
namespace Go.Proofs.YtkipiefcnjfdjaaGreat
open Go.RowKit Go.Bs Go.Maps
set_option linter.unusedVariables false
set_option linter.unusedSimpArgs false
set_option maxRecDepth 100000 in
set_option maxHeartbeats 3200000 in
theorem ref24_readhead (w : World) (a : Option Addr) (c : Nat) (B : List UInt8) (hl : rBytes.r (· < w.heap.size) w [.slice a B.length c] B) (s : Rs) (hs : s.ok B.length) (hB : B.length ≤ 1000000000000) (pos : Int) (hpos : 0 ≤ pos ∧ pos ≤ 18446744073709551615) (most : Int) (hmo : -9223372036854775808 ≤ most ∧ most ≤ 9223372036854775807) :
  Calls Tryz.prog 100 #[CV a B.length c s, .int .u64 pos, .int .i64 most] w fun r w' => ∃ v, r = .returned (.tuple #[CV a B.length c (s.ehead B pos most).1, v, .int .i64 ((s.ehead B pos most).2.2 : Int)]) ∧ rLinksW.r (Fresh w w') w' [v] (s.ehead B pos most).2.1 ∧ Below w.heap.size w w' := by
 have HL := hid hl
 have hLK := fun (W : World) (hW : Below w.heap.size w W) => ref23_read W a c B (lift HL.out hW) s hs hB pos hpos
 have hIT := fun (W : World) (hW : Below w.heap.size w W) => ref04_int W a c B (lift HL.out hW) (s.links B pos).1 (Rs.links_ok hs) hB most hmo
 unfold Rs.ehead
 generalize s.links B pos = LK at *
 obtain ⟨s1, l⟩ := LK
 dsimp only at *
 generalize s1.int B most = I at *
 obtain ⟨s2, n⟩ := I
 dsimp only at *
 have HLK := hid hLK
 have HIT := hid hIT
 clear hl hs hLK hIT
 unfold CV at *
 by_cases hk : s2.k = 0
 ·simp only [if_pos hk]
  have d1 : (s2.k != (0 : Int)) = false := by simp [hk]
  clear hk
  go_enter Tryz.func100, Tryz.ntmps100
  go_wp2_with fail
  refine (HLK.out _ (by (repeat first | with_reducible (first | exact zR | assumption | apply zA | apply zS | apply zD | apply zN) | refine zT (by with_reducible assumption) ?_ | omega | simp <;> omega))).mono ?_
  rintro r w1 ⟨v1, rfl, hv1, hb⟩
  obtain ⟨a1, c1, hfv, _, _⟩ := sl_form (linksW_links hv1)
  simp only [List.cons.injEq, and_true] at hfv
  subst hfv
  have B1 : Blk w1 (w.heap.size + 1) 50 #[.slice none 0 0, .int .i64 0, .int .i64 0, .int .i64 0] := Blk.later (by (repeat first | assumption | exact kW (by first | (simp; done) | (simp; omega)) | apply kA | apply kD | apply kN | apply kF | simp <;> omega)) hb
  have hbw : Below w.heap.size w w1 := by (repeat first | with_reducible (first | exact zR | assumption | apply zA | apply zS | apply zD | apply zN) | refine zT (by with_reducible assumption) ?_ | omega | simp <;> omega)
  have hs1 := hb.size
  simp at hs1
  have HV1 := hid hv1
  clear hb hv1
  go_wp2_with fail
  refine (HIT.out _ (by (repeat first | with_reducible (first | exact zR | assumption | apply zA | apply zS | apply zD | apply zN) | refine zT (by with_reducible assumption) ?_ | omega | simp <;> omega))).mono ?_
  rintro r w2 ⟨rfl, hb2⟩
  have B2 : Blk w2 (w.heap.size + 1) 50 #[.slice none 0 0, .int .i64 0, .int .i64 0, .int .i64 0] := Blk.later (B1.alloc _) hb2
  have hbw2 : Below w.heap.size w w2 := by (repeat first | with_reducible (first | exact zR | assumption | apply zA | apply zS | apply zD | apply zN) | refine zT (by with_reducible assumption) ?_ | omega | simp <;> omega)
  have hb12 : Below w1.heap.size w1 w2 := below_then hb2 ((Below.refl _ _).alloc (Nat.le_refl _) _)
  have hs2 := hb12.size
  obtain ⟨y0, y1, y2, y3, g0, g1, g2, g3, l1⟩ := c_blk B2
  clear hb2 B1 B2
  go_wp2
  refine bodyPost_ret (v := .tuple #[.agg #[.slice a B.length c, .int .i64 (s2.p : Int), .int .i64 s2.k, .int .i64 s2.f], .slice a1 l.length c1, .int .i64 (n : Int)]) (by simp [results, Tryz.results100, go_sem, y0, y1, y2, y3, l1]) rfl ⟨_, rfl, ?_, by (repeat first | with_reducible (first | exact zR | assumption | apply zA | apply zS | apply zD | apply zN) | refine zT (by with_reducible assumption) ?_ | omega | simp <;> omega)⟩
  refine rLinksW.mono (rLinksW.keep HV1.out fun q hq => ?_) fun q hq => ⟨by have := hq.1; simp at this; omega, by have := hq.2; simp [World.setCell]; omega⟩
  have h1 := hq.1
  simp at h1
  have h2 := hq.2
  (repeat (first | rw [Below.heap_setCell _ _ _ _ (by dsimp only; omega)] | rw [Below.heap_alloc _ _ _ (by simp [World.setCell]; omega)]))
  exact hb12.block q hq.2
 ·simp only [if_neg hk]
  have d1 : (s2.k != (0 : Int)) = true := by simp [hk]
  clear hk
  go_enter Tryz.func100, Tryz.ntmps100
  go_wp2_with fail
  refine (HLK.out _ (by (repeat first | with_reducible (first | exact zR | assumption | apply zA | apply zS | apply zD | apply zN) | refine zT (by with_reducible assumption) ?_ | omega | simp <;> omega))).mono ?_
  rintro r w1 ⟨v1, rfl, hv1, hb⟩
  obtain ⟨a1, c1, hfv, _, _⟩ := sl_form (linksW_links hv1)
  simp only [List.cons.injEq, and_true] at hfv
  subst hfv
  have B1 : Blk w1 (w.heap.size + 1) 50 #[.slice none 0 0, .int .i64 0, .int .i64 0, .int .i64 0] := Blk.later (by (repeat first | assumption | exact kW (by first | (simp; done) | (simp; omega)) | apply kA | apply kD | apply kN | apply kF | simp <;> omega)) hb
  have hbw : Below w.heap.size w w1 := by (repeat first | with_reducible (first | exact zR | assumption | apply zA | apply zS | apply zD | apply zN) | refine zT (by with_reducible assumption) ?_ | omega | simp <;> omega)
  have hs1 := hb.size
  simp at hs1
  have HV1 := hid hv1
  clear hb hv1
  go_wp2_with fail
  refine (HIT.out _ (by (repeat first | with_reducible (first | exact zR | assumption | apply zA | apply zS | apply zD | apply zN) | refine zT (by with_reducible assumption) ?_ | omega | simp <;> omega))).mono ?_
  rintro r w2 ⟨rfl, hb2⟩
  have B2 : Blk w2 (w.heap.size + 1) 50 #[.slice none 0 0, .int .i64 0, .int .i64 0, .int .i64 0] := Blk.later (B1.alloc _) hb2
  have hbw2 : Below w.heap.size w w2 := by (repeat first | with_reducible (first | exact zR | assumption | apply zA | apply zS | apply zD | apply zN) | refine zT (by with_reducible assumption) ?_ | omega | simp <;> omega)
  have hb12 : Below w1.heap.size w1 w2 := below_then hb2 ((Below.refl _ _).alloc (Nat.le_refl _) _)
  have hs2 := hb12.size
  obtain ⟨y0, y1, y2, y3, g0, g1, g2, g3, l1⟩ := c_blk B2
  clear hb2 B1 B2
  go_wp2
  refine bodyPost_ret (v := .tuple #[.agg #[.slice a B.length c, .int .i64 (s2.p : Int), .int .i64 s2.k, .int .i64 s2.f], .slice none 0 0, .int .i64 0]) (by simp [results, Tryz.results100, go_sem, y0, y1, y2, y3, l1]) rfl ⟨_, rfl, OwnEls.sliceW (e := 0) (Nat.le_refl _) OwnEls.nil, by (repeat first | with_reducible (first | exact zR | assumption | apply zA | apply zS | apply zD | apply zN) | refine zT (by with_reducible assumption) ?_ | omega | simp <;> omega)⟩
end Go.Proofs.YtkipiefcnjfdjaaGreat
namespace Go.Proofs.YtkipiefcnjfdjaaGreat
open Go.RowKit Go.Bs Go.Maps
set_option linter.unusedVariables false
set_option linter.unusedSimpArgs false
structure HeadsV (lo : Nat) (W : World) (v u : Value) (J K : List (List Link × Nat)) : Prop where
 els : ∃ cells, OwnElsF (fun b => lo ≤ b ∧ b < W.heap.size ∧ u.ownBlock ≠ some b) rEntryW lo 75 2 W v (J.map headE) cells
 szs : W.ownsRow lo 3 1 u K.length (sizeCells K)
theorem HeadsV.of {lo : Nat} {W : World} {v u : Value} {J : List (List Link × Nat)} (h : HeadsAt lo W v u J) : HeadsV lo W v u J J := ⟨h.els, h.szs⟩
theorem HeadsV.to {lo : Nat} {W : World} {v u : Value} {J : List (List Link × Nat)} (h : HeadsV lo W v u J J) : HeadsAt lo W v u J := ⟨h.els, h.szs⟩
theorem HeadsV.tch {lo g : Nat} {W W' : World} {v u : Value} {J K : List (List Link × Nat)} (h : HeadsV lo W v u J K) (hb : Tch (fun b => b = g ∨ W.heap.size ≤ b) W W') (hg : g < lo) : HeadsV lo W' v u J K := by
 obtain ⟨⟨cells, OA⟩, hu⟩ := h
 have hk : ∀ b, lo ≤ b → b < W.heap.size → W'.heap[b]? = W.heap[b]? := fun b h1 h2 => hb.block b h2 (by omega)
 refine ⟨⟨cells, ?_⟩, own_stays hu fun b hv hl => hk b (own_lt hu b hv).1 hl⟩
 refine OwnElsF.mono (OwnElsF.keep OA (fun b h => hk b h.1 h.2.1) fun b hv => hk b (own_lt OA.1 b hv).1 (own_lt OA.1 b hv).2) fun b h => ⟨h.1, Nat.lt_of_lt_of_le h.2.1 hb.size, h.2.2⟩
theorem HeadsV.pushU {lo : Nat} {W W' : World} {v u u' : Value} {J : List (List Link × Nat)} {x : List Link × Nat} (h : HeadsAt lo W v u J) (hown : W'.ownsRow lo 3 1 u' (J.length + 1) (sizeCells J ++ [.int .i64 (x.2 : Int)])) (hg : W.grownBy W' u.ownBlock) (hat : u'.ownBlock = u.ownBlock ∨ u'.ownBlock = some W.heap.size) : HeadsV lo W' v u' J (J ++ [x]) := by
 obtain ⟨⟨cells, OA⟩, hu⟩ := h
 refine ⟨⟨cells, ?_⟩, ?_⟩
 ·refine OwnElsF.mono (OwnElsF.keep OA (fun b h => hg.block b h.2.1 (fun e => h.2.2 e.symm)) fun b hv => hg.block b (own_lt OA.1 b hv).2 (fun e => own_ne OA.1 hu (by decide) b hv e.symm)) fun b h => ⟨h.1, ?_, fun e => ?_⟩
  ·have := h.2.1; have := hg.size; omega
  ·rcases hat with h' | h'
   ·exact h.2.2 (h' ▸ e)
   ·rw [h'] at e; have := Option.some.inj e; have := h.2.1; omega
 ·have e : sizeCells (J ++ [x]) = sizeCells J ++ [.int .i64 (x.2 : Int)] := by simp [sizeCells]
  rw [e, List.length_append]
  exact hown
theorem HeadsV.pushV {lo : Nat} {W W' : World} {v v' u : Value} {J : List (List Link × Nat)} {x : List Link × Nat} {cells : List (List Value)} {news : List Value}
  (OA : OwnElsF (fun b => lo ≤ b ∧ b < W.heap.size ∧ u.ownBlock ≠ some b) rEntryW lo 75 2 W v (J.map headE) cells) (hu : W.ownsRow lo 3 1 u (J ++ [x]).length (sizeCells (J ++ [x])))
  (hn : news.length = 2) (hx : rEntryW.r (fun b => (lo ≤ b ∧ b < W.heap.size ∧ u.ownBlock ≠ some b) ∧ v.ownBlock ≠ some b) W news (headE x))
  (hown : W'.ownsRow lo 75 2 v' (J.length + 1) (cells.flatten ++ news)) (hg : W.grownBy W' v.ownBlock) (hat : v'.ownBlock = v.ownBlock ∨ v'.ownBlock = some W.heap.size) : HeadsAt lo W' v' u (J ++ [x]) := by
 refine ⟨⟨cells ++ [news], ?_⟩, own_stays hu fun b hv hl => hg.block b hl (fun e => own_ne OA.1 hu (by decide) b e.symm hv)⟩
 rw [List.map_append, List.map_cons, List.map_nil]
 exact OwnElsF.mono (OwnElsF.push OA (fun b hb => hb.2.1) hn hx (by simpa using hown) hg hat) fun b h => ⟨h.1, Nat.lt_of_lt_of_le h.2.1 hg.size, h.2.2⟩
theorem OwnElsF.setAt {α : Type} {w : World} {F : Nat → Prop} {A : Rp α} {base : Nat} {e : TypeId} {sz : Nat} {g n c k : Nat} {xs : List α} {x' : α} {cells : List (List Value)} {cs : List Value} {j : Nat} {u : Value}
  (h : OwnElsF F A base e sz w (.slice (some ⟨g, 0, none⟩) n c) xs cells) (hk : k < xs.length) (hcs : cells[k]? = some cs) (hj : j < sz)
  (hx : A.r (fun b => F b ∧ g ≠ b) w (cs.set j u) x') :
  OwnElsF F A base e sz (w.setCell ⟨g, k * sz + j, none⟩ u) (.slice (some ⟨g, 0, none⟩) n c) (xs.set k x') (cells.set k (cs.set j u)) := by
 obtain ⟨ho, hlen, hsz, hA⟩ := h
 have hkc : k < cells.length := by omega
 have hck : cells[k] = cs := by rw [List.getElem?_eq_getElem hkc] at hcs; exact Option.some.inj hcs
 have hcl : cs.length = sz := by rw [← hck]; exact hsz _ (List.getElem_mem hkc)
 have hsz2 : ∀ c' ∈ cells.set k (cs.set j u), c'.length = sz := by
  intro c' hc'
  rcases List.mem_or_eq_of_mem_set hc' with h | h
  ·exact hsz c' h
  ·subst h; simpa using hcl
 have hbnd : k * sz + j < xs.length * sz := by
  have := Nat.mul_le_mul_right sz (show k + 1 ≤ xs.length from hk)
  rw [Nat.succ_mul] at this
  omega
 have hfl : (cells.set k (cs.set j u)).flatten = cells.flatten.set (k * sz + j) u := by
  clear ho hA hsz2 hbnd hlen hck hkc hk
  induction cells generalizing k with
  | nil => simp at hcs
  | cons c0 cells ih =>
   have h0 := hsz c0 (by simp)
   cases k with
   | zero =>
    simp at hcs
    subst hcs
    simp only [List.set_cons_zero, List.flatten_cons, Nat.zero_mul, Nat.zero_add]
    rw [List.set_append, if_pos (by omega)]
   | succ k =>
    simp only [List.getElem?_cons_succ] at hcs
    simp only [List.set_cons_succ, List.flatten_cons]
    rw [ih hcs (fun c hc => hsz c (by simp [hc])), List.set_append, if_neg (by rw [h0, Nat.succ_mul]; omega), h0, show (k + 1) * sz + j - sz = k * sz + j by rw [Nat.succ_mul]; omega]
 refine ⟨⟨by rw [flatten_len sz _ hsz2]; simp [hlen], ?_⟩, by simp [hlen], hsz2, ?_⟩
 ·rcases ho.2 with ⟨h0, _⟩ | ⟨g', cap, cur, h1, h2, h3, h4, h5, h6, h7⟩
  ·cases h0
  ·simp at h1
   obtain ⟨rfl, rfl, rfl⟩ := h1
   refine .inr ⟨g, c, cur.setIfInBounds (k * sz + j) u, by simp, h2, ?_, by simpa using h4, h5, by simpa using h6, ?_⟩
   ·exact Blk.set h3 _ _
   ·rw [hfl, ← h7, List.length_set]
    simp only [Array.toList_setIfInBounds]
    rw [List.take_set]
 ·intro i cs' y hi hy
  have keep : ∀ b, b ≠ g → (w.setCell ⟨g, k * sz + j, none⟩ u).heap[b]? = w.heap[b]? := fun b hb => Below.heap_setCell _ _ _ _ hb
  by_cases hik : k = i
  ·subst hik
   rw [List.getElem?_set_self (by omega)] at hi
   rw [List.getElem?_set_self (by omega)] at hy
   simp only [Option.some.injEq] at hi hy
   subst hi hy
   exact A.mono (A.keep hx fun b hb => keep b fun e => hb.2 e.symm) fun b hb => ⟨hb.1, fun e => hb.2 (by simpa [Value.ownBlock] using e)⟩
  ·rw [List.getElem?_set_ne hik] at hi hy
   have := hA i cs' y hi hy
   exact A.keep this fun b hb => keep b fun e => hb.2 (by rw [e]; rfl)
theorem OwnElsF.cellAt {α : Type} {w : World} {F : Nat → Prop} {A : Rp α} {base : Nat} {e : TypeId} {sz : Nat} {v : Value} {k : Nat} {xs : List α} {cells : List (List Value)} {j : Nat}
  (h : OwnElsF F A base e sz w v xs cells) (hk : k < xs.length) (hj : j < sz) : ∃ g c cs old, v = .slice (some ⟨g, 0, none⟩) xs.length c ∧ cells[k]? = some cs ∧ cs[j]? = some old ∧ w.cell? ⟨g, k * sz + j, none⟩ = some old ∧ w.frozen? ⟨g, k * sz + j, none⟩ = false ∧ base ≤ g ∧ g < w.heap.size := by
 obtain ⟨ho, hlen, hsz, hA⟩ := h
 rcases ho.2 with ⟨_, h0⟩ | ⟨g, cap, cur, hv, hbg, hg, hn, hc, hcur, hx⟩
 ·omega
 ·have hkc : k < cells.length := by omega
  have hcl := hsz _ (List.getElem_mem hkc)
  have hj' : j < cells[k].length := by omega
  refine ⟨g, cap, cells[k], cells[k][j], hv, List.getElem?_eq_getElem hkc, List.getElem?_eq_getElem hj', ?_, Blk.free hg _, hbg, Blk.lt hg⟩
  rw [Blk.cell hg]
  have hf := flatten_at sz cells hsz k j cells[k] cells[k][j] (List.getElem?_eq_getElem hkc) (List.getElem?_eq_getElem hj')
  rw [← hx, List.getElem?_take] at hf
  split at hf
  ·simpa using hf
  ·cases hf
theorem own_row_cell {w : World} {base : Nat} {e : TypeId} {v : Value} {n : Nat} {xs : List Value} (h : w.ownsRow base e 1 v n xs) {i : Nat} {u : Value} (hi : xs[i]? = some u) : ∃ gp c, v = .slice (some ⟨gp, 0, none⟩) n c ∧ w.cell? ⟨gp, i, none⟩ = some u ∧ base ≤ gp := by
 have hi' := (List.getElem?_eq_some_iff.1 hi).1
 have hl := h.1
 rcases h.2 with ⟨_, h0⟩ | ⟨g, cap, cur, hv, hbg, hg, hn, hc, hcur, hx⟩
 ·omega
 ·refine ⟨g, cap, hv, ?_, hbg⟩
  rw [Blk.cell hg]
  rw [← hx, List.getElem?_take] at hi
  split at hi
  ·simpa using hi
  ·cases hi
theorem sizesN_app (J : List (List Link × Nat)) (x : List Link × Nat) : sizesN (J ++ [x]) = sizesN J + x.2 := by simp [sizesN]
theorem dealE_len : ∀ (J : List (List Link × Nat)) (D : List UInt8), (dealE J D).length = J.length
 | [], D => rfl
 | (l, n) :: J, D => by simp [dealE, dealE_len J]
theorem dealE_at : ∀ (J : List (List Link × Nat)) (D : List UInt8) (k : Nat) (h : k < J.length), (dealE J D)[k]? = some ⟨J[k].1, (D.drop (sizesN (J.take k))).take J[k].2⟩
 | (l, n) :: J, D, 0, h => by simp [dealE, sizesN]
 | (l, n) :: J, D, k + 1, h => by
  simp only [dealE, List.getElem?_cons_succ]
  rw [dealE_at J (D.drop n) k (by simpa using h)]
  simp [sizesN, List.drop_drop]
def mixE (J : List (List Link × Nat)) (D : List UInt8) (k : Nat) : List Entry := (dealE J D).take k ++ (J.map headE).drop k
theorem mixE_zero (J : List (List Link × Nat)) (D : List UInt8) : mixE J D 0 = J.map headE := by simp [mixE]
theorem mixE_all (J : List (List Link × Nat)) (D : List UInt8) : mixE J D J.length = dealE J D := by
 unfold mixE
 rw [List.take_of_length_le (by rw [dealE_len]; exact Nat.le_refl _), List.drop_of_length_le (by simp)]
 simp
theorem mixE_len (J : List (List Link × Nat)) (D : List UInt8) (k : Nat) (h : k ≤ J.length) : (mixE J D k).length = J.length := by
 unfold mixE
 have := dealE_len J D
 simp
 omega
theorem mixE_at (J : List (List Link × Nat)) (D : List UInt8) (k : Nat) (h : k < J.length) : (mixE J D k)[k]? = some (headE J[k]) := by
 have hl := dealE_len J D
 have e1 : ((dealE J D).take k).length = k := by simp; omega
 unfold mixE
 rw [List.getElem?_append_right (by omega), e1, Nat.sub_self, List.getElem?_drop, Nat.add_zero, List.getElem?_map, List.getElem?_eq_getElem h]
 rfl
theorem mixE_step (J : List (List Link × Nat)) (D : List UInt8) (k : Nat) (h : k < J.length) : (mixE J D k).set k ⟨J[k].1, (D.drop (sizesN (J.take k))).take J[k].2⟩ = mixE J D (k + 1) := by
 have hl := dealE_len J D
 have h2 := dealE_at J D k h
 have hk : k < (dealE J D).length := by omega
 unfold mixE
 have e1 : ((dealE J D).take k).length = k := by simp; omega
 rw [List.set_append, if_neg (by omega), e1, Nat.sub_self, List.drop_eq_getElem_cons (show k < (J.map headE).length by simpa using h), List.set_cons_zero, List.take_succ_eq_append_getElem hk, List.append_assoc]
 rw [List.getElem?_eq_getElem hk] at h2
 rw [Option.some.inj h2]
 rfl
theorem sizesN_take (J : List (List Link × Nat)) (k : Nat) (h : k < J.length) : sizesN (J.take (k + 1)) = sizesN (J.take k) + J[k].2 := by
 rw [List.take_succ_eq_append_getElem h, sizesN_app]
theorem sizesN_le (J : List (List Link × Nat)) (k : Nat) : sizesN (J.take k) ≤ sizesN J := by
 have : sizesN J = sizesN (J.take k) + sizesN (J.drop k) := by
  have e := congrArg (fun l : List (List Link × Nat) => (l.map Prod.snd).sum) (List.take_append_drop k J)
  simp only [List.map_append, List.sum_append] at e
  unfold sizesN
  omega
 omega
end Go.Proofs.YtkipiefcnjfdjaaGreat
namespace Go.Proofs.YtkipiefcnjfdjaaGreat
open Go.RowKit Go.Bs Go.Maps
set_option linter.unusedVariables false
set_option linter.unusedSimpArgs false
theorem head_ofR {B : List UInt8} {s : Rs} (h : (s.num B).1.k = 0) (h1 : 0 < headR (s.num B).2) : (s.head B).1 = (s.num B).1 ∧ (s.head B).2.2 = headR (s.num B).2 ∧ ((s.head B).2.1 = true ↔ (s.num B).2 % 2 = 1) := by
 unfold Rs.head headR at *
 rw [if_pos h]
 by_cases h2 : (s.num B).2 % 2 = 0
 ·rw [if_neg (by omega : ¬ (s.num B).2 % 2 = 1)]
  by_cases h3 : (s.num B).2 / 2 < 1048576
  ·rw [if_neg (by omega : ¬ 1048575 < (s.num B).2 / 2), if_pos ⟨h2, h3⟩]
   exact ⟨rfl, rfl, by simp; omega⟩
  ·rw [if_neg (by omega), if_neg (by omega)] at h1; omega
 ·have h2' : (s.num B).2 % 2 = 1 := by omega
  rw [if_pos h2']
  by_cases h3 : (s.num B).2 / 2 ≤ 1048572
  ·rw [if_neg (by omega : ¬ 1048572 < (s.num B).2 / 2), if_neg (by omega), if_pos ⟨h2', h3⟩]
   exact ⟨rfl, rfl, by simp [h2']⟩
  ·rw [if_neg (by omega), if_neg (by omega)] at h1; omega
theorem head_of0 {B : List UInt8} {s : Rs} (h : (s.num B).1.k = 0) (h1 : headR (s.num B).2 = 0) : s.head B = ((s.num B).1.fail 2 s.p, false, 0) ∧ (s.tok B).1 = (s.num B).1.fail 2 s.p := by
 unfold Rs.head Rs.tok headR at *
 rw [if_pos h, if_pos h]
 by_cases h2 : (s.num B).2 % 2 = 0
 ·rw [if_neg (by omega : ¬ (s.num B).2 % 2 = 1), if_pos h2]
  by_cases h3 : (s.num B).2 / 2 < 1048576
  ·rw [if_pos ⟨h2, h3⟩] at h1; omega
  ·rw [if_pos (by omega : 1048575 < (s.num B).2 / 2), if_pos (by omega : 1048576 < (s.num B).2 / 2 + 1)]
   exact ⟨rfl, rfl⟩
 ·have h2' : (s.num B).2 % 2 = 1 := by omega
  rw [if_pos h2', if_neg h2]
  by_cases h3 : (s.num B).2 / 2 ≤ 1048572
  ·rw [if_neg (by omega), if_pos ⟨h2', h3⟩] at h1; omega
  ·rw [if_pos (by omega : 1048572 < (s.num B).2 / 2), if_pos (by omega : 1048572 < (s.num B).2 / 2)]
   exact ⟨rfl, rfl⟩
def bndF (B : List UInt8) (bound : Int) (s : Rs) (out : List UInt8) : Prop := (s.num B).1.k = 0 ∧ 0 < headR (s.num B).2 ∧ bound < (out.length : Int) + (headR (s.num B).2 : Int)
theorem refA {B : List UInt8} {bound : Int} {s : Rs} {out : List UInt8} (h : bndF B bound s out) : (exStep B bound s out).1.k = 11 ∧ (exStep B bound s out).1.f = s.p := by
 obtain ⟨h0, h1, h2⟩ := h
 have hh := head_ofR h0 h1
 unfold exStep
 rw [if_pos (by rw [hh.2.1]; omega), hh.1]
 unfold Rs.fail
 rw [if_pos h0]
 exact ⟨rfl, rfl⟩
theorem ref_num_bad {B : List UInt8} {bound : Int} {s : Rs} {out : List UInt8} (h : (s.num B).1.k ≠ 0) : (exStep B bound s out).1 = (s.tok B).1 ∧ (s.tok B).1 = (s.num B).1 := by
 have e : s.head B = ((s.num B).1, false, 0) := by unfold Rs.head; rw [if_neg h]
 have e2 : s.tok B = ((s.num B).1, ⟨[], 0, 0⟩) := by unfold Rs.tok; rw [if_neg h]
 unfold exStep
 rw [e, e2]
 dsimp only
 rw [Rs.fail_of_bad h, Rs.take_of_bad h]
 simp
theorem ref_long {B : List UInt8} {bound : Int} {s : Rs} {out : List UInt8} (h : (s.num B).1.k = 0) (h1 : headR (s.num B).2 = 0) : (exStep B bound s out).1 = (s.tok B).1 ∧ (s.tok B).1.k ≠ 0 := by
 have hh := head_of0 h h1
 have hk := Rs.fail_k (s := (s.num B).1) (c := 2) (at_ := (s.p : Int)) (by omega)
 unfold exStep
 rw [hh.1, hh.2]
 dsimp only
 rw [Rs.fail_of_bad hk, Rs.take_of_bad hk]
 refine ⟨?_, hk⟩
 split <;> simp
theorem ref_good {B : List UInt8} {bound : Int} {s : Rs} {out : List UInt8} (h : (s.num B).1.k = 0) (h1 : 0 < headR (s.num B).2) (h2 : (out.length : Int) + (headR (s.num B).2 : Int) ≤ bound) :
  if (s.tok B).1.k = 0 then (if (out.length : Int) < (s.tok B).2.off then (exStep B bound s out).1.k = 10 ∧ (exStep B bound s out).1.f = (s.num B).1.p else exStep B bound s out = ((s.tok B).1, againL (s.tok B).2.off.toNat (s.tok B).2.len.toNat (out ++ (s.tok B).2.lit)) ∧ (((s.tok B).2.len = 0 ∧ (s.tok B).2.off = 0 ∧ 1 ≤ (s.tok B).2.lit.length ∧ (s.tok B).2.lit.length ≤ 1048576) ∨ ((s.tok B).2.lit = [] ∧ 1 ≤ (s.tok B).2.off ∧ (s.tok B).2.off ≤ out.length ∧ 1 ≤ (s.tok B).2.len ∧ (s.tok B).2.len ≤ 1048576)))
  else (exStep B bound s out).1 = (s.tok B).1 := by
 have hh := head_ofR h h1
 unfold exStep
 rw [hh.2.1, if_neg (by omega : ¬ bound - (out.length : Int) < (headR (s.num B).2 : Int)), hh.1]
 unfold Rs.tok
 rw [if_pos h]
 by_cases hp : (s.num B).2 % 2 = 0
 ·have e1 : (s.head B).2.1 = false := by
   cases hb : (s.head B).2.1
   ·rfl
   ·have := hh.2.2.1 hb; omega
  have hR : headR (s.num B).2 = (s.num B).2 / 2 + 1 := by
   unfold headR at h1 ⊢
   split
   ·rfl
   ·rename_i hc; rw [if_neg hc, if_neg (by omega)] at h1; omega
  have hx : (s.num B).2 / 2 < 1048576 := by
   unfold headR at h1
   by_cases hc : (s.num B).2 / 2 < 1048576
   ·exact hc
   ·rw [if_neg (by omega), if_neg (by omega)] at h1; omega
  rw [if_pos e1, if_pos hp, if_neg (by omega : ¬ 1048576 < (s.num B).2 / 2 + 1), hR]
  by_cases hk : ((s.num B).1.take B (((s.num B).2 / 2 + 1 : Nat) : Int)).1.k = 0
  ·have hl := (Rs.take_more hk).2.2
   rw [if_pos hk]
   dsimp only
   rw [if_pos hk, if_neg (by omega : ¬ (out.length : Int) < 0)]
   refine ⟨by simp [againL], .inl ⟨rfl, rfl, by rw [hl]; omega, by rw [hl]; omega⟩⟩
  ·rw [if_neg hk]
   dsimp only
   rw [if_neg hk]
 ·have hp' : (s.num B).2 % 2 = 1 := by omega
  have e1 : ¬ (s.head B).2.1 = false := by rw [hh.2.2.2 hp']; simp
  have hx : (s.num B).2 / 2 ≤ 1048572 := by
   unfold headR at h1
   by_cases hc : (s.num B).2 / 2 ≤ 1048572
   ·exact hc
   ·rw [if_neg (by omega), if_neg (by omega)] at h1; omega
  have hR : headR (s.num B).2 = (s.num B).2 / 2 + 4 := by
   unfold headR
   rw [if_neg (by omega), if_pos ⟨hp', hx⟩]
  rw [if_neg e1, if_neg hp, if_neg (by omega : ¬ 1048572 < (s.num B).2 / 2), hR]
  by_cases hk : ((s.num B).1.num B).1.k = 0
  ·rw [if_pos hk]
   by_cases hy : 65535 < ((s.num B).1.num B).2
   ·have ho : (s.num B).1.offset B = (((s.num B).1.num B).1.fail 10 (s.num B).1.p, 0) := by
     unfold Rs.offset
     dsimp only
     rw [if_pos (by omega : 65536 ≤ ((s.num B).1.num B).2), if_neg (Rs.fail_k (by omega))]
    rw [if_pos hy, ho]
    dsimp only
    rw [if_neg (Rs.fail_k (s := ((s.num B).1.num B).1) (c := 10) (at_ := ((s.num B).1.p : Int)) (by omega)), if_neg (by omega : ¬ out.length < 0), if_neg (Rs.fail_k (s := ((s.num B).1.num B).1) (c := 10) (at_ := ((s.num B).1.p : Int)) (by omega))]
   ·have ho : (s.num B).1.offset B = (((s.num B).1.num B).1, ((s.num B).1.num B).2 + 1) := by
     unfold Rs.offset
     dsimp only
     rw [if_neg (by omega : ¬ 65536 ≤ ((s.num B).1.num B).2), if_pos hk]
    rw [if_neg hy, ho]
    dsimp only
    rw [if_pos hk]
    by_cases hl : out.length < ((s.num B).1.num B).2 + 1
    ·rw [if_pos hl, if_pos (by omega : (out.length : Int) < ((((s.num B).1.num B).2 + 1 : Nat) : Int))]
     unfold Rs.fail
     rw [if_pos hk]
     exact ⟨rfl, rfl⟩
    ·rw [if_neg hl, if_neg (by omega), if_pos hk]
     exact ⟨by rw [List.append_nil]; rfl, .inr ⟨rfl, by omega, by omega, by omega, by omega⟩⟩
  ·have ho : (s.num B).1.offset B = (((s.num B).1.num B).1, 0) := by
    unfold Rs.offset
    dsimp only
    rw [Rs.num_bad hk, if_neg (by omega : ¬ 65536 ≤ 0), if_neg hk]
   rw [if_neg hk, ho]
   dsimp only
   rw [if_neg hk, if_neg (by omega : ¬ out.length < 0), if_neg hk]
end Go.Proofs.YtkipiefcnjfdjaaGreat
namespace Go.Proofs.YtkipiefcnjfdjaaGreat
open Go.RowKit Go.Bs Go.Maps
set_option linter.unusedVariables false
set_option linter.unusedSimpArgs false
theorem byteCells_app2 (l l' : List UInt8) : byteCells l ++ byteCells l' = byteCells (l ++ l') := by simp [byteCells]
set_option maxRecDepth 100000 in
set_option maxHeartbeats 3200000 in
theorem ref12_with (w : World) (out : List UInt8) (aO : Option Addr) (nO cO : Nat) (hl : rBytes.r (· < w.heap.size) w [.slice aO nO cO] out) (D : List UInt8) (aD : Option Addr) (nD cD : Nat) (hD : rBytes.r (· < w.heap.size) w [.slice aD nD cD] D) (off n : Nat)
  (hc : n = 0 ∨ (D = [] ∧ 1 ≤ off ∧ off ≤ out.length)) (hlen : out.length + D.length + n ≤ 1000000000) :
  Calls Tryz.prog 220 #[.slice aO nO cO, .agg #[.slice aD nD cD, .int .i64 (off : Int), .int .i64 (n : Int)]] w fun r w' => ∃ v, r = .returned v ∧ rBytes.r (fun q => w.heap.size ≤ q ∧ q < w'.heap.size) w' [v] (againL off n (out ++ D)) ∧ Below w.heap.size w w' := by
 obtain ⟨rfl, hm, _, _⟩ := sl_len hl
 obtain ⟨rfl, hm', _, _⟩ := sl_len hD
 obtain ⟨i0, hi, hz0, hz1, hz2⟩ := info_parts info8
 have HL := hid hl
 have HD := hid hD
 have HC := hid hc
 have HONE := hid (byteCells_one out)
 have HONED := hid (byteCells_one D)
 have HS := hid (fun (W : World) (hW : Below w.heap.size w W) => src_bytes (lift HL.out hW))
 have HSD := hid (fun (W : World) (hW : Below w.heap.size w W) => src_bytes (lift HD.out hW))
 clear hl hD hc
 go_enter Tryz.func220, Tryz.ntmps220
 go_wp2_with (first
  | (at_builtin; go_loud (refine wpList_append_src rfl _ _ _ rfl (w.heap.size + 1) 5 i0 (.int .u8 0) 1 1 Tryz.underlying28 hi hz0 hz1 hz2 rfl (by decide) (.slice none 0 0) 0 [] rfl ⟨rfl, .inl ⟨rfl, rfl⟩⟩ aO out.length cO (byteCells out) rfl (HS.out _ (by (repeat first | with_reducible (first | exact zR | assumption | apply zA | apply zS | apply zD | apply zN) | refine zT (by with_reducible assumption) ?_ | omega | simp <;> omega))) HONE.out (by simp only [maxLen]; omega) (by omega) (by first | omega | (simp; done) | (simp; omega)) ?_; intro v' w2 hown2 hgrow2 hat2; rw [Nat.zero_add, List.nil_append] at hown2; obtain ⟨a2, c2, rfl⟩ := own_form hown2; have k2 := Below.grown (Below.refl _ _) hgrow2 (Nat.le_refl _) (fun g e => by cases e); have B0 : Blk w2 w.heap.size 253 #[.slice aD D.length cD, .int .i64 (off : Int), .int .i64 (n : Int)] := Blk.later (by (repeat first | assumption | exact kW (by first | (simp; done) | (simp; omega)) | apply kA | apply kD | apply kN | apply kF | simp <;> omega)) k2; obtain ⟨x0, x1, x2, e0, e1, e2, l0⟩ := t_blk B0; have hbw : Below w.heap.size w w2 := by {(repeat (first | with_reducible exact Below.refl _ _ | with_reducible assumption | (with_reducible refine below_alloc ?_ _) | (with_reducible refine Below.setCell ?_ (by first | omega | (simp; done) | (simp; omega)) _) | (with_reducible refine Below.drew ?_) | (with_reducible refine below_drewN ?_ _) | (refine below_then (by with_reducible assumption) ?_)))}; have hs2 : w.heap.size + 1 ≤ w2.heap.size := l0; have HO2 := hid hown2; have HB0 := hid B0; clear hown2 hgrow2 hat2 k2 B0))
  | (at_builtin; go_loud (refine wpList_append_src rfl _ _ _ rfl (w.heap.size + 1) 5 i0 (.int .u8 0) 1 1 Tryz.underlying28 hi hz0 hz1 hz2 rfl (by decide) (.slice a2 out.length c2) out.length (byteCells out) rfl HO2.out aD D.length cD (byteCells D) rfl (HSD.out _ hbw) HONED.out (by simp only [maxLen]; omega) (by omega) (by omega) ?_; intro v' w3 hown3 hgrow3 hat3; rw [byteCells_app2] at hown3; obtain ⟨a3, c3, rfl⟩ := own_form hown3; have k3 := Below.grown (B := w.heap.size + 1) (Below.refl _ _) hgrow3 (by omega) (fun g e => (HO2.out.lt g e).1); have hb3 := hbw.trans (k3.mono (by omega)); have HB3 := hid (HB0.out.below k3 (by omega)); have HO3 := hid hown3; have hs3 := k3.size; clear hown3 hgrow3 hat3 k3 x0 x1 x2 e0 e1 e2 l0)))
 go_loopw [5, 6] (fun o i wr => ∃ (k : Nat) (J : List UInt8) (aJ : Option Addr) (cJ : Nat), k ≤ n ∧ i = .int .i64 k ∧ o = .slice aJ J.length cJ ∧ wr.ownsRow (w.heap.size + 1) 5 1 (.slice aJ J.length cJ) J.length (byteCells J) ∧ Hid (againL off n (out ++ D) = againL off (n - k) J) ∧ Hid (J.length = out.length + D.length + k) ∧ Below w.heap.size w wr ∧ w.heap.size + 1 ≤ wr.heap.size ∧ Blk wr w.heap.size 253 #[.slice aD D.length cD, .int .i64 (off : Int), .int .i64 (n : Int)]) (fun _ i _ => n - (intOf i).toNat)
 case atStart => exact ⟨0, out ++ D, a3, c3, Nat.zero_le _, rfl, by simp, by simpa using HO3.out, hid rfl, hid (by simp), hb3, by omega, HB3.out⟩
 case round =>
  obtain ⟨k, J, aJ, cJ, hk, rfl, rfl, ho, hJ, hln, hb, hbs, hB⟩ := hrel
  have HJO := hid ho
  obtain ⟨x0, x1, x2, e0, e1, e2, l0⟩ := t_blk hB
  have HB := hid hB
  clear hB
  rcases Nat.lt_or_ge k n with hlt | hge
  ·have d1 : decide ((k : Int) < (n : Int)) = true := decide_eq_true (by omega)
   have d1' : decide (k < n) = true := decide_eq_true hlt
   have hcc : 1 ≤ off ∧ off ≤ out.length ∧ J.length = out.length + k := by
    rcases HC.out with h | ⟨h, h1, h2⟩
    ·omega
    ·have := hln.out; rw [h] at this; simp at this; exact ⟨h1, h2, this⟩
   have hml : off ≤ J.length := by omega
   have hJm : J.length + 1 ≤ 1000000000000 := by omega
   have hst : Hid (againL off (n - k) J = againL off (n - (k + 1)) (J ++ [J.getD (J.length - off) 0])) := hid (by rw [show n - k = (n - (k + 1)) + 1 by omega]; rfl)
   have hgd : J.getD (J.length - off) 0 = J[J.length - off]'(by omega) := by rw [List.getD_eq_getElem?_getD, List.getElem?_eq_getElem (by omega)]; rfl
   rw [hgd] at hst
   obtain ⟨gb, ob, hA, hgb, hc⟩ := byte_at (own_bytes rfl ho) (i := J.length - off) (by omega)
   subst hA
   obtain ⟨m, hm⟩ : ∃ m, m = J.length - off := ⟨_, rfl⟩
   have e1' : (out.length : Int) + (k : Int) - (off : Int) = (m : Int) := by omega
   generalize J[J.length - off]'(by omega) = x at *
   rw [← hm] at hc
   have i1 : (m : Int) < (J.length : Int) := by omega
   have i2 : (0 : Int) ≤ (m : Int) := by omega
   have HCC := hid hcc
   clear ho hgd hm hcc
   go_wp2_with (at_builtin; go_loud (refine wpList_append_src rfl _ _ _ rfl (w.heap.size + 1) 5 i0 (.int .u8 0) 1 1 Tryz.underlying28 hi hz0 hz1 hz2 rfl (by decide) (.slice (some ⟨gb, ob, none⟩) J.length cJ) J.length (byteCells J) rfl (own_below HJO.out (by (repeat first | exact zR | assumption | apply zA | apply zS | apply zD | apply zN | refine zT (by assumption) ?_ | omega | simp <;> omega))) (some ⟨wr.heap.size, 0, none⟩) 1 1 [.int .u8 (x.toNat : Int)] rfl (src_new1 wr 5 _ rfl rfl rfl) (byteCells_one1 x) (by simp only [maxLen]; omega) (by omega) (by simp; omega) ?_; intro v' w3 hown3 hgrow3 hat3; obtain ⟨a3, c3, rfl⟩ := own_form hown3; have HO3 := hid hown3; have HG3 := hid hgrow3; clear hown3 hgrow3 hat3))
   have ho3 := HO3.out
   rw [byteCells_snoc, show J.length + 1 = (J ++ [x]).length by simp] at ho3
   have hb3 : Below (w.heap.size + 1) wr w3 := (Below.grown (Below.refl _ _) HG3.out (by simp; omega) (fun g e => (HJO.out.lt g e).1)) |> (fun h => (below_alloc (Below.refl _ _) _ |>.mono hbs).trans h)
   have HO4 := hid ho3
   have hs3 := hb3.size
   have HB4 := hid (HB.out.below hb3 (by omega))
   clear ho3 hc
   go_roundw
   case rel => exact ⟨k + 1, J ++ [x], a3, c3, by omega, by go_num, by simp, HO4.out, hid (hJ.out.trans hst.out), hid (by simp; have := hln.out; omega), hb.trans (hb3.mono (by omega)), by omega, HB4.out⟩
   case measure => simp [intOf]; omega
  ·obtain rfl : k = n := by omega
   have d1 : decide ((k : Int) < (k : Int)) = false := decide_eq_false (by omega)
   have hfin : Hid (againL off k (out ++ D) = J) := hid (by rw [hJ.out, Nat.sub_self]; rfl)
   have HV := hid (own_bytes2 rfl ho)
   clear ho
   go_wp2
   go_ret
   rw [hfin.out]
   exact ⟨_, rfl, rBytes.mono HV.out fun q hq => ⟨by omega, hq.2⟩, hb⟩
end Go.Proofs.YtkipiefcnjfdjaaGreat
