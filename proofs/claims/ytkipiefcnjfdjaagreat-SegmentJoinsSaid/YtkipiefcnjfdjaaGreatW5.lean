/- Needed by segNeeds, part 5: texts put together by shake.py; no condition. -/
import Derived.Test.YtkipiefcnjfdjaaGreatW4
import Derived.Test.YtkipiefcnjfdjaaGreatW2
import Derived.Test.YtkipiefcnjfdjaaGreatW3
namespace Go.Proofs.YtkipiefcnjfdjaaGreat
open Go.RowKit Go.Bs Go.Maps
set_option linter.unusedVariables false
set_option linter.unusedSimpArgs false
theorem tch7 (w : World) (g : Nat) (v2 v3 v4 v5 v6 v7 v8 : Value) : Tch (· = g) w ((((((((w).setCell ⟨g, 2, none⟩ v2).setCell ⟨g, 3, none⟩ v3).setCell ⟨g, 4, none⟩ v4).setCell ⟨g, 5, none⟩ v5).setCell ⟨g, 6, none⟩ v6).setCell ⟨g, 7, none⟩ v7).setCell ⟨g, 8, none⟩ v8) :=
 Tch.setCell (F := (· = g)) (Tch.setCell (F := (· = g)) (Tch.setCell (F := (· = g)) (Tch.setCell (F := (· = g)) (Tch.setCell (F := (· = g)) (Tch.setCell (F := (· = g)) (Tch.setCell (F := (· = g)) (Tch.refl (· = g) w) (p := ⟨g, 2, none⟩) (fun _ => rfl) v2) (p := ⟨g, 3, none⟩) (fun _ => rfl) v3) (p := ⟨g, 4, none⟩) (fun _ => rfl) v4) (p := ⟨g, 5, none⟩) (fun _ => rfl) v5) (p := ⟨g, 6, none⟩) (fun _ => rfl) v6) (p := ⟨g, 7, none⟩) (fun _ => rfl) v7) (p := ⟨g, 8, none⟩) (fun _ => rfl) v8
theorem tch10 (w : World) (x r : Nat) (u v0 v1 v2 v3 v4 v5 v6 v7 v8 : Value) : Tch (fun b => b = x ∨ b = r) w (((((((((((w.setCell ⟨x, 0, none⟩ u)).setCell ⟨r, 0, none⟩ v0).setCell ⟨r, 1, none⟩ v1).setCell ⟨r, 2, none⟩ v2).setCell ⟨r, 3, none⟩ v3).setCell ⟨r, 4, none⟩ v4).setCell ⟨r, 5, none⟩ v5).setCell ⟨r, 6, none⟩ v6).setCell ⟨r, 7, none⟩ v7).setCell ⟨r, 8, none⟩ v8) :=
 Tch.setCell (F := fun b => b = x ∨ b = r) (Tch.setCell (F := fun b => b = x ∨ b = r) (Tch.setCell (F := fun b => b = x ∨ b = r) (Tch.setCell (F := fun b => b = x ∨ b = r) (Tch.setCell (F := fun b => b = x ∨ b = r) (Tch.setCell (F := fun b => b = x ∨ b = r) (Tch.setCell (F := fun b => b = x ∨ b = r) (Tch.setCell (F := fun b => b = x ∨ b = r) (Tch.setCell (F := fun b => b = x ∨ b = r) (Tch.setCell (F := fun b => b = x ∨ b = r) (Tch.refl _ w) (p := ⟨x, 0, none⟩) (fun _ => .inl rfl) u) (p := ⟨r, 0, none⟩) (fun _ => .inr rfl) v0) (p := ⟨r, 1, none⟩) (fun _ => .inr rfl) v1) (p := ⟨r, 2, none⟩) (fun _ => .inr rfl) v2) (p := ⟨r, 3, none⟩) (fun _ => .inr rfl) v3) (p := ⟨r, 4, none⟩) (fun _ => .inr rfl) v4) (p := ⟨r, 5, none⟩) (fun _ => .inr rfl) v5) (p := ⟨r, 6, none⟩) (fun _ => .inr rfl) v6) (p := ⟨r, 7, none⟩) (fun _ => .inr rfl) v7) (p := ⟨r, 8, none⟩) (fun _ => .inr rfl) v8
theorem three_blocks (w : World) (t1 t2 t3 : TypeId) (s1 s2 s3 : Array Value) {w' : World} (hb : Below (((w.alloc (.cells s1 t1)).alloc (.cells s2 t2)).alloc (.cells s3 t3)).heap.size (((w.alloc (.cells s1 t1)).alloc (.cells s2 t2)).alloc (.cells s3 t3)) w') :
  Blk w' w.heap.size t1 s1 ∧ Blk w' (w.heap.size + 1) t2 s2 ∧ Blk w' (w.heap.size + 2) t3 s3 ∧ Below w.heap.size w w' ∧ w.heap.size + 3 ≤ w'.heap.size :=
 ⟨(((Blk.new w t1 s1).alloc _).alloc _).later hb, ((Blk.new1 w _ t2 s2).alloc _).later hb, (Blk.newAt _ t3 s3 (by simp)).later hb, below_then hb (below_alloc (below_alloc (below_alloc (Below.refl _ _) _) _) _), by have := hb.size; simpa using this⟩
set_option maxRecDepth 100000 in
set_option maxHeartbeats 3200000 in
theorem seg_write0 (ep : Int) (he : epR ep = true) (w : World) :
  Calls Tryz.prog 113 #[.agg #[.int .u64 ep, .slice none 0 0]] w fun r w' => ∃ v u f0 f1 f2 f3 f4 f5 f6, r = .returned (.agg #[v, u, f0, f1, f2, f3, f4, f5, f6]) ∧ rBytes.r (fun q => w.heap.size ≤ q ∧ q < w'.heap.size) w' [v] (segB ep []) ∧ Below w.heap.size w w' := by
 obtain ⟨i0, hi, hz0, hz1, hz2⟩ := info_parts info8
 have hR : segR ⟨ep, []⟩ = true := by simp [segR, he, chainR]
 have hFR := segF_right hR (by simp)
 have HFB := hid (fun W : World => footer_bytes (segF ep []) hFR W)
 have he' := he
 simp only [epR, decide_eq_true_eq] at he'
 have hte : (ep.toNat : Int) = ep := by omega
 have HH := hid (fun W : World => (by
  have := header_bytes W 3 ep.toNat 0 (by simp only [hdrR, hte, he, poR]; decide)
  rw [hte] at this
  exact this : Calls Tryz.prog 174 #[.agg #[.int .i64 3, .int .u64 ep, .int .u64 0]] W fun r w' => ∃ x, r = .returned (.tuple #[x, .int .i64 0]) ∧ OwnB w' W.heap.size x (headHB 3 ep.toNat 0) ∧ Below W.heap.size W w'))
 have hhl := headHB_len (v := 3) (ep := ep.toNat) (bs := 0) (by omega) (by omega)
 have HI := hid (fun W : World => index_bytes W [] none 0 0 (rSl_mk (xs := []) rfl (Nat.le_refl _) (Nat.zero_le _) (.inl rfl)) rfl)
 have hil := indexB_len (M := []) rfl
 have HRC := hid (fun (W : World) (a : Option Addr) (n c : Nat) h => seg_record 2 (by decide) (indexB []) a n c W h (by omega))
 have hxl := recB_len 2 (indexB [])
 have hfe : Hid (segF ep [] = footM ep [] (headHB 3 ep.toNat 0).length (recB 2 (indexB [])).length) := hid rfl
 have HFO := hid (fun (W : World) => seg_footOf ep [] (headHB 3 ep.toNat 0).length (recB 2 (indexB [])).length none 0 0 W (rSl_mk (xs := []) rfl (Nat.le_refl _) (Nat.zero_le _) (.inl rfl)) rfl)
 rw [← hfe.out] at HFO
 have hse : Hid (segB ep [] = headHB 3 ep.toNat 0 ++ recB 2 (indexB []) ++ footB (segF ep [])) := hid rfl
 have hfl : (footB (segF ep [])).length ≤ 200 := by
  simp only [footB, List.length_append, trailB_len, frameB_len, blobB_len]
  have h1 := footP_len (segF ep [])
  have h2 := (varB_len (footP (segF ep [])).length).1
  omega
 have HON1 := hid (byteCells_one (recB 2 (indexB [])))
 have HON2 := hid (byteCells_one (footB (segF ep [])))
 generalize segB ep [] = K at *
 generalize footB (segF ep []) = FB at *
 generalize headHB 3 ep.toNat 0 = H at *
 generalize (segF ep []) = F at *
 obtain ⟨f0, f1, f2, f3, f4, f5, f6⟩ := F
 simp only [FootD.val] at HFB HFO
 generalize indexB [] = IB at *
 generalize hrx : recB 2 IB = RX at *
 clear hR hFR hfe he hte hrx
 go_enter Tryz.func113, Tryz.ntmps113
 go_wp2_with fail
 refine (HH.out _).mono ?_
 rintro r w1 ⟨v1, rfl, ho1, hb1⟩
 obtain ⟨a1, c1, rfl⟩ := ho1.form
 obtain ⟨p0, p1, p2, hb0, hz3⟩ := three_blocks w _ _ _ _ _ _ hb1
 have ho1' : OwnB w1 (w.heap.size + 3) (.slice a1 H.length c1) H := ho1.low (by simp)
 have k0 : w1.cell? ⟨w.heap.size + 1 + 1, 0, none⟩ = some (.slice none 0 0) := p2.cell 0
 have k1 : w1.frozen? ⟨w.heap.size + 1 + 1, 0, none⟩ = false := p2.free 0
 have hSI : SegI w (w1.setCell ⟨w.heap.size + 2, 0, none⟩ (.slice a1 H.length c1)) ep none 0 0 H [] a1 c1 none 0 := by
  have h2 : (Value.slice a1 H.length c1).ownBlock ≠ some (w.heap.size + 2) := SegI.far ho1' (by omega)
  exact ⟨hb0.setCell (by dsimp only; omega) _, p0.far (by dsimp only; omega) _, p1.far (by dsimp only; omega) _, p2.set 0 _, own_stays ho1' fun b hv hl => Below.heap_setCell _ _ _ _ (fun e => h2 (by rw [hv, e])), MarksAt.nil⟩
 have HSI := hid hSI
 have hz21 : w.heap.size + 2 < w1.heap.size := p2.lt
 have HBX := hid p0
 clear ho1 ho1' p0 p1 p2 hSI hb1 hb0
 have b1 : w1.cell? ⟨w.heap.size, 1, none⟩ = some (.slice none 0 0) := HBX.out.cell 1
 go_wp2_with fail
 refine wp_world (fun W => SegI w W ep none 0 0 H [] a1 c1 none 0) HSI.out ?_
 intro W hSI
 have HSI := hid hSI
 clear k0 k1 b1 hSI
 go_loopw [24] (fun i wr => i = .int .i64 0 ∧ wr = W) (fun _ _ => 0)
 case atStart => exact ⟨rfl, rfl⟩
 case round =>
  obtain ⟨rfl, rfl⟩ := hrel
  have y1 : wr.cell? ⟨w.heap.size + 1 + 1, 1, none⟩ = some (.slice none 0 0) := HSI.out.x.cell 1
  go_wp2_with fail
  refine (HI.out _).mono ?_
  rintro r w2 ⟨v2, rfl, hr2, hb2⟩
  obtain ⟨a2, c2, hv2, hr2', _⟩ := sl_form hr2
  simp only [List.cons.injEq, and_true] at hv2
  subst hv2
  have HSI2 := hid (HSI.out.later hb2)
  go_wp2_with fail
  refine (HRC.out w2 a2 _ c2 (rBytes.mono hr2' fun q hq => hq.2)).mono ?_
  rintro r w3 ⟨v3, rfl, ho3, hb3⟩
  obtain ⟨a3, c3, rfl⟩ := ho3.form
  have HSI3 := hid (HSI2.out.later hb3)
  have HO3 := hid ho3
  have x3 : w3.cell? ⟨w.heap.size, 0, none⟩ = some (.int .u64 ep) := HSI3.out.bx.cell 0
  have y3 : w3.cell? ⟨w.heap.size + 1 + 1, 1, none⟩ = some (.slice none 0 0) := HSI3.out.x.cell 1
  have z3 : w3.cell? ⟨w.heap.size + 1 + 1, 0, none⟩ = some (.slice a1 H.length c1) := HSI3.out.x.cell 0
  clear ho3 hr2 hr2' y1
  go_wp2_with fail
  refine (HFO.out w3).mono ?_
  rintro r w4 ⟨rfl, hb4⟩
  have HSI4 := hid (HSI3.out.later hb4)
  have HO4 := hid (own_below HO3.out hb4)
  have m0 : w4.cell? ⟨w.heap.size + 1 + 1, 2, none⟩ = some (.int .u64 0) := HSI4.out.x.cell 2
  have n0 : w4.frozen? ⟨w.heap.size + 1 + 1, 2, none⟩ = false := HSI4.out.x.free 2
  have m1 : w4.cell? ⟨w.heap.size + 1 + 1, 3, none⟩ = some (.int .i64 0) := HSI4.out.x.cell 3
  have n1 : w4.frozen? ⟨w.heap.size + 1 + 1, 3, none⟩ = false := HSI4.out.x.free 3
  have m2 : w4.cell? ⟨w.heap.size + 1 + 1, 4, none⟩ = some (.int .i64 0) := HSI4.out.x.cell 4
  have n2 : w4.frozen? ⟨w.heap.size + 1 + 1, 4, none⟩ = false := HSI4.out.x.free 4
  have m3 : w4.cell? ⟨w.heap.size + 1 + 1, 5, none⟩ = some (.int .u64 0) := HSI4.out.x.cell 5
  have n3 : w4.frozen? ⟨w.heap.size + 1 + 1, 5, none⟩ = false := HSI4.out.x.free 5
  have m4 : w4.cell? ⟨w.heap.size + 1 + 1, 6, none⟩ = some (.int .u64 0) := HSI4.out.x.cell 6
  have n4 : w4.frozen? ⟨w.heap.size + 1 + 1, 6, none⟩ = false := HSI4.out.x.free 6
  have m5 : w4.cell? ⟨w.heap.size + 1 + 1, 7, none⟩ = some (.int .i64 0) := HSI4.out.x.cell 7
  have n5 : w4.frozen? ⟨w.heap.size + 1 + 1, 7, none⟩ = false := HSI4.out.x.free 7
  have m6 : w4.cell? ⟨w.heap.size + 1 + 1, 8, none⟩ = some (.int .i64 0) := HSI4.out.x.cell 8
  have n6 : w4.frozen? ⟨w.heap.size + 1 + 1, 8, none⟩ = false := HSI4.out.x.free 8
  have hz4 : w.heap.size + 1 + 1 < w4.heap.size := HSI4.out.x.lt
  clear x3 y3 z3
  go_wp2_with fail
  refine (HFB.out _).mono ?_
  rintro r w5 ⟨v5, rfl, ho5, hb5⟩
  obtain ⟨a5, c5, rfl⟩ := ho5.form
  have hx4 : Blk w4 (w.heap.size + 1 + 1) 153 (.slice a1 H.length c1 :: .slice none 0 0 :: segZ).toArray := HSI4.out.x
  have hX := ((((((((hx4).set 2 (.int .u64 f0)).set 3 (.int .i64 f1)).set 4 (.int .i64 f2)).set 5 (.int .u64 f3)).set 6 (.int .u64 f4)).set 7 (.int .i64 f5)).set 8 (.int .i64 f6)).later hb5
  have hQ : Tch (· = w.heap.size + 1 + 1) w4 w5 := (tch7 w4 (w.heap.size + 1 + 1) _ _ _ _ _ _ _).trans (Tch.of_later (F := (· = w.heap.size + 1 + 1)) hb5) fun _ _ h => h
  simp only [segZ, List.setIfInBounds_toArray, List.set_cons_zero, List.set_cons_succ] at hX
  have hj5 : w5.ownsRow (w.heap.size + 3) 5 1 (.slice a1 H.length c1) H.length (byteCells H) := own_stays HSI4.out.j fun b hv hl => hQ.block b hl (by have := (own_lt HSI4.out.j b hv).1; omega)
  have hs2 : w.heap.size + 3 ≤ w2.heap.size := by have := HSI2.out.br.lt; have := HSI2.out.x.lt; omega
  have ho5r : w5.ownsRow w2.heap.size 5 1 (.slice a3 RX.length c3) RX.length (byteCells RX) := own_stays HO4.out fun b hv hl => hQ.block b hl (by have := (own_lt HO4.out b hv).1; omega)
  have HS5 := hid (src_bytes (own_bytes rfl ho5r))
  have hr5 : Blk w5 (w.heap.size + 1) 153 (.slice none 0 0 :: .slice none 0 0 :: segZ).toArray := HSI4.out.br.tch hQ (by omega)
  have hb05 : Below w.heap.size w w5 := HSI4.out.below.trans (hQ.to_below HSI4.out.below.size fun b _ e => by omega)
  have hfb : rBytes.r (fun q => w4.heap.size ≤ q ∧ q < w5.heap.size) w5 [.slice a5 FB.length c5] FB := rBytes.mono ho5.read fun q hq => ⟨by have := hq.1; simpa using this, hq.2⟩
  have hz45 := hQ.size
  have HJ5 := hid hj5
  have HJ4 := hid HSI4.out.j
  have HX5 := hid hX
  have HR5 := hid hr5
  have HFBR := hid hfb
  have HB05 := hid hb05
  have hz15 := hb05.size
  have hz05 : w.heap.size + 3 ≤ w5.heap.size := by have := hX.lt; omega
  clear hj5 ho5r hX hr5 hfb hQ hx4 ho5 hb5 hb05
  clear m0 n0 m1 n1 m2 n2 m3 n3 m4 n4 m5 n5 m6 n6
  have x0 : w5.cell? ⟨w.heap.size + 1 + 1, 0, none⟩ = some (.slice a1 H.length c1) := HX5.out.cell 0
  go_wp2_with (first | (at_builtin; (refine wpList_append_src rfl _ _ _ rfl (w.heap.size + 3) 5 i0 (.int .u8 0) 1 1 Tryz.underlying28 hi hz0 hz1 hz2 rfl (by decide) (.slice a1 H.length c1) H.length (byteCells H) rfl HJ5.out a3 RX.length c3 (byteCells RX) rfl HS5.out HON1.out (by simp only [maxLen]; omega) (by omega) (by omega) ?_; intro v6 w6 hown6 hgrow6 hat6; obtain ⟨a6, c6, rfl⟩ := own_form hown6; have HG6 := hid hgrow6; have HO6 := hid hown6; have HS6 := hid (src_bytes (rBytes.mono (S' := (· < w6.heap.size)) (rBytes.keep HFBR.out fun q hq => hgrow6.block q hq.2 (fun e => by have h9 := (own_lt HJ4.out q e.symm).2; have h8 := hq.1; omega)) fun q hq => Nat.lt_of_lt_of_le hq.2 hgrow6.size)); have hz6 := hgrow6.size; clear hgrow6 hown6 hat6)) | (at_builtin; (refine wpList_append_src rfl _ _ _ rfl (w.heap.size + 3) 5 i0 (.int .u8 0) 1 1 Tryz.underlying28 hi hz0 hz1 hz2 rfl (by decide) (.slice a6 (H.length + RX.length) c6) (H.length + RX.length) (byteCells H ++ byteCells RX) rfl HO6.out a5 FB.length c5 (byteCells FB) rfl HS6.out HON2.out (by simp only [maxLen]; omega) (by omega) (by omega) ?_; intro v7 w7 hown7 hgrow7 hat7; obtain ⟨a7, c7, rfl⟩ := own_form hown7; have HX7 := hid ((HX5.out.grown HG6.out (fun e => SegI.far HJ5.out (by omega) e.symm)).grown hgrow7 (fun e => SegI.far HO6.out (by omega) e.symm)); have HR7 := hid ((HR5.out.grown HG6.out (fun e => SegI.far HJ5.out (by omega) e.symm)).grown hgrow7 (fun e => SegI.far HO6.out (by omega) e.symm)); have HB7 := hid ((HB05.out.grown HG6.out hz15 (fun g e => by have := (own_lt HJ5.out g e).1; omega)).grown hgrow7 (by omega) (fun g e => by have := (own_lt HO6.out g e).1; omega)); have HO7 := hid hown7; clear hgrow7 hown7 hat7; have p0 : w7.cell? ⟨w.heap.size + 1 + 1, 0, none⟩ = some (.slice a1 H.length c1) := HX7.out.cell 0; have q0 : w7.cell? ⟨w.heap.size + 1, 0, none⟩ = some (.slice none 0 0) := HR7.out.cell 0; have r0 := HR7.out.free 0; have p1 : w7.cell? ⟨w.heap.size + 1 + 1, 1, none⟩ = some (.slice none 0 0) := HX7.out.cell 1; have q1 : w7.cell? ⟨w.heap.size + 1, 1, none⟩ = some (.slice none 0 0) := HR7.out.cell 1; have r1 := HR7.out.free 1; have p2 : w7.cell? ⟨w.heap.size + 1 + 1, 2, none⟩ = some (.int .u64 f0) := HX7.out.cell 2; have q2 : w7.cell? ⟨w.heap.size + 1, 2, none⟩ = some (.int .u64 0) := HR7.out.cell 2; have r2 := HR7.out.free 2; have p3 : w7.cell? ⟨w.heap.size + 1 + 1, 3, none⟩ = some (.int .i64 f1) := HX7.out.cell 3; have q3 : w7.cell? ⟨w.heap.size + 1, 3, none⟩ = some (.int .i64 0) := HR7.out.cell 3; have r3 := HR7.out.free 3; have p4 : w7.cell? ⟨w.heap.size + 1 + 1, 4, none⟩ = some (.int .i64 f2) := HX7.out.cell 4; have q4 : w7.cell? ⟨w.heap.size + 1, 4, none⟩ = some (.int .i64 0) := HR7.out.cell 4; have r4 := HR7.out.free 4; have p5 : w7.cell? ⟨w.heap.size + 1 + 1, 5, none⟩ = some (.int .u64 f3) := HX7.out.cell 5; have q5 : w7.cell? ⟨w.heap.size + 1, 5, none⟩ = some (.int .u64 0) := HR7.out.cell 5; have r5 := HR7.out.free 5; have p6 : w7.cell? ⟨w.heap.size + 1 + 1, 6, none⟩ = some (.int .u64 f4) := HX7.out.cell 6; have q6 : w7.cell? ⟨w.heap.size + 1, 6, none⟩ = some (.int .u64 0) := HR7.out.cell 6; have r6 := HR7.out.free 6; have p7 : w7.cell? ⟨w.heap.size + 1 + 1, 7, none⟩ = some (.int .i64 f5) := HX7.out.cell 7; have q7 : w7.cell? ⟨w.heap.size + 1, 7, none⟩ = some (.int .i64 0) := HR7.out.cell 7; have r7 := HR7.out.free 7; have p8 : w7.cell? ⟨w.heap.size + 1 + 1, 8, none⟩ = some (.int .i64 f6) := HX7.out.cell 8; have q8 : w7.cell? ⟨w.heap.size + 1, 8, none⟩ = some (.int .i64 0) := HR7.out.cell 8; have r8 := HR7.out.free 8; have px := HX7.out.free 0; have hz7 : w.heap.size + 1 + 1 < w7.heap.size := HX7.out.lt)))
  have hT := tch10 w7 (w.heap.size + 1 + 1) (w.heap.size + 1) (.slice a7 (H.length + RX.length + FB.length) c7) (.slice a7 (H.length + RX.length + FB.length) c7) (.slice none 0 0) (.int .u64 f0) (.int .i64 f1) (.int .i64 f2) (.int .u64 f3) (.int .u64 f4) (.int .i64 f5) (.int .i64 f6)
  have hO : OwnB w7 (w.heap.size + 3) (.slice a7 (H.length + RX.length + FB.length) c7) K := by
   rw [hse.out]
   unfold OwnB
   rw [List.length_append, List.length_append, ← byteCells_app, ← byteCells_app]
   exact HO7.out
  refine bodyPost_ret (v := .agg #[.slice a7 (H.length + RX.length + FB.length) c7, .slice none 0 0, .int .u64 f0, .int .i64 f1, .int .i64 f2, .int .u64 f3, .int .u64 f4, .int .i64 f5, .int .i64 f6]) (by simp [results, Tryz.results113, go_sem, World.cell?_setCell_far, q0, q1, q2, q3, q4, q5, q6, q7, q8]) rfl ?_
  refine ⟨_, _, _, _, _, _, _, _, _, rfl, ?_, HB7.out.trans (hT.to_below HB7.out.size fun b _ e => by omega)⟩
  exact rBytes.mono (rBytes.keep hO.read fun b hb => hT.block b hb.2 (by have := hb.1; omega)) fun b hb => ⟨by have := hb.1; omega, Nat.lt_of_lt_of_le hb.2 hT.size⟩
theorem seg5_bytes : segB 5 [] = [84, 72, 79, 76, 3, 5, 95, 99, 255, 253, 2, 2, 0, 60, 71, 36, 214, 8, 3, 5, 0, 0, 0, 0, 10, 7, 71, 75, 20, 244, 13, 0, 0, 0, 106, 179, 68, 24, 76, 79, 72, 84] := by decide +kernel
theorem written_b (W : World) (x u f0 f1 f2 f3 f4 f5 f6 : Value) : (Instr.field 153 (.agg #[x, u, f0, f1, f2, f3, f4, f5, f6]) 0).run Tryz.prog W = .ok x W := by kernel_rfl
set_option maxRecDepth 100000 in
set_option maxHeartbeats 1600000 in
theorem seg_bytes5 (w : World) :
  Calls Tryz.prog 56 #[.agg #[.int .u64 5, .slice none 0 0]] w fun r w' => ∃ v, r = .returned (.tuple #[v, .int .i64 0]) ∧ rBytes.r (fun q => w.heap.size ≤ q ∧ q < w'.heap.size) w' [v] [84, 72, 79, 76, 3, 5, 95, 99, 255, 253, 2, 2, 0, 60, 71, 36, 214, 8, 3, 5, 0, 0, 0, 0, 10, 7, 71, 75, 20, 244, 13, 0, 0, 0, 106, 179, 68, 24, 76, 79, 72, 84] ∧ Below w.heap.size w w' := by
 have HR := hid (fun W : World => segment_right 5 [] none 0 0 W (by omega) (rSl_mk (xs := []) rfl (Nat.le_refl _) (Nat.zero_le _) (.inl rfl)) (by simp))
 rw [show segR ⟨5, []⟩ = true by decide] at HR
 have HW := hid (fun W : World => seg_write0 5 (by decide) W)
 rw [seg5_bytes] at HW
 have kf := written_b
 go_enter Tryz.func56, Tryz.ntmps56
 go_wp2_with fail
 refine (HR.out _).mono ?_
 rintro r w1 ⟨rfl, hb1⟩
 have hB := (Blk.new w 62 #[.int .u64 5, .slice none 0 0]).later hb1
 have c0 : w1.cell? ⟨w.heap.size, 0, none⟩ = some (.int .u64 5) := hB.cell 0
 have c1 : w1.cell? ⟨w.heap.size, 1, none⟩ = some (.slice none 0 0) := hB.cell 1
 have hbw : Below w.heap.size w w1 := by (repeat first | exact zR | assumption | apply zA | apply zS | apply zD | apply zN | refine zT (by assumption) ?_ | omega | simp <;> omega)
 clear hB
 go_wp2_with fail
 refine (HW.out w1).mono ?_
 rintro r w2 ⟨v, u, f0, f1, f2, f3, f4, f5, f6, rfl, hr, hb2⟩
 obtain ⟨a2, c2, hv2, hr2, _⟩ := sl_form hr
 simp only [List.cons.injEq, and_true] at hv2
 subst hv2
 have HV := hid hr2
 clear hr hr2
 go_wp2
 go_ret2
 exact ⟨_, rfl, rBytes.mono HV.out fun q hq => ⟨by have := hbw.size; omega, hq.2⟩, below_then hb2 hbw⟩
end Go.Proofs.YtkipiefcnjfdjaaGreat
namespace Go.Proofs.YtkipiefcnjfdjaaGreat
open Go.RowKit Go.Bs Go.Maps
set_option linter.unusedVariables false
set_option linter.unusedSimpArgs false
set_option maxRecDepth 100000 in
set_option maxHeartbeats 1600000 in
theorem live34 (w : World) : Calls Tryz.prog 39 #[] w fun r w' => r = .returned (.bool true) ∧ Below w.heap.size w w' := by
 have HB := hid (seg_bytes5 w)
 go_enter Tryz.func39, Tryz.ntmps39
 go_wp2_with fail
 refine HB.out.mono ?_
 rintro r w1 ⟨v, rfl, hr, hb1⟩
 obtain ⟨a1, c1, hv, hr2, _⟩ := sl_form hr
 simp only [List.cons.injEq, and_true] at hv
 subst hv
 obtain ⟨_, _, hc42, hcm⟩ := sl_len hr2
 obtain ⟨b, o, rfl, _, _⟩ := byte_at hr2 (i := 0) (by decide)
 have h4 := sl_take hr2 (k := 4) (by decide)
 have h13 := sl_take (sl_drop hr2 (k := 10) (by decide)) (k := 3) (by decide)
 have kc := bytes_str (P := Tryz.prog) 28 9 5 Tryz.underlying28 Tryz.underlying5 Tryz.underlying9 h4
 have HR := hid (rBytes.mono (S' := (· < w1.heap.size)) h13 fun q hq => hq.2)
 simp only [List.length_cons, List.length_nil, List.take_succ_cons, List.take_zero, List.drop_succ_cons, List.drop_zero, Nat.zero_add, Nat.reduceAdd] at kc HR hc42
 clear h4 h13 hr hr2
 go_wp2_with fail
 have hs1 := same_bytes [2, 2, 0] [2, 2, 0] (some ⟨b, o + 10, none⟩) (some ⟨w1.heap.size, 0, none⟩) 3 (c1 - 10) 3 3 (w1.alloc (.cells #[.int .u8 2, .int .u8 2, .int .u8 0] 5)) (lift HR.out (by clear hb1; (repeat (first | exact Below.refl _ _ | assumption | (refine below_alloc ?_ _) | (refine Below.setCell ?_ (by first | omega | (simp; done) | (simp; omega)) _) | (refine Below.drew ?_) | (refine below_drewN ?_ _) | (refine below_then (by assumption) ?_))))) (lit_bytes (l := [2, 2, 0]) (cs := #[.int .u8 2, .int .u8 2, .int .u8 0]) rfl (by decide) (World.alloc_heap_new w1 _))
 simp only [decide_true] at hs1
 refine hs1.mono ?_
 rintro r w3 ⟨rfl, rfl⟩
 have hbe : Below w.heap.size w (w1.alloc (.cells #[.int .u8 2, .int .u8 2, .int .u8 0] 5)) := below_alloc hb1 _
 clear hs1
 generalize w1.alloc (.cells #[.int .u8 2, .int .u8 2, .int .u8 0] 5) = w3 at *
 go_wp2
 go_ret
 exact ⟨rfl, hbe⟩
end Go.Proofs.YtkipiefcnjfdjaaGreat
namespace Go.Proofs.YtkipiefcnjfdjaaGreat
open Go.RowKit Go.Bs
set_option linter.unusedVariables false
set_option linter.unusedSimpArgs false
def longG {α : Type} (K : Nat) (p : α → Bool) (l : List α) : Bool := decide (K < l.length) || (l.take K).any p
def longGAt {α : Type} (K : Nat) (p : α → Bool) (l : List α) (k : Nat) : Bool := decide (K < l.length) || ((l.take K).drop k).any p
theorem longG_no {α : Type} {K : Nat} {p : α → Bool} {l : List α} (h : longG K p l = false) : l.length ≤ K ∧ ∀ x ∈ l, p x = false := by
 simp only [longG, Bool.or_eq_false_iff, decide_eq_false_iff_not, List.any_eq_false] at h
 obtain ⟨h1, h2⟩ := h
 rw [List.take_of_length_le (by omega)] at h2
 exact ⟨by omega, fun x hx => by simpa using h2 x hx⟩
theorem longGAt_step {α : Type} (K : Nat) (p : α → Bool) (l : List α) (k : Nat) (h : k < l.length) (h2 : k < K) : longGAt K p l k = (p l[k] || longGAt K p l (k + 1)) := by
 unfold longGAt
 have e : (l.take K)[k]'(by simp; omega) = l[k] := by simp
 rw [List.drop_eq_getElem_cons (show k < (l.take K).length by simp; omega), List.any_cons, e]
 cases decide (K < l.length) <;> cases p l[k] <;> simp
theorem longGAt_end {α : Type} (K : Nat) (p : α → Bool) (l : List α) (k : Nat) (h : l.length ≤ k ∨ K ≤ k) : longGAt K p l k = decide (K < l.length) := by
 unfold longGAt
 rw [List.drop_of_length_le (by simp; omega)]
 simp
def long23 (l : List Link) : Bool := longG 50 (fun x => decide (50 < x.backs.length)) l
def long24 (e : Entry) : Bool := long23 e.links || decide (500 < e.data.length)
def many24 (l : List Entry) : Bool := longG 30 long24 l
def long25 (l : List Entry) : Bool := many24 l || decide (300 < total (l.take 30))
def long34 (l : List Batch) : Bool := longG 20 (fun b => long25 b.entries) l
set_option maxRecDepth 100000 in
set_option maxHeartbeats 1600000 in
theorem law23_long (l : List Link) (a : Option Addr) (n c : Nat) (w : World) (hl : rLinks.r (· < w.heap.size) w [.slice a n c] l) :
  Calls Tryz.prog 190 #[.slice a n c] w fun r w' => r = .returned (.bool (long23 l)) ∧ Below w.heap.size w w' := by
 obtain ⟨rfl, hm, _, _⟩ := sl_len hl
 have HL := hid hl; clear hl
 go_enter Tryz.func190, Tryz.ntmps190
 go_wp2_with fail
 go_loop [3] (fun i => ∃ k : Nat, k ≤ l.length ∧ k ≤ 50 ∧ i = .int .i64 k ∧ Hid (long23 l = longGAt 50 (fun x => decide (50 < x.backs.length)) l k)) (fun i => l.length - (intOf i).toNat)
 case atStart => exact ⟨0, Nat.zero_le _, Nat.zero_le _, rfl, hid rfl⟩
 case round =>
  obtain ⟨k, hk, hk2, rfl, hf⟩ := hrel
  by_cases hlt : k < l.length
  ·by_cases h450 : k < 50
   ·obtain ⟨b, o, hA, hbb, a1, c1, X0, X1, _, _⟩ := link_at HL.out hlt
    subst hA
    have hst := hid (longGAt_step 50 (fun x => decide (50 < x.backs.length)) l k hlt h450)
    generalize l[k] = x at *
    generalize x.stream = xs at *
    generalize x.backs.length = n1 at *
    by_cases h3 : 50 < n1
    ·have hff : Hid (long23 l = true) := hid (by rw [hf.out, hst.out]; simp [h3])
     have d3 : decide ((50 : Int) < (n1 : Int)) = true := by simp; omega
     clear h3
     go_wp2
     go_ret
     exact ⟨by rw [hff.out]; rfl, by (repeat first | exact zR | assumption | apply zA | apply zS | apply zD | apply zN | refine zT (by assumption) ?_ | omega | simp <;> omega)⟩
    ·have hff : Hid (long23 l = longGAt 50 (fun x => decide (50 < x.backs.length)) l (k + 1)) := hid (by rw [hf.out, hst.out]; simp [h3])
     have d3 : decide ((50 : Int) < (n1 : Int)) = false := by simp; omega
     clear h3
     go_wp2
     go_round
     case rel => exact ⟨k + 1, by omega, by omega, by go_num, hff⟩
     case measure => simp [intOf]; omega
   ·have hff : Hid (long23 l = decide ((50 : Int) < (l.length : Int))) := hid (by rw [hf.out, longGAt_end _ _ l k (.inr (by omega))]; simp only [decide_eq_decide]; omega)
    go_wp2
    go_ret
    exact ⟨by rw [hff.out]; rfl, by (repeat first | exact zR | assumption | apply zA | apply zS | apply zD | apply zN | refine zT (by assumption) ?_ | omega | simp <;> omega)⟩
  ·have hff : Hid (long23 l = decide ((50 : Int) < (l.length : Int))) := hid (by rw [hf.out, longGAt_end _ _ l k (.inl (by omega))]; simp only [decide_eq_decide]; omega)
   go_wp2
   go_ret
   exact ⟨by rw [hff.out]; rfl, by (repeat first | exact zR | assumption | apply zA | apply zS | apply zD | apply zN | refine zT (by assumption) ?_ | omega | simp <;> omega)⟩
set_option maxHeartbeats 800000 in
theorem law24_long (x : Entry) (a a' : Option Addr) (n c n' c' : Nat) (w : World) (hl : rLinks.r (· < w.heap.size) w [.slice a n c] x.links) (hd : rBytes.r (· < w.heap.size) w [.slice a' n' c'] x.data) :
  Calls Tryz.prog 128 #[.agg #[.slice a n c, .slice a' n' c']] w fun r w' => r = .returned (.bool (long24 x)) ∧ Below w.heap.size w w' := by
 obtain ⟨rfl, hm, _, _⟩ := sl_len hl
 obtain ⟨rfl, hm', _, _⟩ := sl_len hd
 have HL := hid hl; clear hl hd
 have HLL := hid (show long24 x = (long23 x.links || decide (500 < x.data.length)) from rfl)
 go_enter Tryz.func128, Tryz.ntmps128
 go_wp2_with fail
 refine (law23_long x.links _ _ _ _ (lift HL.out (by (repeat first | exact zR | assumption | apply zA | apply zS | apply zD | apply zN | refine zT (by assumption) ?_ | omega | simp <;> omega)))).mono ?_
 rintro r w1 ⟨rfl, hb1⟩
 cases h : long23 x.links
 ·have hff : Hid (long24 x = decide ((500 : Int) < (x.data.length : Int))) := hid (by rw [HLL.out, h, Bool.false_or]; simp only [decide_eq_decide]; omega)
  clear h
  have c1 : w1.cell? ⟨w.heap.size, 1, none⟩ = some (.slice a' x.data.length c') := (Later.mk w1 hb1).cell (by go_simp)
  go_wp2
  go_ret
  exact ⟨by rw [hff.out]; rfl, by (repeat first | exact zR | assumption | apply zA | apply zS | apply zD | apply zN | refine zT (by assumption) ?_ | omega | simp <;> omega)⟩
 ·have hff : Hid (long24 x = true) := hid (by rw [HLL.out, h]; rfl)
  clear h
  go_wp2
  go_ret
  exact ⟨by rw [hff.out]; rfl, by (repeat first | exact zR | assumption | apply zA | apply zS | apply zD | apply zN | refine zT (by assumption) ?_ | omega | simp <;> omega)⟩
set_option maxRecDepth 100000 in
set_option maxHeartbeats 1600000 in
theorem law24_many (l : List Entry) (a : Option Addr) (n c : Nat) (w : World) (hl : rEntries.r (· < w.heap.size) w [.slice a n c] l) :
  Calls Tryz.prog 68 #[.slice a n c] w fun r w' => r = .returned (.bool (many24 l)) ∧ Below w.heap.size w w' := by
 obtain ⟨rfl, hm, _, _⟩ := sl_len hl
 have HL := hid hl; clear hl
 go_enter Tryz.func68, Tryz.ntmps68
 go_wp2_with fail
 go_loopw [3] (fun i wr => ∃ k : Nat, k ≤ l.length ∧ k ≤ 30 ∧ i = .int .i64 k ∧ Hid (many24 l = longGAt 30 long24 l k) ∧ Below w.heap.size w wr) (fun i _ => l.length - (intOf i).toNat)
 case atStart => exact ⟨0, Nat.zero_le _, Nat.zero_le _, rfl, hid rfl, Below.refl _ _⟩
 case round =>
  obtain ⟨k, hk, hk2, rfl, hf, hb⟩ := hrel
  by_cases hlt : k < l.length
  ·by_cases h450 : k < 30
   ·obtain ⟨b, o, hA, hbb, a1, c1, a2, c2, X0, X1, hd1, hd2⟩ := entry_at (lift HL.out hb) hlt
    subst hA
    have hst := hid (longGAt_step 30 long24 l k hlt h450)
    have HD1 := hid hd1; have HD2 := hid hd2; clear hd1 hd2
    generalize l[k] = x at *
    go_wp2_with fail
    refine (law24_long x _ _ _ _ _ _ _ HD1.out HD2.out).mono ?_
    rintro r w1 ⟨rfl, hb1⟩
    have hb2 := below_then hb1 hb
    cases h3 : long24 x
    ·have hff : Hid (many24 l = longGAt 30 long24 l (k + 1)) := hid (by rw [hf.out, hst.out, h3]; rfl)
     clear h3
     go_wp2
     go_roundw
     case rel => exact ⟨k + 1, by omega, by omega, by go_num, hff, hb2⟩
     case measure => simp [intOf]; omega
    ·have hff : Hid (many24 l = true) := hid (by rw [hf.out, hst.out, h3]; rfl)
     clear h3
     go_wp2
     go_ret
     exact ⟨by rw [hff.out]; rfl, hb2⟩
   ·have hff : Hid (many24 l = decide ((30 : Int) < (l.length : Int))) := hid (by rw [hf.out, longGAt_end _ _ l k (.inr (by omega))]; simp only [decide_eq_decide]; omega)
    go_wp2
    go_ret
    exact ⟨by rw [hff.out]; rfl, hb⟩
  ·have hff : Hid (many24 l = decide ((30 : Int) < (l.length : Int))) := hid (by rw [hf.out, longGAt_end _ _ l k (.inl (by omega))]; simp only [decide_eq_decide]; omega)
   go_wp2
   go_ret
   exact ⟨by rw [hff.out]; rfl, hb⟩
theorem many24_no {l : List Entry} (h : many24 l = false) : l.length ≤ 30 ∧ ∀ x ∈ l, x.data.length ≤ 500 ∧ x.links.length ≤ 50 ∧ ∀ y ∈ x.links, y.backs.length ≤ 50 := by
 obtain ⟨h1, h2⟩ := longG_no h
 refine ⟨h1, fun x hx => ?_⟩
 have := h2 x hx
 simp only [long24, Bool.or_eq_false_iff, decide_eq_false_iff_not] at this
 obtain ⟨h3, h4⟩ := longG_no this.1
 exact ⟨by omega, h3, fun y hy => by have := h4 y hy; simpa using this⟩
theorem total_bound {l : List Entry} {k : Nat} (h : ∀ x ∈ l, x.data.length ≤ k) : total l ≤ k * l.length := by
 induction l with
 | nil => exact Nat.zero_le _
 | cons x l ih =>
  have h1 := ih fun y hy => h y (List.mem_cons_of_mem _ hy)
  have h2 := h x (List.mem_cons_self ..)
  simp only [total, List.map_cons, List.sum_cons, List.length_cons] at *
  rw [Nat.mul_succ]; omega
set_option maxRecDepth 100000 in
set_option maxHeartbeats 3200000 in
theorem law25_long (e b : Int) (l : List Entry) (a : Option Addr) (n c : Nat) (w : World) (hl : rEntries.r (· < w.heap.size) w [.slice a n c] l) :
  Calls Tryz.prog 15 #[.agg #[.int .u64 e, .int .u64 b, .slice a n c]] w fun r w' => r = .returned (.bool (long25 l)) ∧ Below w.heap.size w w' := by
 obtain ⟨rfl, hm, _, _⟩ := sl_len hl
 have HL := hid hl; clear hl
 have HLL := hid (show long25 l = (many24 l || decide (300 < total (l.take 30))) from rfl)
 cases hmn : many24 l
 ·obtain ⟨g1, g2⟩ := many24_no hmn
  have ht := total_bound (k := 500) (fun x hx => (g2 x hx).1)
  have hff : Hid (long25 l = decide ((300 : Int) < ((total l : Nat) : Int))) := hid (by rw [HLL.out, hmn, Bool.false_or, List.take_of_length_le g1]; simp only [decide_eq_decide]; omega)
  have hM := fun W h => law24_many l a l.length c W h
  rw [hmn] at hM
  have HM := hid hM; clear hM hmn g2
  have HT := hid ht; clear ht
  go_enter Tryz.func15, Tryz.ntmps15
  go_wp2_with fail
  refine wp_world (fun W => Below w.heap.size w W ∧ w.heap.size < W.heap.size ∧ W.cell? ⟨w.heap.size, 2, none⟩ = some (.slice a l.length c)) ⟨by (repeat first | exact zR | assumption | apply zA | apply zS | apply zD | apply zN | refine zT (by assumption) ?_ | omega | simp <;> omega), by simp, by go_simp⟩ ?_
  intro W ⟨hbW, hzW, q2⟩
  go_loop [3, 4] (fun s i => ∃ k : Nat, k ≤ l.length ∧ i = .int .i64 k ∧ s = .int .i64 (total (l.take k) : Nat)) (fun _ i => l.length - (intOf i).toNat)
  case atStart => exact ⟨0, Nat.zero_le _, rfl, rfl⟩
  case round =>
   obtain ⟨k, hk, rfl, rfl⟩ := hrel
   by_cases hlt : k < l.length
   ·obtain ⟨bb, o, hA, hbb, a1, c1, a2, c2, X0, X1, _, _⟩ := entry_at (lift HL.out hbW) hlt
    subst hA
    have hs := hid (total_step l k hlt)
    have h1 := total_take_le l (k + 1)
    rw [hs.out] at h1
    have h2 := HT.out
    have d3 : decide ((k : Int) < 30) = true := by simp; omega
    generalize l[k].links.length = n1 at *
    generalize l[k].data.length = n2 at *
    generalize total (l.take k) = t at *
    generalize total l = tt at *
    have h3 : t + n2 ≤ 15000 := by omega
    clear h1 h2
    go_wp2
    go_round
    case rel => exact ⟨k + 1, by omega, by go_num, by rw [hs.out]; simp only [Int.natCast_add]⟩
    case measure => simp [intOf]; omega
   ·obtain rfl : k = l.length := by omega
    rw [List.take_length]
    go_wp2_with fail
    refine (HM.out _ (lift HL.out hbW)).mono ?_
    rintro r w1 ⟨rfl, hb1⟩
    go_wp2
    go_ret
    exact ⟨by rw [hff.out]; rfl, below_then hb1 hbW⟩
 ·have hff : Hid (long25 l = true) := hid (by rw [HLL.out, hmn]; rfl)
  have hM := fun W h => law24_many l a l.length c W h
  rw [hmn] at hM
  have HM := hid hM; clear hM hmn
  go_enter Tryz.func15, Tryz.ntmps15
  go_wp2_with fail
  refine wp_world (fun W => Below w.heap.size w W ∧ w.heap.size < W.heap.size ∧ W.cell? ⟨w.heap.size, 2, none⟩ = some (.slice a l.length c)) ⟨by (repeat first | exact zR | assumption | apply zA | apply zS | apply zD | apply zN | refine zT (by assumption) ?_ | omega | simp <;> omega), by simp, by go_simp⟩ ?_
  intro W ⟨hbW, hzW, q2⟩
  go_loop [3, 4] (fun s i => ∃ (k : Nat) (m : Int), k ≤ l.length ∧ k ≤ 30 ∧ i = .int .i64 k ∧ s = .int .i64 m) (fun _ i => l.length - (intOf i).toNat)
  case atStart => exact ⟨0, 0, Nat.zero_le _, Nat.zero_le _, rfl, rfl⟩
  case round =>
   obtain ⟨k, m, hk, hk2, rfl, rfl⟩ := hrel
   by_cases hlt : k < l.length
   ·by_cases h30 : k < 30
    ·obtain ⟨bb, o, hA, hbb, a1, c1, a2, c2, X0, X1, _, _⟩ := entry_at (lift HL.out hbW) hlt
     subst hA
     generalize l[k].links.length = n1 at *
     generalize l[k].data.length = n2 at *
     go_wp2
     go_round
     case rel => exact ⟨k + 1, _, by omega, by omega, by go_num, rfl⟩
     case measure => simp [intOf]; omega
    ·go_wp2_with fail
     refine (HM.out _ (lift HL.out hbW)).mono ?_
     rintro r w1 ⟨rfl, hb1⟩
     go_wp2
     go_ret
     exact ⟨by rw [hff.out]; rfl, below_then hb1 hbW⟩
   ·go_wp2_with fail
    refine (HM.out _ (lift HL.out hbW)).mono ?_
    rintro r w1 ⟨rfl, hb1⟩
    go_wp2
    go_ret
    exact ⟨by rw [hff.out]; rfl, below_then hb1 hbW⟩
theorem long25_no {l : List Entry} (h : long25 l = false) : l.length ≤ 30 ∧ total l ≤ 300 ∧ ∀ x ∈ l, x.data.length ≤ 500 ∧ x.links.length ≤ 50 ∧ ∀ y ∈ x.links, y.backs.length ≤ 50 := by
 simp only [long25, Bool.or_eq_false_iff, decide_eq_false_iff_not] at h
 obtain ⟨h1, h2⟩ := many24_no h.1
 rw [List.take_of_length_le h1] at h
 exact ⟨h1, by omega, h2⟩
set_option maxRecDepth 100000 in
set_option maxHeartbeats 1600000 in
theorem law34_long (e : Int) (l : List Batch) (a : Option Addr) (n c : Nat) (w : World) (hl : rBatches.r (· < w.heap.size) w [.slice a n c] l) :
  Calls Tryz.prog 38 #[.agg #[.int .u64 e, .slice a n c]] w fun r w' => r = .returned (.bool (long34 l)) ∧ Below w.heap.size w w' := by
 obtain ⟨rfl, hm, _, _⟩ := sl_len hl
 have HL := hid hl; clear hl
 go_enter Tryz.func38, Tryz.ntmps38
 go_wp2_with fail
 refine wp_world (fun W => Below w.heap.size w W ∧ w.heap.size < W.heap.size ∧ W.cell? ⟨w.heap.size, 1, none⟩ = some (.slice a l.length c)) ⟨by (repeat first | exact zR | assumption | apply zA | apply zS | apply zD | apply zN | refine zT (by assumption) ?_ | omega | simp <;> omega), by simp, by go_simp⟩ ?_
 intro W ⟨hbW, hzW, q2⟩
 go_loopw [3] (fun i wr => ∃ k : Nat, k ≤ l.length ∧ k ≤ 20 ∧ i = .int .i64 k ∧ Hid (long34 l = longGAt 20 (fun b => long25 b.entries) l k) ∧ Below W.heap.size W wr) (fun i _ => l.length - (intOf i).toNat)
 case atStart => exact ⟨0, Nat.zero_le _, Nat.zero_le _, rfl, hid rfl, Below.refl _ _⟩
 case round =>
  obtain ⟨k, hk, hk2, rfl, hf, hb⟩ := hrel
  have hb3 := below_then hb hbW
  have t1 : wr.cell? ⟨w.heap.size, 1, none⟩ = some (.slice a l.length c) := (Later.mk wr hb).cell q2
  have hz3 : w.heap.size < wr.heap.size := by have := hb.size; omega
  by_cases hlt : k < l.length
  ·by_cases h450 : k < 20
   ·obtain ⟨b, o, hA, hbb, a1, c1, X0, X1, X2, _, _, hd⟩ := batch_at (lift HL.out hb3) hlt
    subst hA
    have hst := hid (longGAt_step 20 (fun b => long25 b.entries) l k hlt h450)
    have HD := hid hd; clear hd
    generalize l[k] = x at *
    go_wp2_with fail
    refine (law25_long _ _ x.entries _ _ _ _ HD.out).mono ?_
    rintro r w1 ⟨rfl, hb1⟩
    have hb2 := below_then hb1 hb
    cases h3 : long25 x.entries
    ·have hff : Hid (long34 l = longGAt 20 (fun b => long25 b.entries) l (k + 1)) := hid (by rw [hf.out, hst.out]; simp [h3])
     clear h3
     go_wp2
     go_roundw
     case rel => exact ⟨k + 1, by omega, by omega, by go_num, hff, hb2⟩
     case measure => simp [intOf]; omega
    ·have hff : Hid (long34 l = true) := hid (by rw [hf.out, hst.out]; simp [h3])
     clear h3
     go_wp2
     go_ret
     exact ⟨by rw [hff.out]; rfl, below_then hb1 hb3⟩
   ·have hff : Hid (long34 l = decide ((20 : Int) < (l.length : Int))) := hid (by rw [hf.out, longGAt_end _ _ l k (.inr (by omega))]; simp only [decide_eq_decide]; omega)
    go_wp2
    go_ret
    exact ⟨by rw [hff.out]; rfl, hb3⟩
  ·have hff : Hid (long34 l = decide ((20 : Int) < (l.length : Int))) := hid (by rw [hf.out, longGAt_end _ _ l k (.inl (by omega))]; simp only [decide_eq_decide]; omega)
   go_wp2
   go_ret
   exact ⟨by rw [hff.out]; rfl, hb3⟩
theorem long34_no {l : List Batch} (h : long34 l = false) : l.length ≤ 20 ∧ ∀ b ∈ l, b.entries.length ≤ 30 ∧ total b.entries ≤ 300 ∧ ∀ x ∈ b.entries, x.data.length ≤ 500 ∧ x.links.length ≤ 50 ∧ ∀ y ∈ x.links, y.backs.length ≤ 50 := by
 obtain ⟨h1, h2⟩ := longG_no h
 exact ⟨h1, fun b hb => long25_no (h2 b hb)⟩
end Go.Proofs.YtkipiefcnjfdjaaGreat
namespace Go.Proofs.YtkipiefcnjfdjaaGreat
open Go.RowKit Go.Bs
theorem segNeeds : True := by
 have h1 := @live34
 have h2 := @segment_append
 have h3 := @law34_long
 have h4 := @law25_long
 have h5 := @ref34_right
 have h6 := @ref25_right
 have h7 := @ref34_may
 have h8 := @ref34_same
 have h9 := @segment_right
 have h10 := @o_seg
 have h11 := @o_batch
 have h12 := @long34_no
 have h13 := @long25_no
 trivial
end Go.Proofs.YtkipiefcnjfdjaaGreat
