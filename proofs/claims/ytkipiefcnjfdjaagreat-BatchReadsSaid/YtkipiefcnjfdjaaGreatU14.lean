/- Needed by batchReads_walk, part 14: texts put together by shake.py; no condition. -/
import Derived.Test.YtkipiefcnjfdjaaGreatU13
namespace Go.Proofs.YtkipiefcnjfdjaaGreat
open Go.RowKit Go.Bs Go.Maps
set_option linter.unusedVariables false
set_option linter.unusedSimpArgs false
set_option maxRecDepth 100000 in
set_option maxHeartbeats 12800000 in
theorem ref25_loose (w : World) (a : Option Addr) (c : Nat) (B : List UInt8) (hl : rBytes.r (· < w.heap.size) w [.slice a B.length c] B) (s : Rs) (hs : s.ok B.length) (hB : B.length ≤ 1000000000) :
  Calls Tryz.prog 33 #[CV a B.length c s, .bool false] w fun r w' => ∃ v, r = .returned (.tuple #[CV a B.length c (Rs.batch B (blkL B) s).1, .agg #[.int .u64 (Rs.batch B (blkL B) s).2.1.epoch, .int .u64 (Rs.batch B (blkL B) s).2.1.base, v], .bool (Rs.batch B (blkL B) s).2.2]) ∧ rEntriesW.r (Fresh w w') w' [v] (Rs.batch B (blkL B) s).2.1.entries ∧ Below w.heap.size w w' := by
 obtain ⟨i0, hi, hz0, hz1, hz2⟩ := info_parts infoEntry
 obtain ⟨j0, hj, hy0, hy1, hy2⟩ := info_parts infoInt
 have HL := hid hl
 have hEP := fun (W : World) (hW : Below w.heap.size w W) => ref17_ep W a c B (lift HL.out hW) s hs (by omega)
 have hok1 := Rs.ep_ok (B := B) hs
 have hPO := fun (W : World) (hW : Below w.heap.size w W) => ref17_po W a c B (lift HL.out hW) (s.ep B).1 hok1 (by omega)
 have hok2 := Rs.po_ok (B := B) hok1
 have hIT := fun (W : World) (hW : Below w.heap.size w W) => ref04_int W a c B (lift HL.out hW) ((s.ep B).1.po B).1 hok2 (by omega) 16 (by omega)
 have hok3 := Rs.int_ok (B := B) hok2 (m := 16)
 have hn16 := Rs.int_le (B := B) (s := ((s.ep B).1.po B).1) (m := 16)
 have hpb : (((s.ep B).1.po B).2 : Int) ≤ 18446744073709551615 := by
  have := Rs.num_small (B := B) (s := (s.ep B).1)
  unfold Rs.po
  split
  ·split
   ·omega
   ·simp
  ·simp
 generalize hZ : Rs.batch B (blkL B) s = Z at *
 generalize hE : s.ep B = E at *
 obtain ⟨s1, e⟩ := E
 dsimp only at *
 generalize hP : s1.po B = P at *
 obtain ⟨s2, p⟩ := P
 dsimp only at *
 generalize hI : s2.int B 16 = I at *
 obtain ⟨s3, n⟩ := I
 dsimp only at *
 have hn : n ≤ 16 := by omega
 have hp1 : (0 : Int) ≤ (p : Int) ∧ (p : Int) ≤ 18446744073709551615 := by omega
 have HOF := hid (Rs.batch_of (blk := blkL B) hE hP hI)
 rw [hZ] at HOF
 have HEP := hid hEP; have HPO := hid hPO; have HIT := hid hIT
 have HOK3 := hid hok3
 have HBL := hid (fun (W : World) (hW : Below w.heap.size w W) (t : Rs) (ht : t.ok B.length) => ref16_blkL W a c B (lift HL.out hW) t ht hB)
 have HRH := hid (fun (W : World) (hW : Below w.heap.size w W) (t : Rs) (ht : t.ok B.length) (po mo : Int) (h1 : 0 ≤ po ∧ po ≤ 18446744073709551615) (h2 : -9223372036854775808 ≤ mo ∧ mo ≤ 9223372036854775807) => ref24_readhead W a c B (lift HL.out hW) t ht (by omega) po h1 mo h2)
 have HFL := hid (fun (W : World) (t : Rs) (q : Nat) => ref02_fail W a B.length c t 3 (q : Int) (by omega))
 clear hl hs hEP hPO hIT hok1 hok2 hok3 hn16 hpb hE hP hI hZ
 unfold CV at *
 by_cases hk3 : s3.k = 0
 ·have d3 : (s3.k == (0 : Int)) = true := by simp [hk3]
  by_cases hfit : fitsR (p : Int) n = true
  ·have HFT := hid (fun (W : World) => (by have := ref25_fits (p : Int) n W hp1 (by omega); rw [hfit] at this; exact this : Calls Tryz.prog 83 #[.int .u64 (p : Int), .int .i64 n] W fun r w' => r = .returned (.bool true) ∧ W = w'))
   have HSP := hid (HOF.out.2 hfit hk3)
   have hfit' := hfit
   simp only [fitsR, decide_eq_true_eq] at hfit'
   have HK3 := hid hk3
   have HLB : Hid (∀ (J : List (List Link × Nat)) (st : Rs) (sm k : Nat), k < n → Rs.heads B (n - k) st ((p : Int) + k) (1048576 - (sm : Int)) J = (if (st.ehead B ((p : Int) + k) (1048576 - (sm : Int))).1.k = 0 then Rs.heads B (n - (k + 1)) (st.ehead B ((p : Int) + k) (1048576 - (sm : Int))).1 ((p : Int) + k + 1) (1048576 - (sm : Int) - (st.ehead B ((p : Int) + k) (1048576 - (sm : Int))).2.2) (J ++ [(st.ehead B ((p : Int) + k) (1048576 - (sm : Int))).2]) else ((st.ehead B ((p : Int) + k) (1048576 - (sm : Int))).1, []))) := hid (fun J st sm k hk => by
    rw [show n - k = (n - (k + 1)) + 1 by omega]; rfl)
   have c9 : (p : Int) + n ≤ 18446744073709551615 := by omega
   clear hfit hfit' hk3 HOF
   go_enter Tryz.func33, Tryz.ntmps33
   go_wp2_with fail
   have h0 : R25 w (((w.alloc (.cells #[.slice a B.length c, .int .i64 (s.p : Int), .int .i64 s.k, .int .i64 s.f] 50)).alloc (.cells #[.slice none 0 0, .int .i64 0, .int .i64 0, .int .i64 0] 50)).alloc (.cells #[.int .u64 0, .int .u64 0, .slice none 0 0] 25)) a c B s := ⟨by (repeat first | assumption | exact kW (by first | (simp; done) | (simp; omega)) | apply kA | apply kD | apply kN | apply kF | simp <;> omega), by (repeat first | assumption | exact kW (by first | (simp; done) | (simp; omega)) | apply kA | apply kD | apply kN | apply kF | simp <;> omega), by (repeat first | assumption | exact kW (by first | (simp; done) | (simp; omega)) | apply kA | apply kD | apply kN | apply kF | simp <;> omega), by (repeat first | with_reducible (first | exact zR | assumption | apply zA | apply zS | apply zD | apply zN) | refine zT (by with_reducible assumption) ?_ | omega | simp <;> omega), by simp⟩
   generalize (((w.alloc (.cells #[.slice a B.length c, .int .i64 (s.p : Int), .int .i64 s.k, .int .i64 s.f] 50)).alloc (.cells #[.slice none 0 0, .int .i64 0, .int .i64 0, .int .i64 0] 50)).alloc (.cells #[.int .u64 0, .int .u64 0, .slice none 0 0] 25)) = v0 at *
   refine (HEP.out v0 h0.bel).mono ?_
   rintro r w1 ⟨rfl, hb1⟩
   have h1 := h0.later hb1
   obtain ⟨x0, x1, x2, x3, f0, f1, f2, f3, l0⟩ := c_blk h1.c
   clear h0 hb1
   go_wp2_with fail
   have h1' := h1.set s1
   generalize ((((w1.setCell ⟨w.heap.size, 0, none⟩ (.slice a B.length c)).setCell ⟨w.heap.size, 1, none⟩ (.int .i64 (s1.p : Int))).setCell ⟨w.heap.size, 2, none⟩ (.int .i64 s1.k)).setCell ⟨w.heap.size, 3, none⟩ (.int .i64 s1.f)) = v1 at *
   refine (HPO.out v1 h1'.bel).mono ?_
   rintro r w2 ⟨rfl, hb2⟩
   have h2 := h1'.later hb2
   clear h1 h1' hb2 x0 x1 x2 x3 f0 f1 f2 f3 l0
   obtain ⟨x0, x1, x2, x3, f0, f1, f2, f3, l0⟩ := c_blk h2.c
   go_wp2_with fail
   have h2' := h2.set s2
   generalize ((((w2.setCell ⟨w.heap.size, 0, none⟩ (.slice a B.length c)).setCell ⟨w.heap.size, 1, none⟩ (.int .i64 (s2.p : Int))).setCell ⟨w.heap.size, 2, none⟩ (.int .i64 s2.k)).setCell ⟨w.heap.size, 3, none⟩ (.int .i64 s2.f)) = v2 at *
   refine (HIT.out v2 h2'.bel).mono ?_
   rintro r w3 ⟨rfl, hb3⟩
   have h3 := h2'.later hb3
   clear h2 h2' hb3 x0 x1 x2 x3 f0 f1 f2 f3 l0
   obtain ⟨x0, x1, x2, x3, f0, f1, f2, f3, l0⟩ := c_blk h3.c
   go_wp2_with fail
   have h3' := h3.set s3
   generalize ((((w3.setCell ⟨w.heap.size, 0, none⟩ (.slice a B.length c)).setCell ⟨w.heap.size, 1, none⟩ (.int .i64 (s3.p : Int))).setCell ⟨w.heap.size, 2, none⟩ (.int .i64 s3.k)).setCell ⟨w.heap.size, 3, none⟩ (.int .i64 s3.f)) = v3 at *
   refine (HFT.out v3).mono ?_
   rintro r w5 ⟨rfl, rfl⟩
   clear h3 x0 x1 x2 x3 f0 f1 f2 f3 l0
   obtain ⟨x0, x1, x2, x3, f0, f1, f2, f3, l0⟩ := c_blk h3'.c
   go_wp2_with fail
   have h7 : R25 w (v3.alloc (.cells #[.int .u64 (e : Int), .int .u64 (p : Int), .slice none 0 0] 25)) a c B s3 := h3'.later (by (repeat first | with_reducible (first | exact zR | assumption | apply zA | apply zS | apply zD | apply zN) | refine zT (by with_reducible assumption) ?_ | omega | simp <;> omega))
   have b7 : Blk (v3.alloc (.cells #[.int .u64 (e : Int), .int .u64 (p : Int), .slice none 0 0] 25)) v3.heap.size 25 #[.int .u64 (e : Int), .int .u64 (p : Int), .slice none 0 0] := Blk.newAt _ _ _ rfl
   have hz7 : v3.heap.size + 1 ≤ (v3.alloc (.cells #[.int .u64 (e : Int), .int .u64 (p : Int), .slice none 0 0] 25)).heap.size := by simp
   have hz3 := h3'.sz
   generalize (v3.alloc (.cells #[.int .u64 (e : Int), .int .u64 (p : Int), .slice none 0 0] 25)) = v7 at *
   generalize v3.heap.size = bb at *
   clear h3' x0 x1 x2 x3 f0 f1 f2 f3 l0
   go_loopw [12, 13, 14] (fun u sum i wr => ∃ (k sm : Nat) (J : List (List Link × Nat)) (st : Rs) (vv : Value), k ≤ n ∧ i = .int .i64 k ∧ sum = .int .i64 (sm : Int) ∧ sm ≤ 1048576 ∧ Hid (sm = sizesN J) ∧ Hid (J.length = k) ∧ HeadsAt (bb + 1) wr vv u J ∧ R25 w wr a c B st ∧ Blk wr bb 25 #[.int .u64 (e : Int), .int .u64 (p : Int), vv] ∧ bb + 1 ≤ wr.heap.size ∧ Hid (st.ok B.length) ∧ Hid (st.k = 0 → Rs.heads B n s3 (p : Int) 1048576 [] = Rs.heads B (n - k) st ((p : Int) + k) (1048576 - (sm : Int)) J) ∧ Hid (st.k ≠ 0 → Rs.heads B n s3 (p : Int) 1048576 [] = (st, []))) (fun _ _ i _ => n - (intOf i).toNat)
   case atStart => exact ⟨0, 0, [], s3, .slice none 0 0, Nat.zero_le _, rfl, rfl, Nat.zero_le _, hid rfl, hid rfl, HeadsAt.nil, h7, b7, hz7, HOK3, hid (fun _ => by simp), hid (fun h => absurd HK3.out h)⟩
   case round =>
    obtain ⟨k, sm, J, st, vv, hk, rfl, rfl, hsum, hsm, hJl, hH, hR, hBB, hlo, hok, hsp, hsn⟩ := hrel
    obtain ⟨av, cv, rfl⟩ := HeadsAt.formv hH
    obtain ⟨au, cu, rfl⟩ := own_form hH.szs
    have hJ9 : J.length ≤ 16 := by have := hJl.out; omega
    obtain ⟨x0, x1, x2, x3, f0, f1, f2, f3, l0⟩ := c_blk hR.c
    obtain ⟨b0, b1, b2, k0, k1, k2, lb⟩ := b_blk hBB
    have HH := hid hH
    have HR := hid hR
    have HBB := hid hBB
    clear hH hR hBB h7 b7
    rcases Nat.lt_or_ge k n with hlt2 | hge
    ·have d1 : decide ((k : Int) < (n : Int)) = true := decide_eq_true (by omega)
     have d1' : decide (k < n) = true := decide_eq_true hlt2
     by_cases hk0 : st.k = 0
     ·have dk : (st.k == (0 : Int)) = true := by simp [hk0]
      have hsp1 := hsp.out hk0
      rw [HLB.out J st sm k hlt2] at hsp1
      have c1 : 0 ≤ (p : Int) + (k : Int) := by omega
      have c2 : (p : Int) + (k : Int) ≤ 18446744073709551615 := by omega
      have c3 : 0 ≤ 1048576 - (sm : Int) := by omega
      have c4 : 1048576 - (sm : Int) ≤ 9223372036854775807 := by omega
      have hle := Rs.ehead_le (B := B) (s := st) (pos := (p : Int) + (k : Int)) (most := 1048576 - (sm : Int))
      have hRHc := HRH.out wr HR.out.bel st hok.out ((p : Int) + (k : Int)) (1048576 - (sm : Int)) ⟨c1, c2⟩ ⟨by omega, c4⟩
      have hok5 := Rs.ehead_ok (B := B) (pos := (p : Int) + (k : Int)) (most := 1048576 - (sm : Int)) hok.out
      clear hsp hsn hk0
      generalize st.ehead B ((p : Int) + (k : Int)) (1048576 - (sm : Int)) = EH at *
      obtain ⟨s5, l, m⟩ := EH
      dsimp only at *
      have HRC := hid hRHc
      have HSP1 := hid hsp1
      have HOK5 := hid hok5
      have hm : m + sm ≤ 1048576 := by omega
      have c5 : 0 ≤ (sm : Int) + (m : Int) := by omega
      have c6 : (sm : Int) + (m : Int) ≤ 9223372036854775807 := by omega
      clear hRHc hsp1 hok5 hle
      go_wp2_with fail
      refine HRC.out.mono ?_
      rintro r w4 ⟨v4, rfl, hv4, hb4⟩
      obtain ⟨a4, c4', hfv, _, _⟩ := sl_form (linksW_links hv4)
      simp only [List.cons.injEq, and_true] at hfv
      subst hfv
      have h4 := HR.out.later hb4
      have B4 := HBB.out.later hb4
      have hs4 := hb4.size
      have HH4 := hid (HeadsAt.tch HH.out ((Tch.of_later (F := fun b => b = w.heap.size ∨ wr.heap.size ≤ b) hb4)) (by omega))
      have HV4 := hid hv4
      clear hb4 hv4 x0 x1 x2 x3 f0 f1 f2 f3 l0 b0 b1 b2 k0 k1 k2 lb
      obtain ⟨x0, x1, x2, x3, f0, f1, f2, f3, l0⟩ := c_blk h4.c
      obtain ⟨b0, b1, b2, k0, k1, k2, lb⟩ := b_blk B4
      have hbA : Below w4.heap.size (((((w4.setCell ⟨w.heap.size, 0, none⟩ (.slice a B.length c)).setCell ⟨w.heap.size, 1, none⟩ (.int .i64 (s5.p : Int))).setCell ⟨w.heap.size, 2, none⟩ (.int .i64 s5.k)).setCell ⟨w.heap.size, 3, none⟩ (.int .i64 s5.f))) ((((((w4.setCell ⟨w.heap.size, 0, none⟩ (.slice a B.length c)).setCell ⟨w.heap.size, 1, none⟩ (.int .i64 (s5.p : Int))).setCell ⟨w.heap.size, 2, none⟩ (.int .i64 s5.k)).setCell ⟨w.heap.size, 3, none⟩ (.int .i64 s5.f)).alloc (.cells #[.slice a B.length c, .int .i64 (s5.p : Int), .int .i64 s5.k, .int .i64 s5.f] 50)).alloc (.cells #[.int .i64 (m : Int)] 3)) := by
       have : (((((w4.setCell ⟨w.heap.size, 0, none⟩ (.slice a B.length c)).setCell ⟨w.heap.size, 1, none⟩ (.int .i64 (s5.p : Int))).setCell ⟨w.heap.size, 2, none⟩ (.int .i64 s5.k)).setCell ⟨w.heap.size, 3, none⟩ (.int .i64 s5.f))).heap.size = w4.heap.size := by simp [World.setCell]
       exact ((Below.refl _ _).alloc (by omega) _).alloc (by simp [World.setCell]) _
      have hsz5 : (((((((w4.setCell ⟨w.heap.size, 0, none⟩ (.slice a B.length c)).setCell ⟨w.heap.size, 1, none⟩ (.int .i64 (s5.p : Int))).setCell ⟨w.heap.size, 2, none⟩ (.int .i64 s5.k)).setCell ⟨w.heap.size, 3, none⟩ (.int .i64 s5.f)).alloc (.cells #[.slice a B.length c, .int .i64 (s5.p : Int), .int .i64 s5.k, .int .i64 s5.f] 50)).alloc (.cells #[.int .i64 (m : Int)] 3))).heap.size = w4.heap.size + 2 := by simp [World.setCell]
      have h5 : R25 w ((((((w4.setCell ⟨w.heap.size, 0, none⟩ (.slice a B.length c)).setCell ⟨w.heap.size, 1, none⟩ (.int .i64 (s5.p : Int))).setCell ⟨w.heap.size, 2, none⟩ (.int .i64 s5.k)).setCell ⟨w.heap.size, 3, none⟩ (.int .i64 s5.f)).alloc (.cells #[.slice a B.length c, .int .i64 (s5.p : Int), .int .i64 s5.k, .int .i64 s5.f] 50)).alloc (.cells #[.int .i64 (m : Int)] 3)) a c B s5 := (h4.set s5).lo hbA h4.sz
      have B5 : Blk ((((((w4.setCell ⟨w.heap.size, 0, none⟩ (.slice a B.length c)).setCell ⟨w.heap.size, 1, none⟩ (.int .i64 (s5.p : Int))).setCell ⟨w.heap.size, 2, none⟩ (.int .i64 s5.k)).setCell ⟨w.heap.size, 3, none⟩ (.int .i64 s5.f)).alloc (.cells #[.slice a B.length c, .int .i64 (s5.p : Int), .int .i64 s5.k, .int .i64 s5.f] 50)).alloc (.cells #[.int .i64 (m : Int)] 3)) bb 25 #[.int .u64 (e : Int), .int .u64 (p : Int), .slice av J.length cv] := ((Blk.far (Blk.far (Blk.far (Blk.far B4 (by dsimp only; omega) _) (by dsimp only; omega) _) (by dsimp only; omega) _) (by dsimp only; omega) _).alloc _).alloc _
      have hT5 : Tch (fun b => b = w.heap.size ∨ w4.heap.size ≤ b) w4 ((((((w4.setCell ⟨w.heap.size, 0, none⟩ (.slice a B.length c)).setCell ⟨w.heap.size, 1, none⟩ (.int .i64 (s5.p : Int))).setCell ⟨w.heap.size, 2, none⟩ (.int .i64 s5.k)).setCell ⟨w.heap.size, 3, none⟩ (.int .i64 s5.f)).alloc (.cells #[.slice a B.length c, .int .i64 (s5.p : Int), .int .i64 s5.k, .int .i64 s5.f] 50)).alloc (.cells #[.int .i64 (m : Int)] 3)) := ((((((Tch.refl _ _).setCell (fun _ => .inl rfl) _).setCell (fun _ => .inl rfl) _).setCell (fun _ => .inl rfl) _).setCell (fun _ => .inl rfl) _).alloc _).alloc _
      have HH5 := hid (HeadsAt.tch HH4.out hT5 (by omega))
      have HV5 := hid (rLinksW.keep HV4.out (w' := ((((((w4.setCell ⟨w.heap.size, 0, none⟩ (.slice a B.length c)).setCell ⟨w.heap.size, 1, none⟩ (.int .i64 (s5.p : Int))).setCell ⟨w.heap.size, 2, none⟩ (.int .i64 s5.k)).setCell ⟨w.heap.size, 3, none⟩ (.int .i64 s5.f)).alloc (.cells #[.slice a B.length c, .int .i64 (s5.p : Int), .int .i64 s5.k, .int .i64 s5.f] 50)).alloc (.cells #[.int .i64 (m : Int)] 3))) fun b hb => hT5.block b hb.2 (fun e => by have h1 : wr.heap.size ≤ b := hb.1; have h2 : b < w4.heap.size := hb.2; rcases e with e | e <;> omega))
      have hlu : ∀ b, (Value.slice au J.length cu).ownBlock = some b → bb + 1 ≤ b ∧ b < wr.heap.size := fun b e => own_lt HH.out.szs b e
      have hlv : ∀ b, (Value.slice av J.length cv).ownBlock = some b → bb + 1 ≤ b ∧ b < wr.heap.size := by
       obtain ⟨⟨cells0, OA0⟩, _⟩ := HH.out
       exact fun b e => own_lt OA0.1 b (by simpa using e)
      have HLU := hid hlu
      have HLV := hid hlv
      have H5 := hid h5
      have HB5 := hid B5
      have HS5 : Hid (bb + 1 ≤ (((((((w4.setCell ⟨w.heap.size, 0, none⟩ (.slice a B.length c)).setCell ⟨w.heap.size, 1, none⟩ (.int .i64 (s5.p : Int))).setCell ⟨w.heap.size, 2, none⟩ (.int .i64 s5.k)).setCell ⟨w.heap.size, 3, none⟩ (.int .i64 s5.f)).alloc (.cells #[.slice a B.length c, .int .i64 (s5.p : Int), .int .i64 s5.k, .int .i64 s5.f] 50)).alloc (.cells #[.int .i64 (m : Int)] 3))).heap.size) := hid (by omega)
      clear hbA h5 B5 hT5 hlu hlv
      go_wp2_with (first | (at_builtin; go_loud (refine wpList_append_src rfl _ _ _ rfl (bb + 1) 3 j0 (.int .i64 0) 1 8 Tryz.underlying135 hj hy0 hy1 hy2 rfl (by decide) (.slice au J.length cu) J.length _ rfl HH5.out.szs (some ⟨w4.heap.size + 1, 0, none⟩) 1 1 [.int .i64 (m : Int)] rfl (src_new1 _ 3 _ rfl (by simp [World.setCell]) rfl) (by intro u hu; simp at hu; subst hu; rfl) (by simp only [maxLen]; omega) (by omega) HS5.out ?_; intro v6 w6 hown6 hgrow6 hat6; obtain ⟨a6, c6', rfl⟩ := own_form hown6; have hV6 := HeadsV.pushU (x := (l, m)) HH5.out hown6 hgrow6 hat6; have hb6 : Below (bb + 1) ((((((w4.setCell ⟨w.heap.size, 0, none⟩ (.slice a B.length c)).setCell ⟨w.heap.size, 1, none⟩ (.int .i64 (s5.p : Int))).setCell ⟨w.heap.size, 2, none⟩ (.int .i64 s5.k)).setCell ⟨w.heap.size, 3, none⟩ (.int .i64 s5.f)).alloc (.cells #[.slice a B.length c, .int .i64 (s5.p : Int), .int .i64 s5.k, .int .i64 s5.f] 50)).alloc (.cells #[.int .i64 (m : Int)] 3)) w6 := Below.grown (Below.refl _ _) hgrow6 HS5.out (fun g e => (HLU.out g e).1); have h6 := H5.out.lo hb6 (by omega); have B6 := HB5.out.below hb6 (by omega); have hs6 : w4.heap.size + 2 ≤ w6.heap.size := (by have := hb6.size; rw [hsz5] at this; exact this); have HV6 := hid (rLinksW.keep HV5.out (w' := w6) fun b hb => hgrow6.block b (by rw [hsz5]; have := hb.2; omega) (fun e => by have := (HLU.out b e.symm).2; have := hb.1; omega)); have hat6' : ∀ b, (Value.slice a6 (J.length + 1) c6').ownBlock = some b → b < wr.heap.size ∨ w4.heap.size ≤ b := (by intro b e; rcases hat6 with h | h; (rw [h] at e; exact .inl (HLU.out b e).2); (rw [h] at e; have := Option.some.inj e; rw [hsz5] at this; exact .inr (by omega))); have HV7 := hid (HeadsV.tch hV6 (Tch.of_later (F := fun b => b = w.heap.size ∨ w6.heap.size ≤ b) (show Below w6.heap.size w6 (w6.alloc (.cells #[.slice a4 l.length c4', .slice none 0 0] 75)) from (Below.refl _ _).alloc (Nat.le_refl _) _)) (by omega)); clear hown6 hgrow6 hat6 hV6 hb6; obtain ⟨⟨cells, OA⟩, hu7⟩ := HV7.out; have hx7 : rEntryW.r (fun b => (bb + 1 ≤ b ∧ b < ((w6.alloc (.cells #[.slice a4 l.length c4', .slice none 0 0] 75))).heap.size ∧ (Value.slice a6 (J.length + 1) c6').ownBlock ≠ some b) ∧ (Value.slice av J.length cv).ownBlock ≠ some b) (w6.alloc (.cells #[.slice a4 l.length c4', .slice none 0 0] 75)) [.slice a4 l.length c4', .slice none 0 0] (headE (l, m)) := entryW_mk (rLinksW.mono (rLinksW.keep HV6.out (w' := (w6.alloc (.cells #[.slice a4 l.length c4', .slice none 0 0] 75))) fun b hb => Below.heap_alloc w6 _ b (by have := hb.2; omega)) fun b hb => ⟨⟨by have := hb.1; omega, by have := hb.2; simp; omega, fun e => by have h1 := hb.1; have h2 := hb.2; rcases hat6' b e with h | h <;> omega⟩, fun e => by have := (HLV.out b e).2; have := hb.1; omega⟩) (empty_bytes rfl rfl (by omega)); have HX := hid hx7; have HA := hid OA; have HU7 := hid hu7; have HOW : Hid (((w6.alloc (.cells #[.slice a4 l.length c4', .slice none 0 0] 75))).ownsRow (bb + 1) 75 2 (.slice av J.length cv) J.length cells.flatten) := hid (by have := OA.1; rwa [List.length_map] at this); have HS7 : Hid (bb + 1 ≤ ((w6.alloc (.cells #[.slice a4 l.length c4', .slice none 0 0] 75))).heap.size) := hid (by simp; omega); have H6 := hid h6; have HB6 := hid B6; clear OA hu7 hx7 hat6' h6; obtain ⟨b0, b1, b2, k0, k1, k2, lb⟩ := b_blk B6; clear B6)) | (at_builtin; go_loud (refine wpList_append_src rfl _ _ _ rfl (bb + 1) 75 i0 (.agg #[.slice none 0 0, .slice none 0 0]) 2 48 Tryz.underlying23 hi hz0 hz1 hz2 rfl (by decide) (.slice av J.length cv) J.length _ rfl HOW.out (some ⟨w6.heap.size, 0, none⟩) 1 1 [.slice a4 l.length c4', .slice none 0 0] rfl (src_new1 w6 75 _ rfl rfl rfl) (by intro u hu; simp at hu; rcases hu with rfl | rfl <;> rfl) (by simp only [maxLen]; omega) (by omega) HS7.out ?_; intro v8 w8 hown8 hgrow8 hat8; obtain ⟨a8, c8, rfl⟩ := own_form hown8; have HO8 := hid (HeadsV.pushV HA.out HU7.out rfl HX.out hown8 hgrow8 hat8); have hb8 : Below (bb + 1) w6 w8 := Below.grown ((Below.refl _ _).alloc (by omega) _) hgrow8 HS7.out (fun g e => (HLV.out g e).1); have H8 := hid (H6.out.lo hb8 (by omega)); have B8 := HB6.out.below hb8 (by omega); have hs8 := hb8.size; have HB8 := hid B8; clear hown8 hgrow8 hat8 hb8 b0 b1 b2 k0 k1 k2 lb; obtain ⟨b0, b1, b2, k0, k1, k2, lb⟩ := b_blk B8; clear B8)))
      go_roundw
      case rel => exact ⟨k + 1, sm + m, J ++ [(l, m)], s5, .slice a8 (J.length + 1) c8, by omega, by go_num, by go_num, by omega, hid (by rw [hsm.out, sizesN_app]), hid (by rw [List.length_append, hJl.out]; rfl), HeadsAt.tch HO8.out ((Tch.refl (fun b => b = bb ∨ w8.heap.size ≤ b) _).setCell (fun _ => .inl rfl) _) (by omega), H8.out.far (by dsimp only; omega) _, HB8.out.set 2 _, by simp [World.setCell]; omega, HOK5, hid (fun h => by rw [HSP1.out, if_pos h, show (p : Int) + (k : Int) + 1 = (p : Int) + ((k + 1 : Nat) : Int) by omega, show (1048576 : Int) - (sm : Int) - (m : Int) = 1048576 - ((sm + m : Nat) : Int) by omega]), hid (fun h => by rw [HSP1.out, if_neg h])⟩
      case measure => simp [intOf]; omega
     ·have dk : (st.k == (0 : Int)) = false := by simp [hk0]
      have dn : (st.k != (0 : Int)) = true := by simp [hk0]
      have hH0 := hsn.out hk0
      have hb4 := blkL_bad (B := B) hk0
      have hZ := HSP.out st [] (blkL B st).1 (blkL B st).2.1 (blkL B st).2.2 hH0 rfl
      have hBC := HBL.out wr HR.out.bel st hok.out
      generalize blkL B st = T at *
      obtain ⟨s6, D, q⟩ := T
      dsimp only at hb4 hBC hZ
      subst hb4
      have hu : (if sizesN [] = D.length then s6 else s6.fail 3 (s6.p : Int)) = s6 := by
       split
       ·rfl
       ·exact Rs.fail_of_bad hk0
      have HSPB := hid (hZ.1 s6 hu hk0)
      have HBC := hid hBC
      clear hsp hsn hH0 hk0 hZ hBC hu
      go_wp2_with fail
      refine HBC.out.mono ?_
      rintro r w5 ⟨v5, rfl, hv5, hb5⟩
      obtain ⟨a5, c5, hfv, _, _⟩ := sl_form hv5
      simp only [List.cons.injEq, and_true] at hfv
      subst hfv
      have h5 := HR.out.later hb5
      clear hv5 hb5 x0 x1 x2 x3 f0 f1 f2 f3 l0
      obtain ⟨y0, y1, y2, y3, g0, g1, g2, g3, l1⟩ := c_blk h5.z
      obtain ⟨z0, z1, z2, e0, e1, e2, lz⟩ := b_blk h5.t
      obtain ⟨t0, t1, t2, t3, q0, q1, q2, q3, lt⟩ := c_blk h5.c
      have hbe := h5.bel
      have hsz5 := h5.sz
      go_wp2
      rw [HSPB.out]
      refine bodyPost_ret (v := .tuple #[.agg #[.slice a B.length c, .int .i64 (s6.p : Int), .int .i64 s6.k, .int .i64 s6.f], .agg #[.int .u64 0, .int .u64 0, .slice none 0 0], .bool false]) (by simp [results, Tryz.results33, go_sem, y0, y1, y2, y3, l1, z0, z1, z2, lz]) rfl ⟨_, rfl, ⟨none, 0, rfl, Nat.le_refl _, Nat.zero_le _, .inl rfl⟩, by (repeat first | with_reducible (first | exact zR | assumption | apply zA | apply zS | apply zD | apply zN) | refine zT (by with_reducible assumption) ?_ | omega | simp <;> omega)⟩
    ·obtain rfl : k = n := by omega
     have d1 : decide ((k : Int) < (k : Int)) = false := decide_eq_false (by omega)
     by_cases hk0 : st.k = 0
     ·have dk : (st.k == (0 : Int)) = true := by simp [hk0]
      have hH0 := hsp.out hk0
      rw [Nat.sub_self] at hH0
      have hH1 : Rs.heads B k s3 (p : Int) 1048576 [] = (st, J) := hH0
      have hZ := HSP.out st J (blkL B st).1 (blkL B st).2.1 (blkL B st).2.2 hH1 rfl
      have hBC := HBL.out wr HR.out.bel st hok.out
      have hDl := blkL_len (B := B) st
      have hokT : (blkL B st).1.ok B.length := blkL_ok hok.out
      generalize blkL B st = T at *
      obtain ⟨s6, D, q⟩ := T
      dsimp only at hBC hZ hDl hokT
      have HBC := hid hBC
      have HOK6 := hid hokT
      have HF6 := hid (fun (W : World) => HFL.out W s6 st.p)
      clear hsp hsn hH0 hH1 hBC hokT hk0
      by_cases hsd : sizesN J = D.length
      ·have dl : ((D.length : Int) != (sm : Int)) = false := by have := hsm.out; simp; omega
       by_cases hk6 : s6.k = 0
       ·have dk6 : (s6.k == (0 : Int)) = true := by simp [hk6]
        have dn6 : (s6.k != (0 : Int)) = false := by simp [hk6]
        have HSPG := hid (hZ.2 hsd hk6)
        have hsmD : sm = D.length := by have := hsm.out; omega
        clear hZ hk6
        have HSD := hid hsd
        have HSMD := hid hsmD
        clear hsd hsmD
        go_wp2_with fail
        refine HBC.out.mono ?_
        rintro r w5 ⟨v5, rfl, hv5, hb5⟩
        obtain ⟨a5, c5, hfv, _, _⟩ := sl_form hv5
        simp only [List.cons.injEq, and_true] at hfv
        subst hfv
        have h5 := HR.out.later hb5
        have B5 := HBB.out.later hb5
        have HH5 := hid (HeadsAt.tch HH.out (Tch.of_later (F := fun b => b = w.heap.size ∨ wr.heap.size ≤ b) hb5) (by omega))
        have HV5 := hid hv5
        have hs5 := hb5.size
        clear hv5 hb5 x0 x1 x2 x3 f0 f1 f2 f3 l0 b0 b1 b2 k0 k1 k2 lb
        obtain ⟨x0, x1, x2, x3, f0, f1, f2, f3, l0⟩ := c_blk h5.c
        have hlv : ∀ b, (Value.slice av J.length cv).ownBlock = some b → bb + 1 ≤ b ∧ b < wr.heap.size := by
         obtain ⟨⟨cells0, OA0⟩, _⟩ := HH.out
         exact fun b e => own_lt OA0.1 b (by simpa using e)
        go_wp2_with fail
        have h9 := h5.set s6
        have B9 : Blk ((((w5.setCell ⟨w.heap.size, 0, none⟩ (.slice a B.length c)).setCell ⟨w.heap.size, 1, none⟩ (.int .i64 (s6.p : Int))).setCell ⟨w.heap.size, 2, none⟩ (.int .i64 s6.k)).setCell ⟨w.heap.size, 3, none⟩ (.int .i64 s6.f)) bb 25 #[.int .u64 (e : Int), .int .u64 (p : Int), .slice av J.length cv] := Blk.far (Blk.far (Blk.far (Blk.far B5 (by dsimp only; omega) _) (by dsimp only; omega) _) (by dsimp only; omega) _) (by dsimp only; omega) _
        have hT9 : Tch (fun b => b = w.heap.size ∨ w5.heap.size ≤ b) w5 ((((w5.setCell ⟨w.heap.size, 0, none⟩ (.slice a B.length c)).setCell ⟨w.heap.size, 1, none⟩ (.int .i64 (s6.p : Int))).setCell ⟨w.heap.size, 2, none⟩ (.int .i64 s6.k)).setCell ⟨w.heap.size, 3, none⟩ (.int .i64 s6.f)) := ((((Tch.refl _ _).setCell (fun _ => .inl rfl) _).setCell (fun _ => .inl rfl) _).setCell (fun _ => .inl rfl) _).setCell (fun _ => .inl rfl) _
        have HH9 := HeadsAt.tch HH5.out hT9 (by omega)
        have hz9 : (((((w5.setCell ⟨w.heap.size, 0, none⟩ (.slice a B.length c)).setCell ⟨w.heap.size, 1, none⟩ (.int .i64 (s6.p : Int))).setCell ⟨w.heap.size, 2, none⟩ (.int .i64 s6.k)).setCell ⟨w.heap.size, 3, none⟩ (.int .i64 s6.f))).heap.size = w5.heap.size := by simp [World.setCell]
        have hD9 : rBytes.r (fun q => bb + 1 ≤ q ∧ q < (((((w5.setCell ⟨w.heap.size, 0, none⟩ (.slice a B.length c)).setCell ⟨w.heap.size, 1, none⟩ (.int .i64 (s6.p : Int))).setCell ⟨w.heap.size, 2, none⟩ (.int .i64 s6.k)).setCell ⟨w.heap.size, 3, none⟩ (.int .i64 s6.f))).heap.size ∧ (Value.slice av J.length cv).ownBlock ≠ some q) (((((w5.setCell ⟨w.heap.size, 0, none⟩ (.slice a B.length c)).setCell ⟨w.heap.size, 1, none⟩ (.int .i64 (s6.p : Int))).setCell ⟨w.heap.size, 2, none⟩ (.int .i64 s6.k)).setCell ⟨w.heap.size, 3, none⟩ (.int .i64 s6.f))) [.slice a5 D.length c5] D := rBytes.mono (rBytes.keep HV5.out (w' := ((((w5.setCell ⟨w.heap.size, 0, none⟩ (.slice a B.length c)).setCell ⟨w.heap.size, 1, none⟩ (.int .i64 (s6.p : Int))).setCell ⟨w.heap.size, 2, none⟩ (.int .i64 s6.k)).setCell ⟨w.heap.size, 3, none⟩ (.int .i64 s6.f))) fun q hq => hT9.block q hq.2 (fun e => by have h1 : wr.heap.size ≤ q := hq.1; have h2 : q < w5.heap.size := hq.2; rcases e with e | e <;> omega)) fun q hq => ⟨by have h1 : wr.heap.size ≤ q := hq.1; omega, by have h2 : q < w5.heap.size := hq.2; omega, fun e => by have h1 : wr.heap.size ≤ q := hq.1; have := (hlv q e).2; omega⟩
        obtain ⟨⟨cells9, OA9⟩, hu9⟩ := HH9
        have OB9 : OwnElsF (fun b => bb + 1 ≤ b ∧ b < (((((w5.setCell ⟨w.heap.size, 0, none⟩ (.slice a B.length c)).setCell ⟨w.heap.size, 1, none⟩ (.int .i64 (s6.p : Int))).setCell ⟨w.heap.size, 2, none⟩ (.int .i64 s6.k)).setCell ⟨w.heap.size, 3, none⟩ (.int .i64 s6.f))).heap.size) rEntryW (bb + 1) 75 2 (((((w5.setCell ⟨w.heap.size, 0, none⟩ (.slice a B.length c)).setCell ⟨w.heap.size, 1, none⟩ (.int .i64 (s6.p : Int))).setCell ⟨w.heap.size, 2, none⟩ (.int .i64 s6.k)).setCell ⟨w.heap.size, 3, none⟩ (.int .i64 s6.f))) (.slice av J.length cv) (mixE J D 0) cells9 := by
         rw [mixE_zero]
         exact OwnElsF.mono OA9 fun b h => ⟨h.1, h.2.1⟩
        generalize ((((w5.setCell ⟨w.heap.size, 0, none⟩ (.slice a B.length c)).setCell ⟨w.heap.size, 1, none⟩ (.int .i64 (s6.p : Int))).setCell ⟨w.heap.size, 2, none⟩ (.int .i64 s6.k)).setCell ⟨w.heap.size, 3, none⟩ (.int .i64 s6.f)) = v9 at *
        clear OA9 hT9 B5 h5 x0 x1 x2 x3 f0 f1 f2 f3 l0 HH HR HBB HH5 HV5
        generalize hN9 : v9.heap.size = N9 at *
        have hv9 : bb + 1 ≤ N9 := by omega
        obtain ⟨wo, hwo⟩ : ∃ wo : World, wo = wr := ⟨_, rfl⟩
        subst hwo
        go_loopw [20, 21] (fun fr i wq => ∃ (k2 f : Nat), k2 ≤ k ∧ fr = .int .i64 (f : Int) ∧ Hid (f = sizesN (J.take k2)) ∧ f ≤ 1048576 ∧ i = .int .i64 k2 ∧ (∃ cells, OwnElsF (fun b => bb + 1 ≤ b ∧ b < N9) rEntryW (bb + 1) 75 2 wq (.slice av J.length cv) (mixE J D k2) cells) ∧ wq.ownsRow (bb + 1) 3 1 (.slice au J.length cu) J.length (sizeCells J) ∧ R25 w wq a c B s6 ∧ Blk wq bb 25 #[.int .u64 (e : Int), .int .u64 (p : Int), .slice av J.length cv] ∧ rBytes.r (fun q => bb + 1 ≤ q ∧ q < N9 ∧ (Value.slice av J.length cv).ownBlock ≠ some q) wq [.slice a5 D.length c5] D ∧ N9 ≤ wq.heap.size) (fun _ i _ => k - (intOf i).toNat)
        case atStart => exact ⟨0, 0, Nat.zero_le _, rfl, hid rfl, Nat.zero_le _, rfl, ⟨_, OB9⟩, hu9, h9, B9, hD9, by omega⟩
        case round =>
         obtain ⟨k2, f, hk2, rfl, hf, hf9, rfl, ⟨cells, OA⟩, hsz, hR, hBB, hD, hNq⟩ := hrel
         rcases Nat.lt_or_ge k2 k with hlt3 | hge3
         ·have e1 : decide ((k2 : Int) < (k : Int)) = true := decide_eq_true (by omega)
          have e1' : decide (k2 < k) = true := decide_eq_true hlt3
          have hkJ : k2 < J.length := by have := hJl.out; omega
          have i2 : (k2 : Int) < (J.length : Int) := by omega
          have hml := mixE_len J D k2 (by omega)
          obtain ⟨g, cg, cs, old, hv, hcs, hold, hcell, hfree, hgb, hgl⟩ := OwnElsF.cellAt OA (k := k2) (j := 1) (by omega) (by omega)
          rw [hml] at hv
          simp only [Value.slice.injEq] at hv
          obtain ⟨rfl, _, rfl⟩ := hv
          obtain ⟨gp, cp, hu, hcell2, hgpb⟩ := own_row_cell hsz (i := k2) (u := .int .i64 (J[k2].2 : Int)) (by simp [sizeCells, hkJ])
          simp only [Value.slice.injEq] at hu
          obtain ⟨rfl, _, rfl⟩ := hu
          have hgne : gp ≠ g := fun e => own_ne (W := wr) OA.1 hsz (by decide) g rfl (by simp [Value.ownBlock, e])
          have hel := OA.2.2.2 k2 cs (headE J[k2]) hcs (mixE_at J D k2 hkJ)
          obtain ⟨c1l, d1l, hcse, hl1, hl2⟩ := hel
          obtain ⟨aL, cL, rfl, _, _⟩ := sl_form (linksW_links hl1)
          obtain ⟨aD, cD, rfl, _, _⟩ := sl_form hl2
          subst hcse
          have hst := sizesN_take J k2 hkJ
          have hsl := sizesN_le J (k2 + 1)
          have hfm : f + J[k2].2 ≤ D.length := by have := hf.out; have := HSD.out; omega
          obtain ⟨A', c', hcut, hpart⟩ := cut_bytes hD (lo := f) (hi := f + J[k2].2) (by omega) hfm
          have hpart2 : rBytes.r (fun q => bb + 1 ≤ q ∧ q < N9 ∧ (Value.slice (some ⟨g, 0, none⟩) J.length cv).ownBlock ≠ some q) wr [.slice A' J[k2].2 c'] ((D.drop f).take J[k2].2) := by
           rw [Nat.add_sub_cancel_left] at hpart
           exact hpart
          have hcs2 : cells[k2]? = some [.slice aL J[k2].1.length cL, .slice aD 0 cD] := hcs
          have hx : rEntryW.r (fun b => (bb + 1 ≤ b ∧ b < N9) ∧ g ≠ b) wr [.slice aL J[k2].1.length cL, .slice A' J[k2].2 c'] ⟨J[k2].1, (D.drop f).take J[k2].2⟩ := by
           refine entryW_mk (rLinksW.mono hl1 fun b hb => ⟨hb.1, fun e => hb.2 (by rw [e]; rfl)⟩) (rBytes.mono hpart2 fun b hb => ⟨⟨hb.1, hb.2.1⟩, fun e => hb.2.2 (by rw [e]; rfl)⟩)
          have hmix := mixE_step J D k2 hkJ
          rw [← hf.out] at hmix
          have hx2 : rEntryW.r (fun b => (bb + 1 ≤ b ∧ b < N9) ∧ g ≠ b) wr (([.slice aL J[k2].1.length cL, .slice aD 0 cD] : List Value).set 1 (.slice A' J[k2].2 c')) (⟨J[k2].1, (D.drop f).take J[k2].2⟩ : Entry) := hx
          have OSET := OwnElsF.setAt OA (by omega) hcs2 (by omega) hx2
          rw [hmix] at OSET
          have hfn : f + J[k2].2 = sizesN (J.take (k2 + 1)) := by have := hf.out; omega
          have HFN2 := hid hfn
          have HOS := hid OSET
          have hfm9 : f + J[k2].2 ≤ 1048576 := by omega
          rw [Nat.add_sub_cancel_left, Int.natCast_add] at hcut
          have HR := hid hR
          have HBB := hid hBB
          have HSZ := hid hsz
          have HDQ := hid hD
          obtain ⟨b0, b1, b2, k0, k1, k3, lb⟩ := b_blk hBB
          clear hst hsl hpart hpart2 hcs2 hx hx2 hmix OSET hfn hl1 hl2 hcs hold hR hBB hsz hD OA hml hfm
          generalize J[k2].2 = m at *
          have t1 : 0 ≤ (f : Int) + (m : Int) := by omega
          have t2 : (f : Int) + (m : Int) ≤ 9223372036854775807 := by omega
          have HWL : Hid (IntKind.i64.wrap ((f : Int) + (m : Int)) = (f : Int) + (m : Int)) := hid (by rw [IntKind.wrap_i64]; omega)
          have hk1' : ∀ u, (wr.setCell ⟨g, k2 * 2 + 1, none⟩ u).cell? ⟨bb, 2, none⟩ = some (.slice (some ⟨g, 0, none⟩) J.length cv) := fun u => (World.cell?_setCell_far _ _ _ _ (by dsimp only; omega)).trans b2
          have hk2' : ∀ u, (wr.setCell ⟨g, k2 * 2 + 1, none⟩ u).cell? ⟨gp, k2, none⟩ = some (.int .i64 (m : Int)) := fun u => (World.cell?_setCell_far _ _ _ _ (by dsimp only; exact fun e => hgne e.symm)).trans hcell2
          go_wp2_with fail
          refine wp_region_held_drew (S := fun w' => w'.cell? ⟨bb, 2, none⟩ = some (.slice (some ⟨g, 0, none⟩) J.length cv) ∧ w'.cell? ⟨gp, k2, none⟩ = some (.int .i64 (m : Int))) (by kernel_rfl) ⟨b2, hcell2⟩ (fun hHeld => ?_)
          refine wpAnyH_take (i := 0) (oi := _) (v := ?_) rfl (by decide +kernel) (by decide +kernel) (by decide +kernel) (fun _ _ _ h => h) (Or.inl ⟨by rfl, ?_⟩) (by assumption) ?_
          rotate_left
          ·(intro w hSw; (try dsimp only at hSw); go_simp <;> with_reducible rfl)
          (try simp only [Act.put, List.setIfInBounds_toArray, List.set_cons_zero, List.set_cons_succ])
          refine wpAnyH_take (i := 1) (oi := _) (v := ?_) rfl (by decide +kernel) (by decide +kernel) (by decide +kernel) (fun _ _ _ h => h) (Or.inl ⟨by rfl, ?_⟩) (by assumption) ?_
          rotate_left
          ·(intro w hSw; (try dsimp only at hSw); go_simp <;> with_reducible rfl)
          (try simp only [Act.put, List.setIfInBounds_toArray, List.set_cons_zero, List.set_cons_succ])
          refine wpAnyH_take (i := 2) (oi := _) (v := ?_) rfl (by decide +kernel) (by decide +kernel) (by decide +kernel) (fun _ _ _ h => h) (Or.inl ⟨by rfl, ?_⟩) (by assumption) ?_
          rotate_left
          ·(intro w hSw; (try dsimp only at hSw); go_simp <;> with_reducible rfl)
          (try simp only [Act.put, List.setIfInBounds_toArray, List.set_cons_zero, List.set_cons_succ])
          refine wpAnyH_take (i := 3) (oi := _) (v := ?_) rfl (by decide +kernel) (by decide +kernel) (by decide +kernel) (fun _ _ _ h => h) (Or.inl ⟨by rfl, ?_⟩) (by assumption) ?_
          rotate_left
          ·(intro w hSw; (try dsimp only at hSw); go_simp <;> with_reducible rfl)
          (try simp only [Act.put, List.setIfInBounds_toArray, List.set_cons_zero, List.set_cons_succ])
          refine wpAnyH_take (i := 4) (oi := _) (v := ?_) rfl (by decide +kernel) (by decide +kernel) (by decide +kernel) (fun _ _ _ h => h) (Or.inl ⟨by rfl, ?_⟩) (by assumption) ?_
          rotate_left
          ·(intro w hSw; (try dsimp only at hSw); go_simp <;> with_reducible rfl)
          (try simp only [Act.put, List.setIfInBounds_toArray, List.set_cons_zero, List.set_cons_succ])
          refine wpAnyH_take (i := 5) (oi := _) (v := ?_) rfl (by decide +kernel) (by decide +kernel) (by decide +kernel) (fun _ _ _ h => h) (Or.inl ⟨by rfl, ?_⟩) (by assumption) ?_
          rotate_left
          ·(intro w hSw; (try dsimp only at hSw); go_simp <;> with_reducible rfl)
          (try simp only [Act.put, List.setIfInBounds_toArray, List.set_cons_zero, List.set_cons_succ])
          refine wpAnyH_take (i := 6) (oi := _) (v := ?_) rfl (by decide +kernel) (by decide +kernel) (by decide +kernel) (fun _ _ _ h => h) (Or.inl ⟨by rfl, ?_⟩) (by assumption) ?_
          rotate_left
          ·(intro w hSw; (try dsimp only at hSw); go_simp <;> with_reducible rfl)
          (try simp only [Act.put, List.setIfInBounds_toArray, List.set_cons_zero, List.set_cons_succ])
          refine wpAnyH_take (i := 7) (oi := _) (v := ?_) rfl (by decide +kernel) (by decide +kernel) (by decide +kernel) (fun _ _ _ h => h) (Or.inl ⟨by rfl, ?_⟩) (by assumption) ?_
          rotate_left
          ·(intro w hSw; (try dsimp only at hSw); go_simp <;> with_reducible rfl)
          (try simp only [Act.put, List.setIfInBounds_toArray, List.set_cons_zero, List.set_cons_succ])
          refine wpAnyH_take (i := 8) (oi := _) (v := ?_) rfl (by decide +kernel) (by decide +kernel) (by decide +kernel) (fun _ _ _ h => h) (Or.inl ⟨by rfl, ?_⟩) (by assumption) ?_
          rotate_left
          ·(intro w hSw; (try dsimp only at hSw); go_simp <;> with_reducible rfl)
          (try simp only [Act.put, List.setIfInBounds_toArray, List.set_cons_zero, List.set_cons_succ])
          refine wpAnyH_take (i := 9) (oi := _) (v := ?_) rfl (by decide +kernel) (by decide +kernel) (by decide +kernel) (fun _ _ _ h => h) (Or.inl ⟨by rfl, ?_⟩) (by assumption) ?_
          rotate_left
          ·(intro w hSw; (try dsimp only at hSw); go_simp <;> with_reducible rfl)
          (try simp only [Act.put, List.setIfInBounds_toArray, List.set_cons_zero, List.set_cons_succ])
          refine wpAnyH_take (i := 10) (oi := _) (v := ?_) rfl (by decide +kernel) (by decide +kernel) (by decide +kernel) (fun _ _ _ h => h) (Or.inl ⟨by rfl, ?_⟩) (by assumption) ?_
          rotate_left
          ·(intro w hSw; (try dsimp only at hSw); go_simp <;> with_reducible rfl)
          (try simp only [Act.put, List.setIfInBounds_toArray, List.set_cons_zero, List.set_cons_succ])
          rw [HWL.out]
          refine wpAnyH_take (i := 11) (oi := _) (v := ?_) rfl (by decide +kernel) (by decide +kernel) (by decide +kernel) (fun _ _ _ h => h) (Or.inl ⟨by rfl, ?_⟩) (by assumption) ?_
          rotate_left
          ·(intro w hSw; (try dsimp only at hSw); go_simp <;> with_reducible rfl)
          (try simp only [Act.put, List.setIfInBounds_toArray, List.set_cons_zero, List.set_cons_succ])
          refine wpAnyH_take (i := 12) (oi := _) (v := ?_) rfl (by decide +kernel) (by decide +kernel) (by decide +kernel) (fun _ _ _ h => h) (Or.inl ⟨by rfl, ?_⟩) (by assumption) ?_
          rotate_left
          ·(intro w hSw; (try dsimp only at hSw); go_simp <;> with_reducible rfl)
          (try simp only [Act.put, List.setIfInBounds_toArray, List.set_cons_zero, List.set_cons_succ])
          refine wpAnyH_take (i := 13) (oi := _) (v := ?_) rfl (by decide +kernel) (by decide +kernel) (by decide +kernel) (fun _ _ _ h => h) (Or.inl ⟨by rfl, ?_⟩) (by assumption) ?_
          rotate_left
          ·(intro w hSw; (try dsimp only at hSw); go_simp <;> with_reducible rfl)
          (try simp only [Act.put, List.setIfInBounds_toArray, List.set_cons_zero, List.set_cons_succ])
          have Y2 := hk2' (.slice A' m c')
          refine wpAnyH_ready (rs := [14]) (by decide +kernel) (by simp) ?_
          refine AllReadyH.cons (o := _) rfl (fun K hK => ?_) AllReadyH.nil
          go_simp
          refine hK.out _ _ ?_ (fun hHeld => ?_)
          ·exact ⟨hk1' _, hk2' _⟩
          clear hK K
          (try simp only [Act.put, List.setIfInBounds_toArray, List.set_cons_zero, List.set_cons_succ])
          (try simp only [List.getElem_toArray, List.getElem_cons_zero, List.getElem_cons_succ, Act.put, List.setIfInBounds_toArray, List.set_cons_zero, List.set_cons_succ])
          refine wpAnyH_done (by kernel_rfl) ?_ _
          have HSZ2 : Hid ((wr.setCell ⟨g, k2 * 2 + 1, none⟩ (.slice A' m c')).ownsRow (bb + 1) 3 1 (.slice (some ⟨gp, 0, none⟩) J.length cu) J.length (sizeCells J)) := hid (own_stays HSZ.out fun q hv _ => Below.heap_setCell _ _ _ _ (fun e => hgne (by
           simp only [Value.ownBlock, Option.some.injEq] at hv
           (try dsimp only at e)
           omega)))
          have HDQ2 : Hid (rBytes.r (fun q => bb + 1 ≤ q ∧ q < N9 ∧ (Value.slice (some ⟨g, 0, none⟩) J.length cv).ownBlock ≠ some q) (wr.setCell ⟨g, k2 * 2 + 1, none⟩ (.slice A' m c')) [.slice a5 D.length c5] D) := hid (rBytes.keep HDQ.out fun q hq => Below.heap_setCell _ _ _ _ (fun e => hq.2.2 (by rw [e]; rfl)))
          have HR2 := hid ((HR.out.far (p := ⟨g, k2 * 2 + 1, none⟩) (by dsimp only; omega) (.slice A' m c')).drew)
          have HBB2 := hid ((Blk.far HBB.out (p := ⟨g, k2 * 2 + 1, none⟩) (by dsimp only; omega) (.slice A' m c')).drew)
          have hND : N9 ≤ (wr.setCell ⟨g, k2 * 2 + 1, none⟩ (.slice A' m c')).drew.heap.size := by simpa [World.setCell] using hNq
          clear hk1' hk2' b0 b1 b2 k0 k1 k3 lb hcell hfree hcell2
          go_wp2_with fail
          go_roundw
          case rel => exact ⟨k2 + 1, f + m, by omega, by go_num, HFN2, hfm9, by go_num, ⟨_, OwnElsF.keep HOS.out (fun b _ => rfl) (fun b _ => rfl)⟩, own_stays HSZ2.out (fun b _ _ => rfl), HR2.out, HBB2.out, rBytes.keep HDQ2.out (fun b _ => rfl), hND⟩
          case measure => simp [intOf]; omega
         ·obtain rfl : k2 = k := by omega
          have e1 : decide ((k2 : Int) < (k2 : Int)) = false := decide_eq_false (by omega)
          have hmix : mixE J D k2 = dealE J D := by rw [← hJl.out, mixE_all]
          rw [hmix] at OA
          have HV := hid (OwnEls.sliceW (A := rEntryW) (Nat.le_refl _) ⟨cells, OwnElsF.to (w := wr) OA fun b h => ⟨h.1, by omega⟩⟩)
          have hbe := hR.bel
          have hsz := hR.sz
          obtain ⟨x0, x1, x2, x3, f0, f1, f2, f3, l0⟩ := c_blk hR.c
          obtain ⟨y0, y1, y2, y3, g0, g1, g2, g3, l1⟩ := c_blk hR.z
          obtain ⟨z0, z1, z2, t0, t1, t2, lz⟩ := b_blk hR.t
          obtain ⟨b0, b1, b2, k0, k1, k3, lb⟩ := b_blk hBB
          clear hmix OA hR hBB hD
          go_wp2_with fail
          go_region
          all_goals
           go_wp2
           rw [HSPG.out]
           refine bodyPost_ret (v := .tuple #[.agg #[.slice a B.length c, .int .i64 (s6.p : Int), .int .i64 s6.k, .int .i64 s6.f], .agg #[.int .u64 (e : Int), .int .u64 (p : Int), .slice av J.length cv], .bool q]) (by simp [results, Tryz.results33, go_sem, y0, y1, y2, y3, l1, z0, z1, z2, lz]) rfl ⟨_, rfl, ?_, by (repeat first | with_reducible (first | exact zR | assumption | apply zA | apply zS | apply zD | apply zN) | refine zT (by with_reducible assumption) ?_ | omega | simp <;> omega)⟩
           refine rEntriesW.mono (rEntriesW.keep HV.out fun q hq => ?_) fun q hq => ⟨by have := hq.1; omega, by have := hq.2; simp [World.setCell]; omega⟩
           have hq1 : bb + 1 ≤ q := hq.1
           have e2 : ∀ V : World, V.drew.heap[q]? = V.heap[q]? := fun V => rfl
           (repeat (first | rw [Below.heap_setCell _ _ _ _ (by dsimp only; omega)] | rw [e2]))
       ·have dk6 : (s6.k == (0 : Int)) = false := by simp [hk6]
        have dn6 : (s6.k != (0 : Int)) = true := by simp [hk6]
        have HSPB := hid (hZ.1 s6 (if_pos hsd) hk6)
        clear hZ hk6 hsd
        go_wp2_with fail
        refine HBC.out.mono ?_
        rintro r w5 ⟨v5, rfl, hv5, hb5⟩
        obtain ⟨a5, c5, hfv, _, _⟩ := sl_form hv5
        simp only [List.cons.injEq, and_true] at hfv
        subst hfv
        have h5 := HR.out.later hb5
        clear hv5 hb5 x0 x1 x2 x3 f0 f1 f2 f3 l0
        obtain ⟨y0, y1, y2, y3, g0, g1, g2, g3, l1⟩ := c_blk h5.z
        obtain ⟨z0, z1, z2, e0, e1, e2, lz⟩ := b_blk h5.t
        obtain ⟨t0, t1, t2, t3, q0, q1, q2, q3, lt⟩ := c_blk h5.c
        have hbe := h5.bel
        have hsz5 := h5.sz
        go_wp2
        rw [HSPB.out]
        refine bodyPost_ret (v := .tuple #[.agg #[.slice a B.length c, .int .i64 (s6.p : Int), .int .i64 s6.k, .int .i64 s6.f], .agg #[.int .u64 0, .int .u64 0, .slice none 0 0], .bool false]) (by simp [results, Tryz.results33, go_sem, y0, y1, y2, y3, l1, z0, z1, z2, lz]) rfl ⟨_, rfl, ⟨none, 0, rfl, Nat.le_refl _, Nat.zero_le _, .inl rfl⟩, by (repeat first | with_reducible (first | exact zR | assumption | apply zA | apply zS | apply zD | apply zN) | refine zT (by with_reducible assumption) ?_ | omega | simp <;> omega)⟩
      ·have dl : ((D.length : Int) != (sm : Int)) = true := by have := hsm.out; simp; omega
       have hfk : (s6.fail 3 (st.p : Int)).k ≠ 0 := Rs.fail_k (by omega)
       have HSPB := hid (hZ.1 _ (if_neg hsd) hfk)
       have dn7 : ((s6.fail 3 (st.p : Int)).k != (0 : Int)) = true := by simp [hfk]
       by_cases hk6 : s6.k = 0
       ·have dk6 : (s6.k == (0 : Int)) = true := by simp [hk6]
        clear hZ hk6 hsd hfk
        generalize s6.fail 3 (st.p : Int) = s7 at *
        go_wp2_with fail
        refine HBC.out.mono ?_
        rintro r w5 ⟨v5, rfl, hv5, hb5⟩
        obtain ⟨a5, c5, hfv, _, _⟩ := sl_form hv5
        simp only [List.cons.injEq, and_true] at hfv
        subst hfv
        have h5 := HR.out.later hb5
        clear hv5 hb5 x0 x1 x2 x3 f0 f1 f2 f3 l0
        obtain ⟨x0, x1, x2, x3, f0, f1, f2, f3, l0⟩ := c_blk h5.c
        go_wp2_with fail
        refine (HF6.out _).mono ?_
        rintro r w6 ⟨rfl, hb6⟩
        have h5' := (h5.set s6).later hb6
        clear h5 hb6 x0 x1 x2 x3 f0 f1 f2 f3 l0
        have h5 := h5'
        clear h5'
        obtain ⟨y0, y1, y2, y3, g0, g1, g2, g3, l1⟩ := c_blk h5.z
        obtain ⟨z0, z1, z2, e0, e1, e2, lz⟩ := b_blk h5.t
        obtain ⟨t0, t1, t2, t3, q0, q1, q2, q3, lt⟩ := c_blk h5.c
        have hbe := h5.bel
        have hsz5 := h5.sz
        go_wp2
        rw [HSPB.out]
        refine bodyPost_ret (v := .tuple #[.agg #[.slice a B.length c, .int .i64 (s7.p : Int), .int .i64 s7.k, .int .i64 s7.f], .agg #[.int .u64 0, .int .u64 0, .slice none 0 0], .bool false]) (by simp [results, Tryz.results33, go_sem, y0, y1, y2, y3, l1, z0, z1, z2, lz]) rfl ⟨_, rfl, ⟨none, 0, rfl, Nat.le_refl _, Nat.zero_le _, .inl rfl⟩, by (repeat first | with_reducible (first | exact zR | assumption | apply zA | apply zS | apply zD | apply zN) | refine zT (by with_reducible assumption) ?_ | omega | simp <;> omega)⟩
       ·have dk6 : (s6.k == (0 : Int)) = false := by simp [hk6]
        have hfid : s6.fail 3 (st.p : Int) = s6 := Rs.fail_of_bad hk6
        rw [hfid] at HSPB dn7
        have dn6 : (s6.k != (0 : Int)) = true := dn7
        clear hZ hk6 hsd hfk hfid
        go_wp2_with fail
        refine HBC.out.mono ?_
        rintro r w5 ⟨v5, rfl, hv5, hb5⟩
        obtain ⟨a5, c5, hfv, _, _⟩ := sl_form hv5
        simp only [List.cons.injEq, and_true] at hfv
        subst hfv
        have h5 := HR.out.later hb5
        clear hv5 hb5 x0 x1 x2 x3 f0 f1 f2 f3 l0
        obtain ⟨y0, y1, y2, y3, g0, g1, g2, g3, l1⟩ := c_blk h5.z
        obtain ⟨z0, z1, z2, e0, e1, e2, lz⟩ := b_blk h5.t
        obtain ⟨t0, t1, t2, t3, q0, q1, q2, q3, lt⟩ := c_blk h5.c
        have hbe := h5.bel
        have hsz5 := h5.sz
        go_wp2
        rw [HSPB.out]
        refine bodyPost_ret (v := .tuple #[.agg #[.slice a B.length c, .int .i64 (s6.p : Int), .int .i64 s6.k, .int .i64 s6.f], .agg #[.int .u64 0, .int .u64 0, .slice none 0 0], .bool false]) (by simp [results, Tryz.results33, go_sem, y0, y1, y2, y3, l1, z0, z1, z2, lz]) rfl ⟨_, rfl, ⟨none, 0, rfl, Nat.le_refl _, Nat.zero_le _, .inl rfl⟩, by (repeat first | with_reducible (first | exact zR | assumption | apply zA | apply zS | apply zD | apply zN) | refine zT (by with_reducible assumption) ?_ | omega | simp <;> omega)⟩
     ·have dk : (st.k == (0 : Int)) = false := by simp [hk0]
      have dn : (st.k != (0 : Int)) = true := by simp [hk0]
      have hH0 := hsn.out hk0
      have hb4 := blkL_bad (B := B) hk0
      have hZ := HSP.out st [] (blkL B st).1 (blkL B st).2.1 (blkL B st).2.2 hH0 rfl
      have hBC := HBL.out wr HR.out.bel st hok.out
      generalize blkL B st = T at *
      obtain ⟨s6, D, q⟩ := T
      dsimp only at hb4 hBC hZ
      subst hb4
      have hu : (if sizesN [] = D.length then s6 else s6.fail 3 (s6.p : Int)) = s6 := by
       split
       ·rfl
       ·exact Rs.fail_of_bad hk0
      have HSPB := hid (hZ.1 s6 hu hk0)
      have HBC := hid hBC
      clear hsp hsn hH0 hk0 hZ hBC hu
      go_wp2_with fail
      refine HBC.out.mono ?_
      rintro r w5 ⟨v5, rfl, hv5, hb5⟩
      obtain ⟨a5, c5, hfv, _, _⟩ := sl_form hv5
      simp only [List.cons.injEq, and_true] at hfv
      subst hfv
      have h5 := HR.out.later hb5
      clear hv5 hb5 x0 x1 x2 x3 f0 f1 f2 f3 l0
      obtain ⟨y0, y1, y2, y3, g0, g1, g2, g3, l1⟩ := c_blk h5.z
      obtain ⟨z0, z1, z2, e0, e1, e2, lz⟩ := b_blk h5.t
      obtain ⟨t0, t1, t2, t3, q0, q1, q2, q3, lt⟩ := c_blk h5.c
      have hbe := h5.bel
      have hsz5 := h5.sz
      go_wp2
      rw [HSPB.out]
      refine bodyPost_ret (v := .tuple #[.agg #[.slice a B.length c, .int .i64 (s6.p : Int), .int .i64 s6.k, .int .i64 s6.f], .agg #[.int .u64 0, .int .u64 0, .slice none 0 0], .bool false]) (by simp [results, Tryz.results33, go_sem, y0, y1, y2, y3, l1, z0, z1, z2, lz]) rfl ⟨_, rfl, ⟨none, 0, rfl, Nat.le_refl _, Nat.zero_le _, .inl rfl⟩, by (repeat first | with_reducible (first | exact zR | assumption | apply zA | apply zS | apply zD | apply zN) | refine zT (by with_reducible assumption) ?_ | omega | simp <;> omega)⟩
  ·have HFT := hid (fun (W : World) => (by have := ref25_fits (p : Int) n W hp1 (by omega); rw [Bool.eq_false_iff.2 hfit] at this; exact this : Calls Tryz.prog 83 #[.int .u64 (p : Int), .int .i64 n] W fun r w' => r = .returned (.bool false) ∧ W = w'))
   have hk4 : (s3.fail 3 (s2.p : Int)).k ≠ 0 := Rs.fail_k (by omega)
   have HSP := hid (HOF.out.1 _ (if_neg hfit) hk4)
   have HOK4 := hid (Rs.fail_ok HOK3.out (c := 3) (at_ := (s2.p : Int)) (by omega))
   have HF4 := hid (fun (W : World) => HFL.out W s3 s2.p)
   have hb4 := blkL_bad (B := B) hk4
   clear hfit hk3 HOF
   generalize s3.fail 3 (s2.p : Int) = s4 at *
   go_enter Tryz.func33, Tryz.ntmps33
   go_wp2_with fail
   have h0 : R25 w (((w.alloc (.cells #[.slice a B.length c, .int .i64 (s.p : Int), .int .i64 s.k, .int .i64 s.f] 50)).alloc (.cells #[.slice none 0 0, .int .i64 0, .int .i64 0, .int .i64 0] 50)).alloc (.cells #[.int .u64 0, .int .u64 0, .slice none 0 0] 25)) a c B s := ⟨by (repeat first | assumption | exact kW (by first | (simp; done) | (simp; omega)) | apply kA | apply kD | apply kN | apply kF | simp <;> omega), by (repeat first | assumption | exact kW (by first | (simp; done) | (simp; omega)) | apply kA | apply kD | apply kN | apply kF | simp <;> omega), by (repeat first | assumption | exact kW (by first | (simp; done) | (simp; omega)) | apply kA | apply kD | apply kN | apply kF | simp <;> omega), by (repeat first | with_reducible (first | exact zR | assumption | apply zA | apply zS | apply zD | apply zN) | refine zT (by with_reducible assumption) ?_ | omega | simp <;> omega), by simp⟩
   generalize (((w.alloc (.cells #[.slice a B.length c, .int .i64 (s.p : Int), .int .i64 s.k, .int .i64 s.f] 50)).alloc (.cells #[.slice none 0 0, .int .i64 0, .int .i64 0, .int .i64 0] 50)).alloc (.cells #[.int .u64 0, .int .u64 0, .slice none 0 0] 25)) = v0 at *
   refine (HEP.out v0 h0.bel).mono ?_
   rintro r w1 ⟨rfl, hb1⟩
   have h1 := h0.later hb1
   obtain ⟨x0, x1, x2, x3, f0, f1, f2, f3, l0⟩ := c_blk h1.c
   clear h0 hb1
   go_wp2_with fail
   have h1' := h1.set s1
   generalize ((((w1.setCell ⟨w.heap.size, 0, none⟩ (.slice a B.length c)).setCell ⟨w.heap.size, 1, none⟩ (.int .i64 (s1.p : Int))).setCell ⟨w.heap.size, 2, none⟩ (.int .i64 s1.k)).setCell ⟨w.heap.size, 3, none⟩ (.int .i64 s1.f)) = v1 at *
   refine (HPO.out v1 h1'.bel).mono ?_
   rintro r w2 ⟨rfl, hb2⟩
   have h2 := h1'.later hb2
   clear h1 h1' hb2 x0 x1 x2 x3 f0 f1 f2 f3 l0
   obtain ⟨x0, x1, x2, x3, f0, f1, f2, f3, l0⟩ := c_blk h2.c
   go_wp2_with fail
   have h2' := h2.set s2
   generalize ((((w2.setCell ⟨w.heap.size, 0, none⟩ (.slice a B.length c)).setCell ⟨w.heap.size, 1, none⟩ (.int .i64 (s2.p : Int))).setCell ⟨w.heap.size, 2, none⟩ (.int .i64 s2.k)).setCell ⟨w.heap.size, 3, none⟩ (.int .i64 s2.f)) = v2 at *
   refine (HIT.out v2 h2'.bel).mono ?_
   rintro r w3 ⟨rfl, hb3⟩
   have h3 := h2'.later hb3
   clear h2 h2' hb3 x0 x1 x2 x3 f0 f1 f2 f3 l0
   obtain ⟨x0, x1, x2, x3, f0, f1, f2, f3, l0⟩ := c_blk h3.c
   go_wp2_with fail
   have h3' := h3.set s3
   generalize ((((w3.setCell ⟨w.heap.size, 0, none⟩ (.slice a B.length c)).setCell ⟨w.heap.size, 1, none⟩ (.int .i64 (s3.p : Int))).setCell ⟨w.heap.size, 2, none⟩ (.int .i64 s3.k)).setCell ⟨w.heap.size, 3, none⟩ (.int .i64 s3.f)) = v3 at *
   refine (HFT.out v3).mono ?_
   rintro r w5 ⟨rfl, rfl⟩
   clear h3 x0 x1 x2 x3 f0 f1 f2 f3 l0
   obtain ⟨x0, x1, x2, x3, f0, f1, f2, f3, l0⟩ := c_blk h3'.c
   go_wp2_with fail
   refine (HF4.out _).mono ?_
   rintro r w6 ⟨rfl, hb6⟩
   have h6 := h3'.later hb6
   clear x0 x1 x2 x3 f0 f1 f2 f3 l0
   obtain ⟨x0, x1, x2, x3, f0, f1, f2, f3, l0⟩ := c_blk h6.c
   have hv := h6.set s4
   clear h6 h3' hb6
   go_wp2_with fail
   have h7 : R25 w (((((w6.setCell ⟨w.heap.size, 0, none⟩ (.slice a B.length c)).setCell ⟨w.heap.size, 1, none⟩ (.int .i64 (s4.p : Int))).setCell ⟨w.heap.size, 2, none⟩ (.int .i64 s4.k)).setCell ⟨w.heap.size, 3, none⟩ (.int .i64 s4.f)).alloc (.cells #[.int .u64 (e : Int), .int .u64 (p : Int), .slice none 0 0] 25)) a c B s4 := hv.later (by (repeat first | with_reducible (first | exact zR | assumption | apply zA | apply zS | apply zD | apply zN) | refine zT (by with_reducible assumption) ?_ | omega | simp <;> omega))
   generalize (((((w6.setCell ⟨w.heap.size, 0, none⟩ (.slice a B.length c)).setCell ⟨w.heap.size, 1, none⟩ (.int .i64 (s4.p : Int))).setCell ⟨w.heap.size, 2, none⟩ (.int .i64 s4.k)).setCell ⟨w.heap.size, 3, none⟩ (.int .i64 s4.f)).alloc (.cells #[.int .u64 (e : Int), .int .u64 (p : Int), .slice none 0 0] 25)) = v7 at *
   have d4 : (s4.k == (0 : Int)) = false := by simp [hk4]
   have dn : (s4.k != (0 : Int)) = true := by simp [hk4]
   clear hk4
   go_loopw [12, 13, 14] (fun u sum i wr => u = .slice none 0 0 ∧ sum = .int .i64 0 ∧ i = .int .i64 0 ∧ wr = v7) (fun _ _ _ _ => 0)
   case atStart => exact ⟨rfl, rfl, rfl, rfl⟩
   case round =>
    obtain ⟨rfl, rfl, rfl, rfl⟩ := hrel
    obtain ⟨x0, x1, x2, x3, f0, f1, f2, f3, l0⟩ := c_blk h7.c
    have hBC := HBL.out wr h7.bel s4 HOK4.out
    generalize blkL B s4 = T at *
    obtain ⟨s6, D, q⟩ := T
    dsimp only at hb4 hBC
    subst hb4
    have HBC := hid hBC
    clear hBC
    by_cases hn0 : 0 < n
    ·have d1 : decide ((0 : Int) < (n : Int)) = true := decide_eq_true (by omega)
     have d1' : decide (0 < n) = true := decide_eq_true hn0
     clear hn0
     go_wp2_with fail
     refine HBC.out.mono ?_
     rintro r w5 ⟨v5, rfl, hv5, hb5⟩
     obtain ⟨a5, c5, hfv, _, _⟩ := sl_form hv5
     simp only [List.cons.injEq, and_true] at hfv
     subst hfv
     have h5 := h7.later hb5
     clear hv5 hb5 x0 x1 x2 x3 f0 f1 f2 f3 l0
     obtain ⟨y0, y1, y2, y3, g0, g1, g2, g3, l1⟩ := c_blk h5.z
     obtain ⟨z0, z1, z2, e0, e1, e2, lz⟩ := b_blk h5.t
     obtain ⟨t0, t1, t2, t3, q0, q1, q2, q3, lt⟩ := c_blk h5.c
     have hbe := h5.bel
     have hsz5 := h5.sz
     go_wp2
     rw [HSP.out]
     refine bodyPost_ret (v := .tuple #[.agg #[.slice a B.length c, .int .i64 (s6.p : Int), .int .i64 s6.k, .int .i64 s6.f], .agg #[.int .u64 0, .int .u64 0, .slice none 0 0], .bool false]) (by simp [results, Tryz.results33, go_sem, y0, y1, y2, y3, l1, z0, z1, z2, lz]) rfl ⟨_, rfl, ⟨none, 0, rfl, Nat.le_refl _, Nat.zero_le _, .inl rfl⟩, by (repeat first | with_reducible (first | exact zR | assumption | apply zA | apply zS | apply zD | apply zN) | refine zT (by with_reducible assumption) ?_ | omega | simp <;> omega)⟩
    ·have d1 : decide ((0 : Int) < (n : Int)) = false := decide_eq_false (by omega)
     have d1' : decide (0 < n) = false := decide_eq_false hn0
     clear hn0
     go_wp2_with fail
     refine HBC.out.mono ?_
     rintro r w5 ⟨v5, rfl, hv5, hb5⟩
     obtain ⟨a5, c5, hfv, _, _⟩ := sl_form hv5
     simp only [List.cons.injEq, and_true] at hfv
     subst hfv
     have h5 := h7.later hb5
     clear hv5 hb5 x0 x1 x2 x3 f0 f1 f2 f3 l0
     obtain ⟨y0, y1, y2, y3, g0, g1, g2, g3, l1⟩ := c_blk h5.z
     obtain ⟨z0, z1, z2, e0, e1, e2, lz⟩ := b_blk h5.t
     obtain ⟨t0, t1, t2, t3, q0, q1, q2, q3, lt⟩ := c_blk h5.c
     have hbe := h5.bel
     have hsz5 := h5.sz
     go_wp2
     rw [HSP.out]
     refine bodyPost_ret (v := .tuple #[.agg #[.slice a B.length c, .int .i64 (s6.p : Int), .int .i64 s6.k, .int .i64 s6.f], .agg #[.int .u64 0, .int .u64 0, .slice none 0 0], .bool false]) (by simp [results, Tryz.results33, go_sem, y0, y1, y2, y3, l1, z0, z1, z2, lz]) rfl ⟨_, rfl, ⟨none, 0, rfl, Nat.le_refl _, Nat.zero_le _, .inl rfl⟩, by (repeat first | with_reducible (first | exact zR | assumption | apply zA | apply zS | apply zD | apply zN) | refine zT (by with_reducible assumption) ?_ | omega | simp <;> omega)⟩
 ·have d3 : (s3.k == (0 : Int)) = false := by simp [hk3]
  have hst : (if fitsR (p : Int) n = true then s3 else s3.fail 3 (s2.p : Int)) = s3 := by
   split
   ·rfl
   ·exact Rs.fail_of_bad hk3
  have HSP := hid (HOF.out.1 _ hst hk3)
  have hb4 := blkL_bad (B := B) hk3
  have HOK4 := HOK3
  have hk4 := hk3
  clear hk3 HOF hst
  go_enter Tryz.func33, Tryz.ntmps33
  go_wp2_with fail
  have h0 : R25 w (((w.alloc (.cells #[.slice a B.length c, .int .i64 (s.p : Int), .int .i64 s.k, .int .i64 s.f] 50)).alloc (.cells #[.slice none 0 0, .int .i64 0, .int .i64 0, .int .i64 0] 50)).alloc (.cells #[.int .u64 0, .int .u64 0, .slice none 0 0] 25)) a c B s := ⟨by (repeat first | assumption | exact kW (by first | (simp; done) | (simp; omega)) | apply kA | apply kD | apply kN | apply kF | simp <;> omega), by (repeat first | assumption | exact kW (by first | (simp; done) | (simp; omega)) | apply kA | apply kD | apply kN | apply kF | simp <;> omega), by (repeat first | assumption | exact kW (by first | (simp; done) | (simp; omega)) | apply kA | apply kD | apply kN | apply kF | simp <;> omega), by (repeat first | with_reducible (first | exact zR | assumption | apply zA | apply zS | apply zD | apply zN) | refine zT (by with_reducible assumption) ?_ | omega | simp <;> omega), by simp⟩
  generalize (((w.alloc (.cells #[.slice a B.length c, .int .i64 (s.p : Int), .int .i64 s.k, .int .i64 s.f] 50)).alloc (.cells #[.slice none 0 0, .int .i64 0, .int .i64 0, .int .i64 0] 50)).alloc (.cells #[.int .u64 0, .int .u64 0, .slice none 0 0] 25)) = v0 at *
  refine (HEP.out v0 h0.bel).mono ?_
  rintro r w1 ⟨rfl, hb1⟩
  have h1 := h0.later hb1
  obtain ⟨x0, x1, x2, x3, f0, f1, f2, f3, l0⟩ := c_blk h1.c
  clear h0 hb1
  go_wp2_with fail
  have h1' := h1.set s1
  generalize ((((w1.setCell ⟨w.heap.size, 0, none⟩ (.slice a B.length c)).setCell ⟨w.heap.size, 1, none⟩ (.int .i64 (s1.p : Int))).setCell ⟨w.heap.size, 2, none⟩ (.int .i64 s1.k)).setCell ⟨w.heap.size, 3, none⟩ (.int .i64 s1.f)) = v1 at *
  refine (HPO.out v1 h1'.bel).mono ?_
  rintro r w2 ⟨rfl, hb2⟩
  have h2 := h1'.later hb2
  clear h1 h1' hb2 x0 x1 x2 x3 f0 f1 f2 f3 l0
  obtain ⟨x0, x1, x2, x3, f0, f1, f2, f3, l0⟩ := c_blk h2.c
  go_wp2_with fail
  have h2' := h2.set s2
  generalize ((((w2.setCell ⟨w.heap.size, 0, none⟩ (.slice a B.length c)).setCell ⟨w.heap.size, 1, none⟩ (.int .i64 (s2.p : Int))).setCell ⟨w.heap.size, 2, none⟩ (.int .i64 s2.k)).setCell ⟨w.heap.size, 3, none⟩ (.int .i64 s2.f)) = v2 at *
  refine (HIT.out v2 h2'.bel).mono ?_
  rintro r w3 ⟨rfl, hb3⟩
  have h3 := h2'.later hb3
  clear h2 h2' hb3 x0 x1 x2 x3 f0 f1 f2 f3 l0
  obtain ⟨x0, x1, x2, x3, f0, f1, f2, f3, l0⟩ := c_blk h3.c
  have hv := h3.set s3
  go_wp2_with fail
  have h7 : R25 w (((((w3.setCell ⟨w.heap.size, 0, none⟩ (.slice a B.length c)).setCell ⟨w.heap.size, 1, none⟩ (.int .i64 (s3.p : Int))).setCell ⟨w.heap.size, 2, none⟩ (.int .i64 s3.k)).setCell ⟨w.heap.size, 3, none⟩ (.int .i64 s3.f)).alloc (.cells #[.int .u64 (e : Int), .int .u64 (p : Int), .slice none 0 0] 25)) a c B s3 := hv.later (by (repeat first | with_reducible (first | exact zR | assumption | apply zA | apply zS | apply zD | apply zN) | refine zT (by with_reducible assumption) ?_ | omega | simp <;> omega))
  generalize (((((w3.setCell ⟨w.heap.size, 0, none⟩ (.slice a B.length c)).setCell ⟨w.heap.size, 1, none⟩ (.int .i64 (s3.p : Int))).setCell ⟨w.heap.size, 2, none⟩ (.int .i64 s3.k)).setCell ⟨w.heap.size, 3, none⟩ (.int .i64 s3.f)).alloc (.cells #[.int .u64 (e : Int), .int .u64 (p : Int), .slice none 0 0] 25)) = v7 at *
  have d4 : (s3.k == (0 : Int)) = false := by simp [hk4]
  have dn : (s3.k != (0 : Int)) = true := by simp [hk4]
  clear hk4
  go_loopw [12, 13, 14] (fun u sum i wr => u = .slice none 0 0 ∧ sum = .int .i64 0 ∧ i = .int .i64 0 ∧ wr = v7) (fun _ _ _ _ => 0)
  case atStart => exact ⟨rfl, rfl, rfl, rfl⟩
  case round =>
   obtain ⟨rfl, rfl, rfl, rfl⟩ := hrel
   obtain ⟨x0, x1, x2, x3, f0, f1, f2, f3, l0⟩ := c_blk h7.c
   have hBC := HBL.out wr h7.bel s3 HOK4.out
   generalize blkL B s3 = T at *
   obtain ⟨s6, D, q⟩ := T
   dsimp only at hb4 hBC
   subst hb4
   have HBC := hid hBC
   clear hBC
   by_cases hn0 : 0 < n
   ·have d1 : decide ((0 : Int) < (n : Int)) = true := decide_eq_true (by omega)
    have d1' : decide (0 < n) = true := decide_eq_true hn0
    clear hn0
    go_wp2_with fail
    refine HBC.out.mono ?_
    rintro r w5 ⟨v5, rfl, hv5, hb5⟩
    obtain ⟨a5, c5, hfv, _, _⟩ := sl_form hv5
    simp only [List.cons.injEq, and_true] at hfv
    subst hfv
    have h5 := h7.later hb5
    clear hv5 hb5 x0 x1 x2 x3 f0 f1 f2 f3 l0
    obtain ⟨y0, y1, y2, y3, g0, g1, g2, g3, l1⟩ := c_blk h5.z
    obtain ⟨z0, z1, z2, e0, e1, e2, lz⟩ := b_blk h5.t
    obtain ⟨t0, t1, t2, t3, q0, q1, q2, q3, lt⟩ := c_blk h5.c
    have hbe := h5.bel
    have hsz5 := h5.sz
    go_wp2
    rw [HSP.out]
    refine bodyPost_ret (v := .tuple #[.agg #[.slice a B.length c, .int .i64 (s6.p : Int), .int .i64 s6.k, .int .i64 s6.f], .agg #[.int .u64 0, .int .u64 0, .slice none 0 0], .bool false]) (by simp [results, Tryz.results33, go_sem, y0, y1, y2, y3, l1, z0, z1, z2, lz]) rfl ⟨_, rfl, ⟨none, 0, rfl, Nat.le_refl _, Nat.zero_le _, .inl rfl⟩, by (repeat first | with_reducible (first | exact zR | assumption | apply zA | apply zS | apply zD | apply zN) | refine zT (by with_reducible assumption) ?_ | omega | simp <;> omega)⟩
   ·have d1 : decide ((0 : Int) < (n : Int)) = false := decide_eq_false (by omega)
    have d1' : decide (0 < n) = false := decide_eq_false hn0
    clear hn0
    go_wp2_with fail
    refine HBC.out.mono ?_
    rintro r w5 ⟨v5, rfl, hv5, hb5⟩
    obtain ⟨a5, c5, hfv, _, _⟩ := sl_form hv5
    simp only [List.cons.injEq, and_true] at hfv
    subst hfv
    have h5 := h7.later hb5
    clear hv5 hb5 x0 x1 x2 x3 f0 f1 f2 f3 l0
    obtain ⟨y0, y1, y2, y3, g0, g1, g2, g3, l1⟩ := c_blk h5.z
    obtain ⟨z0, z1, z2, e0, e1, e2, lz⟩ := b_blk h5.t
    obtain ⟨t0, t1, t2, t3, q0, q1, q2, q3, lt⟩ := c_blk h5.c
    have hbe := h5.bel
    have hsz5 := h5.sz
    go_wp2
    rw [HSP.out]
    refine bodyPost_ret (v := .tuple #[.agg #[.slice a B.length c, .int .i64 (s6.p : Int), .int .i64 s6.k, .int .i64 s6.f], .agg #[.int .u64 0, .int .u64 0, .slice none 0 0], .bool false]) (by simp [results, Tryz.results33, go_sem, y0, y1, y2, y3, l1, z0, z1, z2, lz]) rfl ⟨_, rfl, ⟨none, 0, rfl, Nat.le_refl _, Nat.zero_le _, .inl rfl⟩, by (repeat first | with_reducible (first | exact zR | assumption | apply zA | apply zS | apply zD | apply zN) | refine zT (by with_reducible assumption) ?_ | omega | simp <;> omega)⟩
end Go.Proofs.YtkipiefcnjfdjaaGreat
