/- What a segment of the version 1 becomes, by the program. -/
import Derived.Test.YtlbchenleimopaaStV
namespace Go.Proofs.Ytlbchenleimopaa
open Go.RowKit Go.Bs
set_option linter.unusedVariables false
set_option linter.unusedSimpArgs false

theorem fresh_own {w w' : World} {base : Nat} {e : TypeId} {sz : Nat} {v : Value} {n s b : Nat} {xs : List Value} (hs : s ≤ w.heap.size) (h : w.ownsRow base e sz v n xs) (hb : Fresh w.drew w' b) {o : Obj} : s ≤ b ∧ b < (w'.alloc o).heap.size ∧ v.ownBlock ≠ some b := by
  obtain ⟨h1, h2⟩ := hb
  have h1' : w.heap.size ≤ b := h1
  exact ⟨by omega, by simp; omega, fun e => by have := (h.lt b e).2; omega⟩

set_option maxHeartbeats 800000 in
theorem upgrade_sized (e : Int) (n c : Nat) (a : Option Addr) (w : World) (hn : n ≤ 1000000000000) :
    Calls Try.prog 24 #[.agg #[.int .u64 e, .slice a n c]] w fun r w' => r = .returned (if n ≤ 16 then .tuple #[.agg #[.int .u64 e, .slice a n c], .int .i64 0] else .tuple #[.agg #[.int .u64 0, .slice none 0 0], .int .i64 15]) ∧ Below w.heap.size w w' := by
  by_cases h : n ≤ 16
  · have d1 : decide ((16 : Int) < (n : Int)) = false := by simp; omega
    rw [if_pos h]
    go_enter Try.func24, Try.ntmps24
    go_wp2
    exact bodyPost_ret (v := .tuple #[.agg #[.int .u64 e, .slice a n c], .int .i64 0]) (by simp [results, Try.results24, go_sem]) rfl ⟨rfl, by (repeat (first | exact Below.refl _ _ | assumption | (refine below_alloc ?_ _) | (refine Below.setCell ?_ (by first | omega | (simp; done) | (simp; omega)) _) | (refine Below.drew ?_) | (refine below_drewN ?_ _) | (refine below_then (by assumption) ?_)))⟩
  · have d1 : decide ((16 : Int) < (n : Int)) = true := by simp; omega
    rw [if_neg h]
    go_enter Try.func24, Try.ntmps24
    go_wp2
    exact bodyPost_ret (v := .tuple #[.agg #[.int .u64 0, .slice none 0 0], .int .i64 15]) (by simp [results, Try.results24, go_sem]) rfl ⟨rfl, by (repeat (first | exact Below.refl _ _ | assumption | (refine below_alloc ?_ _) | (refine Below.setCell ?_ (by first | omega | (simp; done) | (simp; omega)) _) | (refine Below.drew ?_) | (refine below_drewN ?_ _) | (refine below_then (by assumption) ?_)))⟩

set_option maxRecDepth 100000 in
set_option maxHeartbeats 3200000 in
theorem upgrade_up1 (u : Seg1) (a : Option Addr) (n c : Nat) (w : World) (h0 : 0 ≤ u.epoch ∧ u.epoch ≤ 18446744073709551615) (h1 : 0 ≤ u.base ∧ u.base + u.entries.length ≤ 4611686018427387904) (hl : rOlds.r (· < w.heap.size) w [.slice a n c] u.entries) (hlen : u.entries.length ≤ 400) (hd : ∀ x ∈ u.entries, x.data.length ≤ 1000000000000) :
    Calls Try.prog 25 #[.agg #[.int .u64 u.epoch, .int .u64 u.base, .slice a n c]] w fun r w' => ∃ v, r = .returned (.agg #[.int .u64 u.epoch, v]) ∧ rBatches.r (Fresh w w') w' [v] (upL u.epoch u.base u.entries) ∧ Below w.heap.size w w' := by
  obtain ⟨rfl, hm, _, _⟩ := sl_len hl
  obtain ⟨ep, bs, l⟩ := u
  dsimp only at *
  obtain ⟨i0, hi, hz0, hz1, hz2⟩ := info_parts infoBatch
  obtain ⟨j0, hj, hy0, hy1, hy2⟩ := info_parts infoEntry
  have HL := hid hl; clear hl
  have HD := hid hd; clear hd
  go_enter Try.func25, Try.ntmps25
  go_wp2_with fail
  refine wp_world (fun W => Below w.heap.size w W ∧ W.heap.size = w.heap.size + 3 ∧ W.cell? ⟨w.heap.size, 0, none⟩ = some (.int .u64 ep) ∧ W.cell? ⟨w.heap.size, 1, none⟩ = some (.int .u64 bs) ∧ W.cell? ⟨w.heap.size, 2, none⟩ = some (.slice a l.length c) ∧
    Blk W (w.heap.size + 1) 30 #[.int .u64 0, .slice none 0 0] ∧ Blk W (w.heap.size + 2) 30 #[.int .u64 ep, .slice none 0 0]) ⟨by (repeat (first | exact Below.refl _ _ | assumption | (refine below_alloc ?_ _) | (refine Below.setCell ?_ (by first | omega | (simp; done) | (simp; omega)) _) | (refine Below.drew ?_) | (refine below_drewN ?_ _) | (refine below_then (by assumption) ?_))), by simp, by go_simp, by go_simp, by go_simp, by (repeat (first | assumption | exact Blk.newAt _ _ _ (by first | (simp; done) | (simp; omega)) | refine Blk.alloc ?_ _ | refine Blk.drew ?_ | refine Blk.drewN ?_ _ | refine Blk.far ?_ (by first | (simp; done) | (simp; omega)) _)), by (repeat (first | assumption | exact Blk.newAt _ _ _ (by first | (simp; done) | (simp; omega)) | refine Blk.alloc ?_ _ | refine Blk.drew ?_ | refine Blk.drewN ?_ _ | refine Blk.far ?_ (by first | (simp; done) | (simp; omega)) _))⟩ ?_
  intro W ⟨hbW, hzW, q0, q1, q2, q3, q4⟩
  have HQ3 := hid q3
  clear q3
  have lt2 : w.heap.size + 2 < W.heap.size := by omega
  go_loopw [13] (fun i wr => ∃ (k : Nat) (T : List Old) (a9 : Option Addr) (n9 c9 : Nat), k ≤ l.length ∧ i = .int .i64 k ∧ Hid (l.take k = T) ∧ Hid (T.length = k) ∧ wr.cell? ⟨w.heap.size + 2, 1, none⟩ = some (.slice a9 n9 c9) ∧ wr.cell? ⟨w.heap.size + 2, 0, none⟩ = some (.int .u64 ep) ∧ wr.frozen? ⟨w.heap.size + 2, 1, none⟩ = false ∧ Hid (Bld W.heap.size 58 41 wr (.slice a9 n9 c9) (upL ep bs T)) ∧ Below (w.heap.size + 2) W wr) (fun i _ => l.length - (intOf i).toNat)
  case atStart => exact ⟨0, [], none, 0, 0, Nat.zero_le _, rfl, hid rfl, hid rfl, q4.cell 1, q4.cell 0, q4.free 1, hid (.inl ⟨rfl, rfl⟩), Below.refl _ _⟩
  case round =>
    obtain ⟨k, T, a9, n9, c9, hk, rfl, hT, hTl, x1, x0, xf, hB, hb⟩ := hrel
    have hbw : Below w.heap.size w wr := hbW.trans (hb.mono (by omega))
    have t0 : wr.cell? ⟨w.heap.size, 0, none⟩ = some (.int .u64 ep) := (hb.cell (p := ⟨w.heap.size, 0, none⟩) (by first | omega | (simp; done) | (simp; omega))).trans q0
    have t1 : wr.cell? ⟨w.heap.size, 1, none⟩ = some (.int .u64 bs) := (hb.cell (p := ⟨w.heap.size, 1, none⟩) (by first | omega | (simp; done) | (simp; omega))).trans q1
    have t2 : wr.cell? ⟨w.heap.size, 2, none⟩ = some (.slice a l.length c) := (hb.cell (p := ⟨w.heap.size, 2, none⟩) (by first | omega | (simp; done) | (simp; omega))).trans q2
    have hz3 : w.heap.size + 2 < wr.heap.size := by have := hb.size; omega
    have hz4 : w.heap.size < wr.heap.size := by omega
    by_cases hlt : k < l.length
    · obtain ⟨b, o, hA, hbb, a1, c1, xx0, xx1, xx2, xx3, s0, s1, sD⟩ := old_at HL.out hlt
      subst hA
      have X0 := (hbw.cell (p := ⟨b, o + k * 4, none⟩) hbb).trans xx0
      have X1 := (hbw.cell (p := ⟨b, o + k * 4 + 1, none⟩) hbb).trans xx1
      have X2 := (hbw.cell (p := ⟨b, o + k * 4 + 2, none⟩) hbb).trans xx2
      have X3 := (hbw.cell (p := ⟨b, o + k * 4 + 3, none⟩) hbb).trans xx3
      clear xx0 xx1 xx2 xx3
      have HDk := HD.out _ (List.getElem_mem hlt)
      have hTk : Hid (l.take (k + 1) = T ++ [l[k]]) := hid (by rw [List.take_succ_eq_append_getElem hlt, hT.out])
      have HSD := hid sD; clear sD
      generalize l[k] = x at *
      obtain ⟨B0, es, hu, hB0, hu0, hu1, hes⟩ := upL_step ep bs T x
      rw [hTl.out] at hu hB0 hu0 hu1
      have HU := hid hu; have HB0 := hid hB0; have HU0 := hid hu0; have HU1 := hid hu1
      clear hu hB0 hu0 hu1
      have hkl : k ≤ 400 := by omega
      have hB0l : B0.length ≤ 400 := by rw [HB0.out]; omega
      by_cases h16 : k % 16 = 0
      · have e1 : ((k : Int) % 16 == 0) = true := by simp; omega
        obtain ⟨hu0, hes0⟩ := HU0.out h16
        have HES := hid hes0
        clear hes0
        have OB := Bld.close hB.out
        rw [hu0] at OB
        have OW := OB.below (show Below wr.heap.size wr ((wr.alloc (.cells #[.int .u64 x.stream, .int .u64 x.back, .bool x.has, .slice a1 x.data.length c1] 46)).alloc (.cells #[.int .u64 ep, .int .u64 (bs + k), .slice none 0 0] 58)) from by (repeat (first | exact Below.refl _ _ | assumption | (refine below_alloc ?_ _) | (refine Below.setCell ?_ (by first | omega | (simp; done) | (simp; omega)) _) | (refine Below.drew ?_) | (refine below_drewN ?_ _) | (refine below_then (by assumption) ?_))))
        obtain ⟨cells, OA⟩ := OW
        have HA := hid OA
        have hn9 : n9 = B0.length := by
          have := OA.1
          obtain ⟨a0, c0, e0⟩ := own_form this
          simp at e0; exact e0.2.1
        have hown0 : ∀ g, (Value.slice a9 n9 c9).ownBlock = some g → W.heap.size ≤ g ∧ g < wr.heap.size := fun g e => by
          obtain ⟨cl, oc⟩ := OB
          exact ⟨(oc.1.lt g e).1, (oc.1.lt g e).2⟩
        have HO0 := hid hown0
        have HS9 := hid (show W.heap.size ≤ ((wr.alloc (.cells #[.int .u64 x.stream, .int .u64 x.back, .bool x.has, .slice a1 x.data.length c1] 46)).alloc (.cells #[.int .u64 ep, .int .u64 (bs + k), .slice none 0 0] 58)).heap.size from by have := hb.size; simp; omega)
        clear OA hown0 OB hu0
        have HN9 := hid hn9
        subst hn9
        have wa1 : ((wr.alloc (.cells #[.int .u64 x.stream, .int .u64 x.back, .bool x.has, .slice a1 x.data.length c1] 46)).alloc (.cells #[.int .u64 ep, .int .u64 (bs + k), .slice none 0 0] 58)).cell? ⟨w.heap.size + 2, 1, none⟩ = some (.slice a9 B0.length c9) := by go_simp
        have wa0 : ((wr.alloc (.cells #[.int .u64 x.stream, .int .u64 x.back, .bool x.has, .slice a1 x.data.length c1] 46)).alloc (.cells #[.int .u64 ep, .int .u64 (bs + k), .slice none 0 0] 58)).cell? ⟨w.heap.size + 2, 0, none⟩ = some (.int .u64 ep) := by go_simp
        have waf : ((wr.alloc (.cells #[.int .u64 x.stream, .int .u64 x.back, .bool x.has, .slice a1 x.data.length c1] 46)).alloc (.cells #[.int .u64 ep, .int .u64 (bs + k), .slice none 0 0] 58)).frozen? ⟨w.heap.size + 2, 1, none⟩ = false := by go_simp
        have waz : w.heap.size + 2 < ((wr.alloc (.cells #[.int .u64 x.stream, .int .u64 x.back, .bool x.has, .slice a1 x.data.length c1] 46)).alloc (.cells #[.int .u64 ep, .int .u64 (bs + k), .slice none 0 0] 58)).heap.size := by simp; omega
        go_wp2_with (at_builtin; go_loud (refine wpList_append_src rfl _ _ _ rfl W.heap.size 58 i0 (.agg #[.int .u64 0, .int .u64 0, .slice none 0 0]) 3 40 Try.underlying28 hi hz0 hz1 hz2 rfl (by decide) (.slice a9 B0.length c9) B0.length _ rfl HA.out.1 (some ⟨wr.heap.size + 1, 0, none⟩) 1 1 [.int .u64 ep, .int .u64 (bs + k), .slice none 0 0] rfl (src_new1 (wr.alloc (.cells #[.int .u64 x.stream, .int .u64 x.back, .bool x.has, .slice a1 x.data.length c1] 46)) 58 _ rfl (by simp) rfl) (by intro u hu; simp at hu; rcases hu with rfl | rfl | rfl <;> rfl) (by simp only [maxLen]; omega) (by omega) HS9.out ?_; intro v1 w5 hown1 hgrow1 hat1; obtain ⟨g5, c5, hv1⟩ := own_at hown1; subst hv1; have HB2 := hid (Bld2.start (TE := 41) HA.out h0 ⟨by omega, by omega⟩ hown1 hgrow1 hat1); have k5 := (Below.grown (Below.refl W.heap.size _) hgrow1 HS9.out (fun g e => (HO0.out g e).1)); have y1 := (k5.cell (p := ⟨w.heap.size + 2, 1, none⟩) lt2).trans wa1; have y0 := (k5.cell (p := ⟨w.heap.size + 2, 0, none⟩) lt2).trans wa0; have y2 := (k5.frozen (p := ⟨w.heap.size + 2, 1, none⟩) lt2).trans waf; have y3 : w.heap.size + 2 < w5.heap.size := Nat.lt_of_lt_of_le waz k5.size; have K5 := hid k5; have HG1 := hid hgrow1; have HAT := hid hat1; clear k5 hgrow1 hat1; clear hown1))
        refine wp_world (fun W2 => ∃ cells s a4 n4 c4, Bld2 W.heap.size 58 41 W2 g5 c5 cells s B0 ep (bs + ((16 * (k / 16) : Nat) : Int)) es (.slice a4 n4 c4) ∧ W2.cell? ⟨w.heap.size + 2, 1, none⟩ = some (.slice (some ⟨g5, 0, none⟩) (B0.length + 1) c5) ∧ W2.cell? ⟨w.heap.size + 2, 0, none⟩ = some (.int .u64 ep) ∧ W2.frozen? ⟨w.heap.size + 2, 1, none⟩ = false ∧ Below (w.heap.size + 2) wr W2 ∧
          Blk W2 wr.heap.size 46 #[.int .u64 x.stream, .int .u64 x.back, .bool x.has, .slice a1 x.data.length c1] ∧ g5 ≠ wr.heap.size ∧ wr.heap.size < W2.heap.size ∧ W.heap.size ≤ g5 ∧ ∀ g, (Value.slice a4 n4 c4).ownBlock = some g → s ≤ g ∧ g ≠ wr.heap.size) ?_ ?_
        · have k5 := K5.out
          have hne : g5 ≠ wr.heap.size := by
            rcases HAT.out with e | e
            · have := (HO0.out g5 e.symm).2; omega
            · simp [Value.ownBlock] at e; omega
          have hgW : W.heap.size ≤ g5 := by
            rcases HAT.out with e | e
            · have := (HO0.out g5 e.symm).1; omega
            · simp [Value.ownBlock] at e; omega
          have hbX : Blk w5 wr.heap.size 46 #[.int .u64 x.stream, .int .u64 x.back, .bool x.has, .slice a1 x.data.length c1] := Blk.grown (by (repeat (first | assumption | exact Blk.newAt _ _ _ (by first | (simp; done) | (simp; omega)) | refine Blk.alloc ?_ _ | refine Blk.drew ?_ | refine Blk.drewN ?_ _ | refine Blk.far ?_ (by first | (simp; done) | (simp; omega)) _))) HG1.out (fun e => by have := (HO0.out _ e.symm).2; omega)
          have hsz5 : (w5.setCell ⟨w.heap.size + 1 + 1, 1, none⟩ (.slice (some ⟨g5, 0, none⟩) (B0.length + 1) c5)).heap.size = w5.heap.size := by simp [World.setCell]
          refine ⟨cells, w5.heap.size, none, 0, 0, ?_, by go_simp, by go_simp, by go_simp, ?_, hbX.far (by dsimp only; omega) _, hne, ?_, hgW, fun g e => by simp [Value.ownBlock] at e⟩
          · rw [HES.out]
            have h2 := HB2.out
            rw [show bs + ((16 * (k / 16) : Nat) : Int) = bs + (k : Int) by omega]
            exact h2.keep (w.heap.size + 2) lt2 (fun b _ hb => Below.heap_setCell _ _ _ _ (by dsimp only; omega)) (by rw [hsz5]; exact Nat.le_refl _)
          · refine Below.setCell (Below.trans ?_ (k5.mono (by omega))) (by dsimp only; omega) _
            exact ((Below.refl _ wr).alloc (by omega) _).alloc (by simp; omega) _
          · rw [hsz5]; have := k5.size; simp at this; omega
        intro W2 ⟨cells, s, a4, n4, c4, hB2, z1, z0, zf, zb, zx, zne, zs, zg, zo⟩
        obtain ⟨pl1, pl2⟩ := hB2.place
        have hlt5 : g5 < s := hB2.lt
        have hsle : s ≤ W2.heap.size := hB2.le
        obtain ⟨cl4, ol4⟩ := hB2.last
        have hn4 : n4 = es.length := by
          obtain ⟨a0, c0, e0⟩ := own_form ol4.1
          simp at e0; exact e0.2.1
        have OL4 := hid ol4; clear ol4
        have hOR := fun (W3 : World) (h3 : Below W2.heap.size W2 W3) => own_below OL4.out.1 h3
        have HOR := hid hOR; clear hOR
        have zx0 : W2.cell? ⟨wr.heap.size, 0, none⟩ = some (.int .u64 x.stream) := zx.cell 0
        have zx1 : W2.cell? ⟨wr.heap.size, 1, none⟩ = some (.int .u64 x.back) := zx.cell 1
        have zx2 : W2.cell? ⟨wr.heap.size, 2, none⟩ = some (.bool x.has) := zx.cell 2
        have zx3 : W2.cell? ⟨wr.heap.size, 3, none⟩ = some (.slice a1 x.data.length c1) := zx.cell 3
        have HB2 := hid hB2; clear hB2
        have HN4 := hid hn4
        subst hn4
        have ZO := hid zo; clear zo; have zo := ZO; clear ZO
        have i1 : (0 : Int) ≤ (B0.length : Int) := by omega
        have ltg : g5 < W2.heap.size := by omega
        have lt2w : w.heap.size + 2 < W2.heap.size := by omega
        have HX4 := fun (W3 : World) (h3 : Below W2.heap.size W2 W3) => (h3.cell (p := ⟨wr.heap.size, 3, none⟩) zs).trans zx3
        go_region_law
          (first
            | (refine step_append_src (by rfl) _ _ _ (by rfl) s 41 j0 (.agg #[.slice none 0 0, .slice none 0 0]) 2 48 Try.underlying56 hj hy0 hy1 hy2 rfl (by decide) (.slice a4 es.length c4) es.length _ (by rfl) (HOR.out _ (by (repeat (first | exact Below.refl _ _ | assumption | (refine below_alloc ?_ _) | (refine Below.setCell ?_ (by first | omega | (simp; done) | (simp; omega)) _) | (refine Below.drew ?_) | (refine below_drewN ?_ _) | (refine below_then (by assumption) ?_))))) (some ⟨w6.heap.size, 0, none⟩) 1 1 [.slice a6 (upE x).links.length c6, .slice a7 x.data.length c7] (by rfl) (src_new1 w6 41 _ rfl rfl rfl) (by intro u hu; simp at hu; rcases hu with rfl | rfl <;> rfl) (by simp only [maxLen]; omega) (by omega) (by have := k6.size; first | omega | (simp; omega)) ?_; intro a8 c8 w8 hown8 hgrow8 hat8; have k6s := k6.size; have G := fun b (hb : b < W2.heap.size) (hne : (Value.slice a4 es.length c4).ownBlock ≠ some b) => (hgrow8.block b (by simp; omega) (fun e => hne e.symm)).trans ((Below.heap_alloc w6 _ b (by omega)).trans (k6.block b hb)); have ne5 : (Value.slice a4 es.length c4).ownBlock ≠ some g5 := fun e => by { have := (zo.out g5 e).1; omega }; have ne2 : (Value.slice a4 es.length c4).ownBlock ≠ some (w.heap.size + 2) := fun e => by { have := (zo.out _ e).1; omega }; have p1 := (World.cell?_of_block (a := ⟨g5, B0.length * 3 + 2, none⟩) (G g5 ltg ne5)).trans pl1; have p2 := (World.frozen?_of_block (a := ⟨g5, B0.length * 3 + 2, none⟩) (G g5 ltg ne5)).trans pl2; have p3 := (World.cell?_of_block (a := ⟨w.heap.size + 2, 1, none⟩) (G _ lt2w ne2)).trans z1; have p4 := (World.cell?_of_block (a := ⟨w.heap.size + 2, 0, none⟩) (G _ lt2w ne2)).trans z0; have p5 := (World.frozen?_of_block (a := ⟨w.heap.size + 2, 1, none⟩) (G _ lt2w ne2)).trans zf; have p6 : g5 < w8.heap.size := Nat.lt_of_lt_of_le ltg (Nat.le_trans k6s (Nat.le_trans (by simp) hgrow8.size)); have HG8 := hid hgrow8; have HO8 := hid hown8; have HA8 := hid hat8; have HGG := hid G; clear hgrow8 hown8 hat8 G)
            | (go_simp; go_at_call 46; refine (upgrade_entryOf x _ _ _ _ s0 s1 (lift HSD.out (hbw.trans ((zb.mono (by omega)).trans (Below.drew (Below.refl _ _))))) HDk).mono ?_; rintro e w6 ⟨v6, v7, rfl, hr6, hr7, hb6⟩; obtain ⟨a6, c6, hv6, _, _⟩ := sl_form hr6; simp only [List.cons.injEq, and_true] at hv6; subst hv6; obtain ⟨a7, c7, hv7, _, _⟩ := sl_form hr7; simp only [List.cons.injEq, and_true] at hv7; subst hv7; have k6 : Below W2.heap.size W2 w6 := (by (repeat (first | exact Below.refl _ _ | assumption | (refine below_alloc ?_ _) | (refine Below.setCell ?_ (by first | omega | (simp; done) | (simp; omega)) _) | (refine Below.drew ?_) | (refine below_drewN ?_ _) | (refine below_then (by assumption) ?_)))); have g0 := (k6.cell (p := ⟨g5, B0.length * 3 + 2, none⟩) ltg).trans pl1; have g1 := (k6.cell (p := ⟨wr.heap.size, 0, none⟩) zs).trans zx0; have g2 := (k6.cell (p := ⟨wr.heap.size, 1, none⟩) zs).trans zx1; have g3 := (k6.cell (p := ⟨wr.heap.size, 2, none⟩) zs).trans zx2; have g4 := (k6.cell (p := ⟨wr.heap.size, 3, none⟩) zs).trans zx3; have g5l : g5 < w6.heap.size := Nat.lt_of_lt_of_le ltg k6.size; have HR6 := hid hr6; have HR7 := hid hr7; clear hr6 hr7))
        all_goals
          have hs6 := k6s
          have OA8 : OwnElsAt s rEntry s 41 2 (w6.alloc (.cells #[.slice a6 (upE x).links.length c6, .slice a7 x.data.length c7] 41)) (.slice a4 es.length c4) es cl4 := OL4.out.below (by (repeat (first | exact Below.refl _ _ | assumption | (refine below_alloc ?_ _) | (refine Below.setCell ?_ (by first | omega | (simp; done) | (simp; omega)) _) | (refine Below.drew ?_) | (refine below_drewN ?_ _) | (refine below_then (by assumption) ?_))))
          have hx8 : rEntry.r (fun b => s ≤ b ∧ b < (w6.alloc (.cells #[.slice a6 (upE x).links.length c6, .slice a7 x.data.length c7] 41)).heap.size ∧ (Value.slice a4 es.length c4).ownBlock ≠ some b) (w6.alloc (.cells #[.slice a6 (upE x).links.length c6, .slice a7 x.data.length c7] 41)) [.slice a6 (upE x).links.length c6, .slice a7 x.data.length c7] (upE x) :=
            entry_mk (rLinks.mono (rLinks.keep HR6.out fun b hb => Below.heap_alloc w6 _ b hb.2) fun b hb => fresh_own hsle OL4.out.1 hb) (rBytes.mono (rBytes.keep HR7.out fun b hb => Below.heap_alloc w6 _ b hb.2) fun b hb => fresh_own hsle OL4.out.1 hb)
          have hl8 : OwnEls s rEntry s 41 2 w8 (.slice a8 (es.length + 1) c8) (es ++ [upE x]) := OwnEls.push OA8 rfl hx8 HO8.out HG8.out HA8.out HG8.out.size
          have hk8 : ∀ b, b < s → w8.heap[b]? = W2.heap[b]? := fun b hb => HGG.out b (by omega) (fun e => by have := (zo.out b e).1; omega)
          have hsz8 : W2.heap.size ≤ w8.heap.size := Nat.le_trans k6s (Nat.le_trans (by simp) HG8.out.size)
          have hb8 : Below (w.heap.size + 2) W w8 := (hb.trans zb).trans (((Below.mono k6 (by omega)).trans ((Below.refl _ w6).alloc (by omega) _)).trans ⟨HG8.out.os, HG8.out.tape, HG8.out.output, HG8.out.size, fun b hb => HG8.out.block b (by simp; omega) (fun e => by have := (zo.out b e.symm).1; omega)⟩)
          have HG := hid (Bld2.grow HB2.out hk8 hsz8 hl8)
          clear OA8 hx8 hl8 hk8
          go_wp2
          go_roundw
          case rel => exact ⟨k + 1, T ++ [x], some ⟨g5, 0, none⟩, B0.length + 1, c5, by omega, by go_num, hTk, hid (by rw [List.length_append, hTl.out]; rfl), by go_simp, by go_simp, by go_simp, hid (.inr ⟨g5, c5, cells, s, B0, ep, _, es ++ [upE x], _, rfl, HU.out, HG.out⟩), hb8.setCell (by dsimp only; omega) _⟩
          case measure => simp [intOf]; omega
      · have e1 : ((k : Int) % 16 == 0) = false := by simp; omega
        obtain ⟨g5, c5, cells, s, bs0, e', b', es', vl, hv5, hbs, HB2⟩ : ∃ g c cells s bs0 e b es vl, Value.slice a9 n9 c9 = .slice (some ⟨g, 0, none⟩) (bs0.length + 1) c ∧ upL ep bs T = bs0 ++ [⟨e, b, es⟩] ∧ Bld2 W.heap.size 58 41 wr g c cells s bs0 e b es vl := by
          rcases hB.out with ⟨h1, _⟩ | h1
          · rw [HU1.out h16] at h1; simp at h1
          · exact h1
        rw [HU1.out h16] at hbs
        obtain ⟨hbs1, hbs2⟩ := List.append_inj' hbs rfl
        subst hbs1
        simp only [List.cons.injEq, Batch.mk.injEq, and_true] at hbs2
        obtain ⟨rfl, rfl, rfl⟩ := hbs2
        simp only [Value.slice.injEq] at hv5
        obtain ⟨rfl, rfl, h95⟩ := hv5
        have h59 := h95.symm; clear h95; subst h59
        obtain ⟨cl9, ol9⟩ := HB2.last
        obtain ⟨a4, c4, hvl⟩ := own_form ol9.1
        subst hvl
        have hzo : ∀ g, (Value.slice a4 es.length c4).ownBlock = some g → s ≤ g ∧ g < wr.heap.size := fun g e => ol9.1.lt g e
        have HZO := hid hzo; clear hzo ol9
        have HBB := hid HB2; clear HB2 hbs
        go_wp2_with fail
        refine wp_world (fun W2 => ∃ cells s a4 n4 c4, Bld2 W.heap.size 58 41 W2 g5 c5 cells s B0 ep (bs + ((16 * (k / 16) : Nat) : Int)) es (.slice a4 n4 c4) ∧ W2.cell? ⟨w.heap.size + 2, 1, none⟩ = some (.slice (some ⟨g5, 0, none⟩) (B0.length + 1) c5) ∧ W2.cell? ⟨w.heap.size + 2, 0, none⟩ = some (.int .u64 ep) ∧ W2.frozen? ⟨w.heap.size + 2, 1, none⟩ = false ∧ Below (w.heap.size + 2) wr W2 ∧
          Blk W2 wr.heap.size 46 #[.int .u64 x.stream, .int .u64 x.back, .bool x.has, .slice a1 x.data.length c1] ∧ g5 ≠ wr.heap.size ∧ wr.heap.size < W2.heap.size ∧ W.heap.size ≤ g5 ∧ ∀ g, (Value.slice a4 n4 c4).ownBlock = some g → s ≤ g ∧ g ≠ wr.heap.size) ?_ ?_
        · have hb2 := HBB.out
          refine ⟨cells, s, a4, es.length, c4, ?_, by go_simp, by go_simp, by go_simp, ?_, by (repeat (first | assumption | exact Blk.newAt _ _ _ (by first | (simp; done) | (simp; omega)) | refine Blk.alloc ?_ _ | refine Blk.drew ?_ | refine Blk.drewN ?_ _ | refine Blk.far ?_ (by first | (simp; done) | (simp; omega)) _)), ?_, by simp, ?_, fun g e => ?_⟩
          · exact hb2.keep (w.heap.size + 2) lt2 (fun b hb _ => Below.heap_alloc wr _ b hb) (by simp)
          · exact (Below.refl _ wr).alloc (by omega) _
          · have := hb2.lt; have := hb2.le; omega
          · rcases hb2.own.1.2 with ⟨h0, _⟩ | ⟨g', cap, cur, hv, hb, _⟩
            · cases h0
            · simp at hv; omega
          · have := HZO.out g e; omega
        intro W2 ⟨cells, s, a4, n4, c4, hB2, z1, z0, zf, zb, zx, zne, zs, zg, zo⟩
        obtain ⟨pl1, pl2⟩ := hB2.place
        have hlt5 : g5 < s := hB2.lt
        have hsle : s ≤ W2.heap.size := hB2.le
        obtain ⟨cl4, ol4⟩ := hB2.last
        have hn4 : n4 = es.length := by
          obtain ⟨a0, c0, e0⟩ := own_form ol4.1
          simp at e0; exact e0.2.1
        have OL4 := hid ol4; clear ol4
        have hOR := fun (W3 : World) (h3 : Below W2.heap.size W2 W3) => own_below OL4.out.1 h3
        have HOR := hid hOR; clear hOR
        have zx0 : W2.cell? ⟨wr.heap.size, 0, none⟩ = some (.int .u64 x.stream) := zx.cell 0
        have zx1 : W2.cell? ⟨wr.heap.size, 1, none⟩ = some (.int .u64 x.back) := zx.cell 1
        have zx2 : W2.cell? ⟨wr.heap.size, 2, none⟩ = some (.bool x.has) := zx.cell 2
        have zx3 : W2.cell? ⟨wr.heap.size, 3, none⟩ = some (.slice a1 x.data.length c1) := zx.cell 3
        have HB2 := hid hB2; clear hB2
        have HN4 := hid hn4
        subst hn4
        have ZO := hid zo; clear zo; have zo := ZO; clear ZO
        have i1 : (0 : Int) ≤ (B0.length : Int) := by omega
        have ltg : g5 < W2.heap.size := by omega
        have lt2w : w.heap.size + 2 < W2.heap.size := by omega
        have HX4 := fun (W3 : World) (h3 : Below W2.heap.size W2 W3) => (h3.cell (p := ⟨wr.heap.size, 3, none⟩) zs).trans zx3
        go_region_law
          (first
            | (refine step_append_src (by rfl) _ _ _ (by rfl) s 41 j0 (.agg #[.slice none 0 0, .slice none 0 0]) 2 48 Try.underlying56 hj hy0 hy1 hy2 rfl (by decide) (.slice a4 es.length c4) es.length _ (by rfl) (HOR.out _ (by (repeat (first | exact Below.refl _ _ | assumption | (refine below_alloc ?_ _) | (refine Below.setCell ?_ (by first | omega | (simp; done) | (simp; omega)) _) | (refine Below.drew ?_) | (refine below_drewN ?_ _) | (refine below_then (by assumption) ?_))))) (some ⟨w6.heap.size, 0, none⟩) 1 1 [.slice a6 (upE x).links.length c6, .slice a7 x.data.length c7] (by rfl) (src_new1 w6 41 _ rfl rfl rfl) (by intro u hu; simp at hu; rcases hu with rfl | rfl <;> rfl) (by simp only [maxLen]; omega) (by omega) (by have := k6.size; first | omega | (simp; omega)) ?_; intro a8 c8 w8 hown8 hgrow8 hat8; have k6s := k6.size; have G := fun b (hb : b < W2.heap.size) (hne : (Value.slice a4 es.length c4).ownBlock ≠ some b) => (hgrow8.block b (by simp; omega) (fun e => hne e.symm)).trans ((Below.heap_alloc w6 _ b (by omega)).trans (k6.block b hb)); have ne5 : (Value.slice a4 es.length c4).ownBlock ≠ some g5 := fun e => by { have := (zo.out g5 e).1; omega }; have ne2 : (Value.slice a4 es.length c4).ownBlock ≠ some (w.heap.size + 2) := fun e => by { have := (zo.out _ e).1; omega }; have p1 := (World.cell?_of_block (a := ⟨g5, B0.length * 3 + 2, none⟩) (G g5 ltg ne5)).trans pl1; have p2 := (World.frozen?_of_block (a := ⟨g5, B0.length * 3 + 2, none⟩) (G g5 ltg ne5)).trans pl2; have p3 := (World.cell?_of_block (a := ⟨w.heap.size + 2, 1, none⟩) (G _ lt2w ne2)).trans z1; have p4 := (World.cell?_of_block (a := ⟨w.heap.size + 2, 0, none⟩) (G _ lt2w ne2)).trans z0; have p5 := (World.frozen?_of_block (a := ⟨w.heap.size + 2, 1, none⟩) (G _ lt2w ne2)).trans zf; have p6 : g5 < w8.heap.size := Nat.lt_of_lt_of_le ltg (Nat.le_trans k6s (Nat.le_trans (by simp) hgrow8.size)); have HG8 := hid hgrow8; have HO8 := hid hown8; have HA8 := hid hat8; have HGG := hid G; clear hgrow8 hown8 hat8 G)
            | (go_simp; go_at_call 46; refine (upgrade_entryOf x _ _ _ _ s0 s1 (lift HSD.out (hbw.trans ((zb.mono (by omega)).trans (Below.drew (Below.refl _ _))))) HDk).mono ?_; rintro e w6 ⟨v6, v7, rfl, hr6, hr7, hb6⟩; obtain ⟨a6, c6, hv6, _, _⟩ := sl_form hr6; simp only [List.cons.injEq, and_true] at hv6; subst hv6; obtain ⟨a7, c7, hv7, _, _⟩ := sl_form hr7; simp only [List.cons.injEq, and_true] at hv7; subst hv7; have k6 : Below W2.heap.size W2 w6 := (by (repeat (first | exact Below.refl _ _ | assumption | (refine below_alloc ?_ _) | (refine Below.setCell ?_ (by first | omega | (simp; done) | (simp; omega)) _) | (refine Below.drew ?_) | (refine below_drewN ?_ _) | (refine below_then (by assumption) ?_)))); have g0 := (k6.cell (p := ⟨g5, B0.length * 3 + 2, none⟩) ltg).trans pl1; have g1 := (k6.cell (p := ⟨wr.heap.size, 0, none⟩) zs).trans zx0; have g2 := (k6.cell (p := ⟨wr.heap.size, 1, none⟩) zs).trans zx1; have g3 := (k6.cell (p := ⟨wr.heap.size, 2, none⟩) zs).trans zx2; have g4 := (k6.cell (p := ⟨wr.heap.size, 3, none⟩) zs).trans zx3; have g5l : g5 < w6.heap.size := Nat.lt_of_lt_of_le ltg k6.size; have HR6 := hid hr6; have HR7 := hid hr7; clear hr6 hr7))
        all_goals
          have hs6 := k6s
          have OA8 : OwnElsAt s rEntry s 41 2 (w6.alloc (.cells #[.slice a6 (upE x).links.length c6, .slice a7 x.data.length c7] 41)) (.slice a4 es.length c4) es cl4 := OL4.out.below (by (repeat (first | exact Below.refl _ _ | assumption | (refine below_alloc ?_ _) | (refine Below.setCell ?_ (by first | omega | (simp; done) | (simp; omega)) _) | (refine Below.drew ?_) | (refine below_drewN ?_ _) | (refine below_then (by assumption) ?_))))
          have hx8 : rEntry.r (fun b => s ≤ b ∧ b < (w6.alloc (.cells #[.slice a6 (upE x).links.length c6, .slice a7 x.data.length c7] 41)).heap.size ∧ (Value.slice a4 es.length c4).ownBlock ≠ some b) (w6.alloc (.cells #[.slice a6 (upE x).links.length c6, .slice a7 x.data.length c7] 41)) [.slice a6 (upE x).links.length c6, .slice a7 x.data.length c7] (upE x) :=
            entry_mk (rLinks.mono (rLinks.keep HR6.out fun b hb => Below.heap_alloc w6 _ b hb.2) fun b hb => fresh_own hsle OL4.out.1 hb) (rBytes.mono (rBytes.keep HR7.out fun b hb => Below.heap_alloc w6 _ b hb.2) fun b hb => fresh_own hsle OL4.out.1 hb)
          have hl8 : OwnEls s rEntry s 41 2 w8 (.slice a8 (es.length + 1) c8) (es ++ [upE x]) := OwnEls.push OA8 rfl hx8 HO8.out HG8.out HA8.out HG8.out.size
          have hk8 : ∀ b, b < s → w8.heap[b]? = W2.heap[b]? := fun b hb => HGG.out b (by omega) (fun e => by have := (zo.out b e).1; omega)
          have hsz8 : W2.heap.size ≤ w8.heap.size := Nat.le_trans k6s (Nat.le_trans (by simp) HG8.out.size)
          have hb8 : Below (w.heap.size + 2) W w8 := (hb.trans zb).trans (((Below.mono k6 (by omega)).trans ((Below.refl _ w6).alloc (by omega) _)).trans ⟨HG8.out.os, HG8.out.tape, HG8.out.output, HG8.out.size, fun b hb => HG8.out.block b (by simp; omega) (fun e => by have := (zo.out b e.symm).1; omega)⟩)
          have HG := hid (Bld2.grow HB2.out hk8 hsz8 hl8)
          clear OA8 hx8 hl8 hk8
          go_wp2
          go_roundw
          case rel => exact ⟨k + 1, T ++ [x], some ⟨g5, 0, none⟩, B0.length + 1, c5, by omega, by go_num, hTk, hid (by rw [List.length_append, hTl.out]; rfl), by go_simp, by go_simp, by go_simp, hid (.inr ⟨g5, c5, cells, s, B0, ep, _, es ++ [upE x], _, rfl, HU.out, HG.out⟩), hb8.setCell (by dsimp only; omega) _⟩
          case measure => simp [intOf]; omega
    · obtain rfl : k = l.length := by omega
      rw [List.take_length] at hT
      have hTT := hT.out
      subst hTT
      have hv := OwnEls.slice (Nat.le_refl _) (Bld.close hB.out)
      have HV := hid hv; clear hv
      have n9' := (sl_len HV.out).1
      have HN := hid n9'; clear n9'
      have P1 := HQ3.out.below hb (by omega)
      have y2 : wr.cell? ⟨w.heap.size + 1, 0, none⟩ = some (.int .u64 0) := P1.cell 0
      have y3 : wr.cell? ⟨w.heap.size + 1, 1, none⟩ = some (.slice none 0 0) := P1.cell 1
      have f0 := P1.free 0
      have f1 := P1.free 1
      clear P1
      have hz5 : w.heap.size + 1 < wr.heap.size := by omega
      go_wp2
      refine bodyPost_ret (v := .agg #[.int .u64 ep, .slice a9 n9 c9]) (by simp [results, Try.results25, go_sem, y2, y3]) rfl ⟨_, rfl, ?_, by (repeat (first | exact Below.refl _ _ | assumption | (refine below_alloc ?_ _) | (refine Below.setCell ?_ (by first | omega | (simp; done) | (simp; omega)) _) | (refine Below.drew ?_) | (refine below_drewN ?_ _) | (refine below_then (by assumption) ?_)))⟩
      refine rBatches.mono (rBatches.keep HV.out fun b hb => ?_) fun b hb => ⟨by omega, by simp; omega⟩
      repeat rw [Below.heap_setCell _ _ _ _ (by dsimp only; omega)]
end Go.Proofs.Ytlbchenleimopaa
