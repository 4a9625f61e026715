/- Whether an entry has lost nothing but backs. -/
import Derived.Test.YtlbchenleimopaaSuL
import Derived.Deep.RegionHeld3
namespace Go.Proofs.Ytlbchenleimopaa
open Go.RowKit Go.Bs
set_option linter.unusedVariables false
set_option linter.unusedSimpArgs false

set_option maxRecDepth 100000 in
set_option maxHeartbeats 12800000 in
theorem law36_kept (x y : Entry) (a1 a2 b1 b2 : Option Addr) (n1 c1 n2 c2 m1 d1 m2 d2 : Nat) (w : World)
    (hx : rLinks.r (· < w.heap.size) w [.slice a1 n1 c1] x.links) (hx' : rBytes.r (· < w.heap.size) w [.slice a2 n2 c2] x.data)
    (hy : rLinks.r (· < w.heap.size) w [.slice b1 m1 d1] y.links) (hy' : rBytes.r (· < w.heap.size) w [.slice b2 m2 d2] y.data) (hlen : x.links.length ≤ 1000000) :
    Calls Try.prog 22 #[.agg #[.slice a1 n1 c1, .slice a2 n2 c2], .agg #[.slice b1 m1 d1, .slice b2 m2 d2]] w fun r w' => r = .returned (.bool (decide (y = cutE x))) ∧ Below w.heap.size w w' := by
  obtain ⟨rfl, hm, _, _⟩ := sl_len hx
  obtain ⟨rfl, hm', _, _⟩ := sl_len hx'
  obtain ⟨rfl, _, _, _⟩ := sl_len hy
  obtain ⟨rfl, _, _, _⟩ := sl_len hy'
  obtain ⟨i0, hi, hz0, hz1, hz2⟩ := info_parts infoLink
  have HX := hid hx; have HX' := hid hx'; have HY := hid hy; have HY' := hid hy'
  clear hx hx' hy hy'
  go_enter Try.func22, Try.ntmps22
  go_wp2_with fail
  refine wp_world (fun W => Below w.heap.size w W ∧ W.heap.size = w.heap.size + 2 ∧ Blk W w.heap.size 41 #[.slice a1 x.links.length c1, .slice a2 x.data.length c2] ∧ Blk W (w.heap.size + 1) 41 #[.slice b1 y.links.length d1, .slice b2 y.data.length d2]) ⟨by (repeat (first | exact Below.refl _ _ | assumption | (refine below_alloc ?_ _) | (refine Below.setCell ?_ (by first | omega | (simp; done) | (simp; omega)) _) | (refine Below.drew ?_) | (refine below_drewN ?_ _) | (refine below_then (by assumption) ?_))), by simp, (Blk.new w _ _).alloc _, Blk.new1 w _ _ _⟩ ?_
  intro W ⟨hbW, hzW, q0, q1⟩
  have LT0 : w.heap.size < W.heap.size := by omega
  have LT1 : w.heap.size + 1 < W.heap.size := by omega
  have Q0 := hid q0; have Q1 := hid q1; clear q0 q1
  have HW := hid hzW; clear hzW
  go_loopw [5, 6] (fun v i wr => ∃ k : Nat, k ≤ x.links.length ∧ i = .int .i64 k ∧ OwnEls 0 rLink W.heap.size 49 2 wr v ((x.links.take k).map cutL) ∧ Below W.heap.size W wr) (fun _ i _ => x.links.length - (intOf i).toNat)
  case atStart => exact ⟨0, Nat.zero_le _, rfl, OwnEls.nil, Below.refl _ _⟩
  case round =>
    obtain ⟨k, hk, rfl, hown, hb⟩ := hrel
    have hbw := below_then hb hbW
    have hbs := hb.size
    have z0 : wr.cell? ⟨w.heap.size, 0, none⟩ = some (.slice a1 x.links.length c1) := (Q0.out.below hb LT0).cell 0
    by_cases hlt : k < x.links.length
    · obtain ⟨b, o, hA, hbb, a3, c3, hc0, hc1, hst, hbk⟩ := link_at HX.out hlt
      subst hA
      have hbb' : b < w.heap.size := hbb
      have X0 := (hbw.cell (p := ⟨b, o + k * 2, none⟩) hbb).trans hc0
      have X1 := (hbw.cell (p := ⟨b, o + k * 2 + 1, none⟩) hbb).trans hc1
      clear hc0 hc1
      have htk := hid (List.take_succ_eq_append_getElem hlt)
      obtain ⟨_, _, bk1, bk2⟩ := sl_len hbk
      have HBK := hid hbk; clear hbk
      generalize x.links[k] = z at *
      generalize hzl : z.backs.length = L at *
      have HLEN := hid hzl
      clear hzl
      have hL3 : L = 0 ∨ L = 1 ∨ 2 ≤ L := by omega
      rcases hL3 with rfl | rfl | hL2
      · by_cases hc30 : 0 < c3
        · have n3 : (c3 = 0) = False := by simp; omega
          have i7 : (0 : Int) ≤ (c3 : Int) := by omega
          have hlm : ((x.links.take k).map cutL).length = k := by simp; omega
          obtain ⟨cells, OA⟩ := hown
          have hlt0 : ∀ g, u5.ownBlock = some g → W.heap.size ≤ g ∧ g < wr.heap.size := fun g e => OA.1.lt g e
          have OAm := OA.1
          rw [hlm] at OAm
          have HLM := hid hlm; have HOA := hid OA; have HOAm := hid OAm; have HL0 := hid hlt0
          clear hlm OA OAm hlt0
          have hz3 : w.heap.size < wr.heap.size := by omega
          have hbr : b < wr.heap.size := by omega
          have i1 : (k : Int) < (x.links.length : Int) := by omega
          have i2 : (0 : Int) ≤ (k : Int) := by omega
          have hzW2 : W.heap.size ≤ wr.heap.size := hbs
          have hsl : ∀ w' : World, (Instr.slice 47 (.slice a3 0 c3) none (some (.int .i64 0)) none).run Try.prog w' = .ok (.slice a3 (0) c3) w' := fun w' => by
            go_simp
          go_wp2_with fail
          go_region_held3 (fun w' => w'.cell? ⟨w.heap.size, 0, none⟩ = some (.slice (some ⟨b, o, none⟩) x.links.length c1) ∧ w'.cell? ⟨b, o + k * 2, none⟩ = some (.int .u64 z.stream) ∧ w'.cell? ⟨b, o + k * 2 + 1, none⟩ = some (.slice a3 0 c3)) (((try dsimp only); refine ⟨?_, ?_, ?_⟩ <;> (first | assumption | (go_keep; done))))
            ((go_loud (refine step_append_src (by rfl) _ _ _ (by rfl) W.heap.size 49 i0 (.agg #[.int .u64 0, .slice none 0 0]) 2 32 Try.underlying38 hi hz0 hz1 hz2 rfl (by decide) u5 k _ (by rfl) (own_below HOAm.out (by (repeat (first | exact Below.refl _ _ | assumption | (refine below_alloc ?_ _) | (refine Below.setCell ?_ (by first | omega | (simp; done) | (simp; omega)) _) | (refine Below.drew ?_) | (refine below_drewN ?_ _) | (refine below_then (by assumption) ?_))))) (some ⟨wr.heap.size, 0, none⟩) 1 1 [.int .u64 z.stream, .slice a3 (0) c3] (by rfl) (src_new1 wr.drew 49 _ (by rfl) (by rfl) rfl) (by intro u hu; simp at hu; rcases hu with rfl | rfl <;> rfl) (by simp only [maxLen]; omega) (by omega) (by simp; omega) ?_; intro a5 c5 w5 hown5 hgrow5 hat5; have G := fun b' (hb : b' < wr.heap.size) (hne : u5.ownBlock ≠ some b') => (hgrow5.block b' (by simp; omega) (fun e => hne e.symm)).trans (Below.heap_alloc _ _ b' (by exact hb)); have n1 : u5.ownBlock ≠ some w.heap.size := fun e => by { have := (HL0.out _ e).1; omega }; have n2 : u5.ownBlock ≠ some b := fun e => by { have := (HL0.out _ e).1; omega }; have e1 := (World.cell?_of_block (a := ⟨w.heap.size, 0, none⟩) (G _ hz3 n1)).trans z0; have e2 := (World.cell?_of_block (a := ⟨b, o + k * 2, none⟩) (G _ hbr n2)).trans X0; have e3 := (World.cell?_of_block (a := ⟨b, o + k * 2 + 1, none⟩) (G _ hbr n2)).trans X1; have HG5 := hid hgrow5; have HO5 := hid hown5; have HA5 := hid hat5; clear hgrow5 hown5 hat5 G)))
          have hx5 : rLink.r (fun b' => 0 ≤ b' ∧ b' < (wr.drew.alloc (.cells #[.int .u64 z.stream, .slice a3 (0) c3] 49)).heap.size ∧ u5.ownBlock ≠ some b') (wr.drew.alloc (.cells #[.int .u64 z.stream, .slice a3 (0) c3] 49)) [.int .u64 z.stream, .slice a3 (0) c3] (cutL z) := by
            have ht := sl_take HBK.out (k := 0) (by have := HLEN.out; omega)
            have e1 : z.backs.take (0) = (cutL z).backs := by simp only [cutL]; rw [List.take_of_length_le (by have := HLEN.out; omega), List.take_of_length_le (by have := HLEN.out; omega)]
            rw [e1] at ht
            refine link_mk (x := cutL z) hst (rU64s.mono (rU64s.keep ht fun b' hb' => (Below.heap_alloc _ _ b' (by have hb2 : b' < w.heap.size := hb'; exact Nat.lt_of_lt_of_le (by omega) hzW2)).trans (hbw.block b' hb')) fun b' hb' => ⟨Nat.zero_le _, ?_, fun e => ?_⟩)
            · have hb2 : b' < w.heap.size := hb'
              simp; omega
            · have hb2 : b' < w.heap.size := hb'
              have := (HL0.out _ e).1; omega
          have hb9 : Below wr.heap.size wr (wr.drew.alloc (.cells #[.int .u64 z.stream, .slice a3 (0) c3] 49)) := by (repeat (first | exact Below.refl _ _ | assumption | (refine below_alloc ?_ _) | (refine Below.setCell ?_ (by first | omega | (simp; done) | (simp; omega)) _) | (refine Below.drew ?_) | (refine below_drewN ?_ _) | (refine below_then (by assumption) ?_)))
          have OP := OwnElsAt.push (HOA.out.below hb9) rfl hx5 (by rw [HLM.out]; exact HO5.out) HG5.out HA5.out HG5.out.size
          have hr1 : (x.links.take k).map cutL ++ [cutL z] = (x.links.take (k + 1)).map cutL := by rw [htk.out, List.map_append]; rfl
          rw [hr1] at OP
          have HOP := hid OP
          have hb10 : Below W.heap.size W w5 := (below_then hb9 hb).grown HG5.out (by simp; omega) (fun g e => (HL0.out g e).1)
          clear OP hr1 hx5 hb9
          go_wp2_with fail
          go_roundw
          case rel => exact ⟨k + 1, by omega, by go_num, ⟨_, HOP.out⟩, hb10⟩
          case measure => simp [intOf]; omega
        · obtain rfl : c3 = 0 := by omega
          have hlm : ((x.links.take k).map cutL).length = k := by simp; omega
          obtain ⟨cells, OA⟩ := hown
          have hlt0 : ∀ g, u5.ownBlock = some g → W.heap.size ≤ g ∧ g < wr.heap.size := fun g e => OA.1.lt g e
          have OAm := OA.1
          rw [hlm] at OAm
          have HLM := hid hlm; have HOA := hid OA; have HOAm := hid OAm; have HL0 := hid hlt0
          clear hlm OA OAm hlt0
          have hz3 : w.heap.size < wr.heap.size := by omega
          have hbr : b < wr.heap.size := by omega
          have i1 : (k : Int) < (x.links.length : Int) := by omega
          have i2 : (0 : Int) ≤ (k : Int) := by omega
          have hzW2 : W.heap.size ≤ wr.heap.size := hbs
          have hsl : ∀ w' : World, (Instr.slice 47 (.slice a3 0 0) none (some (.int .i64 0)) none).run Try.prog w' = .ok (.slice a3 (0) 0) w' := fun w' => by
            go_simp
          go_wp2_with fail
          go_region_held3 (fun w' => w'.cell? ⟨w.heap.size, 0, none⟩ = some (.slice (some ⟨b, o, none⟩) x.links.length c1) ∧ w'.cell? ⟨b, o + k * 2, none⟩ = some (.int .u64 z.stream) ∧ w'.cell? ⟨b, o + k * 2 + 1, none⟩ = some (.slice a3 0 0)) (((try dsimp only); refine ⟨?_, ?_, ?_⟩ <;> (first | assumption | (go_keep; done))))
            ((go_loud (refine step_append_src (by rfl) _ _ _ (by rfl) W.heap.size 49 i0 (.agg #[.int .u64 0, .slice none 0 0]) 2 32 Try.underlying38 hi hz0 hz1 hz2 rfl (by decide) u5 k _ (by rfl) (own_below HOAm.out (by (repeat (first | exact Below.refl _ _ | assumption | (refine below_alloc ?_ _) | (refine Below.setCell ?_ (by first | omega | (simp; done) | (simp; omega)) _) | (refine Below.drew ?_) | (refine below_drewN ?_ _) | (refine below_then (by assumption) ?_))))) (some ⟨wr.heap.size, 0, none⟩) 1 1 [.int .u64 z.stream, .slice a3 (0) 0] (by rfl) (src_new1 wr.drew 49 _ (by rfl) (by rfl) rfl) (by intro u hu; simp at hu; rcases hu with rfl | rfl <;> rfl) (by simp only [maxLen]; omega) (by omega) (by simp; omega) ?_; intro a5 c5 w5 hown5 hgrow5 hat5; have G := fun b' (hb : b' < wr.heap.size) (hne : u5.ownBlock ≠ some b') => (hgrow5.block b' (by simp; omega) (fun e => hne e.symm)).trans (Below.heap_alloc _ _ b' (by exact hb)); have n1 : u5.ownBlock ≠ some w.heap.size := fun e => by { have := (HL0.out _ e).1; omega }; have n2 : u5.ownBlock ≠ some b := fun e => by { have := (HL0.out _ e).1; omega }; have e1 := (World.cell?_of_block (a := ⟨w.heap.size, 0, none⟩) (G _ hz3 n1)).trans z0; have e2 := (World.cell?_of_block (a := ⟨b, o + k * 2, none⟩) (G _ hbr n2)).trans X0; have e3 := (World.cell?_of_block (a := ⟨b, o + k * 2 + 1, none⟩) (G _ hbr n2)).trans X1; have HG5 := hid hgrow5; have HO5 := hid hown5; have HA5 := hid hat5; clear hgrow5 hown5 hat5 G)))
          have hx5 : rLink.r (fun b' => 0 ≤ b' ∧ b' < (wr.drew.alloc (.cells #[.int .u64 z.stream, .slice a3 (0) 0] 49)).heap.size ∧ u5.ownBlock ≠ some b') (wr.drew.alloc (.cells #[.int .u64 z.stream, .slice a3 (0) 0] 49)) [.int .u64 z.stream, .slice a3 (0) 0] (cutL z) := by
            have ht := sl_take HBK.out (k := 0) (by have := HLEN.out; omega)
            have e1 : z.backs.take (0) = (cutL z).backs := by simp only [cutL]; rw [List.take_of_length_le (by have := HLEN.out; omega), List.take_of_length_le (by have := HLEN.out; omega)]
            rw [e1] at ht
            refine link_mk (x := cutL z) hst (rU64s.mono (rU64s.keep ht fun b' hb' => (Below.heap_alloc _ _ b' (by have hb2 : b' < w.heap.size := hb'; exact Nat.lt_of_lt_of_le (by omega) hzW2)).trans (hbw.block b' hb')) fun b' hb' => ⟨Nat.zero_le _, ?_, fun e => ?_⟩)
            · have hb2 : b' < w.heap.size := hb'
              simp; omega
            · have hb2 : b' < w.heap.size := hb'
              have := (HL0.out _ e).1; omega
          have hb9 : Below wr.heap.size wr (wr.drew.alloc (.cells #[.int .u64 z.stream, .slice a3 (0) 0] 49)) := by (repeat (first | exact Below.refl _ _ | assumption | (refine below_alloc ?_ _) | (refine Below.setCell ?_ (by first | omega | (simp; done) | (simp; omega)) _) | (refine Below.drew ?_) | (refine below_drewN ?_ _) | (refine below_then (by assumption) ?_)))
          have OP := OwnElsAt.push (HOA.out.below hb9) rfl hx5 (by rw [HLM.out]; exact HO5.out) HG5.out HA5.out HG5.out.size
          have hr1 : (x.links.take k).map cutL ++ [cutL z] = (x.links.take (k + 1)).map cutL := by rw [htk.out, List.map_append]; rfl
          rw [hr1] at OP
          have HOP := hid OP
          have hb10 : Below W.heap.size W w5 := (below_then hb9 hb).grown HG5.out (by simp; omega) (fun g e => (HL0.out g e).1)
          clear OP hr1 hx5 hb9
          go_wp2_with fail
          go_roundw
          case rel => exact ⟨k + 1, by omega, by go_num, ⟨_, HOP.out⟩, hb10⟩
          case measure => simp [intOf]; omega
      · have n3 : (c3 = 0) = False := by simp; omega
        have i7 : (1 : Int) ≤ (c3 : Int) := by omega
        have hlm : ((x.links.take k).map cutL).length = k := by simp; omega
        obtain ⟨cells, OA⟩ := hown
        have hlt0 : ∀ g, u5.ownBlock = some g → W.heap.size ≤ g ∧ g < wr.heap.size := fun g e => OA.1.lt g e
        have OAm := OA.1
        rw [hlm] at OAm
        have HLM := hid hlm; have HOA := hid OA; have HOAm := hid OAm; have HL0 := hid hlt0
        clear hlm OA OAm hlt0
        have hz3 : w.heap.size < wr.heap.size := by omega
        have hbr : b < wr.heap.size := by omega
        have i1 : (k : Int) < (x.links.length : Int) := by omega
        have i2 : (0 : Int) ≤ (k : Int) := by omega
        have hzW2 : W.heap.size ≤ wr.heap.size := hbs
        have hsl : ∀ w' : World, (Instr.slice 47 (.slice a3 1 c3) none (some (.int .i64 1)) none).run Try.prog w' = .ok (.slice a3 (1) c3) w' := fun w' => by
          go_simp
        go_wp2_with fail
        go_region_held3 (fun w' => w'.cell? ⟨w.heap.size, 0, none⟩ = some (.slice (some ⟨b, o, none⟩) x.links.length c1) ∧ w'.cell? ⟨b, o + k * 2, none⟩ = some (.int .u64 z.stream) ∧ w'.cell? ⟨b, o + k * 2 + 1, none⟩ = some (.slice a3 1 c3)) (((try dsimp only); refine ⟨?_, ?_, ?_⟩ <;> (first | assumption | (go_keep; done))))
          ((go_loud (refine step_append_src (by rfl) _ _ _ (by rfl) W.heap.size 49 i0 (.agg #[.int .u64 0, .slice none 0 0]) 2 32 Try.underlying38 hi hz0 hz1 hz2 rfl (by decide) u5 k _ (by rfl) (own_below HOAm.out (by (repeat (first | exact Below.refl _ _ | assumption | (refine below_alloc ?_ _) | (refine Below.setCell ?_ (by first | omega | (simp; done) | (simp; omega)) _) | (refine Below.drew ?_) | (refine below_drewN ?_ _) | (refine below_then (by assumption) ?_))))) (some ⟨wr.heap.size, 0, none⟩) 1 1 [.int .u64 z.stream, .slice a3 (1) c3] (by rfl) (src_new1 wr.drew 49 _ (by rfl) (by rfl) rfl) (by intro u hu; simp at hu; rcases hu with rfl | rfl <;> rfl) (by simp only [maxLen]; omega) (by omega) (by simp; omega) ?_; intro a5 c5 w5 hown5 hgrow5 hat5; have G := fun b' (hb : b' < wr.heap.size) (hne : u5.ownBlock ≠ some b') => (hgrow5.block b' (by simp; omega) (fun e => hne e.symm)).trans (Below.heap_alloc _ _ b' (by exact hb)); have n1 : u5.ownBlock ≠ some w.heap.size := fun e => by { have := (HL0.out _ e).1; omega }; have n2 : u5.ownBlock ≠ some b := fun e => by { have := (HL0.out _ e).1; omega }; have e1 := (World.cell?_of_block (a := ⟨w.heap.size, 0, none⟩) (G _ hz3 n1)).trans z0; have e2 := (World.cell?_of_block (a := ⟨b, o + k * 2, none⟩) (G _ hbr n2)).trans X0; have e3 := (World.cell?_of_block (a := ⟨b, o + k * 2 + 1, none⟩) (G _ hbr n2)).trans X1; have HG5 := hid hgrow5; have HO5 := hid hown5; have HA5 := hid hat5; clear hgrow5 hown5 hat5 G)))
        have hx5 : rLink.r (fun b' => 0 ≤ b' ∧ b' < (wr.drew.alloc (.cells #[.int .u64 z.stream, .slice a3 (1) c3] 49)).heap.size ∧ u5.ownBlock ≠ some b') (wr.drew.alloc (.cells #[.int .u64 z.stream, .slice a3 (1) c3] 49)) [.int .u64 z.stream, .slice a3 (1) c3] (cutL z) := by
          have ht := sl_take HBK.out (k := 1) (by have := HLEN.out; omega)
          have e1 : z.backs.take (1) = (cutL z).backs := by first | rfl | simp only [cutL]; rw [List.take_of_length_le (by have := HLEN.out; omega), List.take_of_length_le (by have := HLEN.out; omega)]
          rw [e1] at ht
          refine link_mk (x := cutL z) hst (rU64s.mono (rU64s.keep ht fun b' hb' => (Below.heap_alloc _ _ b' (by have hb2 : b' < w.heap.size := hb'; exact Nat.lt_of_lt_of_le (by omega) hzW2)).trans (hbw.block b' hb')) fun b' hb' => ⟨Nat.zero_le _, ?_, fun e => ?_⟩)
          · have hb2 : b' < w.heap.size := hb'
            simp; omega
          · have hb2 : b' < w.heap.size := hb'
            have := (HL0.out _ e).1; omega
        have hb9 : Below wr.heap.size wr (wr.drew.alloc (.cells #[.int .u64 z.stream, .slice a3 (1) c3] 49)) := by (repeat (first | exact Below.refl _ _ | assumption | (refine below_alloc ?_ _) | (refine Below.setCell ?_ (by first | omega | (simp; done) | (simp; omega)) _) | (refine Below.drew ?_) | (refine below_drewN ?_ _) | (refine below_then (by assumption) ?_)))
        have OP := OwnElsAt.push (HOA.out.below hb9) rfl hx5 (by rw [HLM.out]; exact HO5.out) HG5.out HA5.out HG5.out.size
        have hr1 : (x.links.take k).map cutL ++ [cutL z] = (x.links.take (k + 1)).map cutL := by rw [htk.out, List.map_append]; rfl
        rw [hr1] at OP
        have HOP := hid OP
        have hb10 : Below W.heap.size W w5 := (below_then hb9 hb).grown HG5.out (by simp; omega) (fun g e => (HL0.out g e).1)
        clear OP hr1 hx5 hb9
        go_wp2_with fail
        go_roundw
        case rel => exact ⟨k + 1, by omega, by go_num, ⟨_, HOP.out⟩, hb10⟩
        case measure => simp [intOf]; omega
      · have i5 : (1 : Int) ≤ (L : Int) := by omega
        have i6 : min (L : Int) 1 = 1 := by omega
        have i7 : (1 : Int) ≤ (c3 : Int) := by omega
        have n1 : (1 : Int) < (L : Int) := by omega
        have n3 : (c3 = 0) = False := by simp; omega
        have hlm : ((x.links.take k).map cutL).length = k := by simp; omega
        obtain ⟨cells, OA⟩ := hown
        have hlt0 : ∀ g, u5.ownBlock = some g → W.heap.size ≤ g ∧ g < wr.heap.size := fun g e => OA.1.lt g e
        have OAm := OA.1
        rw [hlm] at OAm
        have HLM := hid hlm; have HOA := hid OA; have HOAm := hid OAm; have HL0 := hid hlt0
        clear hlm OA OAm hlt0
        have hz3 : w.heap.size < wr.heap.size := by omega
        have hbr : b < wr.heap.size := by omega
        have i1 : (k : Int) < (x.links.length : Int) := by omega
        have i2 : (0 : Int) ≤ (k : Int) := by omega
        have hzW2 : W.heap.size ≤ wr.heap.size := hbs
        have hsl : ∀ w' : World, (Instr.slice 47 (.slice a3 L c3) none (some (.int .i64 1)) none).run Try.prog w' = .ok (.slice a3 (1) c3) w' := fun w' => by
          go_simp
        go_wp2_with fail
        go_region_held3 (fun w' => w'.cell? ⟨w.heap.size, 0, none⟩ = some (.slice (some ⟨b, o, none⟩) x.links.length c1) ∧ w'.cell? ⟨b, o + k * 2, none⟩ = some (.int .u64 z.stream) ∧ w'.cell? ⟨b, o + k * 2 + 1, none⟩ = some (.slice a3 L c3)) (((try dsimp only); refine ⟨?_, ?_, ?_⟩ <;> (first | assumption | (go_keep; done))))
          ((go_loud (refine step_append_src (by rfl) _ _ _ (by rfl) W.heap.size 49 i0 (.agg #[.int .u64 0, .slice none 0 0]) 2 32 Try.underlying38 hi hz0 hz1 hz2 rfl (by decide) u5 k _ (by rfl) (own_below HOAm.out (by (repeat (first | exact Below.refl _ _ | assumption | (refine below_alloc ?_ _) | (refine Below.setCell ?_ (by first | omega | (simp; done) | (simp; omega)) _) | (refine Below.drew ?_) | (refine below_drewN ?_ _) | (refine below_then (by assumption) ?_))))) (some ⟨wr.heap.size, 0, none⟩) 1 1 [.int .u64 z.stream, .slice a3 (1) c3] (by rfl) (src_new1 wr.drew 49 _ (by rfl) (by rfl) rfl) (by intro u hu; simp at hu; rcases hu with rfl | rfl <;> rfl) (by simp only [maxLen]; omega) (by omega) (by simp; omega) ?_; intro a5 c5 w5 hown5 hgrow5 hat5; have G := fun b' (hb : b' < wr.heap.size) (hne : u5.ownBlock ≠ some b') => (hgrow5.block b' (by simp; omega) (fun e => hne e.symm)).trans (Below.heap_alloc _ _ b' (by exact hb)); have n1 : u5.ownBlock ≠ some w.heap.size := fun e => by { have := (HL0.out _ e).1; omega }; have n2 : u5.ownBlock ≠ some b := fun e => by { have := (HL0.out _ e).1; omega }; have e1 := (World.cell?_of_block (a := ⟨w.heap.size, 0, none⟩) (G _ hz3 n1)).trans z0; have e2 := (World.cell?_of_block (a := ⟨b, o + k * 2, none⟩) (G _ hbr n2)).trans X0; have e3 := (World.cell?_of_block (a := ⟨b, o + k * 2 + 1, none⟩) (G _ hbr n2)).trans X1; have HG5 := hid hgrow5; have HO5 := hid hown5; have HA5 := hid hat5; clear hgrow5 hown5 hat5 G)))
        have hx5 : rLink.r (fun b' => 0 ≤ b' ∧ b' < (wr.drew.alloc (.cells #[.int .u64 z.stream, .slice a3 (1) c3] 49)).heap.size ∧ u5.ownBlock ≠ some b') (wr.drew.alloc (.cells #[.int .u64 z.stream, .slice a3 (1) c3] 49)) [.int .u64 z.stream, .slice a3 (1) c3] (cutL z) := by
          have ht := sl_take HBK.out (k := 1) (by have := HLEN.out; omega)
          have e1 : z.backs.take (1) = (cutL z).backs := rfl
          rw [e1] at ht
          refine link_mk (x := cutL z) hst (rU64s.mono (rU64s.keep ht fun b' hb' => (Below.heap_alloc _ _ b' (by have hb2 : b' < w.heap.size := hb'; exact Nat.lt_of_lt_of_le (by omega) hzW2)).trans (hbw.block b' hb')) fun b' hb' => ⟨Nat.zero_le _, ?_, fun e => ?_⟩)
          · have hb2 : b' < w.heap.size := hb'
            simp; omega
          · have hb2 : b' < w.heap.size := hb'
            have := (HL0.out _ e).1; omega
        have hb9 : Below wr.heap.size wr (wr.drew.alloc (.cells #[.int .u64 z.stream, .slice a3 (1) c3] 49)) := by (repeat (first | exact Below.refl _ _ | assumption | (refine below_alloc ?_ _) | (refine Below.setCell ?_ (by first | omega | (simp; done) | (simp; omega)) _) | (refine Below.drew ?_) | (refine below_drewN ?_ _) | (refine below_then (by assumption) ?_)))
        have OP := OwnElsAt.push (HOA.out.below hb9) rfl hx5 (by rw [HLM.out]; exact HO5.out) HG5.out HA5.out HG5.out.size
        have hr1 : (x.links.take k).map cutL ++ [cutL z] = (x.links.take (k + 1)).map cutL := by rw [htk.out, List.map_append]; rfl
        rw [hr1] at OP
        have HOP := hid OP
        have hb10 : Below W.heap.size W w5 := (below_then hb9 hb).grown HG5.out (by simp; omega) (fun g e => (HL0.out g e).1)
        clear OP hr1 hx5 hb9
        go_wp2_with fail
        go_roundw
        case rel => exact ⟨k + 1, by omega, by go_num, ⟨_, HOP.out⟩, hb10⟩
        case measure => simp [intOf]; omega
    · obtain rfl : k = x.links.length := by omega
      rw [List.take_length] at hown
      have hv := OwnEls.slice (Nat.zero_le _) hown
      obtain ⟨av, cv, hv1, hv2, _⟩ := sl_form hv
      rw [List.length_map] at hv1 hv2
      simp only [List.cons.injEq, and_true] at hv1
      subst hv1
      have HV : rLinks.r (· < wr.heap.size) wr [.slice av x.links.length cv] (cutE x).links := rLinks.mono hv2 fun b hb => hb.2
      have HD : rBytes.r (· < wr.heap.size) wr [.slice a2 x.data.length c2] (cutE x).data := lift HX'.out hbw
      have HS := hid (ref24_same y (cutE x) _ _ _ _ _ _ _ _ _ _ _ _ wr (lift HY.out hbw) (lift HY'.out hbw) HV HD)
      clear hv hown hv2 HV HD
      have z1 : wr.cell? ⟨w.heap.size, 1, none⟩ = some (.slice a2 x.data.length c2) := (Q0.out.below hb LT0).cell 1
      have z2 : wr.cell? ⟨w.heap.size + 1, 0, none⟩ = some (.slice b1 y.links.length d1) := (Q1.out.below hb LT1).cell 0
      have z3 : wr.cell? ⟨w.heap.size + 1, 1, none⟩ = some (.slice b2 y.data.length d2) := (Q1.out.below hb LT1).cell 1
      have hz3 : w.heap.size < wr.heap.size := by omega
      have hz4 : w.heap.size + 1 < wr.heap.size := by omega
      generalize hR : decide (y = cutE x) = R at *
      have HR := hid hR; clear hR
      go_wp2_with fail
      refine HS.out.mono ?_
      rintro r w9 ⟨rfl, hb9⟩
      go_wp2
      go_ret
      exact ⟨by rw [HR.out]; rfl, below_then hb9 hbw⟩
end Go.Proofs.Ytlbchenleimopaa
