/- Copies of entries. -/
import Derived.Test.YtkipiefcnjfdjaaGreatStO
import Derived.Deep.AppendLies
import Derived.Deep.RegionLaw
namespace Go.Proofs.YtkipiefcnjfdjaaGreat
open Go.RowKit Go.Bs
set_option linter.unusedVariables false
set_option linter.unusedSimpArgs false

set_option maxHeartbeats 1600000 in
theorem entry_copyW (x : Entry) (a1 a2 : Option Addr) (n1 c1 n2 c2 : Nat) (w : World) (hl : rLinks.r (· < w.heap.size) w [.slice a1 n1 c1] x.links) (hd : rBytes.r (· < w.heap.size) w [.slice a2 n2 c2] x.data)
    (hlen : x.links.length ≤ 1000000000000) (hdl : x.data.length ≤ 1000000000000) (hb : ∀ z ∈ x.links, z.backs.length ≤ 1000000000000) :
    Calls Tryz.prog 88 #[.agg #[.slice a1 n1 c1, .slice a2 n2 c2]] w fun r w' => ∃ v1 v2, r = .returned (.agg #[v1, v2]) ∧ rLinksW.r (Fresh w w') w' [v1] x.links ∧ rBytes.r (Fresh w w') w' [v2] x.data ∧ Below w.heap.size w w' := by
  obtain ⟨rfl, hm, _, _⟩ := sl_len hl
  obtain ⟨rfl, hm', _, _⟩ := sl_len hd
  obtain ⟨i0, hi, hz0, hz1, hz2⟩ := info_parts info8
  have HB := hid hb; clear hb
  have hC : ∀ W : World, Below w.heap.size w W → Calls Tryz.prog 143 #[.slice a1 x.links.length c1] W fun r w' => ∃ a c, r = .returned (.slice a x.links.length c) ∧ rLinksW.r (Fresh W w') w' [.slice a x.links.length c] x.links ∧ Below W.heap.size W w' := fun W hW =>
    (link_copyW x.links a1 _ c1 W (lift hl hW) hlen HB.out).mono fun r w' ⟨v, h1, h2, h3⟩ => by
      obtain ⟨a, c, hv, _, _⟩ := sl_form (linksW_links h2)
      simp only [List.cons.injEq, and_true] at hv
      subst hv
      exact ⟨a, c, h1, h2, h3⟩
  have HC := hid hC; clear hC
  have hS : ∀ W : World, Below w.heap.size w W → Src W a2 x.data.length 1 (byteCells x.data) := fun W hW => src_bytes (lift hd hW)
  have HS := hid hS; clear hS hl hd
  have HONE := hid (byteCells_one x.data)
  go_enter Tryz.func88, Tryz.ntmps88
  go_wp2_with fail
  refine wp_world (fun W => Below w.heap.size w W ∧ W.heap.size = w.heap.size + 2 ∧ Blk W w.heap.size 75 #[.slice a1 x.links.length c1, .slice a2 x.data.length c2] ∧ Blk W (w.heap.size + 1) 75 #[.slice none 0 0, .slice none 0 0]) ⟨by (repeat (first | exact Below.refl _ _ | assumption | (refine below_alloc ?_ _) | (refine Below.setCell ?_ (by first | omega | (simp; done) | (simp; omega)) _) | (refine Below.drew ?_) | (refine below_drewN ?_ _) | (refine below_then (by assumption) ?_))), by simp, (Blk.new w _ _).alloc _, Blk.new1 w _ _ _⟩ ?_
  intro W ⟨hbW, hzW, q0, q1⟩
  have c00 : W.cell? ⟨w.heap.size, 0, none⟩ = some (.slice a1 x.links.length c1) := q0.cell 0
  have c01 : W.cell? ⟨w.heap.size, 1, none⟩ = some (.slice a2 x.data.length c2) := q0.cell 1
  have Q0 := hid q0; have Q1 := hid q1
  clear q0 q1
  have HW := hid hzW
  have LT0 : w.heap.size < W.heap.size := by omega
  have LT1 : w.heap.size + 1 < W.heap.size := by omega
  clear hzW
  go_region_law (first
    | (go_simp; go_at_call 143; refine (HC.out _ (by (repeat (first | exact Below.refl _ _ | assumption | (refine below_alloc ?_ _) | (refine Below.setCell ?_ (by first | omega | (simp; done) | (simp; omega)) _) | (refine Below.drew ?_) | (refine below_drewN ?_ _) | (refine below_then (by assumption) ?_))))).mono ?_; rintro e w4 ⟨a4, c4, rfl, hr4, hb4⟩; have k4 : Below W.heap.size W w4 := (by (repeat (first | exact Below.refl _ _ | assumption | (refine below_alloc ?_ _) | (refine Below.setCell ?_ (by first | omega | (simp; done) | (simp; omega)) _) | (refine Below.drew ?_) | (refine below_drewN ?_ _) | (refine below_then (by assumption) ?_)))); have d0 := (k4.cell (p := ⟨w.heap.size, 0, none⟩) LT0).trans c00; have d1 := (k4.cell (p := ⟨w.heap.size, 1, none⟩) LT0).trans c01; have lt4 : w.heap.size < w4.heap.size := Nat.lt_of_lt_of_le LT0 k4.size; have lt41 : w.heap.size + 1 < w4.heap.size := Nat.lt_of_lt_of_le LT1 k4.size; have x0 := (Q1.out.below k4 LT1).free 0; have x1 := (Q1.out.below k4 LT1).free 1; have x2 := (Q1.out.below k4 LT1).cell 0; have x3 := (Q1.out.below k4 LT1).cell 1; have HR4 := hid hr4; clear hr4)
    | (go_loud (refine step_append_src (by rfl) _ _ _ (by rfl) (w.heap.size + 2) 5 i0 (.int .u8 0) 1 1 Tryz.underlying28 hi hz0 hz1 hz2 rfl (by decide) _ 0 [] (by rfl) (by first | exact own_empty _ (by first | exact LT1 | exact lt41 | (simp; omega)) (by rfl) | exact own_below (World.ownsRow.drew (own_empty _ (by first | exact LT1 | exact lt41 | (simp; omega)) (by rfl))) (by assumption)) a2 x.data.length c2 (byteCells x.data) (by rfl) (HS.out _ (by (repeat (first | exact Below.refl _ _ | assumption | (refine below_alloc ?_ _) | (refine Below.setCell ?_ (by first | omega | (simp; done) | (simp; omega)) _) | (refine Below.drew ?_) | (refine below_drewN ?_ _) | (refine below_then (by assumption) ?_))))) HONE.out (by simp only [maxLen]; omega) (by omega) (by first | exact LT1 | exact lt41 | (simp; omega)) ?_; intro a5 c5 w5 hown5 hgrow5 hat5; rw [Nat.zero_add, List.nil_append] at hown5; have k5 : Below W.heap.size W w5 := (Below.grown (by (repeat (first | exact Below.refl _ _ | assumption | (refine below_alloc ?_ _) | (refine Below.setCell ?_ (by first | omega | (simp; done) | (simp; omega)) _) | (refine Below.drew ?_) | (refine below_drewN ?_ _) | (refine below_then (by assumption) ?_)))) hgrow5 (by first | exact k4.size | exact Nat.le_succ_of_le k4.size | exact Nat.le_refl _ | exact Nat.le_succ _ | (have q4 := k4.size; simp; omega) | (simp; done)) (fun g e => by first | (have e' : some w4.heap.size = some g := e; injection e' with e'; subst e'; exact k4.size) | (have e' : some W.heap.size = some g := e; injection e' with e'; exact Nat.le_of_eq e')));  have z0 := (k5.cell (p := ⟨w.heap.size, 0, none⟩) LT0).trans c00; have y0 := (Q1.out.below k5 LT1).cell 0; have y1 := (Q1.out.below k5 LT1).cell 1; have y2 := (Q1.out.below k5 LT1).free 0; have y3 := (Q1.out.below k5 LT1).free 1; have lt5 : w.heap.size < w5.heap.size := Nat.lt_of_lt_of_le LT0 k5.size; have lt51 : w.heap.size + 1 < w5.heap.size := Nat.lt_of_lt_of_le LT1 k5.size; have HG5 := hid hgrow5; have HO5 := hid hown5; have HAT5 := hid hat5; clear hgrow5 hown5 hat5)))
  all_goals
    have hw2 := HW.out
    have hr5 := own_bytes2 rfl HO5.out
    have hr6 : rLinksW.r (fun b => w.heap.size + 2 ≤ b ∧ b < w5.heap.size) w5 [.slice a4 x.links.length c4] x.links := by
      first
        | (refine rLinksW.mono (rLinksW.keep HR4.out fun b hb => ?_) fun b hb => ?_
           · obtain ⟨p1, p2⟩ := hb
             exact HG5.out.block b p2 (fun e => by have e' : some b = some W.heap.size := e; injection e' with e'; simp at p1; omega)
           · obtain ⟨p1, p2⟩ := hb
             have := HG5.out.size
             simp at p1
             exact ⟨by omega, by omega⟩)
        | (refine rLinksW.mono (rLinksW.keep HR4.out fun b hb => ?_) fun b hb => ?_
           · obtain ⟨p1, p2⟩ := hb
             exact (HG5.out.block b (by simp; omega) (fun e => by have e' : some b = some w4.heap.size := e; injection e' with e'; omega)).trans (Below.heap_alloc w4 _ b p2)
           · obtain ⟨p1, p2⟩ := hb
             have := HG5.out.size
             simp at p1 this
             exact ⟨by omega, by omega⟩)
    clear HR4 HG5 HO5 HAT5
    have hb5 : Below w.heap.size w w5 := below_then k5 hbW
    have Y0 : w5.cell? ⟨w.heap.size + 1, 0, none⟩ = some (.slice none 0 0) := y0
    have Y1 : w5.cell? ⟨w.heap.size + 1, 1, none⟩ = some (.slice none 0 0) := y1
    go_wp2
    refine bodyPost_ret (v := .agg #[.slice a4 x.links.length c4, .slice a5 x.data.length c5]) (by simp [results, Tryz.results88, go_sem, Y0, Y1]) rfl ⟨_, _, rfl, ?_, ?_, by (repeat (first | exact Below.refl _ _ | assumption | (refine below_alloc ?_ _) | (refine Below.setCell ?_ (by first | omega | (simp; done) | (simp; omega)) _) | (refine Below.drew ?_) | (refine below_drewN ?_ _) | (refine below_then (by assumption) ?_)))⟩
    · refine rLinksW.mono (rLinksW.keep hr6 fun b hb => ?_) fun b hb => ⟨by omega, by simp; omega⟩
      repeat rw [Below.heap_setCell _ _ _ _ (by dsimp only; omega)]
    · refine rBytes.mono (rBytes.keep hr5 fun b hb => ?_) fun b hb => ⟨by omega, by simp; omega⟩
      repeat rw [Below.heap_setCell _ _ _ _ (by dsimp only; omega)]

theorem entry_copy (x : Entry) (a1 a2 : Option Addr) (n1 c1 n2 c2 : Nat) (w : World) (hl : rLinks.r (· < w.heap.size) w [.slice a1 n1 c1] x.links) (hd : rBytes.r (· < w.heap.size) w [.slice a2 n2 c2] x.data)
    (hlen : x.links.length ≤ 1000000000000) (hdl : x.data.length ≤ 1000000000000) (hb : ∀ z ∈ x.links, z.backs.length ≤ 1000000000000) :
    Calls Tryz.prog 88 #[.agg #[.slice a1 n1 c1, .slice a2 n2 c2]] w fun r w' => ∃ v1 v2, r = .returned (.agg #[v1, v2]) ∧ rLinks.r (Fresh w w') w' [v1] x.links ∧ rBytes.r (Fresh w w') w' [v2] x.data ∧ Below w.heap.size w w' :=
  (entry_copyW x a1 a2 n1 c1 n2 c2 w hl hd hlen hdl hb).mono fun r w' ⟨v1, v2, h1, h2, h3, h4⟩ => ⟨v1, v2, h1, linksW_links h2, h3, h4⟩
end Go.Proofs.YtkipiefcnjfdjaaGreat
