/- What an entry of the version 1 becomes, by the program. -/
import Derived.Test.YtlbchenleimopaaStU
import Derived.Test.YtlbchenleimopaaUpp
import Derived.Deep.AppendLies
import Derived.Deep.RegionHeld3
namespace Go.Proofs.Ytlbchenleimopaa
open Go.RowKit Go.Bs
set_option linter.unusedVariables false
set_option linter.unusedSimpArgs false

theorem rLinks_one {S : Nat → Prop} {w : World} {g : Nat} {t : TypeId} {s : Int} {a : Option Addr} {n c : Nat} {bk : List Int} (hb : Blk w g t #[.int .u64 s, .slice a n c]) (hs : 0 ≤ s ∧ s ≤ 18446744073709551615) (hS : S g) (h : rU64s.r S w [.slice a n c] bk) :
    rLinks.r S w [.slice (some ⟨g, 0, none⟩) 1 1] [⟨s, bk⟩] := by
  refine rSl_mk rfl (Nat.le_refl _) (by simp [maxLen]) (.inr ⟨g, 0, rfl, hS, fun i x hi => ?_⟩)
  have hi0 : i = 0 := by
    have := (List.getElem?_eq_some_iff.1 hi).1
    simpa using this
  subst hi0
  simp at hi
  subst hi
  refine ⟨[.int .u64 s, .slice a n c], rfl, fun j v hj => ?_, link_mk (x := ⟨s, bk⟩) hs h⟩
  rw [Blk.cell hb]
  simpa using hj
theorem rU64s_one {S : Nat → Prop} {w : World} {g : Nat} {t : TypeId} {s : Int} (hb : Blk w g t #[.int .u64 s]) (hs : 0 ≤ s ∧ s ≤ 18446744073709551615) (hS : S g) : rU64s.r S w [.slice (some ⟨g, 0, none⟩) 1 1] [s] := by
  refine rSl_mk rfl (Nat.le_refl _) (by simp [maxLen]) (.inr ⟨g, 0, rfl, hS, fun i x hi => ?_⟩)
  have hi0 : i = 0 := by
    have := (List.getElem?_eq_some_iff.1 hi).1
    simpa using this
  subst hi0
  simp at hi
  subst hi
  refine ⟨[.int .u64 s], rfl, fun j v hj => ?_, rfl, u64_wf hs⟩
  rw [Blk.cell hb]
  simpa using hj

set_option maxRecDepth 100000 in
set_option maxHeartbeats 8000000 in
theorem upgrade_entryOf (x : Old) (a : Option Addr) (n c : Nat) (w : World) (h0 : 0 ≤ x.stream ∧ x.stream ≤ 18446744073709551615) (h1 : 0 ≤ x.back ∧ x.back ≤ 18446744073709551615) (hd : rBytes.r (· < w.heap.size) w [.slice a n c] x.data) (hdl : x.data.length ≤ 1000000000000) :
    Calls Try.prog 46 #[.agg #[.int .u64 x.stream, .int .u64 x.back, .bool x.has, .slice a n c]] w fun r w' => ∃ v1 v2, r = .returned (.agg #[v1, v2]) ∧ rLinks.r (Fresh w w') w' [v1] (upE x).links ∧ rBytes.r (Fresh w w') w' [v2] x.data ∧ Below w.heap.size w w' := by
  obtain ⟨rfl, hm', _, _⟩ := sl_len hd
  obtain ⟨st, bk, hs, D⟩ := x
  dsimp only at *
  obtain ⟨i0, hi, hz0, hz1, hz2⟩ := info_parts info8
  have hS : ∀ W : World, Below w.heap.size w W → Src W a D.length 1 (byteCells D) := fun W hW => src_bytes (lift hd hW)
  have HS := hid hS; clear hS hd
  have HONE := hid (byteCells_one D)
  obtain ⟨B, hB⟩ : ∃ B, backsO ⟨st, bk, hs, D⟩ = B := ⟨_, rfl⟩
  have hup : upE ⟨st, bk, hs, D⟩ = ⟨[⟨st, B⟩], D⟩ := by unfold upE; rw [hB]
  rw [hup]
  clear hup
  cases hs
  all_goals
    have HB := hid hB
    clear hB
    go_enter Try.func46, Try.ntmps46
    go_wp2_with fail
    refine wp_world (fun W => ∃ a4 n4 c4, Below w.heap.size w W ∧ w.heap.size + 2 < W.heap.size ∧ rU64s.r (fun b => w.heap.size + 2 < b ∧ b < W.heap.size) W [.slice a4 n4 c4] B ∧
      W.cell? ⟨w.heap.size, 3, none⟩ = some (.slice a D.length c) ∧ W.cell? ⟨w.heap.size + 1, 0, none⟩ = some (.slice none 0 0) ∧ W.cell? ⟨w.heap.size + 1, 1, none⟩ = some (.slice none 0 0) ∧ W.frozen? ⟨w.heap.size + 1, 0, none⟩ = false ∧ W.frozen? ⟨w.heap.size + 1, 1, none⟩ = false ∧
      W.cell? ⟨w.heap.size + 2, 0, none⟩ = some (.int .u64 st) ∧ W.cell? ⟨w.heap.size + 2, 1, none⟩ = some (.slice a4 n4 c4)) ?_ ?_
    · rw [← HB.out]
      first
        | exact ⟨none, 0, 0, by (repeat (first | exact Below.refl _ _ | assumption | (refine below_alloc ?_ _) | (refine Below.setCell ?_ (by first | omega | (simp; done) | (simp; omega)) _) | (refine Below.drew ?_) | (refine below_drewN ?_ _) | (refine below_then (by assumption) ?_))), by simp, rSl_mk rfl (Nat.le_refl _) (Nat.zero_le _) (.inl rfl), by go_simp, by go_simp, by go_simp, by go_simp, by go_simp, by go_simp, by go_simp⟩
        | (refine ⟨some ⟨w.heap.size + 3, 0, none⟩, 1, 1, by (repeat (first | exact Below.refl _ _ | assumption | (refine below_alloc ?_ _) | (refine Below.setCell ?_ (by first | omega | (simp; done) | (simp; omega)) _) | (refine Below.drew ?_) | (refine below_drewN ?_ _) | (refine below_then (by assumption) ?_))), by simp, rU64s_one (t := 22) ?_ h1 (by simp), by go_simp, by go_simp, by go_simp, by go_simp, by go_simp, by go_simp, by go_simp⟩
           (repeat (first | assumption | exact Blk.newAt _ _ _ (by first | (simp; done) | (simp; omega)) | refine Blk.alloc ?_ _ | refine Blk.drew ?_ | refine Blk.drewN ?_ _ | refine Blk.far ?_ (by first | (simp; done) | (simp; omega)) _)))
    intro W ⟨a4, n4, c4, hbW, hzW, hr, p3, q0, q1, q2, q3, l0, l1⟩
    have HR := hid hr; clear hr
    have lt1 : w.heap.size + 1 < W.heap.size := by omega
    go_region_held3 (fun w' => w'.cell? ⟨w.heap.size, 3, none⟩ = some (.slice a D.length c) ∧ w'.cell? ⟨w.heap.size + 2, 0, none⟩ = some (.int .u64 st) ∧ w'.cell? ⟨w.heap.size + 2, 1, none⟩ = some (.slice a4 n4 c4)) (((try dsimp only); refine ⟨?_, ?_, ?_⟩ <;> (first | assumption | (go_keep; done))))
      ((refine step_append_src (by rfl) _ _ _ (by rfl) (w.heap.size + 2) 5 i0 (.int .u8 0) 1 1 Try.underlying39 hi hz0 hz1 hz2 rfl (by decide) _ 0 [] (by rfl) (own_empty_blk (by (repeat (first | assumption | exact Blk.newAt _ _ _ (by first | (simp; done) | (simp; omega)) | refine Blk.alloc ?_ _ | refine Blk.drew ?_ | refine Blk.drewN ?_ _ | refine Blk.far ?_ (by first | (simp; done) | (simp; omega)) _))) (by first | omega | (simp; done) | (simp; omega))) a D.length c (byteCells D) (by rfl) (HS.out _ (by (repeat (first | exact Below.refl _ _ | assumption | (refine below_alloc ?_ _) | (refine Below.setCell ?_ (by first | omega | (simp; done) | (simp; omega)) _) | (refine Below.drew ?_) | (refine below_drewN ?_ _) | (refine below_then (by assumption) ?_))))) HONE.out (by simp only [maxLen]; omega) (by omega) (by first | omega | (simp; done) | (simp; omega)) ?_; intro a5 c5 w5 hown5 hgrow5 hat5; rw [Nat.zero_add, List.nil_append] at hown5; have k5 : Below W.heap.size W w5 := Below.grown (by (repeat (first | exact Below.refl _ _ | assumption | (refine below_alloc ?_ _) | (refine Below.setCell ?_ (by first | omega | (simp; done) | (simp; omega)) _) | (refine Below.drew ?_) | (refine below_drewN ?_ _) | (refine below_then (by assumption) ?_)))) hgrow5 (by first | omega | (simp; done) | (simp; omega)) (fun g e => by simp only [Value.ownBlock, Option.some.injEq, reduceCtorEq] at e; first | omega | (simp at e; omega)); have y0 := (k5.cell (p := ⟨w.heap.size + 1, 0, none⟩) lt1).trans q0; have y1 := (k5.cell (p := ⟨w.heap.size + 1, 1, none⟩) lt1).trans q1; have y2 := (k5.frozen (p := ⟨w.heap.size + 1, 0, none⟩) lt1).trans q2; have y3 := (k5.frozen (p := ⟨w.heap.size + 1, 1, none⟩) lt1).trans q3; have lt5 : w.heap.size < w5.heap.size := Nat.lt_of_lt_of_le (by omega) k5.size; have lt51 : w.heap.size + 1 < w5.heap.size := Nat.lt_of_lt_of_le lt1 k5.size; have E3 := (k5.cell (p := ⟨w.heap.size, 3, none⟩) (by show w.heap.size < _; omega)).trans p3; have E20 := (k5.cell (p := ⟨w.heap.size + 2, 0, none⟩) hzW).trans l0; have E21 := (k5.cell (p := ⟨w.heap.size + 2, 1, none⟩) hzW).trans l1; have HG5 := hid hgrow5; have HO5 := hid hown5; have HAT5 := hid hat5; clear hgrow5 hown5 hat5))
    all_goals
      have hr5 := own_bytes2 rfl HO5.out
      go_wp2
      have k5s := k5.size
      skip
    · have X : Blk w5 (W.heap.size) 49 #[.int .u64 st, .slice a4 n4 c4] := Blk.grown (by (repeat (first | assumption | exact Blk.newAt _ _ _ (by first | (simp; done) | (simp; omega)) | refine Blk.alloc ?_ _ | refine Blk.drew ?_ | refine Blk.drewN ?_ _ | refine Blk.far ?_ (by first | (simp; done) | (simp; omega)) _))) HG5.out (by intro e; simp [Value.ownBlock] at e)
      refine bodyPost_ret (v := .agg #[.slice (some ⟨W.heap.size, 0, none⟩) 1 1, .slice a5 D.length c5]) (by simp [results, Try.results46, go_sem, y0, y1]) rfl ⟨_, _, rfl, rLinks_one (t := 49) (a := a4) (n := n4) (c := c4) ?_ h0 ?_ ?_, ?_, by (repeat (first | exact Below.refl _ _ | assumption | (refine below_alloc ?_ _) | (refine Below.setCell ?_ (by first | omega | (simp; done) | (simp; omega)) _) | (refine Below.drew ?_) | (refine below_drewN ?_ _) | (refine below_then (by assumption) ?_)))⟩
      · (repeat (first | assumption | exact Blk.newAt _ _ _ (by first | (simp; done) | (simp; omega)) | refine Blk.alloc ?_ _ | refine Blk.drew ?_ | refine Blk.drewN ?_ _ | refine Blk.far ?_ (by first | (simp; done) | (simp; omega)) _))
      · exact ⟨by omega, by first | (simp; done) | (have gs := HG5.out.size; simp at gs; simp; omega)⟩
      · refine rU64s.mono (rU64s.keep HR.out fun b hb => ?_) fun b hb => ⟨by omega, by simp; omega⟩
        repeat (first | rw [Below.heap_setCell _ _ _ _ (by dsimp only; omega)] | rw [Below.heap_alloc _ _ _ (by simp; omega)])
        exact k5.block b hb.2
      · refine rBytes.mono (rBytes.keep hr5 fun b hb => ?_) fun b hb => ⟨by omega, by simp; omega⟩
        repeat (first | rw [Below.heap_setCell _ _ _ _ (by dsimp only; omega)] | rw [Below.heap_alloc _ _ _ (by simp; omega)])
    · have X : Blk w5 (W.heap.size + 1) 49 #[.int .u64 st, .slice a4 n4 c4] := Blk.grown (by (repeat (first | assumption | exact Blk.newAt _ _ _ (by first | (simp; done) | (simp; omega)) | refine Blk.alloc ?_ _ | refine Blk.drew ?_ | refine Blk.drewN ?_ _ | refine Blk.far ?_ (by first | (simp; done) | (simp; omega)) _))) HG5.out (by intro e; simp [Value.ownBlock] at e)
      refine bodyPost_ret (v := .agg #[.slice (some ⟨W.heap.size + 1, 0, none⟩) 1 1, .slice a5 D.length c5]) (by simp [results, Try.results46, go_sem, y0, y1]) rfl ⟨_, _, rfl, rLinks_one (t := 49) (a := a4) (n := n4) (c := c4) ?_ h0 ?_ ?_, ?_, by (repeat (first | exact Below.refl _ _ | assumption | (refine below_alloc ?_ _) | (refine Below.setCell ?_ (by first | omega | (simp; done) | (simp; omega)) _) | (refine Below.drew ?_) | (refine below_drewN ?_ _) | (refine below_then (by assumption) ?_)))⟩
      · (repeat (first | assumption | exact Blk.newAt _ _ _ (by first | (simp; done) | (simp; omega)) | refine Blk.alloc ?_ _ | refine Blk.drew ?_ | refine Blk.drewN ?_ _ | refine Blk.far ?_ (by first | (simp; done) | (simp; omega)) _))
      · exact ⟨by omega, by first | (simp; done) | (have gs := HG5.out.size; simp at gs; simp; omega)⟩
      · refine rU64s.mono (rU64s.keep HR.out fun b hb => ?_) fun b hb => ⟨by omega, by simp; omega⟩
        repeat (first | rw [Below.heap_setCell _ _ _ _ (by dsimp only; omega)] | rw [Below.heap_alloc _ _ _ (by simp; omega)])
        exact k5.block b hb.2
      · refine rBytes.mono (rBytes.keep hr5 fun b hb => ?_) fun b hb => ⟨by omega, by simp; omega⟩
        repeat (first | rw [Below.heap_setCell _ _ _ _ (by dsimp only; omega)] | rw [Below.heap_alloc _ _ _ (by simp; omega)])
    · refine bodyPost_ret (v := .agg #[.slice (some ⟨w5.heap.size, 0, none⟩) 1 1, .slice a5 D.length c5]) (by simp [results, Try.results46, go_sem, y0, y1, World.cell?_alloc_some, World.cell?_setCell_far, lt51]) rfl ⟨_, _, rfl, rLinks_one (t := 49) (a := a4) (n := n4) (c := c4) ?_ h0 ?_ ?_, ?_, by (repeat (first | exact Below.refl _ _ | assumption | (refine below_alloc ?_ _) | (refine Below.setCell ?_ (by first | omega | (simp; done) | (simp; omega)) _) | (refine Below.drew ?_) | (refine below_drewN ?_ _) | (refine below_then (by assumption) ?_)))⟩
      · (repeat (first | assumption | exact Blk.newAt _ _ _ (by first | (simp; done) | (simp; omega)) | refine Blk.alloc ?_ _ | refine Blk.drew ?_ | refine Blk.drewN ?_ _ | refine Blk.far ?_ (by first | (simp; done) | (simp; omega)) _))
      · exact ⟨by omega, by first | (simp; done) | (have gs := HG5.out.size; simp at gs; simp; omega)⟩
      · refine rU64s.mono (rU64s.keep HR.out fun b hb => ?_) fun b hb => ⟨by omega, by simp; omega⟩
        repeat (first | rw [Below.heap_setCell _ _ _ _ (by dsimp only; omega)] | rw [Below.heap_alloc _ _ _ (by simp; omega)])
        exact k5.block b hb.2
      · refine rBytes.mono (rBytes.keep hr5 fun b hb => ?_) fun b hb => ⟨by omega, by simp; omega⟩
        repeat (first | rw [Below.heap_setCell _ _ _ _ (by dsimp only; omega)] | rw [Below.heap_alloc _ _ _ (by simp; omega)])
end Go.Proofs.Ytlbchenleimopaa
