/- The fixed call at the end of each law of the upgrades. -/
import Derived.Test.YtlbchenleimopaaSuA
namespace Go.Proofs.Ytlbchenleimopaa
open Go.RowKit Go.Bs
set_option linter.unusedVariables false
set_option linter.unusedSimpArgs false

def liveU : Seg1 := ⟨1, 0, List.replicate 17 ⟨0, 0, false, []⟩⟩
theorem live_code : (up1R liveU).2 = 0 ∧ (up1R liveU).1.epoch = 1 ∧ (up1R liveU).1.batches.length = 2 := by decide +kernel
theorem live_b0 : ((up1R liveU).1.batches[0]?).map (fun b => b.entries.length) = some 16 := by decide +kernel
theorem live_b1 : ((up1R liveU).1.batches[1]?).map (fun b => (b.base, b.entries.length)) = some (16, 1) := by decide +kernel

def liveRow : List Value := [.int .u64 0, .int .u64 0, .bool false, .slice none 0 0]
def liveCs : Array Value := (List.replicate 17 liveRow).flatten.toArray
theorem live_make (w : World) : (Instr.makeSlice 23 (.int .i64 17) (.int .i64 17)).run Try.prog w = .ok (.slice (some ⟨w.heap.size, 0, none⟩) 17 17) (w.alloc (.cells liveCs 46)) := by kernel_rfl

theorem live_rep {w : World} {g : Nat} (hb : Blk w g 46 liveCs) : rOlds.r (· < w.heap.size) w [.slice (some ⟨g, 0, none⟩) 17 17] liveU.entries := by
  refine rSl_mk (xs := liveU.entries) rfl (by decide) (by simp [maxLen]) (.inr ⟨g, 0, rfl, hb.lt, fun i x hi => ?_⟩)
  have hlt : i < 17 := by
    have := (List.getElem?_eq_some_iff.1 hi).1
    simpa [liveU] using this
  have hx : x = ⟨0, 0, false, []⟩ := by
    simp only [liveU, List.getElem?_replicate, if_pos hlt, Option.some.injEq] at hi
    exact hi.symm
  subst hx
  refine ⟨liveRow, rfl, fun j v hj => ?_, ?_⟩
  · rw [Nat.zero_add, hb.cell]
    have := flatten_at 4 (List.replicate 17 liveRow) (fun c hc => by rw [(List.mem_replicate.1 hc).2]; rfl) i j liveRow v (by rw [List.getElem?_replicate, if_pos hlt]) hj
    simpa [liveCs] using this
  · exact ⟨[_], [_, _, _], rfl, ⟨rfl, rfl⟩, [_], [_, _], rfl, ⟨rfl, rfl⟩, [_], [_], rfl, rfl, rSl_mk rfl (Nat.le_refl _) (Nat.zero_le _) (.inl rfl)⟩

theorem live_cells {S : Nat → Prop} {w : World} {v : Value} (h : rBatches.r S w [v] (up1R liveU).1.batches) : ∃ b o c1 a3 c3 a4 c4, v = .slice (some ⟨b, o, none⟩) 2 c1 ∧ S b ∧ w.cell? ⟨b, o + 2, none⟩ = some (.slice a3 16 c3) ∧ w.cell? ⟨b, o + 3 + 1, none⟩ = some (.int .u64 16) ∧ w.cell? ⟨b, o + 3 + 2, none⟩ = some (.slice a4 1 c4) := by
  have l3 := live_code.2.2
  have l4 := live_b0
  have l5 := live_b1
  generalize (up1R liveU).1.batches = L at *
  obtain ⟨a1, c1, hv, hr2, _⟩ := sl_form h
  simp only [List.cons.injEq, and_true] at hv
  subst hv
  rw [l3] at hr2 ⊢
  obtain ⟨b, o, hA, hbb, a3, c3, X0, X1, X2, _, _, _⟩ := batch_at hr2 (i := 0) (by rw [l3]; decide)
  obtain ⟨b', o', hA', _, a4, c4, Y0, Y1, Y2, _, _, _⟩ := batch_at hr2 (i := 1) (by rw [l3]; decide)
  subst hA
  simp only [Option.some.injEq, Addr.mk.injEq, and_true] at hA'
  obtain ⟨rfl, rfl⟩ := hA'
  rw [List.getElem?_eq_getElem (by rw [l3]; decide)] at l4 l5
  simp only [Option.map_some, Option.some.injEq, Prod.mk.injEq] at l4 l5
  rw [l4] at X2
  rw [l5.2] at Y2
  rw [l5.1] at Y1
  exact ⟨b, o, c1, a3, c3, a4, c4, rfl, hbb, by simpa using X2, by simpa using Y1, by simpa using Y2⟩

set_option maxRecDepth 100000 in
set_option maxHeartbeats 1600000 in
theorem live36 (w : World) : Calls Try.prog 7 #[] w fun r w' => r = .returned (.bool true) ∧ Below w.heap.size w w' := by
  have hmk := live_make
  have hU := fun (W : World) (g : Nat) (hb : Blk W g 46 liveCs) => upgrade_Up1 liveU (some ⟨g, 0, none⟩) 17 17 W (by decide) (by decide) (live_rep hb) (by decide)
  have HU := hid hU; clear hU
  go_enter Try.func7, Try.ntmps7
  go_wp2_with fail
  refine (HU.out _ w.heap.size (by (repeat (first | assumption | exact Blk.newAt _ _ _ (by first | (simp; done) | (simp; omega)) | refine Blk.alloc ?_ _ | refine Blk.drew ?_ | refine Blk.drewN ?_ _ | refine Blk.far ?_ (by first | (simp; done) | (simp; omega)) _)))).mono ?_
  rintro r w1 hr
  obtain ⟨l1, l2, l3⟩ := live_code
  obtain ⟨v, rfl, hr1, hb1⟩ := hr
  rw [l1, l2]
  obtain ⟨b, o, c1, a3, c3, a4, c4, hv, hbb, X2, Y1, Y2⟩ := live_cells hr1
  subst hv
  have hb2 : Below w.heap.size w w1 := by (repeat (first | exact Below.refl _ _ | assumption | (refine below_alloc ?_ _) | (refine Below.setCell ?_ (by first | omega | (simp; done) | (simp; omega)) _) | (refine Below.drew ?_) | (refine below_drewN ?_ _) | (refine below_then (by assumption) ?_)))
  clear l1 l2 l3 hr1
  go_wp2
  go_ret
  exact ⟨rfl, by (repeat (first | exact Below.refl _ _ | assumption | (refine below_alloc ?_ _) | (refine Below.setCell ?_ (by first | omega | (simp; done) | (simp; omega)) _) | (refine Below.drew ?_) | (refine below_drewN ?_ _) | (refine below_then (by assumption) ?_)))⟩
end Go.Proofs.Ytlbchenleimopaa
