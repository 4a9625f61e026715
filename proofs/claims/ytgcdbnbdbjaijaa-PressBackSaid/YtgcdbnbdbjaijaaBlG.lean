/- The fixed blocks of the document. -/
import Derived.Test.YtgcdbnbdbjaijaaBlF
import Derived.Lib.SlBytesConst
namespace Go.Proofs.Ytgcdbnbdbjaijaa
open Go.RowKit Go.Bs Go.Maps
set_option linter.unusedVariables false
set_option linter.unusedSimpArgs false

def liveA : List UInt8 := [97, 98, 99]
def liveC : List UInt8 := List.replicate 40 97
theorem liveA_toks : blockB liveA = [3, 0, 97, 98, 99] := by decide +kernel
theorem liveC_toks : blockB liveC = [40, 1, 4, 0, 97, 71, 0] := by decide +kernel
def liveAs : Array Value := #[.int .u8 97, .int .u8 98, .int .u8 99]
def liveCs : Array Value := #[.int .u8 97, .int .u8 97, .int .u8 97, .int .u8 97, .int .u8 97, .int .u8 97, .int .u8 97, .int .u8 97, .int .u8 97, .int .u8 97, .int .u8 97, .int .u8 97, .int .u8 97, .int .u8 97, .int .u8 97, .int .u8 97, .int .u8 97, .int .u8 97, .int .u8 97, .int .u8 97, .int .u8 97, .int .u8 97, .int .u8 97, .int .u8 97, .int .u8 97, .int .u8 97, .int .u8 97, .int .u8 97, .int .u8 97, .int .u8 97, .int .u8 97, .int .u8 97, .int .u8 97, .int .u8 97, .int .u8 97, .int .u8 97, .int .u8 97, .int .u8 97, .int .u8 97, .int .u8 97]
theorem liveAs_is : liveAs = (byteCells liveA).toArray := by rfl
theorem liveCs_is : liveCs = (byteCells liveC).toArray := by rfl
def wantAs : Array Value := #[.int .u8 3, .int .u8 0, .int .u8 97, .int .u8 98, .int .u8 99]
def wantCs : Array Value := #[.int .u8 40, .int .u8 1, .int .u8 4, .int .u8 0, .int .u8 97, .int .u8 71, .int .u8 0]
theorem wantAs_is : wantAs = (byteCells [3, 0, 97, 98, 99]).toArray := by rfl
theorem wantCs_is : wantCs = (byteCells [40, 1, 4, 0, 97, 71, 0]).toArray := by rfl
set_option maxRecDepth 100000 in
set_option maxHeartbeats 400000 in
theorem live16 (w : World) : Calls Try.prog 24 #[] w fun r w' => r = .returned (.bool true) ∧ Below w.heap.size w w' := by
  have HA := hid (fun (W : World) (g : Nat) (hb : W.heap[g]? = some (.cells liveAs 5 (3, 4))) => block_bytes W liveA (some ⟨g, 0, none⟩) 3 3 (lit_bytes liveAs_is (by decide) hb) (by decide))
  have HC := hid (fun (W : World) (g : Nat) (hb : W.heap[g]? = some (.cells liveCs 5 (40, 41))) => block_bytes W liveC (some ⟨g, 0, none⟩) 40 40 (lit_bytes liveCs_is (by decide) hb) (by decide))
  have kc := fun (w : World) (C : Array Value) (n c : Nat) => Lib.run_convert_bytes_const (P := Try.prog) w 22 5 C n c Try.underlying22 Try.underlying5
  go_enter Try.func24, Try.ntmps24
  go_wp2_with fail
  refine (HA.out _ w.heap.size (World.alloc_heap_new w _)).mono ?_
  rintro r w1 ⟨v, rfl, hr, hb1⟩
  rw [liveA_toks] at hr
  obtain ⟨a1, c1, hv, hr2, _⟩ := sl_form hr
  simp only [List.cons.injEq, and_true] at hv
  subst hv
  have HR := hid (rBytes.mono hr2 (S' := (· < w1.heap.size)) fun q hq => hq.2)
  have hbw : Below w.heap.size w w1 := by (repeat (first | exact Below.refl _ _ | assumption | (refine below_alloc ?_ _) | (refine Below.setCell ?_ (by first | omega | (simp; done) | (simp; omega)) _) | (refine Below.drew ?_) | (refine below_drewN ?_ _) | (refine below_then (by assumption) ?_)))
  clear hr hr2
  go_wp2_with fail
  refine (HC.out _ w1.heap.size (World.alloc_heap_new w1 _)).mono ?_
  rintro r w2 ⟨v, rfl, hr, hb2⟩
  rw [liveC_toks] at hr
  obtain ⟨a2, c2, hv, hr2, _⟩ := sl_form hr
  simp only [List.cons.injEq, and_true] at hv
  subst hv
  have HQ := hid (rBytes.mono hr2 (S' := (· < w2.heap.size)) fun q hq => hq.2)
  have hb12 : Below w1.heap.size w1 w2 := by clear hbw; (repeat (first | exact Below.refl _ _ | assumption | (refine below_alloc ?_ _) | (refine Below.setCell ?_ (by first | omega | (simp; done) | (simp; omega)) _) | (refine Below.drew ?_) | (refine below_drewN ?_ _) | (refine below_then (by assumption) ?_)))
  have hbw2 := below_then hb12 hbw
  clear hr hr2 hb1 hb2
  go_wp2_with fail
  have hs1 := same_bytes [3, 0, 97, 98, 99] [3, 0, 97, 98, 99] a1 (some ⟨w2.heap.size, 0, none⟩) _ c1 5 5 (w2.alloc (.cells wantAs 5)) (lift HR.out (by clear hbw hbw2; (repeat (first | exact Below.refl _ _ | assumption | (refine below_alloc ?_ _) | (refine Below.setCell ?_ (by first | omega | (simp; done) | (simp; omega)) _) | (refine Below.drew ?_) | (refine below_drewN ?_ _) | (refine below_then (by assumption) ?_))))) (lit_bytes wantAs_is (by decide) (World.alloc_heap_new w2 _))
  simp only [decide_true] at hs1
  refine hs1.mono ?_
  rintro r w3 ⟨rfl, rfl⟩
  have hb23 : Below w2.heap.size w2 (w2.alloc (.cells wantAs 5)) := below_alloc (Below.refl _ _) _
  clear hs1
  generalize w2.alloc (.cells wantAs 5) = w3 at *
  go_wp2_with fail
  have hs2 := same_bytes [40, 1, 4, 0, 97, 71, 0] [40, 1, 4, 0, 97, 71, 0] a2 (some ⟨w3.heap.size, 0, none⟩) _ c2 7 7 (w3.alloc (.cells wantCs 5)) (lift HQ.out (by clear hbw hbw2 hb12; (repeat (first | exact Below.refl _ _ | assumption | (refine below_alloc ?_ _) | (refine Below.setCell ?_ (by first | omega | (simp; done) | (simp; omega)) _) | (refine Below.drew ?_) | (refine below_drewN ?_ _) | (refine below_then (by assumption) ?_))))) (lit_bytes wantCs_is (by decide) (World.alloc_heap_new w3 _))
  simp only [decide_true] at hs2
  refine hs2.mono ?_
  rintro r w4 ⟨rfl, rfl⟩
  have hbe : Below w.heap.size w (w3.alloc (.cells wantCs 5)) := below_then (below_alloc (Below.refl _ _) _) (below_then hb23 hbw2)
  clear hs2
  generalize w3.alloc (.cells wantCs 5) = w4 at *
  go_wp2
  go_ret
  exact ⟨rfl, hbe⟩
end Go.Proofs.Ytgcdbnbdbjaijaa
