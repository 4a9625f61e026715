/- A pen writes bytes; what was written. -/
import Derived.Test.YtgcdbnbdbjaijaaPeA
namespace Go.Proofs.Ytgcdbnbdbjaijaa
open Go.RowKit Go.Bs Go.Maps
set_option linter.unusedVariables false
set_option linter.unusedSimpArgs false

theorem pen_next {w1 w2 : World} {g base most : Nat} {J D : List UInt8} {a : Option Addr} {c : Nat} {a' : Option Addr} {c' : Nat} (h : PenAt w1 g base most J a c) (hfit : J.length + D.length ≤ most) (hlen : J.length + D.length ≤ 100000000000000)
    (hown : w2.ownsRow base 5 1 (.slice a' (J.length + D.length) c') (J.length + D.length) (byteCells J ++ byteCells D)) (hgrow : w1.grownBy w2 (Value.slice a J.length c).ownBlock)
    (hat : (Value.slice a' (J.length + D.length) c').ownBlock = (Value.slice a J.length c).ownBlock ∨ (Value.slice a' (J.length + D.length) c').ownBlock = some w1.heap.size) :
    PenStep w1 g base most (J ++ D) a (w2.setCell ⟨g, 1, none⟩ (.slice a' (J.length + D.length) c')) := by
  have hg := h.blk.lt
  have hs := hgrow.size
  have hn2 : (Value.slice a' (J.length + D.length) c').ownBlock ≠ some g := fun e => by
    rcases hat with h1 | h1
    · rw [h1] at e; exact h.ne e
    · rw [h1] at e; simp at e; omega
  have hsz : (w2.setCell ⟨g, 1, none⟩ (.slice a' (J.length + D.length) c')).heap.size = w2.heap.size := by simp [World.setCell]
  have hll : (J ++ D).length = J.length + D.length := List.length_append
  have hbb : byteCells (J ++ D) = byteCells J ++ byteCells D := by simp [byteCells]
  refine ⟨a', c', ⟨?_, ?_, ?_, h.lo, by omega, h.most, by omega⟩, ?_, ?_⟩
  · rw [hll]
    exact (h.blk.grown hgrow (fun e => h.ne e.symm)).set 1 _
  · rw [hll, hbb]
    exact own_keep hown fun q hq => Below.heap_setCell w2 _ _ q (fun e => hn2 (by rw [hq, e]))
  · rw [hll]; exact hn2
  · refine ⟨hgrow.os, hgrow.tape, hgrow.output, by rw [hsz]; exact hs, fun q hq hf => ?_⟩
    rw [penF_is] at hf
    exact (Below.heap_setCell w2 _ _ q (fun e => hf (.inl e))).trans (hgrow.block q hq (fun e => hf (.inr (by rw [own_slice] at e; exact e.symm))))
  · rw [own_slice, own_slice] at hat
    rcases hat with h1 | h1
    · exact .inl h1
    · exact .inr ⟨_, h1, Nat.le_refl _⟩

set_option maxRecDepth 100000 in
set_option maxHeartbeats 1600000 in
theorem pen_put (w : World) {g base most : Nat} {J : List UInt8} {a : Option Addr} {c : Nat} (h : PenAt w g base most J a c) (D : List UInt8) (ad : Option Addr) (nd cd : Nat) (hD : rBytes.r (· < w.heap.size) w [.slice ad nd cd] D) (hfit : J.length + D.length ≤ most) (hlen : J.length + D.length ≤ 100000000000000) :
    Calls Try.prog 27 #[.pointer (some ⟨g, 0, none⟩), .slice ad nd cd] w fun r w' => r = .returned (.tuple #[]) ∧ PenStep w g base most (J ++ D) a w' := by
  obtain ⟨rfl, hm, _, _⟩ := sl_len hD
  obtain ⟨i0, hi, hz0, hz1, hz2⟩ := info_parts info8
  have HC := hid (pen_code w h)
  have HR := hid (pen_room w h)
  have HP := hid h
  have HD := hid hD
  have HONE := hid (byteCells_one D)
  have hmo := h.most
  have d1 : decide ((most : Int) - (J.length : Int) < (D.length : Int)) = false := by simp; omega
  clear h hD
  go_enter Try.func27, Try.ntmps27
  go_wp2_with fail
  refine HC.out.mono ?_
  rintro r w0 ⟨rfl, rfl⟩
  go_wp2_with fail
  refine HR.out.mono ?_
  rintro r w1 ⟨rfl, hb1⟩
  have hP1 := HP.out.later hb1
  have c1 : w1.cell? ⟨g, 1, none⟩ = some (.slice a J.length c) := hP1.blk.cell 1
  have hg1 := hP1.blk.lt
  have f1 := hP1.blk.free 1
  have hne := hP1.ne
  have hlo := hP1.lo
  have HP1 := hid hP1
  have HS := hid (src_bytes (lift HD.out hb1))
  clear hP1
  go_wp2_with (at_builtin; go_loud (refine wpList_append_src rfl _ _ _ rfl base 5 i0 (.int .u8 0) 1 1 Try.underlying22 hi hz0 hz1 hz2 rfl (by decide) (.slice a J.length c) J.length (byteCells J) rfl HP1.out.own ad D.length cd (byteCells D) rfl HS.out HONE.out (by simp only [maxLen]; omega) (by omega) (by omega) ?_; intro v' w2 hown2 hgrow2 hat2; obtain ⟨a', c', rfl⟩ := own_form hown2; have f2 := (World.frozen?_of_block (a := ⟨g, 1, none⟩) (hgrow2.block g hg1 (fun e => hne e.symm))).trans f1; have e2 := (World.cell?_of_block (a := ⟨g, 1, none⟩) (hgrow2.block g hg1 (fun e => hne e.symm))).trans c1; have hz2' : g < w2.heap.size := Nat.lt_of_lt_of_le hg1 hgrow2.size; have HG := hid hgrow2; have HO := hid hown2; have HAT := hid hat2; clear hgrow2 hown2 hat2))
  have hst := PenStep.later hb1 (pen_next HP1.out hfit hlen HO.out HG.out HAT.out)
  have HST := hid hst
  clear hst
  go_wp2
  go_end0
  exact ⟨rfl, HST.out⟩

set_option maxRecDepth 100000 in
set_option maxHeartbeats 1600000 in
theorem pen_bytes (w : World) {g base most : Nat} {J : List UInt8} {a : Option Addr} {c : Nat} (h : PenAt w g base most J a c) :
    Calls Try.prog 29 #[.pointer (some ⟨g, 0, none⟩)] w fun r w' => ∃ v, r = .returned (.tuple #[v, .int .i64 0]) ∧ rBytes.r (fun q => w.heap.size ≤ q ∧ q < w'.heap.size) w' [v] J ∧ Below w.heap.size w w' := by
  obtain ⟨i0, hi, hz0, hz1, hz2⟩ := info_parts info8
  have HC := hid (pen_code w h)
  have hB := own_bytes2 rfl h.own
  obtain ⟨_, hm, _, _⟩ := sl_len hB
  have HD := hid (rBytes.mono hB (S' := (· < w.heap.size)) fun q hq => hq.2)
  have HONE := hid (byteCells_one J)
  have c1 : w.cell? ⟨g, 1, none⟩ = some (.slice a J.length c) := h.blk.cell 1
  have hg1 := h.blk.lt
  have hle := h.le; have hmo := h.most; have hle14 := h.len
  clear h hB
  go_enter Try.func29, Try.ntmps29
  go_wp2_with fail
  refine HC.out.mono ?_
  rintro r w0 ⟨rfl, rfl⟩
  go_wp2_with (at_builtin; go_loud (refine wpList_append_src rfl _ _ _ rfl w.heap.size 5 i0 (.int .u8 0) 1 1 Try.underlying22 hi hz0 hz1 hz2 rfl (by decide) _ 0 [] rfl (own_empty _ (Nat.le_refl _) rfl) a J.length c (byteCells J) rfl (src_bytes (lift HD.out (by (repeat (first | exact Below.refl _ _ | assumption | (refine below_alloc ?_ _) | (refine Below.setCell ?_ (by first | omega | (simp; done) | (simp; omega)) _) | (refine Below.drew ?_) | (refine below_drewN ?_ _) | (refine below_then (by assumption) ?_)))))) HONE.out (by simp only [maxLen]; omega) (by omega) (by simp) ?_; intro v' w1 hown1 hgrow1 hat1; rw [Nat.zero_add, List.nil_append] at hown1; obtain ⟨a', c', rfl⟩ := own_form hown1; have HG := hid hgrow1; have HO := hid hown1; clear hgrow1 hown1 hat1))
  have hA := own_bytes2 rfl HO.out
  have hb1 : Below w.heap.size w w1 := Below.grown (by (repeat (first | exact Below.refl _ _ | assumption | (refine below_alloc ?_ _) | (refine Below.setCell ?_ (by first | omega | (simp; done) | (simp; omega)) _) | (refine Below.drew ?_) | (refine below_drewN ?_ _) | (refine below_then (by assumption) ?_)))) HG.out (by simp) (fun g e => by
    have e' : some w.heap.size = some g := e
    injection e' with e'
    omega)
  have HA := hid hA
  clear hA
  go_ret2
  exact ⟨_, rfl, HA.out, hb1⟩
end Go.Proofs.Ytgcdbnbdbjaijaa
