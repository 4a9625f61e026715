/- A new chain, a new seeker. -/
import Derived.Test.YtkipiefcnjfdjaaGreatStG
import Derived.Test.YtkipiefcnjfdjaaGreatPrI
namespace Go.Proofs.YtkipiefcnjfdjaaGreat
open Go.RowKit Go.Bs Go.Maps
set_option linter.unusedVariables false
set_option linter.unusedSimpArgs false
def ChNew (w : World) (b : List UInt8) (r : Ending) (w' : World) : Prop := ∃ g mb ab cb, r = .returned (.pointer (some ⟨g, 0, none⟩)) ∧ ChAt w' g mb w.heap.size b 0 ab cb none 0 ∧ Below w.heap.size w w' ∧ w.heap.size ≤ g ∧ w.heap.size ≤ mb ∧ rBytes.r (fun q => w.heap.size ≤ q ∧ q < w'.heap.size ∧ q ≠ g ∧ q ≠ mb) w' [.slice ab b.length cb] b

set_option maxRecDepth 100000 in
set_option maxHeartbeats 1600000 in
theorem chain_new (w : World) (b : List UInt8) (a : Option Addr) (n c : Nat) (hl : rBytes.r (· < w.heap.size) w [.slice a n c] b) (hlen : b.length ≤ 1048576) :
    Calls Tryz.prog 287 #[.slice a n c] w (ChNew w b) := by
  obtain ⟨rfl, hm, _, _⟩ := sl_len hl
  obtain ⟨i0, hi, hz0, hz1, hz2⟩ := info_parts info8
  have HS := hid (fun (W : World) (hW : Below w.heap.size w W) => src_bytes (lift hl hW))
  have HONE := hid (byteCells_one b)
  clear hl
  have hmm := @run_makeMap Tryz.prog
  go_enter Tryz.func287, Tryz.ntmps287
  go_wp2_with (at_builtin; go_loud (refine wpList_append_src rfl _ _ _ rfl w.heap.size 5 i0 (.int .u8 0) 1 1 Tryz.underlying28 hi hz0 hz1 hz2 rfl (by decide) _ 0 [] rfl (own_empty _ (Nat.le_refl _) rfl) a b.length c (byteCells b) rfl (HS.out _ (by (repeat (first | exact Below.refl _ _ | assumption | (refine below_alloc ?_ _) | (refine Below.setCell ?_ (by first | omega | (simp; done) | (simp; omega)) _) | (refine Below.drew ?_) | (refine below_drewN ?_ _) | (refine below_then (by assumption) ?_))))) HONE.out (by simp only [maxLen]; omega) (by omega) (by simp) ?_; intro v' w1 hown1 hgrow1 hat1; rw [Nat.zero_add, List.nil_append] at hown1; obtain ⟨a', c', rfl⟩ := own_form hown1; have hz1' : w.heap.size + 1 ≤ w1.heap.size := (by have := hgrow1.size; simpa using this); have HG := hid hgrow1; have HO := hid hown1; have HAT := hid hat1; clear hgrow1 hown1 hat1))
  have hA := own_bytes2 rfl HO.out
  have hfin : ChNew w b (.returned (.pointer (some ⟨w1.heap.size + 1, 0, none⟩))) ((w1.alloc (.map #[] 0)).alloc (.cells #[.slice a' b.length c', .map (some w1.heap.size), .slice none 0 0] 324)) := by
    have hsz : ((w1.alloc (.map #[] 0)).alloc (.cells #[.slice a' b.length c', .map (some w1.heap.size), .slice none 0 0] 324)).heap.size = w1.heap.size + 2 := by simp
    have keep : ∀ q, q < w1.heap.size → ((w1.alloc (.map #[] 0)).alloc (.cells #[.slice a' b.length c', .map (some w1.heap.size), .slice none 0 0] 324)).heap[q]? = w1.heap[q]? := fun q hq => (Below.heap_alloc _ _ q (by simp; omega)).trans (Below.heap_alloc _ _ q hq)
    refine ⟨w1.heap.size + 1, w1.heap.size, a', c', rfl, ⟨Blk.newAt _ _ _ (by simp), ?_, ⟨.map [], (World.ownsMap_made w1 _ _ _).alloc _, fun k _ => rfl⟩, ⟨by simp [prevs], .inl ⟨rfl, rfl⟩⟩, by omega, by simp [Value.ownBlock], by simp [Value.ownBlock], by omega, Nat.zero_le _, hlen⟩, ?_, by omega, by omega, ?_⟩
    · exact rBytes.mono (rBytes.keep hA fun q hq => keep q hq.2) fun q hq => ⟨by rw [hsz]; omega, by omega, by omega, by simp [Value.ownBlock]⟩
    · have hb1 : Below w.heap.size w w1 := Below.grown (by (repeat (first | exact Below.refl _ _ | assumption | (refine below_alloc ?_ _) | (refine Below.setCell ?_ (by first | omega | (simp; done) | (simp; omega)) _) | (refine Below.drew ?_) | (refine below_drewN ?_ _) | (refine below_then (by assumption) ?_)))) HG.out (by simp) (fun g e => by
        have e' : some w.heap.size = some g := e
        injection e' with e'
        omega)
      (repeat (first | exact Below.refl _ _ | assumption | (refine below_alloc ?_ _) | (refine Below.setCell ?_ (by first | omega | (simp; done) | (simp; omega)) _) | (refine Below.drew ?_) | (refine below_drewN ?_ _) | (refine below_then (by assumption) ?_)))
    · exact rBytes.mono (rBytes.keep hA fun q hq => keep q hq.2) fun q hq => ⟨hq.1, by rw [hsz]; omega, by omega, by omega⟩
  have HF := hid hfin; clear hfin hA
  go_ret
  exact HF.out

def SkNew (w : World) (b : List UInt8) (r : Ending) (w' : World) : Prop := ∃ gs g mb base sa sc ab cb, r = .returned (.pointer (some ⟨gs, 0, none⟩)) ∧ SkAt w' gs g mb base w.heap.size w'.heap.size b 0 sa sc ab cb none 0 ∧ Below w.heap.size w w' ∧ w.heap.size ≤ gs ∧ w.heap.size ≤ g ∧ w.heap.size ≤ mb ∧ w.heap.size ≤ base

set_option maxRecDepth 100000 in
set_option maxHeartbeats 1600000 in
theorem seek_new (w : World) (b : List UInt8) (a : Option Addr) (n c : Nat) (hl : rBytes.r (· < w.heap.size) w [.slice a n c] b) (hlen : b.length ≤ 1048576) :
    Calls Tryz.prog 274 #[.slice a n c] w (SkNew w b) := by
  obtain ⟨rfl, hm, _, _⟩ := sl_len hl
  obtain ⟨i0, hi, hz0, hz1, hz2⟩ := info_parts info8
  have HS := hid (fun (W : World) (hW : Below w.heap.size w W) => src_bytes (lift hl hW))
  have HONE := hid (byteCells_one b)
  have HL := hid hl
  clear hl
  go_enter Tryz.func274, Tryz.ntmps274
  go_wp2_with (at_builtin; go_loud (refine wpList_append_src rfl _ _ _ rfl w.heap.size 5 i0 (.int .u8 0) 1 1 Tryz.underlying28 hi hz0 hz1 hz2 rfl (by decide) _ 0 [] rfl (own_empty _ (Nat.le_refl _) rfl) a b.length c (byteCells b) rfl (HS.out _ (by (repeat (first | exact Below.refl _ _ | assumption | (refine below_alloc ?_ _) | (refine Below.setCell ?_ (by first | omega | (simp; done) | (simp; omega)) _) | (refine Below.drew ?_) | (refine below_drewN ?_ _) | (refine below_then (by assumption) ?_))))) HONE.out (by simp only [maxLen]; omega) (by omega) (by simp) ?_; intro v' w1 hown1 hgrow1 hat1; rw [Nat.zero_add, List.nil_append] at hown1; obtain ⟨a', c', rfl⟩ := own_form hown1; have hz1' : w.heap.size + 1 ≤ w1.heap.size := (by have := hgrow1.size; simpa using this); have HG := hid hgrow1; have HO := hid hown1; have HAT := hid hat1; clear hgrow1 hown1 hat1))
  have hb1 : Below w.heap.size w w1 := Below.grown (by (repeat (first | exact Below.refl _ _ | assumption | (refine below_alloc ?_ _) | (refine Below.setCell ?_ (by first | omega | (simp; done) | (simp; omega)) _) | (refine Below.drew ?_) | (refine below_drewN ?_ _) | (refine below_then (by assumption) ?_)))) HG.out (by simp) (fun g e => by
    have e' : some w.heap.size = some g := e
    injection e' with e'
    omega)
  refine (chain_new w1 b _ _ _ (lift HL.out hb1) hlen).mono ?_
  rintro r w2 ⟨g, mb, ab, cb, rfl, hch, hb2, hg, hmb, hbb⟩
  have hA := own_bytes2 rfl HO.out
  have hs2 := hb2.size
  have hgl := hch.blk.lt
  have hml : mb < w2.heap.size := by obtain ⟨D, hD, _⟩ := hch.map; exact hD.lt
  have hsz : (w2.alloc (.cells #[.slice a' b.length c', .pointer (some ⟨g, 0, none⟩), .int .i64 0] 316)).heap.size = w2.heap.size + 1 := by simp
  have keep : ∀ q, q < w2.heap.size → (w2.alloc (.cells #[.slice a' b.length c', .pointer (some ⟨g, 0, none⟩), .int .i64 0] 316)).heap[q]? = w2.heap[q]? := fun q hq => Below.heap_alloc _ _ q hq
  have hfin : SkNew w b (.returned (.pointer (some ⟨w2.heap.size, 0, none⟩))) (w2.alloc (.cells #[.slice a' b.length c', .pointer (some ⟨g, 0, none⟩), .int .i64 0] 316)) := by
    refine ⟨w2.heap.size, g, mb, w1.heap.size, a', c', ab, cb, rfl, ⟨⟨0, Blk.newAt _ _ _ (by simp)⟩, ?_, hch.later (by (repeat (first | exact Below.refl _ _ | assumption | (refine below_alloc ?_ _) | (refine Below.setCell ?_ (by first | omega | (simp; done) | (simp; omega)) _) | (refine Below.drew ?_) | (refine below_drewN ?_ _) | (refine below_then (by assumption) ?_)))), ?_, by omega, by omega, by simp [Value.ownBlock], Nat.le_refl _⟩, ?_, by omega, by omega, by omega, by omega⟩
    · exact rBytes.mono (rBytes.keep hA fun q hq => (keep q (by omega)).trans (hb2.block q hq.2)) fun q hq => ⟨⟨by omega, by rw [hsz]; omega⟩, by omega, by omega, by omega, by simp [Value.ownBlock]⟩
    · exact rBytes.mono (rBytes.keep hbb fun q hq => keep q hq.2.1) fun q hq => ⟨⟨by omega, by rw [hsz]; omega⟩, by omega, hq.2.2.1, hq.2.2.2, by simp [Value.ownBlock]⟩
    · exact (hb1.trans (hb2.mono (by omega))).alloc (by omega) _
  have HF := hid hfin; clear hfin hA hch hbb
  go_wp2
  go_ret
  exact HF.out
end Go.Proofs.YtkipiefcnjfdjaaGreat
