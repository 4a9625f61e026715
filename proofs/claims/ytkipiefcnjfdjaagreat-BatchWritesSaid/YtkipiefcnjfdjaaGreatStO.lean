/- Copies of lists of links. -/
import Derived.Test.YtkipiefcnjfdjaaGreatStN
namespace Go.Proofs.YtkipiefcnjfdjaaGreat
open Go.RowKit Go.Bs
set_option linter.unusedVariables false
set_option linter.unusedSimpArgs false
theorem infoLink : (Tryz.prog.info? 209).map (fun i => (i.zero, i.size, i.bytes)) = some (some (.agg #[.int .u64 0, .slice none 0 0]), 2, 32) := by kernel_rfl

theorem src_new1 {w : World} (W : World) (e : TypeId) (cs : List Value) (hB : w = W.alloc (.cells cs.toArray e)) {g : Nat} (hg : g = W.heap.size) {sz : Nat} (hs : cs.length = sz) : Src w (some ⟨g, 0, none⟩) 1 sz cs := by
  subst hB hg
  refine ⟨by omega, .inr ⟨_, 0, rfl, fun j u hu => ?_⟩⟩
  rw [Nat.zero_add, Blk.cell (Blk.new W e cs.toArray)]
  simpa using hu

set_option maxHeartbeats 800000 in
theorem link_copyW (l : List Link) (a : Option Addr) (n c : Nat) (w : World) (hl : rLinks.r (· < w.heap.size) w [.slice a n c] l) (hlen : l.length ≤ 1000000000000) (hb : ∀ x ∈ l, x.backs.length ≤ 1000000000000) :
    Calls Tryz.prog 143 #[.slice a n c] w fun r w' => ∃ v, r = .returned v ∧ rLinksW.r (Fresh w w') w' [v] l ∧ Below w.heap.size w w' := by
  obtain ⟨rfl, hm, _, _⟩ := sl_len hl
  obtain ⟨i0, hi, hz0, hz1, hz2⟩ := info_parts infoLink
  have HL := hid hl; clear hl
  have HB := hid hb; clear hb
  go_enter Tryz.func143, Tryz.ntmps143
  go_wp2
  go_loopw [3, 8] (fun v i wr => ∃ k : Nat, k ≤ l.length ∧ i = .int .i64 k ∧ OwnEls w.heap.size rLink w.heap.size 209 2 wr v (l.take k) ∧ Below w.heap.size w wr) (fun _ i _ => l.length - (intOf i).toNat)
  case atStart => exact ⟨0, Nat.zero_le _, rfl, OwnEls.nil, Below.refl _ _⟩
  case round =>
    obtain ⟨k, hk, rfl, hown, hb⟩ := hrel
    by_cases hlt : k < l.length
    · obtain ⟨b, o, hA, hbb, a1, c1, hc0, hc1, hst, hd⟩ := link_at HL.out hlt
      subst hA
      have X0 := (hb.cell (p := ⟨b, o + k * 2, none⟩) hbb).trans hc0
      have X1 := (hb.cell (p := ⟨b, o + k * 2 + 1, none⟩) hbb).trans hc1
      clear hc0 hc1
      have htk := hid (List.take_succ_eq_append_getElem hlt)
      have hbk := HB.out _ (List.getElem_mem hlt)
      have R := hid (lift hd hb)
      clear hd
      generalize l[k] = z at *
      have htl : (l.take k).length = k := by simp; omega
      generalize hT : l.take k = T at *
      clear hT
      subst htl
      have OW := hid hown; clear hown
      have i1 : (T.length : Int) < (l.length : Int) := by omega
      go_wp2_with fail
      refine (link_copied z _ _ _ _ (lift R.out (by (repeat (first | exact Below.refl _ _ | assumption | (refine below_alloc ?_ _) | (refine Below.setCell ?_ (by first | omega | (simp; done) | (simp; omega)) _) | (refine Below.drew ?_) | (refine below_drewN ?_ _) | (refine below_then (by assumption) ?_))))) hbk).mono ?_
      rintro e w4 ⟨v4, rfl, hr4, hb4⟩
      obtain ⟨a4, c4, hv4, _, _⟩ := sl_form hr4
      simp only [List.cons.injEq, and_true] at hv4
      subst hv4
      have hbw4 : Below wr.heap.size wr w4 := by (repeat (first | exact Below.refl _ _ | assumption | (refine below_alloc ?_ _) | (refine Below.setCell ?_ (by first | omega | (simp; done) | (simp; omega)) _) | (refine Below.drew ?_) | (refine below_drewN ?_ _) | (refine below_then (by assumption) ?_)))
      have hz4 : wr.heap.size + 1 ≤ w4.heap.size := by have := hb4.size; simpa using this
      have O4 := OW.out.below hbw4
      have HR4 := hid (rU64s.mono hr4 (S' := fun b => wr.heap.size + 1 ≤ b ∧ b < w4.heap.size) fun b h => by simpa [Fresh] using h)
      clear hr4
      obtain ⟨cells0, OA0⟩ := OW.out
      have hlt0 : ∀ g, u3.ownBlock = some g → g < wr.heap.size := fun g e => (OA0.1.lt g e).2
      have O5 := O4.below (show Below w4.heap.size w4 (w4.alloc (.cells #[.int .u64 z.stream, .slice a4 z.backs.length c4] 209)) from by (repeat (first | exact Below.refl _ _ | assumption | (refine below_alloc ?_ _) | (refine Below.setCell ?_ (by first | omega | (simp; done) | (simp; omega)) _) | (refine Below.drew ?_) | (refine below_drewN ?_ _) | (refine below_then (by assumption) ?_))))
      obtain ⟨cells, OA⟩ := O5
      have hx : rLink.r (fun b => w.heap.size ≤ b ∧ b < (w4.alloc (.cells #[.int .u64 z.stream, .slice a4 z.backs.length c4] 209)).heap.size ∧ u3.ownBlock ≠ some b) (w4.alloc (.cells #[.int .u64 z.stream, .slice a4 z.backs.length c4] 209)) [.int .u64 z.stream, .slice a4 z.backs.length c4] z := by
        refine link_mk hst (rU64s.mono (rU64s.keep HR4.out fun b hb => Below.heap_alloc w4 _ b hb.2) fun b hb' => ⟨?_, ?_, fun e => ?_⟩)
        · have := hb.size; omega
        · simp; omega
        · have := hlt0 b e; omega
      have hbs := hb.size
      have hb9 : Below w.heap.size w (w4.alloc (.cells #[.int .u64 z.stream, .slice a4 z.backs.length c4] 209)) := below_alloc (below_then hbw4 hb) _
      have hs9 : w.heap.size ≤ (w4.alloc (.cells #[.int .u64 z.stream, .slice a4 z.backs.length c4] 209)).heap.size := hb9.size
      have HX := hid hx; clear hx
      have HA := hid OA; clear OA OA0 O4 hlt0
      have HB9 := hid hb9; clear hb9
      have HS9 := hid hs9; clear hs9
      go_wp2_with (at_builtin; go_loud (refine wpList_append_src rfl _ _ _ rfl w.heap.size 209 i0 (.agg #[.int .u64 0, .slice none 0 0]) 2 32 Tryz.underlying73 hi hz0 hz1 hz2 rfl (by decide) u3 T.length _ rfl HA.out.1 (some ⟨w4.heap.size, 0, none⟩) 1 1 [.int .u64 z.stream, .slice a4 z.backs.length c4] rfl (src_new1 w4 209 _ rfl rfl rfl) (by intro u hu; simp at hu; rcases hu with rfl | rfl <;> rfl) (by simp only [maxLen]; omega) (by omega) HS9.out ?_; intro v1 w5 hown1 hgrow1 hat1; have OP := hid (OwnEls.push HA.out rfl HX.out hown1 hgrow1 hat1 hgrow1.size); have B5 := hid (HB9.out.grown hgrow1 HS9.out (fun g e => (HA.out.1.lt g e).1)); clear hown1 hgrow1 hat1))
      go_roundw
      case rel => exact ⟨T.length + 1, by omega, by go_num, by rw [htk.out]; exact OP.out, B5.out⟩
      case measure => simp [intOf]; omega
    · obtain rfl : k = l.length := by omega
      rw [List.take_length] at hown
      have hv := OwnEls.sliceW (Nat.le_refl _) hown
      have HV := hid hv; clear hv
      go_wp2
      go_ret
      exact ⟨_, rfl, HV.out, hb⟩

theorem link_copy (l : List Link) (a : Option Addr) (n c : Nat) (w : World) (hl : rLinks.r (· < w.heap.size) w [.slice a n c] l) (hlen : l.length ≤ 1000000000000) (hb : ∀ x ∈ l, x.backs.length ≤ 1000000000000) :
    Calls Tryz.prog 143 #[.slice a n c] w fun r w' => ∃ v, r = .returned v ∧ rLinks.r (Fresh w w') w' [v] l ∧ Below w.heap.size w w' :=
  (link_copyW l a n c w hl hlen hb).mono fun r w' ⟨v, h1, h2, h3⟩ => ⟨v, h1, linksW_links h2, h3⟩
end Go.Proofs.YtkipiefcnjfdjaaGreat
