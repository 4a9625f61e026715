/- A segment brought down, by the program. -/
-- KEEP ((try dsimp only); refine ⟨?_, ?_⟩ <;> (first | assumption | (go_keep; done)))
import Derived.Test.YtlbchenleimopaaSuI
import Derived.Test.YtlbchenleimopaaCutb
import Derived.Test.YtlbchenleimopaaLast
namespace Go.Proofs.Ytlbchenleimopaa
open Go.RowKit Go.Bs
set_option linter.unusedVariables false
set_option linter.unusedSimpArgs false

/-- An entry of a slice that may be written. -/
theorem entryW_at {S : Nat → Prop} {w : World} {xs : List Entry} {a : Option Addr} {n c : Nat} (h : rEntriesW.r S w [.slice a n c] xs) {i : Nat} (hi : i < xs.length) : ∃ b off, a = some ⟨b, off, none⟩ ∧ S b ∧ ∃ a1 c1 a2 c2, w.cell? ⟨b, off + i * 2, none⟩ = some (.slice a1 xs[i].links.length c1) ∧ w.cell? ⟨b, off + i * 2 + 1, none⟩ = some (.slice a2 xs[i].data.length c2) ∧
    rLinksW.r (fun q => S q ∧ q ≠ b) w [.slice a1 xs[i].links.length c1] xs[i].links ∧ rBytes.r (fun q => S q ∧ q ≠ b) w [.slice a2 xs[i].data.length c2] xs[i].data := by
  obtain ⟨a', c', e, h1, h2, h3⟩ := h
  simp at e
  obtain ⟨rfl, rfl, rfl⟩ := e
  rcases h3 with rfl | ⟨b, off, rfl, hb, hr⟩
  · simp at hi
  · obtain ⟨ds, h4, h5, d1, d2, rfl, hL, hD⟩ := hr i xs[i] (List.getElem?_eq_getElem hi)
    obtain ⟨a1, c1, e1, _⟩ := sl_form (linksW_links hL)
    obtain ⟨a2, c2, e2, _⟩ := sl_form hD
    subst e1 e2
    exact ⟨b, off, rfl, hb, a1, c1, a2, c2, (h5 0 _ rfl).1, (h5 1 _ rfl).1, hL, hD⟩
/-- A link of a slice that may be written. -/
theorem linkW_at {S : Nat → Prop} {w : World} {xs : List Link} {a : Option Addr} {n c : Nat} (h : rLinksW.r S w [.slice a n c] xs) {i : Nat} (hi : i < xs.length) : ∃ b off, a = some ⟨b, off, none⟩ ∧ S b ∧ ∃ a' c', w.cell? ⟨b, off + i * 2, none⟩ = some (.int .u64 xs[i].stream) ∧ w.cell? ⟨b, off + i * 2 + 1, none⟩ = some (.slice a' xs[i].backs.length c') ∧ w.frozen? ⟨b, off + i * 2 + 1, none⟩ = false ∧ xs[i].backs.length ≤ c' ∧ c' ≤ 9223372036854775807 := by
  obtain ⟨a', c', e, h1, h2, h3⟩ := h
  simp at e
  obtain ⟨rfl, rfl, rfl⟩ := e
  rcases h3 with rfl | ⟨b, off, rfl, hb, hr⟩
  · simp at hi
  · obtain ⟨ds, h4, h5, h6⟩ := hr i xs[i] (List.getElem?_eq_getElem hi)
    obtain ⟨a2, c2, rfl, _, h7⟩ := link_cells h6
    obtain ⟨_, _, h8, h9⟩ := sl_len h7
    exact ⟨b, off, rfl, hb, a2, c2, (h5 0 _ rfl).1, (h5 1 _ rfl).1, (h5 1 _ rfl).2, h8, h9⟩

set_option maxRecDepth 100000 in
set_option maxHeartbeats 3200000 in
theorem upgrade_down (e : Int) (l : List Batch) (a : Option Addr) (n c : Nat) (w : World) (h0 : 0 ≤ e ∧ e ≤ 18446744073709551615) (hl : rBatches.r (· < w.heap.size) w [.slice a n c] l) (hfair : ∀ x ∈ l, Fair x.entries) (hm' : ∀ z ∈ l, MildB z) :
    Calls Try.prog 19 #[.agg #[.int .u64 e, .slice a n c]] w (UpRet (downR ⟨e, l⟩) w) := by
  obtain ⟨rfl, hm, _, _⟩ := sl_len hl
  have HR := hid (fun (W : World) (hW : Below w.heap.size w W) => segment_right e l a _ c W h0 (lift hl hW) hfair)
  have HUR := hid (show downR ⟨e, l⟩ = if segR ⟨e, l⟩ then (⟨e, l.map cutB⟩, 0) else (⟨0, []⟩, 3) from rfl)
  obtain ⟨i0, hi, iz0, iz1, iz2⟩ := info_parts infoBatch
  have HL := hid hl; clear hl hfair
  have HM := hid hm'; clear hm'
  cases hs : segR ⟨e, l⟩
  · rw [hs] at HR
    have HF : Hid (downR ⟨e, l⟩ = (⟨0, []⟩, 3)) := hid (by rw [HUR.out, hs]; rfl)
    clear hs
    go_enter Try.func19, Try.ntmps19
    go_wp2_with fail
    refine (HR.out _ (by (repeat (first | exact Below.refl _ _ | assumption | (refine below_alloc ?_ _) | (refine Below.setCell ?_ (by first | omega | (simp; done) | (simp; omega)) _) | (refine Below.drew ?_) | (refine below_drewN ?_ _) | (refine below_then (by assumption) ?_))))).mono ?_
    rintro e' w1 ⟨rfl, hb1⟩
    have hz : w.heap.size + 1 < w1.heap.size := by have := hb1.size; simp at this; omega
    have R3 : Blk w1 (w.heap.size + 1) 50 #[.int .u64 0, .slice none 0 0] := Blk.later (by (repeat (first | assumption | exact Blk.newAt _ _ _ (by first | (simp; done) | (simp; omega)) | refine Blk.alloc ?_ _ | refine Blk.drew ?_ | refine Blk.drewN ?_ _ | refine Blk.far ?_ (by first | (simp; done) | (simp; omega)) _))) hb1
    have c0 : w1.cell? ⟨w.heap.size + 1, 0, none⟩ = some (.int .u64 0) := R3.cell 0
    have c1 : w1.cell? ⟨w.heap.size + 1, 1, none⟩ = some (.slice none 0 0) := R3.cell 1
    have f0 := R3.free 0
    have f1 := R3.free 1
    clear R3
    go_wp2
    refine bodyPost_ret (v := .tuple #[.agg #[.int .u64 0, .slice none 0 0], .int .i64 3]) (by simp [results, Try.results19, go_sem, c0, c1]) rfl ?_
    unfold UpRet
    rw [HF.out]
    exact ⟨_, rfl, nil_batches, by (repeat (first | exact Below.refl _ _ | assumption | (refine below_alloc ?_ _) | (refine Below.setCell ?_ (by first | omega | (simp; done) | (simp; omega)) _) | (refine Below.drew ?_) | (refine below_drewN ?_ _) | (refine below_then (by assumption) ?_)))⟩
  · rw [hs] at HR
    have HF : Hid (downR ⟨e, l⟩ = (⟨e, l.map cutB⟩, 0)) := hid (by rw [HUR.out, hs]; rfl)
    obtain ⟨_, g16, gB⟩ := segR_facts hs
    have GB := hid gB
    clear hs gB
    go_enter Try.func19, Try.ntmps19
    go_wp2_with fail
    refine (HR.out _ (by (repeat (first | exact Below.refl _ _ | assumption | (refine below_alloc ?_ _) | (refine Below.setCell ?_ (by first | omega | (simp; done) | (simp; omega)) _) | (refine Below.drew ?_) | (refine below_drewN ?_ _) | (refine below_then (by assumption) ?_))))).mono ?_
    rintro e' w1 ⟨rfl, hb1⟩
    have hbw1 : Below w.heap.size w w1 := by (repeat (first | exact Below.refl _ _ | assumption | (refine below_alloc ?_ _) | (refine Below.setCell ?_ (by first | omega | (simp; done) | (simp; omega)) _) | (refine Below.drew ?_) | (refine below_drewN ?_ _) | (refine below_then (by assumption) ?_)))
    have hz : w.heap.size + 1 < w1.heap.size := by have := hb1.size; simp at this; omega
    have hz0 : w.heap.size < w1.heap.size := by omega
    have p0 : w1.cell? ⟨w.heap.size, 0, none⟩ = some (.int .u64 e) := (Later.mk w1 hb1).cell (by go_simp)
    have p1 : w1.cell? ⟨w.heap.size, 1, none⟩ = some (.slice a l.length c) := (Later.mk w1 hb1).cell (by go_simp)
    have r0 : Blk w1 (w.heap.size + 1) 50 #[.int .u64 0, .slice none 0 0] := Blk.later (by (repeat (first | assumption | exact Blk.newAt _ _ _ (by first | (simp; done) | (simp; omega)) | refine Blk.alloc ?_ _ | refine Blk.drew ?_ | refine Blk.drewN ?_ _ | refine Blk.far ?_ (by first | (simp; done) | (simp; omega)) _))) hb1
    have RB := hid r0; clear r0
    go_wp2_with fail
    refine wp_world (fun W => ∃ gg : Nat, gg = w1.heap.size ∧ Below w.heap.size w W ∧ W.heap.size = gg + 1 ∧ Blk W (w.heap.size + 1) 50 #[.int .u64 0, .slice none 0 0] ∧ Blk W gg 50 #[.int .u64 e, .slice none 0 0]) ⟨_, rfl, by (repeat (first | exact Below.refl _ _ | assumption | (refine below_alloc ?_ _) | (refine Below.setCell ?_ (by first | omega | (simp; done) | (simp; omega)) _) | (refine Below.drew ?_) | (refine below_drewN ?_ _) | (refine below_then (by assumption) ?_))), by simp, ?_, by (repeat (first | assumption | exact Blk.newAt _ _ _ (by first | (simp; done) | (simp; omega)) | refine Blk.alloc ?_ _ | refine Blk.drew ?_ | refine Blk.drewN ?_ _ | refine Blk.far ?_ (by first | (simp; done) | (simp; omega)) _))⟩ ?_
    · have := RB.out
      (repeat (first | assumption | exact Blk.newAt _ _ _ (by first | (simp; done) | (simp; omega)) | refine Blk.alloc ?_ _ | refine Blk.drew ?_ | refine Blk.drewN ?_ _ | refine Blk.far ?_ (by first | (simp; done) | (simp; omega)) _))
    intro W ⟨gg, hgg, hbW, hzW, q3, q4⟩
    subst hgg
    have HQ3 := hid q3
    have q5 : W.cell? ⟨w1.heap.size, 1, none⟩ = some (.slice none 0 0) := q4.cell 1
    have q6 : W.cell? ⟨w1.heap.size, 0, none⟩ = some (.int .u64 e) := q4.cell 0
    have q7 := q4.free 1
    clear q3 q4
    generalize hgg : w1.heap.size = gg at *
    have HGG := hid hgg; clear hgg
    have ltgg : w.heap.size + 1 < gg := by omega
    go_loopw [22] (fun i wr => ∃ (k : Nat) (a9 : Option Addr) (c9 : Nat) (cells : List (List Value)), k ≤ l.length ∧ i = .int .i64 k ∧ wr.cell? ⟨gg, 1, none⟩ = some (.slice a9 k c9) ∧ wr.cell? ⟨gg, 0, none⟩ = some (.int .u64 e) ∧ wr.frozen? ⟨gg, 1, none⟩ = false ∧
      Hid (OwnElsAt (gg + 1) rBatch (gg + 1) 58 3 wr (.slice a9 k c9) ((l.take k).map cutB) cells) ∧ Below gg W wr) (fun i _ => l.length - (intOf i).toNat)
    case atStart => exact ⟨0, none, 0, [], Nat.zero_le _, rfl, q5, q6, q7, hid ⟨⟨by simp, .inl ⟨rfl, rfl⟩⟩, rfl, (by simp), fun i cs x h => by simp at h⟩, Below.refl _ _⟩
    case round =>
      obtain ⟨k, a9, c9, cells, hk, rfl, r1, r0, rf, hO, hb⟩ := hrel
      obtain ⟨wo, hwo⟩ : ∃ wo : World, wo = wr := ⟨_, rfl⟩
      subst hwo
      have hbw : Below w.heap.size w wo := hbW.trans (hb.mono (by omega))
      have hz3 : gg < wo.heap.size := by have := hb.size; omega
      by_cases hlt : k < l.length
      · obtain ⟨b, o, hA, hbb, a1, c1, X0, X1, X2, y0, y1, hd⟩ := batch_at (lift HL.out hbw) hlt
        subst hA
        have htk := hid (List.take_succ_eq_append_getElem hlt)
        obtain ⟨m1, m2⟩ := HM.out _ (List.getElem_mem hlt)
        have M2 := hid m2; clear m2
        have HD := hid hd; clear hd
        generalize l[k] = z at *
        go_wp2_with fail
        refine (batch_copyW z _ _ _ _ (lift HD.out (by (repeat (first | exact Below.refl _ _ | assumption | (refine below_alloc ?_ _) | (refine Below.setCell ?_ (by first | omega | (simp; done) | (simp; omega)) _) | (refine Below.drew ?_) | (refine below_drewN ?_ _) | (refine below_then (by assumption) ?_))))) m1 M2.out).mono ?_
        rintro r w2 ⟨v2, rfl, hr2, hb2⟩
        obtain ⟨a2, c2, hv2, _, _⟩ := sl_form (entriesW_entries hr2)
        simp only [List.cons.injEq, and_true] at hv2
        subst hv2
        have HE2 := hid hr2; clear hr2
        have hbo2 : Below wo.heap.size wo w2 := by (repeat (first | exact Below.refl _ _ | assumption | (refine below_alloc ?_ _) | (refine Below.setCell ?_ (by first | omega | (simp; done) | (simp; omega)) _) | (refine Below.drew ?_) | (refine below_drewN ?_ _) | (refine below_then (by assumption) ?_)))
        have hz4 : wo.heap.size < w2.heap.size := by have := hb2.size; simp at this; omega
        go_wp2_with fail
        refine wp_world (fun W3 => Below w2.heap.size w2 W3 ∧ W3.heap.size = w2.heap.size + 1 ∧ Blk W3 w2.heap.size 58 #[.int .u64 z.epoch, .int .u64 z.base, .slice a2 z.entries.length c2]) ⟨by (repeat (first | exact Below.refl _ _ | assumption | (refine below_alloc ?_ _) | (refine Below.setCell ?_ (by first | omega | (simp; done) | (simp; omega)) _) | (refine Below.drew ?_) | (refine below_drewN ?_ _) | (refine below_then (by assumption) ?_))), by simp, by (repeat (first | assumption | exact Blk.newAt _ _ _ (by first | (simp; done) | (simp; omega)) | refine Blk.alloc ?_ _ | refine Blk.drew ?_ | refine Blk.drewN ?_ _ | refine Blk.far ?_ (by first | (simp; done) | (simp; omega)) _))⟩ ?_
        intro W3 ⟨hb3, hz5, hbc⟩
        have HE3 := hid (rEntriesW.mono (rEntriesW.keep HE2.out (w' := W3) fun q hq => hb3.block q hq.2) (S' := fun q => wo.heap.size < q ∧ q < w2.heap.size) fun q hq => by
          have h1 := hq.1
          have h2 := hq.2
          simp at h1
          exact ⟨by omega, h2⟩)
        have HBC := hid hbc; clear hbc HE2
        have x2 : W3.cell? ⟨w2.heap.size, 2, none⟩ = some (.slice a2 z.entries.length c2) := HBC.out.cell 2
        have hz6 : w2.heap.size < W3.heap.size := by omega
        go_loopw [31] (fun i wr => ∃ (j : Nat) (es : List Entry), j ≤ z.entries.length ∧ i = .int .i64 j ∧ Hid (es.length = z.entries.length) ∧ Hid (rEntriesW.r (fun q => wo.heap.size < q ∧ q < w2.heap.size) wr [.slice a2 z.entries.length c2] es) ∧ Hid (Part z.entries es j 0) ∧ Hid (Blk wr w2.heap.size 58 #[.int .u64 z.epoch, .int .u64 z.base, .slice a2 z.entries.length c2]) ∧ Below (wo.heap.size + 1) W3 wr) (fun i _ => z.entries.length - (intOf i).toNat)
        case atStart => exact ⟨0, z.entries, Nat.zero_le _, rfl, hid rfl, HE3, hid (Part.start _), HBC, Below.refl _ _⟩
        case round =>
          obtain ⟨j, es, hj, rfl, hes, hE, hP, hB, hb5⟩ := hrel
          obtain ⟨w5, hw5⟩ : ∃ w5 : World, w5 = wr := ⟨_, rfl⟩
          subst hw5
          have hz7 : w2.heap.size < w5.heap.size := by have := hb5.size; omega
          by_cases hjl : j < z.entries.length
          · have hjl2 : j < es.length := by rw [hes.out]; exact hjl
            obtain ⟨b2, o2, hA2, hS2, a3, c3, a4, c4, z0, z1, hL, hD⟩ := entryW_at (by have := hE.out; rw [← hes.out] at this; exact this) hjl2
            subst hA2
            have hb2z : b2 < w5.heap.size := by omega
            obtain ⟨_, hqm, _, _⟩ := sl_len (linksW_links hL)
            have hjr := hid (List.getElem?_eq_getElem hjl2)
            generalize es[j] = q at *
            have hlk : Hid (∃ x, z.entries[j]? = some x ∧ x.links.length = q.links.length) := hid ⟨_, List.getElem?_eq_getElem hjl, ((hP.out.cut.2 j _ _ (List.getElem?_eq_getElem hjl) hjr.out).2.1).symm⟩
            clear hL hD
            go_wp2_with fail
            refine wp_world (fun W6 => Below w5.heap.size w5 W6 ∧ W6.heap.size = w5.heap.size + 1 ∧ W6.cell? ⟨w5.heap.size, 0, none⟩ = some (.slice a3 q.links.length c3)) ⟨by (repeat (first | exact Below.refl _ _ | assumption | (refine below_alloc ?_ _) | (refine Below.setCell ?_ (by first | omega | (simp; done) | (simp; omega)) _) | (refine Below.drew ?_) | (refine below_drewN ?_ _) | (refine below_then (by assumption) ?_))), by simp, by go_simp⟩ ?_
            intro W6 ⟨hb6, hz8, v0⟩
            go_loopw [38] (fun i wr => ∃ (t : Nat) (es' : List Entry), t ≤ q.links.length ∧ i = .int .i64 t ∧ Hid (es'.length = z.entries.length) ∧ Hid (rEntriesW.r (fun q => wo.heap.size < q ∧ q < w2.heap.size) wr [.slice (some ⟨b2, o2, none⟩) z.entries.length c2] es') ∧ Hid (Part z.entries es' j t) ∧ Hid (Blk wr w2.heap.size 58 #[.int .u64 z.epoch, .int .u64 z.base, .slice (some ⟨b2, o2, none⟩) z.entries.length c2]) ∧ Below (wo.heap.size + 1) W6 wr ∧
              wr.cell? ⟨w5.heap.size, 0, none⟩ = some (.slice a3 q.links.length c3) ∧ wr.cell? ⟨b2, o2 + j * 2, none⟩ = some (.slice a3 q.links.length c3)) (fun i _ => q.links.length - (intOf i).toNat)
            case atStart => exact ⟨0, es, Nat.zero_le _, rfl, hes, hid (rEntriesW.keep hE.out fun q hq => hb6.block q (by omega)), hP, hid (hB.out.later hb6), Below.refl _ _, v0, (hb6.cell (p := ⟨b2, o2 + j * 2, none⟩) hb2z).trans z0⟩
            case round =>
              obtain ⟨t, es', ht, rfl, hes', hE', hP', hB', hb7, v1, v2⟩ := hrel
              have hz9 : w5.heap.size < wr.heap.size := by have := hb7.size; omega
              by_cases htl : t < q.links.length
              · have hjl3 : j < es'.length := by rw [hes'.out]; exact hjl
                obtain ⟨b2', o2', hA2', _, a3', c3', a4', c4', z0', z1', hL', _⟩ := entryW_at (by have := hE'.out; rw [← hes'.out] at this; exact this) hjl3
                simp only [Option.some.injEq, Addr.mk.injEq, and_true] at hA2'
                obtain ⟨rfl, rfl⟩ := hA2'
                have hjr' := hid (List.getElem?_eq_getElem hjl3)
                generalize es'[j] = q' at *
                rw [v2] at z0'
                simp only [Option.some.injEq, Value.slice.injEq] at z0'
                obtain ⟨rfl, hqq, rfl⟩ := z0'
                obtain ⟨bl, ol, hbl, hSl, ab, cb, g0, g1, gf, gc1, gc2⟩ := linkW_at hL' (i := t) (by omega)
                subst hbl
                have hyy := hid (List.getElem?_eq_getElem (show t < q'.links.length by omega))
                generalize q'.links[t] = y at *
                have HLq := hid hL'; clear hL'
                have hblz : bl < wr.heap.size := World.block_lt_of_cell? wr _ g0
                have i1 : (t : Int) < (q.links.length : Int) := by omega
                have i2 : (0 : Int) ≤ (t : Int) := by omega
                have HQQ := hid hqq; clear hqq
                go_wp2_with fail
                refine wp_world (fun W7 => Below wr.heap.size wr W7 ∧ W7.heap.size = wr.heap.size + 1 ∧ W7.cell? ⟨wr.heap.size, 1, none⟩ = some (.slice ab y.backs.length cb)) ⟨by (repeat (first | exact Below.refl _ _ | assumption | (refine below_alloc ?_ _) | (refine Below.setCell ?_ (by first | omega | (simp; done) | (simp; omega)) _) | (refine Below.drew ?_) | (refine below_drewN ?_ _) | (refine below_then (by assumption) ?_))), by simp, by go_simp⟩ ?_
                intro W7 ⟨hb8, hz10, v3⟩
                have v4 : W7.cell? ⟨w5.heap.size, 0, none⟩ = some (.slice (some ⟨bl, ol, none⟩) q.links.length c3) := (hb8.cell (p := ⟨w5.heap.size, 0, none⟩) hz9).trans v1
                have v5 : W7.cell? ⟨bl, ol + t * 2 + 1, none⟩ = some (.slice ab y.backs.length cb) := (hb8.cell (p := ⟨bl, ol + t * 2 + 1, none⟩) hblz).trans g1
                have v6 : W7.frozen? ⟨bl, ol + t * 2 + 1, none⟩ = false := (hb8.frozen (p := ⟨bl, ol + t * 2 + 1, none⟩) hblz).trans gf
                have hne1 : w5.heap.size ≠ bl := by omega
                have hne2 : wr.heap.size ≠ bl := by omega
                have i3 : (0 : Int) ≤ (y.backs.length : Int) := by omega
                have i4 : (y.backs.length : Int) ≤ (cb : Int) := by omega
                by_cases hnb : y.backs.length ≤ 1
                · have i5 : (y.backs.length : Int) ≤ 1 := by omega
                  have i6 : min (y.backs.length : Int) 1 = y.backs.length := by omega
                  refine wp_region_last_held (fun w' => w'.cell? ⟨w5.heap.size, 0, none⟩ = some (.slice (some ⟨bl, ol, none⟩) q.links.length c3) ∧ w'.cell? ⟨wr.heap.size, 1, none⟩ = some (.slice ab y.backs.length cb)) _ (by kernel_rfl) rfl (by kernel_rfl) ⟨v4, v3⟩ (fun hHeld => ?_)
                  simp only [noopLast, noopOf]
                  refine wpAnyH_take (i := 0) (oi := _) (v := ?_) rfl (by decide +kernel) (by decide +kernel) (by decide +kernel) (fun _ _ _ h => h) (Or.inl ⟨by rfl, ?_⟩) (by assumption) ?_
                  rotate_left
                  · (intro w hSw; (try dsimp only at hSw); go_simp <;> with_reducible rfl)
                  (try simp only [Act.put, List.setIfInBounds_toArray, List.set_cons_zero, List.set_cons_succ])
                  refine wpAnyH_take (i := 1) (oi := _) (v := ?_) rfl (by decide +kernel) (by decide +kernel) (by decide +kernel) (fun _ _ _ h => h) (Or.inl ⟨by rfl, ?_⟩) (by assumption) ?_
                  rotate_left
                  · (intro w hSw; (try dsimp only at hSw); go_simp <;> with_reducible rfl)
                  (try simp only [Act.put, List.setIfInBounds_toArray, List.set_cons_zero, List.set_cons_succ])
                  refine wpAnyH_take (i := 2) (oi := _) (v := ?_) rfl (by decide +kernel) (by decide +kernel) (by decide +kernel) (fun _ _ _ h => h) (Or.inl ⟨by rfl, ?_⟩) (by assumption) ?_
                  rotate_left
                  · (intro w hSw; (try dsimp only at hSw); go_simp <;> with_reducible rfl)
                  (try simp only [Act.put, List.setIfInBounds_toArray, List.set_cons_zero, List.set_cons_succ])
                  refine wpAnyH_take (i := 3) (oi := _) (v := ?_) rfl (by decide +kernel) (by decide +kernel) (by decide +kernel) (fun _ _ _ h => h) (Or.inl ⟨by rfl, ?_⟩) (by assumption) ?_
                  rotate_left
                  · (intro w hSw; (try dsimp only at hSw); go_simp <;> with_reducible rfl)
                  (try simp only [Act.put, List.setIfInBounds_toArray, List.set_cons_zero, List.set_cons_succ])
                  refine wpAnyH_take (i := 4) (oi := _) (v := ?_) rfl (by decide +kernel) (by decide +kernel) (by decide +kernel) (fun _ _ _ h => h) (Or.inl ⟨by rfl, ?_⟩) (by assumption) ?_
                  rotate_left
                  · (intro w hSw; (try dsimp only at hSw); go_simp <;> with_reducible rfl)
                  (try simp only [Act.put, List.setIfInBounds_toArray, List.set_cons_zero, List.set_cons_succ])
                  refine wpAnyH_take (i := 5) (oi := _) (v := ?_) rfl (by decide +kernel) (by decide +kernel) (by decide +kernel) (fun _ _ _ h => h) (Or.inl ⟨by rfl, ?_⟩) (by assumption) ?_
                  rotate_left
                  · (intro w hSw; (try dsimp only at hSw); go_simp <;> with_reducible rfl)
                  (try simp only [Act.put, List.setIfInBounds_toArray, List.set_cons_zero, List.set_cons_succ])
                  refine wpAnyH_take (i := 6) (oi := _) (v := ?_) rfl (by decide +kernel) (by decide +kernel) (by decide +kernel) (fun _ _ _ h => h) (Or.inl ⟨by rfl, ?_⟩) (by assumption) ?_
                  rotate_left
                  · (intro w hSw; (try dsimp only at hSw); go_simp <;> with_reducible rfl)
                  (try simp only [Act.put, List.setIfInBounds_toArray, List.set_cons_zero, List.set_cons_succ])
                  refine wpAnyH_take (i := 7) (oi := _) (v := ?_) rfl (by decide +kernel) (by decide +kernel) (by decide +kernel) (fun _ _ _ h => h) (Or.inl ⟨by rfl, ?_⟩) (by assumption) ?_
                  rotate_left
                  · (intro w hSw; (try dsimp only at hSw); go_simp <;> with_reducible rfl)
                  (try simp only [Act.put, List.setIfInBounds_toArray, List.set_cons_zero, List.set_cons_succ])
                  refine wpAnyH_take (i := 8) (oi := _) (v := ?_) rfl (by decide +kernel) (by decide +kernel) (by decide +kernel) (fun _ _ _ h => h) (Or.inl ⟨by rfl, ?_⟩) (by assumption) ?_
                  rotate_left
                  · (intro w hSw; (try dsimp only at hSw); go_simp <;> with_reducible rfl)
                  (try simp only [Act.put, List.setIfInBounds_toArray, List.set_cons_zero, List.set_cons_succ])
                  refine wpAnyH_ready (rs := [9]) (by decide +kernel) (by simp) ?_
                  refine AllReadyH.cons (o := _) rfl (fun K hK => ?_) AllReadyH.nil
                  (go_simp; go_wp2_with fail)
                  refine hK.out _ _ ?_ (fun hHeld => ?_)
                  · ((try dsimp only); refine ⟨?_, ?_⟩ <;> (first | assumption | (go_keep; done)))
                  clear hK K
                  (try simp only [Act.put, List.setIfInBounds_toArray, List.set_cons_zero, List.set_cons_succ])
                  refine wpAnyH_take (i := 10) (oi := _) (v := ?_) rfl (by decide +kernel) (by decide +kernel) (by decide +kernel) (fun _ _ _ h => h) (Or.inl ⟨by rfl, ?_⟩) (by assumption) ?_
                  rotate_left
                  · (intro w hSw; (try dsimp only at hSw); go_simp <;> with_reducible rfl)
                  (try simp only [Act.put, List.setIfInBounds_toArray, List.set_cons_zero, List.set_cons_succ])
                  refine wpAnyH_take (i := 11) (oi := _) (v := ?_) rfl (by decide +kernel) (by decide +kernel) (by decide +kernel) (fun _ _ _ h => h) (Or.inl ⟨by rfl, ?_⟩) (by assumption) ?_
                  rotate_left
                  · (intro w hSw; (try dsimp only at hSw); go_simp <;> with_reducible rfl)
                  (try simp only [Act.put, List.setIfInBounds_toArray, List.set_cons_zero, List.set_cons_succ])
                  refine wpAnyH_take (i := 12) (oi := _) (v := ?_) rfl (by decide +kernel) (by decide +kernel) (by decide +kernel) (fun _ _ _ h => h) (Or.inl ⟨by rfl, ?_⟩) (by assumption) ?_
                  rotate_left
                  · (intro w hSw; (try dsimp only at hSw); go_simp <;> with_reducible rfl)
                  (try simp only [Act.put, List.setIfInBounds_toArray, List.set_cons_zero, List.set_cons_succ])
                  refine wpAnyH_done (by kernel_rfl) ?_ _
                  show wpList _ _ _ _ _ _
                  go_wp2_with fail
                  have hE7 : rEntriesW.r (fun q => wo.heap.size < q ∧ q < w2.heap.size) W7 [.slice (some ⟨b2, o2, none⟩) es'.length c2] es' := by
                    rw [hes'.out]
                    exact rEntriesW.keep hE'.out fun q hq => hb8.block q (by omega)
                  obtain ⟨es2, hE8, hcu, hex⟩ := ents_set (p := ⟨bl, ol + t * 2 + 1, none⟩) v5 rfl hE7 (fun e => hSl.2 e)
                  have hes2 : es2.length = z.entries.length := hcu.1.trans hes'.out
                  rw [hes'.out] at hE8
                  have hP2 : Part z.entries es2 j (t + 1) := hP'.out.step hcu fun e1 e2 x1 y1 k1 k2 k3 k4 => hex j t bl ol c3 q.links.length e1 e2 x1 y1 k1 k2 ((hb8.cell (p := ⟨b2, o2 + j * 2, none⟩) (by show b2 < _; omega)).trans v2) rfl k3 k4
                  rw [show min y.backs.length 1 = y.backs.length by omega] at hE8
                  have HE8 := hid hE8; have HP2 := hid hP2; have HS2 := hid hes2; have HB9 := hid ((hB'.out.later hb8).far (p := ⟨bl, ol + t * 2 + 1, none⟩) (by have := hSl.1.2; dsimp only; omega) (.slice ab (y.backs.length) cb))
                  have hbl1 := hSl.1
                  have hb27 : b2 < W7.heap.size := by omega
                  have hbz : (Below (wo.heap.size + 1) W6 W7) := hb7.trans (hb8.mono (by omega))
                  have v8 : W7.cell? ⟨b2, o2 + j * 2, none⟩ = some (.slice (some ⟨bl, ol, none⟩) q.links.length c3) := (hb8.cell (p := ⟨b2, o2 + j * 2, none⟩) (by show b2 < _; omega)).trans v2
                  have hnb2 : b2 ≠ bl := fun e => hSl.2 e.symm
                  clear hE7 hE8 hcu hex hP2 hes2 hHeld
                  go_roundw
                  case rel => exact ⟨t + 1, es2, by omega, by go_num, HS2, HE8, HP2, HB9, (hbz.setCell (by dsimp only; omega) _).drew, by go_simp, by go_simp⟩
                  case measure => simp [intOf]; omega
                · have i5 : (1 : Int) ≤ (y.backs.length : Int) := by omega
                  have i6 : min (y.backs.length : Int) 1 = 1 := by omega
                  have i7 : (1 : Int) ≤ (cb : Int) := by omega
                  refine wp_region_last_held (fun w' => w'.cell? ⟨w5.heap.size, 0, none⟩ = some (.slice (some ⟨bl, ol, none⟩) q.links.length c3) ∧ w'.cell? ⟨wr.heap.size, 1, none⟩ = some (.slice ab y.backs.length cb)) _ (by kernel_rfl) rfl (by kernel_rfl) ⟨v4, v3⟩ (fun hHeld => ?_)
                  simp only [noopLast, noopOf]
                  refine wpAnyH_take (i := 0) (oi := _) (v := ?_) rfl (by decide +kernel) (by decide +kernel) (by decide +kernel) (fun _ _ _ h => h) (Or.inl ⟨by rfl, ?_⟩) (by assumption) ?_
                  rotate_left
                  · (intro w hSw; (try dsimp only at hSw); go_simp <;> with_reducible rfl)
                  (try simp only [Act.put, List.setIfInBounds_toArray, List.set_cons_zero, List.set_cons_succ])
                  refine wpAnyH_take (i := 1) (oi := _) (v := ?_) rfl (by decide +kernel) (by decide +kernel) (by decide +kernel) (fun _ _ _ h => h) (Or.inl ⟨by rfl, ?_⟩) (by assumption) ?_
                  rotate_left
                  · (intro w hSw; (try dsimp only at hSw); go_simp <;> with_reducible rfl)
                  (try simp only [Act.put, List.setIfInBounds_toArray, List.set_cons_zero, List.set_cons_succ])
                  refine wpAnyH_take (i := 2) (oi := _) (v := ?_) rfl (by decide +kernel) (by decide +kernel) (by decide +kernel) (fun _ _ _ h => h) (Or.inl ⟨by rfl, ?_⟩) (by assumption) ?_
                  rotate_left
                  · (intro w hSw; (try dsimp only at hSw); go_simp <;> with_reducible rfl)
                  (try simp only [Act.put, List.setIfInBounds_toArray, List.set_cons_zero, List.set_cons_succ])
                  refine wpAnyH_take (i := 3) (oi := _) (v := ?_) rfl (by decide +kernel) (by decide +kernel) (by decide +kernel) (fun _ _ _ h => h) (Or.inl ⟨by rfl, ?_⟩) (by assumption) ?_
                  rotate_left
                  · (intro w hSw; (try dsimp only at hSw); go_simp <;> with_reducible rfl)
                  (try simp only [Act.put, List.setIfInBounds_toArray, List.set_cons_zero, List.set_cons_succ])
                  refine wpAnyH_take (i := 4) (oi := _) (v := ?_) rfl (by decide +kernel) (by decide +kernel) (by decide +kernel) (fun _ _ _ h => h) (Or.inl ⟨by rfl, ?_⟩) (by assumption) ?_
                  rotate_left
                  · (intro w hSw; (try dsimp only at hSw); go_simp <;> with_reducible rfl)
                  (try simp only [Act.put, List.setIfInBounds_toArray, List.set_cons_zero, List.set_cons_succ])
                  refine wpAnyH_take (i := 5) (oi := _) (v := ?_) rfl (by decide +kernel) (by decide +kernel) (by decide +kernel) (fun _ _ _ h => h) (Or.inl ⟨by rfl, ?_⟩) (by assumption) ?_
                  rotate_left
                  · (intro w hSw; (try dsimp only at hSw); go_simp <;> with_reducible rfl)
                  (try simp only [Act.put, List.setIfInBounds_toArray, List.set_cons_zero, List.set_cons_succ])
                  refine wpAnyH_take (i := 6) (oi := _) (v := ?_) rfl (by decide +kernel) (by decide +kernel) (by decide +kernel) (fun _ _ _ h => h) (Or.inl ⟨by rfl, ?_⟩) (by assumption) ?_
                  rotate_left
                  · (intro w hSw; (try dsimp only at hSw); go_simp <;> with_reducible rfl)
                  (try simp only [Act.put, List.setIfInBounds_toArray, List.set_cons_zero, List.set_cons_succ])
                  refine wpAnyH_take (i := 7) (oi := _) (v := ?_) rfl (by decide +kernel) (by decide +kernel) (by decide +kernel) (fun _ _ _ h => h) (Or.inl ⟨by rfl, ?_⟩) (by assumption) ?_
                  rotate_left
                  · (intro w hSw; (try dsimp only at hSw); go_simp <;> with_reducible rfl)
                  (try simp only [Act.put, List.setIfInBounds_toArray, List.set_cons_zero, List.set_cons_succ])
                  refine wpAnyH_take (i := 8) (oi := _) (v := ?_) rfl (by decide +kernel) (by decide +kernel) (by decide +kernel) (fun _ _ _ h => h) (Or.inl ⟨by rfl, ?_⟩) (by assumption) ?_
                  rotate_left
                  · (intro w hSw; (try dsimp only at hSw); go_simp <;> with_reducible rfl)
                  (try simp only [Act.put, List.setIfInBounds_toArray, List.set_cons_zero, List.set_cons_succ])
                  refine wpAnyH_ready (rs := [9]) (by decide +kernel) (by simp) ?_
                  refine AllReadyH.cons (o := _) rfl (fun K hK => ?_) AllReadyH.nil
                  (go_simp; go_wp2_with fail)
                  refine hK.out _ _ ?_ (fun hHeld => ?_)
                  · ((try dsimp only); refine ⟨?_, ?_⟩ <;> (first | assumption | (go_keep; done)))
                  clear hK K
                  (try simp only [Act.put, List.setIfInBounds_toArray, List.set_cons_zero, List.set_cons_succ])
                  refine wpAnyH_take (i := 10) (oi := _) (v := ?_) rfl (by decide +kernel) (by decide +kernel) (by decide +kernel) (fun _ _ _ h => h) (Or.inl ⟨by rfl, ?_⟩) (by assumption) ?_
                  rotate_left
                  · (intro w hSw; (try dsimp only at hSw); go_simp <;> with_reducible rfl)
                  (try simp only [Act.put, List.setIfInBounds_toArray, List.set_cons_zero, List.set_cons_succ])
                  refine wpAnyH_take (i := 11) (oi := _) (v := ?_) rfl (by decide +kernel) (by decide +kernel) (by decide +kernel) (fun _ _ _ h => h) (Or.inl ⟨by rfl, ?_⟩) (by assumption) ?_
                  rotate_left
                  · (intro w hSw; (try dsimp only at hSw); go_simp <;> with_reducible rfl)
                  (try simp only [Act.put, List.setIfInBounds_toArray, List.set_cons_zero, List.set_cons_succ])
                  refine wpAnyH_take (i := 12) (oi := _) (v := ?_) rfl (by decide +kernel) (by decide +kernel) (by decide +kernel) (fun _ _ _ h => h) (Or.inl ⟨by rfl, ?_⟩) (by assumption) ?_
                  rotate_left
                  · (intro w hSw; (try dsimp only at hSw); go_simp <;> with_reducible rfl)
                  (try simp only [Act.put, List.setIfInBounds_toArray, List.set_cons_zero, List.set_cons_succ])
                  refine wpAnyH_done (by kernel_rfl) ?_ _
                  show wpList _ _ _ _ _ _
                  go_wp2_with fail
                  have hE7 : rEntriesW.r (fun q => wo.heap.size < q ∧ q < w2.heap.size) W7 [.slice (some ⟨b2, o2, none⟩) es'.length c2] es' := by
                    rw [hes'.out]
                    exact rEntriesW.keep hE'.out fun q hq => hb8.block q (by omega)
                  obtain ⟨es2, hE8, hcu, hex⟩ := ents_set (p := ⟨bl, ol + t * 2 + 1, none⟩) v5 rfl hE7 (fun e => hSl.2 e)
                  have hes2 : es2.length = z.entries.length := hcu.1.trans hes'.out
                  rw [hes'.out] at hE8
                  have hP2 : Part z.entries es2 j (t + 1) := hP'.out.step hcu fun e1 e2 x1 y1 k1 k2 k3 k4 => hex j t bl ol c3 q.links.length e1 e2 x1 y1 k1 k2 ((hb8.cell (p := ⟨b2, o2 + j * 2, none⟩) (by show b2 < _; omega)).trans v2) rfl k3 k4
                  rw [show min y.backs.length 1 = 1 by omega] at hE8
                  have HE8 := hid hE8; have HP2 := hid hP2; have HS2 := hid hes2; have HB9 := hid ((hB'.out.later hb8).far (p := ⟨bl, ol + t * 2 + 1, none⟩) (by have := hSl.1.2; dsimp only; omega) (.slice ab (1) cb))
                  have hbl1 := hSl.1
                  have hb27 : b2 < W7.heap.size := by omega
                  have hbz : (Below (wo.heap.size + 1) W6 W7) := hb7.trans (hb8.mono (by omega))
                  have v8 : W7.cell? ⟨b2, o2 + j * 2, none⟩ = some (.slice (some ⟨bl, ol, none⟩) q.links.length c3) := (hb8.cell (p := ⟨b2, o2 + j * 2, none⟩) (by show b2 < _; omega)).trans v2
                  have hnb2 : b2 ≠ bl := fun e => hSl.2 e.symm
                  clear hE7 hE8 hcu hex hP2 hes2 hHeld
                  go_roundw
                  case rel => exact ⟨t + 1, es2, by omega, by go_num, HS2, HE8, HP2, HB9, (hbz.setCell (by dsimp only; omega) _).drew, by go_simp, by go_simp⟩
                  case measure => simp [intOf]; omega
              · have HB10 : Below (wo.heap.size + 1) W3 wr := hb5.trans ((hb6.mono (by omega)).trans hb7)
                have HP3 := hid (hP'.out.next (fun x hx => by
                  obtain ⟨x', hx', hlen⟩ := hlk.out
                  rw [hx] at hx'
                  cases hx'
                  omega))
                go_wp2_with fail
                go_roundw
                case rel => exact ⟨j + 1, es', by omega, by go_num, hes', hE', HP3, hB', HB10⟩
                case measure => simp [intOf]; omega
          · obtain rfl : j = z.entries.length := by omega
            have hfin : es = z.entries.map cutE := hP.out.end
            subst hfin
            have hb35 : Below wo.heap.size wo w5 := hbo2.trans ((hb3.mono (by omega)).trans (hb5.mono (by omega)))
            have hgw : Below gg W w5 := hb.trans (hb35.mono (by omega))
            have v1 : w5.cell? ⟨gg, 1, none⟩ = some (.slice a9 k c9) := (hb35.cell (p := ⟨gg, 1, none⟩) hz3).trans r1
            have v0 : w5.cell? ⟨gg, 0, none⟩ = some (.int .u64 e) := (hb35.cell (p := ⟨gg, 0, none⟩) hz3).trans r0
            have vf : w5.frozen? ⟨gg, 1, none⟩ = false := (hb35.frozen (p := ⟨gg, 1, none⟩) hz3).trans rf
            have q0 : w5.cell? ⟨w2.heap.size, 0, none⟩ = some (.int .u64 z.epoch) := hB.out.cell 0
            have q1 : w5.cell? ⟨w2.heap.size, 1, none⟩ = some (.int .u64 z.base) := hB.out.cell 1
            have q2 : w5.cell? ⟨w2.heap.size, 2, none⟩ = some (.slice a2 z.entries.length c2) := hB.out.cell 2
            have hlt0 : ∀ g, (Value.slice a9 k c9).ownBlock = some g → gg + 1 ≤ g ∧ g < wo.heap.size := fun g e => hO.out.1.lt g e
            have hlm : ((l.take k).map cutB).length = k := by simp; omega
            have hz5g : gg < w5.heap.size := by omega
            have OB := (hO.out.below hb35).below (w' := w5.alloc (.cells #[.int .u64 z.epoch, .int .u64 z.base, .slice a2 z.entries.length c2] 58)) (by (repeat (first | exact Below.refl _ _ | assumption | (refine below_alloc ?_ _) | (refine Below.setCell ?_ (by first | omega | (simp; done) | (simp; omega)) _) | (refine Below.drew ?_) | (refine below_drewN ?_ _) | (refine below_then (by assumption) ?_))))
            have OBm := OB.1
            rw [hlm] at OBm
            have hxB : rBatch.r (fun b' => gg + 1 ≤ b' ∧ b' < (w5.alloc (.cells #[.int .u64 z.epoch, .int .u64 z.base, .slice a2 z.entries.length c2] 58)).heap.size ∧ (Value.slice a9 k c9).ownBlock ≠ some b') (w5.alloc (.cells #[.int .u64 z.epoch, .int .u64 z.base, .slice a2 z.entries.length c2] 58)) [.int .u64 z.epoch, .int .u64 z.base, .slice a2 z.entries.length c2] (cutB z) := by
              refine batch_mk (x := cutB z) y0 y1 (rEntries.mono (rEntries.keep (entriesW_entries hE.out) fun b' hb' => Below.heap_alloc w5 _ b' (by omega)) fun b' hb' => ⟨by omega, by simp; omega, fun e => ?_⟩)
              have := (hlt0 b' e).2; omega
            have keepB : ∀ b', b' < w5.heap.size → (w5.alloc (.cells #[.int .u64 z.epoch, .int .u64 z.base, .slice a2 z.entries.length c2] 58)).heap[b']? = w5.heap[b']? := fun b' hb' => Below.heap_alloc w5 _ b' hb'
            have HKB := hid keepB
            have HOB := hid OB; have HOBm := hid OBm; have HXB := hid hxB; have HLM := hid hlm; have HHO := hid hlt0
            have HBZ := hid (show gg + 1 ≤ (w5.alloc (.cells #[.int .u64 z.epoch, .int .u64 z.base, .slice a2 z.entries.length c2] 58)).heap.size by simp; omega)
            clear OB OBm hxB hlm hlt0 keepB
            have hk16 : k < 1000000 := by have := g16; (try dsimp only at this); omega
            go_wp2_with (at_builtin; go_loud (refine wpList_append_src rfl _ _ _ rfl (gg + 1) 58 i0 (.agg #[.int .u64 0, .int .u64 0, .slice none 0 0]) 3 40 Try.underlying28 hi iz0 iz1 iz2 rfl (by decide) (.slice a9 k c9) k _ rfl HOBm.out (some ⟨w5.heap.size, 0, none⟩) 1 1 [.int .u64 z.epoch, .int .u64 z.base, .slice a2 z.entries.length c2] rfl (src_new1 w5 58 _ rfl rfl rfl) (by intro u hu; simp at hu; rcases hu with rfl | rfl | rfl <;> rfl) (by simp only [maxLen]; omega) (by omega) HBZ.out ?_; intro v9 w7 hown1 hgrow1 hat1; obtain ⟨a5, c5, hv1⟩ := own_form hown1; subst hv1; have G := fun b' (hb : b' < w5.heap.size) (hne : (Value.slice a9 k c9).ownBlock ≠ some b') => (hgrow1.block b' (by simp; omega) (fun e => hne e.symm)).trans (HKB.out b' hb); have neg : (Value.slice a9 k c9).ownBlock ≠ some gg := fun e => by { have := (HHO.out _ e).1; omega }; have e1 := (World.cell?_of_block (a := ⟨gg, 1, none⟩) (G gg hz5g neg)).trans v1; have e0 := (World.cell?_of_block (a := ⟨gg, 0, none⟩) (G gg hz5g neg)).trans v0; have ef := (World.frozen?_of_block (a := ⟨gg, 1, none⟩) (G gg hz5g neg)).trans vf; have hs5 : gg < w7.heap.size := Nat.lt_of_lt_of_le hz5g (Nat.le_trans (by simp) hgrow1.size); have HG1 := hid hgrow1; have HO1 := hid hown1; have HA1 := hid hat1; have HGG1 := hid G; clear hgrow1 hown1 hat1 G))
            have OPU := OwnElsAt.push HOB.out rfl HXB.out (by rw [HLM.out]; exact HO1.out) HG1.out HA1.out HG1.out.size
            have hr1 : (l.take k).map cutB ++ [cutB z] = (l.take (k + 1)).map cutB := by rw [htk.out, List.map_append]; rfl
            rw [hr1] at OPU
            have hs9 : (w7.setCell ⟨gg, 1, none⟩ (.slice a5 (k + 1) c5)).heap.size = w7.heap.size := by simp [World.setCell]
            have hs8 := HG1.out.size
            have keep9 : ∀ b', b' ≠ gg → (w7.setCell ⟨gg, 1, none⟩ (.slice a5 (k + 1) c5)).heap[b']? = w7.heap[b']? := fun b' hb' => Below.heap_setCell _ _ _ _ hb'
            have OP9 := ((OwnElsF.of OPU).keep (w' := w7.setCell ⟨gg, 1, none⟩ (.slice a5 (k + 1) c5)) (fun b' hb' => keep9 b' (by omega)) (fun g hg => keep9 g (by have := (OPU.1.lt g hg).1; omega))).to (lo := gg + 1) (fun b' hb' => by rw [hs9]; exact hb')
            have HOP := hid OP9
            have hB5 : Below gg W w7 := hgw.trans ⟨HG1.out.os, HG1.out.tape, HG1.out.output, by simp at hs8; omega, fun b' hb' => (HGG1.out b' (by omega) (fun e => by have := (HHO.out b' e).1; omega))⟩
            clear OPU keep9 OP9 hr1
            go_roundw
            case rel => exact ⟨k + 1, a5, c5, _, by omega, by go_num, by go_simp, by go_simp, by go_simp, HOP, hB5.setCell (Nat.le_refl _) _⟩
            case measure => simp [intOf]; omega
      · obtain rfl : k = l.length := by omega
        have hv := OwnEls.slice (Nat.le_refl _) ⟨_, hO.out⟩
        rw [List.take_length] at hv
        have HV := hid hv; clear hv
        have P1 := HQ3.out.below hb (by omega)
        have y2 : wo.cell? ⟨w.heap.size + 1, 0, none⟩ = some (.int .u64 0) := P1.cell 0
        have y3 : wo.cell? ⟨w.heap.size + 1, 1, none⟩ = some (.slice none 0 0) := P1.cell 1
        have f0 := P1.free 0
        have f1 := P1.free 1
        clear P1
        have hz5 : w.heap.size + 1 < wo.heap.size := by omega
        go_wp2
        refine bodyPost_ret (v := .tuple #[.agg #[.int .u64 e, .slice a9 l.length c9], .int .i64 0]) (by simp [results, Try.results19, go_sem, y2, y3]) rfl ?_
        unfold UpRet
        rw [HF.out]
        refine ⟨_, rfl, ?_, by (repeat (first | exact Below.refl _ _ | assumption | (refine below_alloc ?_ _) | (refine Below.setCell ?_ (by first | omega | (simp; done) | (simp; omega)) _) | (refine Below.drew ?_) | (refine below_drewN ?_ _) | (refine below_then (by assumption) ?_)))⟩
        refine rBatches.mono (rBatches.keep HV.out fun b hb => ?_) fun b hb => by simp; omega
        repeat rw [Below.heap_setCell _ _ _ _ (by dsimp only; omega)]
end Go.Proofs.Ytlbchenleimopaa
