/- Needed by pushNone_walk, part 11: texts put together by shake.py; no condition. -/
import Derived.Test.YtfddhafbhceoaaaGreatWA6
import Derived.Test.YtfddhafbhceoaaaGreatWA10
import Derived.Test.YtfddhafbhceoaaaGreatWA5
import Derived.Test.YtfddhafbhceoaaaGreatWA3
import Derived.Test.YtfddhafbhceoaaaGreatWA1
import Derived.Test.YtfddhafbhceoaaaGreatWA2
import Derived.Deep.WholeRow
import Derived.Test.YtfddhafbhceoaaaGreatWA8
import Derived.Test.YtfddhafbhceoaaaGreatWA9
namespace Go.Bs
open Go.RowKit
set_option linter.unusedVariables false
structure EvX where
  kind : Int
  at_ : Int
  code : Int
  msg : Msg
  batch : Batch
/-- A whole number, whatever its size. -/
def rI : Rp Int := ⟨fun _ _ cs n => cs = [.int .i64 n], fun h _ => h, fun h _ => h⟩
def rEvX : Rp EvX := rBy (fun e => (e.kind, e.at_, e.code, e.msg, e.batch)) (rPair rI (rPair rI (rPair rI (rPair rMsg rBatch))))
def rEvs : Rp (List EvX) := rSl 20 rEvX
/-- An event's cells, the slices' places told. -/
def evCells (x : EvX) (a1 : Option Addr) (c1 : Nat) (a2 : Option Addr) (c2 : Nat) (a3 : Option Addr) (c3 : Nat) (a4 : Option Addr) (c4 : Nat) (a5 : Option Addr) (c5 : Nat) : List Value :=
  [.int .i64 x.kind, .int .i64 x.at_, .int .i64 x.code, .int .i64 x.msg.kind, .int .u64 x.msg.epoch, .int .u64 x.msg.seq, .int .u64 x.msg.pos, .int .i64 x.msg.count, .int .i64 x.msg.state, .slice a1 x.msg.streams.length c1, .slice a2 x.msg.links.length c2, .slice a3 x.msg.data.length c3, .int .u64 x.msg.sea.epoch, .int .u64 x.msg.sea.node, .int .u64 x.msg.sea.tail, .int .u64 x.msg.proj.epoch, .slice a4 x.msg.proj.stripes.length c4, .int .u64 x.batch.epoch, .int .u64 x.batch.base, .slice a5 x.batch.entries.length c5]
structure EvIn (S : Nat → Prop) (w : World) (x : EvX) (a1 : Option Addr) (c1 : Nat) (a2 : Option Addr) (c2 : Nat) (a3 : Option Addr) (c3 : Nat) (a4 : Option Addr) (c4 : Nat) (a5 : Option Addr) (c5 : Nat) : Prop where
  msg : MsgIn S w x.msg a1 c1 a2 c2 a3 c3 a4 c4
  epoch : inU x.batch.epoch
  base : inU x.batch.base
  ents : rEntries.r S w [.slice a5 x.batch.entries.length c5] x.batch.entries
section
variable {S S' : Nat → Prop} {w w' : World} {cs : List Value}
theorem ev_cells {x : EvX} (h : rEvX.r S w cs x) : ∃ a1 c1 a2 c2 a3 c3 a4 c4 a5 c5, cs = evCells x a1 c1 a2 c2 a3 c3 a4 c4 a5 c5 ∧ EvIn S w x a1 c1 a2 c2 a3 c3 a4 c4 a5 c5 := by
  obtain ⟨_, _, rfl, rfl, _, _, rfl, rfl, _, _, rfl, rfl, _, _, rfl, h4, h5⟩ := h
  obtain ⟨a1, c1, a2, c2, a3, c3, a4, c4, rfl, g1⟩ := msg_cells h4
  obtain ⟨a5, c5, rfl, g2, g3, g4⟩ := batch_cells h5
  exact ⟨a1, c1, a2, c2, a3, c3, a4, c4, a5, c5, rfl, g1, g2, g3, g4⟩
theorem ev_at {xs : List EvX} {a : Option Addr} {n c : Nat} (h : rEvs.r S w [.slice a n c] xs) {i : Nat} (hi : i < xs.length) : ∃ b off, a = some ⟨b, off, none⟩ ∧ S b ∧ ∃ (a1 : Option Addr) (c1 : Nat) (a2 : Option Addr) (c2 : Nat) (a3 : Option Addr) (c3 : Nat) (a4 : Option Addr) (c4 : Nat) (a5 : Option Addr) (c5 : Nat),
    (w.cell? ⟨b, off + i * 20, none⟩ = some (.int .i64 xs[i].kind) ∧ w.cell? ⟨b, off + i * 20 + 1, none⟩ = some (.int .i64 xs[i].at_) ∧ w.cell? ⟨b, off + i * 20 + 2, none⟩ = some (.int .i64 xs[i].code) ∧ w.cell? ⟨b, off + i * 20 + 3, none⟩ = some (.int .i64 xs[i].msg.kind) ∧ w.cell? ⟨b, off + i * 20 + 4, none⟩ = some (.int .u64 xs[i].msg.epoch) ∧ w.cell? ⟨b, off + i * 20 + 5, none⟩ = some (.int .u64 xs[i].msg.seq) ∧ w.cell? ⟨b, off + i * 20 + 6, none⟩ = some (.int .u64 xs[i].msg.pos) ∧ w.cell? ⟨b, off + i * 20 + 7, none⟩ = some (.int .i64 xs[i].msg.count) ∧ w.cell? ⟨b, off + i * 20 + 8, none⟩ = some (.int .i64 xs[i].msg.state) ∧ w.cell? ⟨b, off + i * 20 + 9, none⟩ = some (.slice a1 xs[i].msg.streams.length c1) ∧ w.cell? ⟨b, off + i * 20 + 10, none⟩ = some (.slice a2 xs[i].msg.links.length c2) ∧ w.cell? ⟨b, off + i * 20 + 11, none⟩ = some (.slice a3 xs[i].msg.data.length c3) ∧ w.cell? ⟨b, off + i * 20 + 12, none⟩ = some (.int .u64 xs[i].msg.sea.epoch) ∧ w.cell? ⟨b, off + i * 20 + 13, none⟩ = some (.int .u64 xs[i].msg.sea.node) ∧ w.cell? ⟨b, off + i * 20 + 14, none⟩ = some (.int .u64 xs[i].msg.sea.tail) ∧ w.cell? ⟨b, off + i * 20 + 15, none⟩ = some (.int .u64 xs[i].msg.proj.epoch) ∧ w.cell? ⟨b, off + i * 20 + 16, none⟩ = some (.slice a4 xs[i].msg.proj.stripes.length c4) ∧ w.cell? ⟨b, off + i * 20 + 17, none⟩ = some (.int .u64 xs[i].batch.epoch) ∧ w.cell? ⟨b, off + i * 20 + 18, none⟩ = some (.int .u64 xs[i].batch.base) ∧ w.cell? ⟨b, off + i * 20 + 19, none⟩ = some (.slice a5 xs[i].batch.entries.length c5)) ∧ EvIn S w xs[i] a1 c1 a2 c2 a3 c3 a4 c4 a5 c5 := by
  obtain ⟨b, off, e, hS, cs, _, hc, hA⟩ := sl_at h hi
  obtain ⟨a1, c1, a2, c2, a3, c3, a4, c4, a5, c5, rfl, h1⟩ := ev_cells hA
  exact ⟨b, off, e, hS, a1, c1, a2, c2, a3, c3, a4, c4, a5, c5, ⟨hc 0 _ rfl, hc 1 _ rfl, hc 2 _ rfl, hc 3 _ rfl, hc 4 _ rfl, hc 5 _ rfl, hc 6 _ rfl, hc 7 _ rfl, hc 8 _ rfl, hc 9 _ rfl, hc 10 _ rfl, hc 11 _ rfl, hc 12 _ rfl, hc 13 _ rfl, hc 14 _ rfl, hc 15 _ rfl, hc 16 _ rfl, hc 17 _ rfl, hc 18 _ rfl, hc 19 _ rfl⟩, h1⟩
theorem ev_ones {x : EvX} {a1 : Option Addr} {c1 : Nat} {a2 : Option Addr} {c2 : Nat} {a3 : Option Addr} {c3 : Nat} {a4 : Option Addr} {c4 : Nat} {a5 : Option Addr} {c5 : Nat} : ∀ u ∈ evCells x a1 c1 a2 c2 a3 c3 a4 c4 a5 c5, u.oneCell' = true := by
  intro u hu
  simp [evCells] at hu
  rcases hu with rfl | rfl | rfl | rfl | rfl | rfl | rfl | rfl | rfl | rfl | rfl | rfl | rfl | rfl | rfl | rfl | rfl | rfl | rfl | rfl <;> rfl
theorem ev_blk {g : Nat} {t : TypeId} {v0 v1 v2 v3 v4 v5 v6 v7 v8 v9 v10 v11 v12 v13 v14 v15 v16 v17 v18 v19 : Value} (h : Blk w g t #[v0, v1, v2, v3, v4, v5, v6, v7, v8, v9, v10, v11, v12, v13, v14, v15, v16, v17, v18, v19]) :
    w.cell? ⟨g, 0, none⟩ = some v0 ∧ w.cell? ⟨g, 1, none⟩ = some v1 ∧ w.cell? ⟨g, 2, none⟩ = some v2 ∧ w.cell? ⟨g, 3, none⟩ = some v3 ∧ w.cell? ⟨g, 4, none⟩ = some v4 ∧ w.cell? ⟨g, 5, none⟩ = some v5 ∧ w.cell? ⟨g, 6, none⟩ = some v6 ∧ w.cell? ⟨g, 7, none⟩ = some v7 ∧ w.cell? ⟨g, 8, none⟩ = some v8 ∧ w.cell? ⟨g, 9, none⟩ = some v9 ∧ w.cell? ⟨g, 10, none⟩ = some v10 ∧ w.cell? ⟨g, 11, none⟩ = some v11 ∧ w.cell? ⟨g, 12, none⟩ = some v12 ∧ w.cell? ⟨g, 13, none⟩ = some v13 ∧ w.cell? ⟨g, 14, none⟩ = some v14 ∧ w.cell? ⟨g, 15, none⟩ = some v15 ∧ w.cell? ⟨g, 16, none⟩ = some v16 ∧ w.cell? ⟨g, 17, none⟩ = some v17 ∧ w.cell? ⟨g, 18, none⟩ = some v18 ∧ w.cell? ⟨g, 19, none⟩ = some v19 ∧ g < w.heap.size :=
  ⟨h.cell 0, h.cell 1, h.cell 2, h.cell 3, h.cell 4, h.cell 5, h.cell 6, h.cell 7, h.cell 8, h.cell 9, h.cell 10, h.cell 11, h.cell 12, h.cell 13, h.cell 14, h.cell 15, h.cell 16, h.cell 17, h.cell 18, h.cell 19, h.lt⟩
theorem ev_free {g : Nat} {t : TypeId} {cs : Array Value} (h : Blk w g t cs) : w.frozen? ⟨g, 0, none⟩ = false ∧ w.frozen? ⟨g, 1, none⟩ = false ∧ w.frozen? ⟨g, 2, none⟩ = false ∧ w.frozen? ⟨g, 3, none⟩ = false ∧ w.frozen? ⟨g, 4, none⟩ = false ∧ w.frozen? ⟨g, 5, none⟩ = false ∧ w.frozen? ⟨g, 6, none⟩ = false ∧ w.frozen? ⟨g, 7, none⟩ = false ∧ w.frozen? ⟨g, 8, none⟩ = false ∧ w.frozen? ⟨g, 9, none⟩ = false ∧ w.frozen? ⟨g, 10, none⟩ = false ∧ w.frozen? ⟨g, 11, none⟩ = false ∧ w.frozen? ⟨g, 12, none⟩ = false ∧ w.frozen? ⟨g, 13, none⟩ = false ∧ w.frozen? ⟨g, 14, none⟩ = false ∧ w.frozen? ⟨g, 15, none⟩ = false ∧ w.frozen? ⟨g, 16, none⟩ = false ∧ w.frozen? ⟨g, 17, none⟩ = false ∧ w.frozen? ⟨g, 18, none⟩ = false ∧ w.frozen? ⟨g, 19, none⟩ = false :=
  ⟨h.free 0, h.free 1, h.free 2, h.free 3, h.free 4, h.free 5, h.free 6, h.free 7, h.free 8, h.free 9, h.free 10, h.free 11, h.free 12, h.free 13, h.free 14, h.free 15, h.free 16, h.free 17, h.free 18, h.free 19⟩
end
end Go.Bs
namespace Go.Proofs.YtfddhafbhceoaaaGreat
open Go.RowKit Go.Bs Go.Maps
set_option linter.unusedVariables false
set_option linter.unusedSimpArgs false

/-! Rows of one's own, kept. -/
theorem ownRow_keep {base : Nat} {e : TypeId} {size : Nat} {v : Value} {n : Nat} {xs : List Value} {w w' : World} (h : w.ownsRow base e size v n xs) (hk : ∀ g, v.ownBlock = some g → w'.heap[g]? = w.heap[g]?) : w'.ownsRow base e size v n xs := by
  refine ⟨h.1, ?_⟩
  rcases h.2 with h0 | ⟨g, cap, cur, h1, h2, h3, h4⟩
  · exact .inl h0
  · exact .inr ⟨g, cap, cur, h1, h2, by rw [hk g (by rw [h1]; rfl)]; exact h3, h4⟩
theorem OwnB.keepv {w w' : World} {b : Nat} {v : Value} {L : List UInt8} (h : OwnB w b v L) (hk : ∀ g, v.ownBlock = some g → w'.heap[g]? = w.heap[g]?) : OwnB w' b v L := ownRow_keep h hk
theorem OwnB.nil {w : World} {b : Nat} : OwnB w b (.slice none 0 0) [] := ⟨rfl, .inl ⟨rfl, rfl⟩⟩
theorem OwnB.at_ {w : World} {b : Nat} {v : Value} {L : List UInt8} (h : OwnB w b v L) : ∀ q, v.ownBlock = some q → b ≤ q ∧ q < w.heap.size := own_lt2 h

/-! The length. -/
theorem intD_le (B : List UInt8) : (intD B).2 ≤ 2097152 := by
  rw [intD_is]
  split
  · exact Nat.zero_le _
  · dsimp only; omega
theorem frame_whole (w : World) (B : List UInt8) (a : Option Addr) (n c : Nat) (hl : rBytes.r (· < w.heap.size) w [.slice a n c] B) (hB : B.length ≤ 1000000000) :
    Calls Tryz.prog 63 #[.slice a n c, .int .i64 2097152] w fun r w' => r = .returned (.tuple #[.int .i64 (wholeN B : Nat), .bool (decide (0 < wholeN B))]) ∧ Below w.heap.size w w' := by
  obtain ⟨rfl, _, _, _⟩ := sl_len hl
  have HN := hid (rd_new w B a _ c hl)
  have HI := hid (fun (W : World) (h : RdAt W w.heap.size B a ⟨0, 0, 0⟩) => (by have := varint_int W h (by omega) 2097152 (by decide); exact this : Calls Tryz.prog 110 #[.pointer (some ⟨w.heap.size, 0, none⟩), .int .i64 2097152] W fun r w' => r = .returned (.int .i64 ((intD B).2 : Int)) ∧ RdStep W w.heap.size B a (intD B).1 w'))
  have HBD := hid (fun (W : World) => (by have := frame_bound 2097152 W; exact this : Calls Tryz.prog 111 #[.int .i64 2097152] W fun r w' => r = .returned (.int .i64 2097152) ∧ W = w'))
  have hle := intD_le B
  have HSZ := hid (fun (W : World) => frame_size (intD B).2 (by omega) W)
  unfold wholeN
  generalize intD B = I at *
  obtain ⟨s, x⟩ := I
  dsimp only at *
  clear hl
  by_cases hk : s.k = 0
  · have HG := hid (fun (V : World) (hV : RdAt V w.heap.size B a s) => (by have := rd_good V hV; rw [decide_eq_true hk] at this; exact this : Calls Tryz.prog 112 #[.pointer (some ⟨w.heap.size, 0, none⟩)] V fun r w' => r = .returned (.bool true) ∧ Below V.heap.size V w'))
    rw [if_pos hk]
    have hpos : decide (0 < (varB x).length + x + 4) = true := decide_eq_true (by omega)
    rw [hpos]
    generalize (varB x).length + x + 4 = N at *
    clear hk hpos
    go_enter Tryz.func63, Tryz.ntmps63
    go_wp2_with fail
    refine HN.out.mono ?_
    rintro r w1 ⟨rfl, hrd, hb1⟩
    have HRD := hid hrd
    have HB1 := hid hb1
    clear hrd hb1
    go_wp2_with fail
    refine (HBD.out w1).mono ?_
    rintro r w1' ⟨rfl, rfl⟩
    go_wp2_with fail
    refine (HI.out w1 HRD.out).mono ?_
    rintro r w2 ⟨rfl, hst⟩
    have HS := hid hst.1
    have HB2 := hid (HB1.out.trans (hst.below HB1.out.size (Nat.le_refl _)))
    clear hst
    go_wp2_with fail
    refine (HG.out w2 HS.out).mono ?_
    rintro r w3 ⟨rfl, hb3⟩
    have HB3 := hid (below_then hb3 HB2.out)
    clear hb3
    go_wp2_with fail
    refine (HSZ.out w3).mono ?_
    rintro r w4 ⟨rfl, hb4⟩
    have HB4 := hid (below_then hb4 HB3.out)
    clear hb4
    go_wp2_with fail
    go_ret2
    exact ⟨rfl, HB4.out⟩
  · have HG := hid (fun (V : World) (hV : RdAt V w.heap.size B a s) => (by have := rd_good V hV; rw [decide_eq_false hk] at this; exact this : Calls Tryz.prog 112 #[.pointer (some ⟨w.heap.size, 0, none⟩)] V fun r w' => r = .returned (.bool false) ∧ Below V.heap.size V w'))
    rw [if_neg hk]
    clear hk
    go_enter Tryz.func63, Tryz.ntmps63
    go_wp2_with fail
    refine HN.out.mono ?_
    rintro r w1 ⟨rfl, hrd, hb1⟩
    have HRD := hid hrd
    have HB1 := hid hb1
    clear hrd hb1
    go_wp2_with fail
    refine (HBD.out w1).mono ?_
    rintro r w1' ⟨rfl, rfl⟩
    go_wp2_with fail
    refine (HI.out w1 HRD.out).mono ?_
    rintro r w2 ⟨rfl, hst⟩
    have HS := hid hst.1
    have HB2 := hid (HB1.out.trans (hst.below HB1.out.size (Nat.le_refl _)))
    clear hst
    go_wp2_with fail
    refine (HG.out w2 HS.out).mono ?_
    rintro r w3 ⟨rfl, hb3⟩
    have HB3 := hid (below_then hb3 HB2.out)
    clear hb3
    go_wp2_with fail
    go_ret2
    exact ⟨rfl, HB3.out⟩

/-- What is wrong with a length, as far as it is there. -/
theorem push_wrong (w : World) (B : List UInt8) (a : Option Addr) (n c : Nat) (hl : rBytes.r (· < w.heap.size) w [.slice a n c] B) (hB : B.length ≤ 1000000000) :
    Calls Tryz.prog 64 #[.slice a n c] w fun r w' => r = .returned (.agg #[.int .i64 (if (intD B).1.k = 1 then 0 else (intD B).1.k), .int .i64 (if (intD B).1.k = 1 then 0 else (intD B).1.f)]) ∧ Below w.heap.size w w' := by
  obtain ⟨rfl, _, _, _⟩ := sl_len hl
  have HN := hid (rd_new (w.alloc (.cells #[.int .i64 0, .int .i64 0] 65)) B a _ c (lift hl (by (repeat (first | with_reducible exact Below.refl _ _ | with_reducible assumption | (with_reducible refine below_alloc ?_ _) | (with_reducible refine Below.setCell ?_ (by first | omega | (simp; done) | (simp; omega)) _) | (with_reducible refine Below.drew ?_) | (with_reducible refine below_drewN ?_ _) | (refine below_then (by with_reducible assumption) ?_))))))
  have HI := hid (fun (W : World) (h : RdAt W (w.heap.size + 1) B a ⟨0, 0, 0⟩) => (by have := varint_int W h (by omega) 2097152 (by decide); exact this : Calls Tryz.prog 110 #[.pointer (some ⟨w.heap.size + 1, 0, none⟩), .int .i64 2097152] W fun r w' => r = .returned (.int .i64 ((intD B).2 : Int)) ∧ RdStep W (w.heap.size + 1) B a (intD B).1 w'))
  generalize intD B = I at *
  obtain ⟨s, x⟩ := I
  dsimp only at *
  obtain ⟨K, hK⟩ : ∃ K : Int, K = if s.k = 1 then 0 else s.k := ⟨_, rfl⟩
  obtain ⟨F, hF⟩ : ∃ F : Int, F = if s.k = 1 then 0 else s.f := ⟨_, rfl⟩
  rw [← hK, ← hF]
  have hcase : (s.k ≠ 1 ∧ K = s.k ∧ F = s.f) ∨ (s.k = 1 ∧ K = 0 ∧ F = 0) := by
    by_cases h : s.k = 1
    · rw [if_pos h] at hK hF
      exact .inr ⟨h, hK, hF⟩
    · rw [if_neg h] at hK hF
      exact .inl ⟨h, hK, hF⟩
  clear hl hK hF
  rcases hcase with ⟨hk, rfl, rfl⟩ | ⟨hk, rfl, rfl⟩
  · have dk : (s.k != (1 : Int)) = true := by simp [hk]
    clear hk
    go_enter Tryz.func64, Tryz.ntmps64
    go_wp2_with fail
    refine HN.out.mono ?_
    rintro r w1 ⟨rfl, hrd, hb1⟩
    have F1 : Blk w1 w.heap.size 65 #[.int .i64 0, .int .i64 0] := Blk.later (by (repeat (first | assumption | exact Blk.newAt _ _ _ (by first | (simp; done) | (simp; omega)) | refine Blk.alloc ?_ _ | refine Blk.drew ?_ | refine Blk.drewN ?_ _ | refine Blk.far ?_ (by first | (simp; done) | (simp; omega)) _))) hb1
    have hbw1 : Below w.heap.size w w1 := by (repeat (first | with_reducible exact Below.refl _ _ | with_reducible assumption | (with_reducible refine below_alloc ?_ _) | (with_reducible refine Below.setCell ?_ (by first | omega | (simp; done) | (simp; omega)) _) | (with_reducible refine Below.drew ?_) | (with_reducible refine below_drewN ?_ _) | (refine below_then (by with_reducible assumption) ?_)))
    have hgl := hrd.blk.lt
    simp at hrd hgl
    have HRD := hid hrd
    clear hrd hb1
    go_wp2_with fail
    refine (HI.out w1 HRD.out).mono ?_
    rintro r w2 ⟨rfl, hst⟩
    have F2 := F1.tch hst.2 (by omega)
    have hbw2 : Below w.heap.size w w2 := hbw1.trans (hst.below (by omega) (by omega))
    have HFA := hid (rd_fault w2 hst.1)
    clear hst F1
    go_wp2_with fail
    refine HFA.out.mono ?_
    rintro r w3 ⟨rfl, hb3⟩
    have F3 := F2.later hb3
    have hbw3 := below_then hb3 hbw2
    have G3 : Blk (w3.alloc (.cells #[.int .i64 s.k, .int .i64 s.f] 65)) w3.heap.size 65 #[.int .i64 s.k, .int .i64 s.f] := by (repeat (first | assumption | exact Blk.newAt _ _ _ (by first | (simp; done) | (simp; omega)) | refine Blk.alloc ?_ _ | refine Blk.drew ?_ | refine Blk.drewN ?_ _ | refine Blk.far ?_ (by first | (simp; done) | (simp; omega)) _))
    obtain ⟨z0, z1, e0, e1, l2⟩ := f_blk G3
    obtain ⟨y0, y1, g0, g1, l1⟩ := f_blk (F3.alloc (.cells #[.int .i64 s.k, .int .i64 s.f] 65))
    clear hb3 F2 F3 G3
    go_wp2_with fail

    refine bodyPost_ret (v := .agg #[.int .i64 s.k, .int .i64 s.f]) (by simp [results, Tryz.results64, go_sem, y0, y1, l1]) rfl ⟨rfl, by (repeat (first | with_reducible exact Below.refl _ _ | with_reducible assumption | (with_reducible refine below_alloc ?_ _) | (with_reducible refine Below.setCell ?_ (by first | omega | (simp; done) | (simp; omega)) _) | (with_reducible refine Below.drew ?_) | (with_reducible refine below_drewN ?_ _) | (refine below_then (by with_reducible assumption) ?_)))⟩
  · have dk : (s.k != (1 : Int)) = false := by simp [hk]
    clear hk
    go_enter Tryz.func64, Tryz.ntmps64
    go_wp2_with fail
    refine HN.out.mono ?_
    rintro r w1 ⟨rfl, hrd, hb1⟩
    have F1 : Blk w1 w.heap.size 65 #[.int .i64 0, .int .i64 0] := Blk.later (by (repeat (first | assumption | exact Blk.newAt _ _ _ (by first | (simp; done) | (simp; omega)) | refine Blk.alloc ?_ _ | refine Blk.drew ?_ | refine Blk.drewN ?_ _ | refine Blk.far ?_ (by first | (simp; done) | (simp; omega)) _))) hb1
    have hbw1 : Below w.heap.size w w1 := by (repeat (first | with_reducible exact Below.refl _ _ | with_reducible assumption | (with_reducible refine below_alloc ?_ _) | (with_reducible refine Below.setCell ?_ (by first | omega | (simp; done) | (simp; omega)) _) | (with_reducible refine Below.drew ?_) | (with_reducible refine below_drewN ?_ _) | (refine below_then (by with_reducible assumption) ?_)))
    have hgl := hrd.blk.lt
    simp at hrd hgl
    have HRD := hid hrd
    clear hrd hb1
    go_wp2_with fail
    refine (HI.out w1 HRD.out).mono ?_
    rintro r w2 ⟨rfl, hst⟩
    have F2 := F1.tch hst.2 (by omega)
    have hbw2 : Below w.heap.size w w2 := hbw1.trans (hst.below (by omega) (by omega))
    have HFA := hid (rd_fault w2 hst.1)
    clear hst F1
    go_wp2_with fail
    refine HFA.out.mono ?_
    rintro r w3 ⟨rfl, hb3⟩
    have F3 := F2.later hb3
    have hbw3 := below_then hb3 hbw2
    have G3 : Blk (w3.alloc (.cells #[.int .i64 s.k, .int .i64 s.f] 65)) w3.heap.size 65 #[.int .i64 s.k, .int .i64 s.f] := by (repeat (first | assumption | exact Blk.newAt _ _ _ (by first | (simp; done) | (simp; omega)) | refine Blk.alloc ?_ _ | refine Blk.drew ?_ | refine Blk.drewN ?_ _ | refine Blk.far ?_ (by first | (simp; done) | (simp; omega)) _))
    obtain ⟨z0, z1, e0, e1, l2⟩ := f_blk G3
    obtain ⟨y0, y1, g0, g1, l1⟩ := f_blk (F3.alloc (.cells #[.int .i64 s.k, .int .i64 s.f] 65))
    clear hb3 F2 F3 G3
    go_wp2_with fail
    refine bodyPost_ret (v := .agg #[.int .i64 0, .int .i64 0]) (by simp [results, Tryz.results64, go_sem, y0, y1, l1]) rfl ⟨rfl, by (repeat (first | with_reducible exact Below.refl _ _ | with_reducible assumption | (with_reducible refine below_alloc ?_ _) | (with_reducible refine Below.setCell ?_ (by first | omega | (simp; done) | (simp; omega)) _) | (with_reducible refine Below.drew ?_) | (with_reducible refine below_drewN ?_ _) | (refine below_then (by with_reducible assumption) ?_)))⟩

/-! A parser. -/
/-- Block g is a parser at s, whose buffer is v. -/
structure ParAt (w : World) (g : Nat) (v : Value) (s : PSt) : Prop where
  blk : Blk w g 60 #[.bool true, v, .int .i64 (s.first : Int), .int .i64 (s.fed : Int), .int .i64 (s.need : Int), .int .i64 s.ended]
  buf : OwnB w (g + 1) v s.buf
section
variable {w w' : World} {g : Nat} {v : Value} {s : PSt}
theorem ParAt.tch {F : Nat → Prop} (h : ParAt w g v s) (ht : Tch F w w') (hg : ¬ F g) (hv : ∀ q, v.ownBlock = some q → ¬ F q) : ParAt w' g v s :=
  ⟨h.blk.tch ht hg, h.buf.keepv fun q e => ht.block q (h.buf.at_ q e).2 (hv q e)⟩
theorem ParAt.later (h : ParAt w g v s) (hb : Below w.heap.size w w') : ParAt w' g v s :=
  ⟨h.blk.later hb, h.buf.keepv fun q e => hb.block q (h.buf.at_ q e).2⟩
theorem ParAt.at_ (h : ParAt w g v s) : ∀ q, v.ownBlock = some q → g < q ∧ q < w.heap.size := fun q e => h.buf.at_ q e
theorem par_blk {t : TypeId} {v0 v1 v2 v3 v4 v5 : Value} (h : Blk w g t #[v0, v1, v2, v3, v4, v5]) : w.cell? ⟨g, 0, none⟩ = some v0 ∧ w.cell? ⟨g, 1, none⟩ = some v1 ∧ w.cell? ⟨g, 2, none⟩ = some v2 ∧ w.cell? ⟨g, 3, none⟩ = some v3 ∧ w.cell? ⟨g, 4, none⟩ = some v4 ∧ w.cell? ⟨g, 5, none⟩ = some v5 ∧ g < w.heap.size :=
  ⟨h.cell 0, h.cell 1, h.cell 2, h.cell 3, h.cell 4, h.cell 5, h.lt⟩
theorem par_free {t : TypeId} {cs : Array Value} (h : Blk w g t cs) : w.frozen? ⟨g, 0, none⟩ = false ∧ w.frozen? ⟨g, 1, none⟩ = false ∧ w.frozen? ⟨g, 2, none⟩ = false ∧ w.frozen? ⟨g, 3, none⟩ = false ∧ w.frozen? ⟨g, 4, none⟩ = false ∧ w.frozen? ⟨g, 5, none⟩ = false :=
  ⟨h.free 0, h.free 1, h.free 2, h.free 3, h.free 4, h.free 5⟩
end
theorem push_open (w : World) {g : Nat} {mk : Bool} {x1 x2 x3 x4 : Value} {e : Int} (h : Blk w g 60 #[.bool mk, x1, x2, x3, x4, .int .i64 e]) :
    Calls Tryz.prog 62 #[.pointer (some ⟨g, 0, none⟩)] w fun r w' => r = .returned (.bool (mk && decide (e = 0))) ∧ w = w' := by
  obtain ⟨y0, y1, y2, y3, y4, y5, ly⟩ := par_blk h
  clear h
  cases mk
  · go_enter Tryz.func62, Tryz.ntmps62
    go_wp2_with fail
    go_ret
    exact ⟨rfl, rfl⟩
  · by_cases he : e = 0
    · subst he
      go_enter Tryz.func62, Tryz.ntmps62
      go_wp2_with fail
      go_ret
      exact ⟨rfl, rfl⟩
    · have d : (e == (0 : Int)) = false := by simp [he]
      rw [decide_eq_false he]
      clear he
      go_enter Tryz.func62, Tryz.ntmps62
      go_wp2_with fail
      go_ret
      exact ⟨rfl, rfl⟩
theorem push_open0 (w : World) : Calls Tryz.prog 62 #[.pointer none] w fun r w' => r = .returned (.bool false) ∧ w = w' := by
  go_enter Tryz.func62, Tryz.ntmps62
  go_wp2_with fail
  go_ret
  exact ⟨rfl, rfl⟩
theorem push_new (w : World) : Calls Tryz.prog 19 #[] w fun r w' => r = .returned (.pointer (some ⟨w.heap.size, 0, none⟩)) ∧ ParAt w' w.heap.size (.slice none 0 0) newP ∧ Below w.heap.size w w' := by
  go_enter Tryz.func19, Tryz.ntmps19
  go_wp2_with fail
  go_ret
  exact ⟨rfl, ⟨by (repeat (first | assumption | exact Blk.newAt _ _ _ (by first | (simp; done) | (simp; omega)) | refine Blk.alloc ?_ _ | refine Blk.drew ?_ | refine Blk.drewN ?_ _ | refine Blk.far ?_ (by first | (simp; done) | (simp; omega)) _)), OwnB.nil⟩, by (repeat (first | with_reducible exact Below.refl _ _ | with_reducible assumption | (with_reducible refine below_alloc ?_ _) | (with_reducible refine Below.setCell ?_ (by first | omega | (simp; done) | (simp; omega)) _) | (with_reducible refine Below.drew ?_) | (with_reducible refine below_drewN ?_ _) | (refine below_then (by with_reducible assumption) ?_)))⟩
theorem push_buffered0 (w : World) : Calls Tryz.prog 28 #[.pointer none] w fun r w' => r = .returned (.int .i64 0) ∧ w = w' := by
  go_enter Tryz.func28, Tryz.ntmps28
  go_wp2_with fail
  go_ret
  exact ⟨rfl, rfl⟩
theorem push_fed0 (w : World) : Calls Tryz.prog 30 #[.pointer none] w fun r w' => r = .returned (.int .i64 0) ∧ w = w' := by
  go_enter Tryz.func30, Tryz.ntmps30
  go_wp2_with fail
  go_ret
  exact ⟨rfl, rfl⟩
theorem push_state0 (w : World) : Calls Tryz.prog 29 #[.pointer none] w fun r w' => r = .returned (.int .i64 0) ∧ w = w' := by
  go_enter Tryz.func29, Tryz.ntmps29
  go_wp2_with fail
  go_ret
  exact ⟨rfl, rfl⟩
theorem push_buffered (w : World) {g : Nat} {x0 x2 x3 x4 x5 : Value} {a : Option Addr} {n c : Nat} (h : Blk w g 60 #[x0, .slice a n c, x2, x3, x4, x5]) :
    Calls Tryz.prog 28 #[.pointer (some ⟨g, 0, none⟩)] w fun r w' => r = .returned (.int .i64 (n : Int)) ∧ w = w' := by
  obtain ⟨y0, y1, y2, y3, y4, y5, ly⟩ := par_blk h
  clear h
  go_enter Tryz.func28, Tryz.ntmps28
  go_wp2_with fail
  go_ret
  exact ⟨rfl, rfl⟩
theorem push_fed (w : World) {g : Nat} {x0 x1 x2 x4 x5 : Value} {n : Int} (h : Blk w g 60 #[x0, x1, x2, .int .i64 n, x4, x5]) :
    Calls Tryz.prog 30 #[.pointer (some ⟨g, 0, none⟩)] w fun r w' => r = .returned (.int .i64 n) ∧ w = w' := by
  obtain ⟨y0, y1, y2, y3, y4, y5, ly⟩ := par_blk h
  clear h
  go_enter Tryz.func30, Tryz.ntmps30
  go_wp2_with fail
  go_ret
  exact ⟨rfl, rfl⟩
theorem push_state (w : World) {g : Nat} {x0 x1 x2 x3 x4 : Value} {n : Int} (h : Blk w g 60 #[x0, x1, x2, x3, x4, .int .i64 n]) :
    Calls Tryz.prog 29 #[.pointer (some ⟨g, 0, none⟩)] w fun r w' => r = .returned (.int .i64 n) ∧ w = w' := by
  obtain ⟨y0, y1, y2, y3, y4, y5, ly⟩ := par_blk h
  clear h
  go_enter Tryz.func29, Tryz.ntmps29
  go_wp2_with fail
  go_ret
  exact ⟨rfl, rfl⟩

theorem infoEvt : (Tryz.prog.info? 50).map (fun i => (i.zero, i.size, i.bytes)) = some (some (.agg #[.int .i64 0, .int .i64 0, .int .i64 0, .int .i64 0, .int .u64 0, .int .u64 0, .int .u64 0, .int .i64 0, .int .i64 0, .slice none 0 0, .slice none 0 0, .slice none 0 0, .int .u64 0, .int .u64 0, .int .u64 0, .int .u64 0, .slice none 0 0, .int .u64 0, .int .u64 0, .slice none 0 0]), 20, 240) := by kernel_rfl
def zeroEv : Array Value := #[.int .i64 0, .int .i64 0, .int .i64 0, .int .i64 0, .int .u64 0, .int .u64 0, .int .u64 0, .int .i64 0, .int .i64 0, .slice none 0 0, .slice none 0 0, .slice none 0 0, .int .u64 0, .int .u64 0, .int .u64 0, .int .u64 0, .slice none 0 0, .int .u64 0, .int .u64 0, .slice none 0 0]
def Ev.x (e : Ev) : EvX := ⟨e.kind, e.at_, e.code, e.msg, noBatch⟩
theorem ev_mk {S : Nat → Prop} {w : World} {x : EvX} {a1 : Option Addr} {c1 : Nat} {a2 : Option Addr} {c2 : Nat} {a3 : Option Addr} {c3 : Nat} {a4 : Option Addr} {c4 : Nat} {a5 : Option Addr} {c5 : Nat} (h : EvIn S w x a1 c1 a2 c2 a3 c3 a4 c4 a5 c5) : rEvX.r S w (evCells x a1 c1 a2 c2 a3 c3 a4 c4 a5 c5) x :=
  ⟨[_], _, rfl, rfl, [_], _, rfl, rfl, [_], _, rfl, rfl, msgCells x.msg a1 c1 a2 c2 a3 c3 a4 c4, _, rfl, msg_mk h.msg, batch_mk h.epoch h.base h.ents⟩
theorem info20 : (Tryz.prog.info? 50).map (fun i => (i.zero, i.size)) = some (some (.agg #[.int .i64 0, .int .i64 0, .int .i64 0, .int .i64 0, .int .u64 0, .int .u64 0, .int .u64 0, .int .i64 0, .int .i64 0, .slice none 0 0, .slice none 0 0, .slice none 0 0, .int .u64 0, .int .u64 0, .int .u64 0, .int .u64 0, .slice none 0 0, .int .u64 0, .int .u64 0, .slice none 0 0]), 20) := by kernel_rfl
theorem inU_z : inU 0 := ⟨by decide, by decide⟩
theorem evIn_flat {S : Nat → Prop} {w : World} {k a c : Int} : EvIn S w (Ev.x ⟨k, a, c, noMsg⟩) none 0 none 0 none 0 none 0 none 0 :=
  ⟨msgIn_no, (inU_z : inU (0 : Int)), (inU_z : inU (0 : Int)), rSl_mk (xs := []) rfl (Nat.le_refl _) (Nat.zero_le _) (.inl rfl)⟩
theorem EvIn.keepS {S S' : Nat → Prop} {w w' : World} {x : EvX} {a1 : Option Addr} {c1 : Nat} {a2 : Option Addr} {c2 : Nat} {a3 : Option Addr} {c3 : Nat} {a4 : Option Addr} {c4 : Nat} {a5 : Option Addr} {c5 : Nat} (h : EvIn S w x a1 c1 a2 c2 a3 c3 a4 c4 a5 c5) (hk : ∀ q, S q → w'.heap[q]? = w.heap[q]?) (hS : ∀ q, S q → S' q) : EvIn S' w' x a1 c1 a2 c2 a3 c3 a4 c4 a5 c5 :=
  ⟨MsgIn.keepS h.msg hk hS, h.epoch, h.base, rEntries.mono (rEntries.keep h.ents hk) hS⟩
/-- A row of one event. -/
theorem evs_one {S : Nat → Prop} {w : World} {x : EvX} {a1 : Option Addr} {c1 : Nat} {a2 : Option Addr} {c2 : Nat} {a3 : Option Addr} {c3 : Nat} {a4 : Option Addr} {c4 : Nat} {a5 : Option Addr} {c5 : Nat} {b : Nat} {t : TypeId} (hb : Blk w b t (evCells x a1 c1 a2 c2 a3 c3 a4 c4 a5 c5).toArray) (hS : S b) (h : EvIn S w x a1 c1 a2 c2 a3 c3 a4 c4 a5 c5) : rEvs.r S w [.slice (some ⟨b, 0, none⟩) 1 1] [x] := by
  refine rSl_mk rfl (Nat.le_refl _) (by decide) (.inr ⟨b, 0, rfl, hS, fun i y hi => ?_⟩)
  have h0 : i = 0 := by
    have := (List.getElem?_eq_some_iff.1 hi).1
    simp at this
    exact this
  subst h0
  simp at hi
  subst hi
  refine ⟨evCells x a1 c1 a2 c2 a3 c3 a4 c4 a5 c5, rfl, fun j u hj => ?_, ev_mk h⟩
  rw [Nat.zero_mul, Nat.zero_add, hb.cell j]
  simpa using hj
theorem evs_nil {S : Nat → Prop} {w : World} : rEvs.r S w [.slice none 0 0] [] := rSl_mk (xs := []) rfl (Nat.le_refl _) (Nat.zero_le _) (.inl rfl)
theorem Blk.row {W : World} {E : Nat} {t : TypeId} {cs : Array Value} (ds : Array Value) (h : Blk W E t cs) : Blk (W.setRow E ds) E t ds := setRow_heap W E cs ds t (0, 0) h
theorem Tch.row (W : World) (E : Nat) (ds : Array Value) : Tch (· = E) W (W.setRow E ds) := ⟨rfl, rfl, rfl, by simp, fun b _ hf => setRow_other W E b ds hf⟩

set_option maxRecDepth 100000 in
set_option maxHeartbeats 6400000 in
theorem push_bad1 (w : World) {g : Nat} {v : Value} {s : PSt} (h : ParAt w g v s) (k f : Int) (hk : k ≠ 0) :
    Calls Tryz.prog 67 #[.pointer (some ⟨g, 0, none⟩), .agg #[.int .i64 k, .int .i64 f]] w fun r w' => r = .returned (.agg #[.int .i64 4, .int .i64 (wrap64 (f + (s.first : Int))), .int .i64 k, .int .i64 0, .int .u64 0, .int .u64 0, .int .u64 0, .int .i64 0, .int .i64 0, .slice none 0 0, .slice none 0 0, .slice none 0 0, .int .u64 0, .int .u64 0, .int .u64 0, .int .u64 0, .slice none 0 0, .int .u64 0, .int .u64 0, .slice none 0 0]) ∧ ParAt w' g (.slice none 0 0) ⟨[], s.first, s.fed, s.need, 4⟩ ∧ Tch (· = g) w w' := by
  have HSH := hid (fun (W : World) => fault_shiftW W k f (s.first : Int) hk)
  have HB := hid h.blk
  have hgl := h.blk.lt
  generalize wrap64 (f + (s.first : Int)) = FV at *
  clear h hk
  go_enter Tryz.func67, Tryz.ntmps67
  go_upto_region 1 with (fail)
  have hG1 : Blk ((w.alloc (.cells #[.int .i64 k, .int .i64 f] 65)).alloc (.cells #[.int .i64 0, .int .i64 0, .int .i64 0, .int .i64 0, .int .u64 0, .int .u64 0, .int .u64 0, .int .i64 0, .int .i64 0, .slice none 0 0, .slice none 0 0, .slice none 0 0, .int .u64 0, .int .u64 0, .int .u64 0, .int .u64 0, .slice none 0 0, .int .u64 0, .int .u64 0, .slice none 0 0] 50)) g 60 #[.bool true, v, .int .i64 (s.first : Int), .int .i64 (s.fed : Int), .int .i64 (s.need : Int), .int .i64 s.ended] := (HB.out.alloc _).alloc _
  have hF1 : Blk ((w.alloc (.cells #[.int .i64 k, .int .i64 f] 65)).alloc (.cells #[.int .i64 0, .int .i64 0, .int .i64 0, .int .i64 0, .int .u64 0, .int .u64 0, .int .u64 0, .int .i64 0, .int .i64 0, .slice none 0 0, .slice none 0 0, .slice none 0 0, .int .u64 0, .int .u64 0, .int .u64 0, .int .u64 0, .slice none 0 0, .int .u64 0, .int .u64 0, .slice none 0 0] 50)) w.heap.size 65 #[.int .i64 k, .int .i64 f] := by (repeat (first | assumption | exact Blk.newAt _ _ _ (by first | (simp; done) | (simp; omega)) | refine Blk.alloc ?_ _ | refine Blk.drew ?_ | refine Blk.drewN ?_ _ | refine Blk.far ?_ (by first | (simp; done) | (simp; omega)) _))
  have hE1 : Blk ((w.alloc (.cells #[.int .i64 k, .int .i64 f] 65)).alloc (.cells #[.int .i64 0, .int .i64 0, .int .i64 0, .int .i64 0, .int .u64 0, .int .u64 0, .int .u64 0, .int .i64 0, .int .i64 0, .slice none 0 0, .slice none 0 0, .slice none 0 0, .int .u64 0, .int .u64 0, .int .u64 0, .int .u64 0, .slice none 0 0, .int .u64 0, .int .u64 0, .slice none 0 0] 50)) (w.heap.size + 1) 50 zeroEv := by unfold zeroEv; (repeat (first | assumption | exact Blk.newAt _ _ _ (by first | (simp; done) | (simp; omega)) | refine Blk.alloc ?_ _ | refine Blk.drew ?_ | refine Blk.drewN ?_ _ | refine Blk.far ?_ (by first | (simp; done) | (simp; omega)) _))
  have hT1 : Tch (· = g) w ((w.alloc (.cells #[.int .i64 k, .int .i64 f] 65)).alloc (.cells #[.int .i64 0, .int .i64 0, .int .i64 0, .int .i64 0, .int .u64 0, .int .u64 0, .int .u64 0, .int .i64 0, .int .i64 0, .slice none 0 0, .slice none 0 0, .slice none 0 0, .int .u64 0, .int .u64 0, .int .u64 0, .int .u64 0, .slice none 0 0, .int .u64 0, .int .u64 0, .slice none 0 0] 50)) := ((Tch.refl (· = g) w).alloc _).alloc _
  generalize ((w.alloc (.cells #[.int .i64 k, .int .i64 f] 65)).alloc (.cells #[.int .i64 0, .int .i64 0, .int .i64 0, .int .i64 0, .int .u64 0, .int .u64 0, .int .u64 0, .int .i64 0, .int .i64 0, .slice none 0 0, .slice none 0 0, .slice none 0 0, .int .u64 0, .int .u64 0, .int .u64 0, .int .u64 0, .slice none 0 0, .int .u64 0, .int .u64 0, .slice none 0 0] 50)) = w1 at *
  have HG1 := hid hG1
  have HF1 := hid hF1
  have HE1 := hid hE1
  have HT1 := hid hT1
  obtain ⟨y0, y1, y2, y3, y4, y5, ly⟩ := par_blk hG1
  obtain ⟨x0, x1, x2, x3, lx⟩ := f_blk hF1
  clear hG1 hF1 hE1 hT1
  refine wp_region_last_held (fun w' => w'.cell? ⟨w.heap.size, 0, none⟩ = some (.int .i64 k) ∧ w'.cell? ⟨w.heap.size, 1, none⟩ = some (.int .i64 f) ∧ w'.cell? ⟨g, 2, none⟩ = some (.int .i64 (s.first : Int))) _ (by kernel_rfl) rfl (by kernel_rfl) ⟨x0, x1, y2⟩ (fun hHeld => ?_)
  simp only [noopLast, noopOf]
  refine wpAnyH_take (i := 0) (oi := _) (v := ?_) rfl (by decide +kernel) (by decide +kernel) (by decide +kernel) (fun _ _ _ h => h) (Or.inl ⟨by rfl, ?_⟩) (by assumption) ?_
  rotate_left
  · (intro w hSw; (try dsimp only at hSw); go_simp <;> with_reducible rfl)
  (try simp only [Act.put, List.setIfInBounds_toArray, List.set_cons_zero, List.set_cons_succ])
  refine wpAnyH_take (i := 1) (oi := _) (v := ?_) rfl (by decide +kernel) (by decide +kernel) (by decide +kernel) (fun _ _ _ h => h) (Or.inl ⟨by rfl, ?_⟩) (by assumption) ?_
  rotate_left
  · (intro w hSw; (try dsimp only at hSw); go_simp <;> with_reducible rfl)
  (try simp only [Act.put, List.setIfInBounds_toArray, List.set_cons_zero, List.set_cons_succ])
  refine wpAnyH_take (i := 2) (oi := _) (v := ?_) rfl (by decide +kernel) (by decide +kernel) (by decide +kernel) (fun _ _ _ h => h) (Or.inl ⟨by rfl, ?_⟩) (by assumption) ?_
  rotate_left
  · (intro w hSw; (try dsimp only at hSw); go_simp <;> with_reducible rfl)
  (try simp only [Act.put, List.setIfInBounds_toArray, List.set_cons_zero, List.set_cons_succ])
  refine wpAnyH_take (i := 3) (oi := _) (v := ?_) rfl (by decide +kernel) (by decide +kernel) (by decide +kernel) (fun _ _ _ h => h) (Or.inl ⟨by rfl, ?_⟩) (by assumption) ?_
  rotate_left
  · (intro w hSw; (try dsimp only at hSw); go_simp <;> with_reducible rfl)
  (try simp only [Act.put, List.setIfInBounds_toArray, List.set_cons_zero, List.set_cons_succ])
  refine wpAnyH_take (i := 4) (oi := _) (v := ?_) rfl (by decide +kernel) (by decide +kernel) (by decide +kernel) (fun _ _ _ h => h) (Or.inl ⟨by rfl, ?_⟩) (by assumption) ?_
  rotate_left
  · (intro w hSw; (try dsimp only at hSw); go_simp <;> with_reducible rfl)
  (try simp only [Act.put, List.setIfInBounds_toArray, List.set_cons_zero, List.set_cons_succ])
  refine wpAnyH_ready (rs := [5]) (by decide +kernel) (by simp) ?_
  refine AllReadyH.cons (o := _) rfl (fun K hK => ?_) AllReadyH.nil
  (go_simp; go_at_call 117; refine (HSH.out _).mono ?_; rintro e1 w3 ⟨rfl, hb3⟩; have hb13 : Below w1.heap.size w1 w3 := below_then hb3 (Below.refl _ _).drew; have HG3 := hid (HG1.out.later hb13); have HF3 := hid (HF1.out.later hb13); have HE3 := hid (HE1.out.later hb13); have HT3 := hid (HT1.out.trans (Tch.of_later (F := (· = g)) hb13) fun _ _ e => e); obtain ⟨q0, q1, q2, q3, q4, q5, lq⟩ := par_blk HG3.out; obtain ⟨r0, r1, r2, r3, lr⟩ := f_blk HF3.out; clear hb3; (try dsimp only))
  refine hK.out _ _ ?_ (fun hHeld => ?_)
  · ((try dsimp only); refine ⟨?_, ?_, ?_⟩ <;> (first | with_reducible assumption | (go_keep; done)))
  clear hK K
  (try simp only [Act.put, List.setIfInBounds_toArray, List.set_cons_zero, List.set_cons_succ])
  refine wpAnyH_take (i := 6) (oi := _) (v := ?_) rfl (by decide +kernel) (by decide +kernel) (by decide +kernel) (fun _ _ _ h => h) (Or.inl ⟨by rfl, ?_⟩) (by assumption) ?_
  rotate_left
  · (intro w hSw; (try dsimp only at hSw); go_simp <;> with_reducible rfl)
  (try simp only [Act.put, List.setIfInBounds_toArray, List.set_cons_zero, List.set_cons_succ])
  refine wpAnyH_done (by kernel_rfl) ?_ _
  show wpList _ _ _ _ _ _
  go_upto_region 2 with (fail)
  have hG4 : Blk ((w3.setCell ⟨w.heap.size, 0, none⟩ (.int .i64 k)).setCell ⟨w.heap.size, 1, none⟩ (.int .i64 FV)) g 60 #[.bool true, v, .int .i64 (s.first : Int), .int .i64 (s.fed : Int), .int .i64 (s.need : Int), .int .i64 s.ended] := (HG3.out.far (by dsimp only; omega) _).far (by dsimp only; omega) _
  have hF4 : Blk ((w3.setCell ⟨w.heap.size, 0, none⟩ (.int .i64 k)).setCell ⟨w.heap.size, 1, none⟩ (.int .i64 FV)) w.heap.size 65 #[.int .i64 k, .int .i64 FV] := (HF3.out.set 0 (.int .i64 k)).set 1 (.int .i64 FV)
  have hE4 : Blk ((w3.setCell ⟨w.heap.size, 0, none⟩ (.int .i64 k)).setCell ⟨w.heap.size, 1, none⟩ (.int .i64 FV)) (w.heap.size + 1) 50 zeroEv := (HE3.out.far (by dsimp only; omega) _).far (by dsimp only; omega) _
  have hT4 : Tch (· = g) w ((w3.setCell ⟨w.heap.size, 0, none⟩ (.int .i64 k)).setCell ⟨w.heap.size, 1, none⟩ (.int .i64 FV)) := (HT3.out.setCell (p := ⟨w.heap.size, 0, none⟩) (fun e => absurd e (Nat.lt_irrefl _)) _).setCell (p := ⟨w.heap.size, 1, none⟩) (fun e => absurd e (Nat.lt_irrefl _)) _
  generalize ((w3.setCell ⟨w.heap.size, 0, none⟩ (.int .i64 k)).setCell ⟨w.heap.size, 1, none⟩ (.int .i64 FV)) = w4 at *
  clear q0 q1 q2 q3 q4 q5 lq r0 r1 r2 r3 lr y0 y1 y2 y3 y4 y5 ly x0 x1 x2 x3 lx HG1 HF1 HE1 HT1 HG3 HF3 HE3 HT3
  obtain ⟨y0, y1, y2, y3, y4, y5, ly⟩ := par_blk hG4
  obtain ⟨z0, z1, z2, z3, z4, z5⟩ := par_free hG4
  have HG4 := hid hG4
  have HF4 := hid hF4
  have HE4 := hid hE4
  have HT4 := hid hT4
  clear hG4 hF4 hE4 hT4
  go_upto_region 3 with (fail)
  have hG5 : Blk ((w4.setCell ⟨g, 5, none⟩ (.int .i64 4)).setCell ⟨g, 1, none⟩ (.slice none 0 0)) g 60 #[.bool true, .slice none 0 0, .int .i64 (s.first : Int), .int .i64 (s.fed : Int), .int .i64 (s.need : Int), .int .i64 4] := (HG4.out.set 5 (.int .i64 4)).set 1 (.slice none 0 0)
  have hF5 : Blk ((w4.setCell ⟨g, 5, none⟩ (.int .i64 4)).setCell ⟨g, 1, none⟩ (.slice none 0 0)) w.heap.size 65 #[.int .i64 k, .int .i64 FV] := (HF4.out.far (by dsimp only; omega) _).far (by dsimp only; omega) _
  have hE5 : Blk ((w4.setCell ⟨g, 5, none⟩ (.int .i64 4)).setCell ⟨g, 1, none⟩ (.slice none 0 0)) (w.heap.size + 1) 50 zeroEv := (HE4.out.far (by dsimp only; omega) _).far (by dsimp only; omega) _
  have hT5 : Tch (· = g) w ((w4.setCell ⟨g, 5, none⟩ (.int .i64 4)).setCell ⟨g, 1, none⟩ (.slice none 0 0)) := (HT4.out.setCell (p := ⟨g, 5, none⟩) (fun _ => rfl) _).setCell (p := ⟨g, 1, none⟩) (fun _ => rfl) _
  generalize ((w4.setCell ⟨g, 5, none⟩ (.int .i64 4)).setCell ⟨g, 1, none⟩ (.slice none 0 0)) = w5 at *
  clear y0 y1 y2 y3 y4 y5 ly z0 z1 z2 z3 z4 z5 HG4 HF4 HE4 HT4
  obtain ⟨x0, x1, x2, x3, lx⟩ := f_blk hF5
  obtain ⟨G20, le⟩ : (w5.frozen? ⟨w.heap.size + 1, 0, none⟩ = false ∧ w5.frozen? ⟨w.heap.size + 1, 1, none⟩ = false ∧ w5.frozen? ⟨w.heap.size + 1, 2, none⟩ = false ∧ w5.frozen? ⟨w.heap.size + 1, 3, none⟩ = false ∧ w5.frozen? ⟨w.heap.size + 1, 4, none⟩ = false ∧ w5.frozen? ⟨w.heap.size + 1, 5, none⟩ = false ∧ w5.frozen? ⟨w.heap.size + 1, 6, none⟩ = false ∧ w5.frozen? ⟨w.heap.size + 1, 7, none⟩ = false ∧ w5.frozen? ⟨w.heap.size + 1, 8, none⟩ = false ∧ w5.frozen? ⟨w.heap.size + 1, 9, none⟩ = false ∧ w5.frozen? ⟨w.heap.size + 1, 10, none⟩ = false ∧ w5.frozen? ⟨w.heap.size + 1, 11, none⟩ = false ∧ w5.frozen? ⟨w.heap.size + 1, 12, none⟩ = false ∧ w5.frozen? ⟨w.heap.size + 1, 13, none⟩ = false ∧ w5.frozen? ⟨w.heap.size + 1, 14, none⟩ = false ∧ w5.frozen? ⟨w.heap.size + 1, 15, none⟩ = false ∧ w5.frozen? ⟨w.heap.size + 1, 16, none⟩ = false ∧ w5.frozen? ⟨w.heap.size + 1, 17, none⟩ = false ∧ w5.frozen? ⟨w.heap.size + 1, 18, none⟩ = false ∧ w5.frozen? ⟨w.heap.size + 1, 19, none⟩ = false) ∧ w.heap.size + 1 < w5.heap.size := ⟨ev_free hE5, hE5.lt⟩
  obtain ⟨g0, g1, g2, g3, g4, g5, g6, g7, g8, g9, g10, g11, g12, g13, g14, g15, g16, g17, g18, g19⟩ := G20
  obtain ⟨e0, e1, e2, e3, e4, e5, e6, e7, e8, e9, e10, e11, e12, e13, e14, e15, e16, e17, e18, e19, ee⟩ := ev_blk (show Blk w5 (w.heap.size + 1) 50 #[.int .i64 0, .int .i64 0, .int .i64 0, .int .i64 0, .int .u64 0, .int .u64 0, .int .u64 0, .int .i64 0, .int .i64 0, .slice none 0 0, .slice none 0 0, .slice none 0 0, .int .u64 0, .int .u64 0, .int .u64 0, .int .u64 0, .slice none 0 0, .int .u64 0, .int .u64 0, .slice none 0 0] from hE5)
  have HG5 := hid hG5
  have HE5 := hid hE5
  have HT5 := hid hT5
  clear hG5 hF5 hE5 hT5
  have HI := hid (show (Tryz.prog.info? 50).map (·.size) = some (#[.int .i64 4, .int .i64 FV, .int .i64 k, .int .i64 0, .int .u64 0, .int .u64 0, .int .u64 0, .int .i64 0, .int .i64 0, .slice none 0 0, .slice none 0 0, .slice none 0 0, .int .u64 0, .int .u64 0, .int .u64 0, .int .u64 0, .slice none 0 0, .int .u64 0, .int .u64 0, .slice none 0 0] : Array Value).size from (zero_of_info info20).2)
  have HONE := hid (show (#[.int .i64 4, .int .i64 FV, .int .i64 k, .int .i64 0, .int .u64 0, .int .u64 0, .int .u64 0, .int .i64 0, .int .i64 0, .slice none 0 0, .slice none 0 0, .slice none 0 0, .int .u64 0, .int .u64 0, .int .u64 0, .int .u64 0, .slice none 0 0, .int .u64 0, .int .u64 0, .slice none 0 0] : Array Value).all (·.oneCell') = true by simp [Value.oneCell'])
  as_aux_lemma =>
    go_wp2_with (refine wpList_store_row rfl 50 _ _ rfl (w.heap.size + 1) #[.int .i64 4, .int .i64 FV, .int .i64 k, .int .i64 0, .int .u64 0, .int .u64 0, .int .u64 0, .int .i64 0, .int .i64 0, .slice none 0 0, .slice none 0 0, .slice none 0 0, .int .u64 0, .int .u64 0, .int .u64 0, .int .u64 0, .slice none 0 0, .int .u64 0, .int .u64 0, .slice none 0 0] rfl rfl 50 zeroEv HE5.out HI.out rfl HONE.out ?_)
    as_aux_lemma =>
      refine post_world (fun W => Blk W (w.heap.size + 1) 50 #[.int .i64 4, .int .i64 FV, .int .i64 k, .int .i64 0, .int .u64 0, .int .u64 0, .int .u64 0, .int .i64 0, .int .i64 0, .slice none 0 0, .slice none 0 0, .slice none 0 0, .int .u64 0, .int .u64 0, .int .u64 0, .int .u64 0, .slice none 0 0, .int .u64 0, .int .u64 0, .slice none 0 0] ∧ Tch (· = w.heap.size + 1) w5 W) ⟨Blk.row _ HE5.out, Tch.row _ _ _⟩ ?_
      as_aux_lemma =>
        intro W6 ⟨q6, ht6⟩
        have HG6 := HG5.out.tch ht6 (by omega)
        refine bodyPost_ret (v := .agg #[.int .i64 4, .int .i64 FV, .int .i64 k, .int .i64 0, .int .u64 0, .int .u64 0, .int .u64 0, .int .i64 0, .int .i64 0, .slice none 0 0, .slice none 0 0, .slice none 0 0, .int .u64 0, .int .u64 0, .int .u64 0, .int .u64 0, .slice none 0 0, .int .u64 0, .int .u64 0, .slice none 0 0]) (results_cell_row Tryz.results67 _ _ (w.heap.size + 1) 50 _ (0, 0) _ rfl q6 Tryz.underlying50 rfl (zero_of_info info20).2) rfl ⟨rfl, ⟨HG6, OwnB.nil⟩, HT5.out.trans ht6 fun b hb e => by omega⟩

set_option maxRecDepth 100000 in
set_option maxHeartbeats 6400000 in
theorem push_close (w : World) {g : Nat} {v : Value} {s : PSt} (h : ParAt w g v s) :
    Calls Tryz.prog 21 #[.pointer (some ⟨g, 0, none⟩)] w fun r w' => ∃ v' vo, r = .returned vo ∧ rEvs.r (fun q => w.heap.size ≤ q ∧ q < w'.heap.size) w' [vo] ((closeP s).2.map Ev.x) ∧ ParAt w' g v' (closeP s).1 ∧ (v'.ownBlock = v.ownBlock ∨ v'.ownBlock = none) ∧ Tch (· = g) w w' := by
  have HP := hid h
  have HB := hid h.blk
  have hgl := h.blk.lt
  have HO := hid (push_open w h.blk)
  obtain ⟨aJ, cJ, rfl⟩ := h.buf.form
  obtain ⟨R, hR⟩ : ∃ R, R = closeP s := ⟨_, rfl⟩
  have hgo := hR
  rw [← hR]
  unfold closeP at hgo
  clear hR
  by_cases he : s.ended = 0
  · rw [if_pos he] at hgo
    rw [decide_eq_true he, Bool.true_and] at HO
    rw [he] at HB
    have HGO0 := hid hgo
    clear h he hgo
    by_cases hJ : s.buf = []
    · have hgo := HGO0.out
      rw [hJ] at hgo
      simp only [if_true] at hgo
      have HGO := hid hgo
      have hl : s.buf.length = 0 := by rw [hJ]; rfl
      rw [hl] at HB
      clear hgo HGO0 hJ hl
      go_enter Tryz.func21, Tryz.ntmps21
      obtain ⟨y0, y1, y2, y3, y4, y5, ly⟩ := par_blk HB.out
      obtain ⟨z0, z1, z2, z3, z4, z5⟩ := par_free HB.out
      have HI := hid (show (Tryz.prog.info? 50).map (·.size) = some (#[.int .i64 2, .int .i64 (s.fed : Int), .int .i64 0, .int .i64 0, .int .u64 0, .int .u64 0, .int .u64 0, .int .i64 0, .int .i64 0, .slice none 0 0, .slice none 0 0, .slice none 0 0, .int .u64 0, .int .u64 0, .int .u64 0, .int .u64 0, .slice none 0 0, .int .u64 0, .int .u64 0, .slice none 0 0] : Array Value).size from (zero_of_info info20).2)
      have HONE := hid (show (#[.int .i64 2, .int .i64 (s.fed : Int), .int .i64 0, .int .i64 0, .int .u64 0, .int .u64 0, .int .u64 0, .int .i64 0, .int .i64 0, .slice none 0 0, .slice none 0 0, .slice none 0 0, .int .u64 0, .int .u64 0, .int .u64 0, .int .u64 0, .slice none 0 0, .int .u64 0, .int .u64 0, .slice none 0 0] : Array Value).all (·.oneCell') = true by simp [Value.oneCell'])
      go_wp2_with fail
      refine HO.out.mono ?_
      rintro r w0 ⟨rfl, rfl⟩
      go_upto_region 4 with (refine wpList_store_row rfl 50 _ _ rfl w.heap.size #[.int .i64 2, .int .i64 (s.fed : Int), .int .i64 0, .int .i64 0, .int .u64 0, .int .u64 0, .int .u64 0, .int .i64 0, .int .i64 0, .slice none 0 0, .slice none 0 0, .slice none 0 0, .int .u64 0, .int .u64 0, .int .u64 0, .int .u64 0, .slice none 0 0, .int .u64 0, .int .u64 0, .slice none 0 0] rfl rfl 50 #[.int .i64 0, .int .i64 0, .int .i64 0, .int .i64 0, .int .u64 0, .int .u64 0, .int .u64 0, .int .i64 0, .int .i64 0, .slice none 0 0, .slice none 0 0, .slice none 0 0, .int .u64 0, .int .u64 0, .int .u64 0, .int .u64 0, .slice none 0 0, .int .u64 0, .int .u64 0, .slice none 0 0] (heap_alloc_last _ _) HI.out rfl HONE.out ?_; rw [World.setRow_alloc_new])
      have hG1 : Blk (w.alloc (.cells #[.int .i64 2, .int .i64 (s.fed : Int), .int .i64 0, .int .i64 0, .int .u64 0, .int .u64 0, .int .u64 0, .int .i64 0, .int .i64 0, .slice none 0 0, .slice none 0 0, .slice none 0 0, .int .u64 0, .int .u64 0, .int .u64 0, .int .u64 0, .slice none 0 0, .int .u64 0, .int .u64 0, .slice none 0 0] 50)) g 60 #[.bool true, .slice aJ 0 cJ, .int .i64 (s.first : Int), .int .i64 (s.fed : Int), .int .i64 (s.need : Int), .int .i64 0] := HB.out.alloc _
      have hE1 : Blk (w.alloc (.cells #[.int .i64 2, .int .i64 (s.fed : Int), .int .i64 0, .int .i64 0, .int .u64 0, .int .u64 0, .int .u64 0, .int .i64 0, .int .i64 0, .slice none 0 0, .slice none 0 0, .slice none 0 0, .int .u64 0, .int .u64 0, .int .u64 0, .int .u64 0, .slice none 0 0, .int .u64 0, .int .u64 0, .slice none 0 0] 50)) w.heap.size 50 #[.int .i64 2, .int .i64 (s.fed : Int), .int .i64 0, .int .i64 0, .int .u64 0, .int .u64 0, .int .u64 0, .int .i64 0, .int .i64 0, .slice none 0 0, .slice none 0 0, .slice none 0 0, .int .u64 0, .int .u64 0, .int .u64 0, .int .u64 0, .slice none 0 0, .int .u64 0, .int .u64 0, .slice none 0 0] := by (repeat (first | assumption | exact Blk.newAt _ _ _ (by first | (simp; done) | (simp; omega)) | refine Blk.alloc ?_ _ | refine Blk.drew ?_ | refine Blk.drewN ?_ _ | refine Blk.far ?_ (by first | (simp; done) | (simp; omega)) _))
      have hT1 : Tch (· = g) w (w.alloc (.cells #[.int .i64 2, .int .i64 (s.fed : Int), .int .i64 0, .int .i64 0, .int .u64 0, .int .u64 0, .int .u64 0, .int .i64 0, .int .i64 0, .slice none 0 0, .slice none 0 0, .slice none 0 0, .int .u64 0, .int .u64 0, .int .u64 0, .int .u64 0, .slice none 0 0, .int .u64 0, .int .u64 0, .slice none 0 0] 50)) := (Tch.refl (· = g) w).alloc _
      generalize (w.alloc (.cells #[.int .i64 2, .int .i64 (s.fed : Int), .int .i64 0, .int .i64 0, .int .u64 0, .int .u64 0, .int .u64 0, .int .i64 0, .int .i64 0, .slice none 0 0, .slice none 0 0, .slice none 0 0, .int .u64 0, .int .u64 0, .int .u64 0, .int .u64 0, .slice none 0 0, .int .u64 0, .int .u64 0, .slice none 0 0] 50)) = w1 at *
      have HG1 := hid hG1
      have HE1 := hid hE1
      have HT1 := hid hT1
      clear hG1 hE1 hT1 y0 y1 y2 y3 y4 y5 ly z0 z1 z2 z3 z4 z5
      obtain ⟨y0, y1, y2, y3, y4, y5, ly⟩ := par_blk HG1.out
      obtain ⟨z0, z1, z2, z3, z4, z5⟩ := par_free HG1.out
      obtain ⟨n0, n1, n2, n3, n4, n5, n6, n7, n8, n9, n10, n11, n12, n13, n14, n15, n16, n17, n18, n19, ln⟩ := ev_blk HE1.out
      obtain ⟨g0, g1, g2, g3, g4, g5, g6, g7, g8, g9, g10, g11, g12, g13, g14, g15, g16, g17, g18, g19⟩ := ev_free HE1.out
      go_upto_region 6 with (fail)
      have hG2 := HG1.out
      have hE2 := HE1.out
      have hT2 := HT1.out
      obtain ⟨w2, hw2⟩ : ∃ w2 : World, w2 = w1 := ⟨_, rfl⟩
      subst hw2
      clear y0 y1 y2 y3 y4 y5 ly z0 z1 z2 z3 z4 z5 n0 n1 n2 n3 n4 n5 n6 n7 n8 n9 n10 n11 n12 n13 n14 n15 n16 n17 n18 n19 ln g0 g1 g2 g3 g4 g5 g6 g7 g8 g9 g10 g11 g12 g13 g14 g15 g16 g17 g18 g19
      have HG2 := hid hG2
      have HE2 := hid hE2
      have HT2 := hid hT2
      clear hG2 hE2 hT2 HG1 HE1 HT1
      obtain ⟨y0, y1, y2, y3, y4, y5, ly⟩ := par_blk HG2.out
      obtain ⟨z0, z1, z2, z3, z4, z5⟩ := par_free HG2.out
      obtain ⟨n0, n1, n2, n3, n4, n5, n6, n7, n8, n9, n10, n11, n12, n13, n14, n15, n16, n17, n18, n19, ln⟩ := ev_blk HE2.out
      go_upto_region 7 with (fail)
      have hG3 : Blk ((w2.setCell ⟨g, 5, none⟩ (.int .i64 2)).setCell ⟨g, 1, none⟩ (.slice none 0 0)) g 60 #[.bool true, .slice none 0 0, .int .i64 (s.first : Int), .int .i64 (s.fed : Int), .int .i64 (s.need : Int), .int .i64 2] := (HG2.out.set 5 (.int .i64 2)).set 1 (.slice none 0 0)
      have hE3 : Blk ((w2.setCell ⟨g, 5, none⟩ (.int .i64 2)).setCell ⟨g, 1, none⟩ (.slice none 0 0)) w.heap.size 50 #[.int .i64 2, .int .i64 (s.fed : Int), .int .i64 0, .int .i64 0, .int .u64 0, .int .u64 0, .int .u64 0, .int .i64 0, .int .i64 0, .slice none 0 0, .slice none 0 0, .slice none 0 0, .int .u64 0, .int .u64 0, .int .u64 0, .int .u64 0, .slice none 0 0, .int .u64 0, .int .u64 0, .slice none 0 0] := (HE2.out.far (by dsimp only; omega) _).far (by dsimp only; omega) _
      have hT3 : Tch (· = g) w ((w2.setCell ⟨g, 5, none⟩ (.int .i64 2)).setCell ⟨g, 1, none⟩ (.slice none 0 0)) := (HT2.out.setCell (p := ⟨g, 5, none⟩) (fun _ => rfl) _).setCell (p := ⟨g, 1, none⟩) (fun _ => rfl) _
      generalize ((w2.setCell ⟨g, 5, none⟩ (.int .i64 2)).setCell ⟨g, 1, none⟩ (.slice none 0 0)) = w3 at *
      clear y0 y1 y2 y3 y4 y5 ly z0 z1 z2 z3 z4 z5 n0 n1 n2 n3 n4 n5 n6 n7 n8 n9 n10 n11 n12 n13 n14 n15 n16 n17 n18 n19 ln
      have HG3 := hid hG3
      have HE3 := hid hE3
      have HT3 := hid hT3
      clear hG3 hE3 hT3 HG2 HE2 HT2
      go_wp2_with (refine wpList_load_row rfl 50 _ rfl w.heap.size rfl 50 _ (0, 0) _ HE3.out Tryz.underlying50 rfl (zero_of_info info20).2 ?_)
      go_ret
      have hz3 := HT3.out.size
      rw [HGO.out]
      exact ⟨.slice none 0 0, _, rfl, evs_one (x := Ev.x ⟨2, (s.fed : Int), 0, noMsg⟩) (a1 := none) (c1 := 0) (a2 := none) (c2 := 0) (a3 := none) (c3 := 0) (a4 := none) (c4 := 0) (a5 := none) (c5 := 0) (Blk.new w3 50 #[.int .i64 2, .int .i64 (s.fed : Int), .int .i64 0, .int .i64 0, .int .u64 0, .int .u64 0, .int .u64 0, .int .i64 0, .int .i64 0, .slice none 0 0, .slice none 0 0, .slice none 0 0, .int .u64 0, .int .u64 0, .int .u64 0, .int .u64 0, .slice none 0 0, .int .u64 0, .int .u64 0, .slice none 0 0]) ⟨by omega, by simp⟩ evIn_flat, ⟨HG3.out.alloc _, OwnB.nil⟩, .inr rfl, HT3.out.alloc _⟩
    · have hgo := HGO0.out
      rw [if_neg hJ, if_neg hJ] at hgo
      have HGO := hid hgo
      have hpos : 0 < s.buf.length := List.length_pos_iff.2 hJ
      generalize s.buf.length = N at *
      have dN : decide ((0 : Int) < (N : Int)) = true := decide_eq_true (by omega)
      have pN : decide (0 < N) = true := decide_eq_true hpos
      clear hgo HGO0 hJ hpos
      go_enter Tryz.func21, Tryz.ntmps21
      obtain ⟨y0, y1, y2, y3, y4, y5, ly⟩ := par_blk HB.out
      obtain ⟨z0, z1, z2, z3, z4, z5⟩ := par_free HB.out
      have HI := hid (show (Tryz.prog.info? 50).map (·.size) = some (#[.int .i64 2, .int .i64 (s.fed : Int), .int .i64 0, .int .i64 0, .int .u64 0, .int .u64 0, .int .u64 0, .int .i64 0, .int .i64 0, .slice none 0 0, .slice none 0 0, .slice none 0 0, .int .u64 0, .int .u64 0, .int .u64 0, .int .u64 0, .slice none 0 0, .int .u64 0, .int .u64 0, .slice none 0 0] : Array Value).size from (zero_of_info info20).2)
      have HONE := hid (show (#[.int .i64 2, .int .i64 (s.fed : Int), .int .i64 0, .int .i64 0, .int .u64 0, .int .u64 0, .int .u64 0, .int .i64 0, .int .i64 0, .slice none 0 0, .slice none 0 0, .slice none 0 0, .int .u64 0, .int .u64 0, .int .u64 0, .int .u64 0, .slice none 0 0, .int .u64 0, .int .u64 0, .slice none 0 0] : Array Value).all (·.oneCell') = true by simp [Value.oneCell'])
      go_wp2_with fail
      refine HO.out.mono ?_
      rintro r w0 ⟨rfl, rfl⟩
      go_upto_region 4 with (refine wpList_store_row rfl 50 _ _ rfl w.heap.size #[.int .i64 2, .int .i64 (s.fed : Int), .int .i64 0, .int .i64 0, .int .u64 0, .int .u64 0, .int .u64 0, .int .i64 0, .int .i64 0, .slice none 0 0, .slice none 0 0, .slice none 0 0, .int .u64 0, .int .u64 0, .int .u64 0, .int .u64 0, .slice none 0 0, .int .u64 0, .int .u64 0, .slice none 0 0] rfl rfl 50 #[.int .i64 0, .int .i64 0, .int .i64 0, .int .i64 0, .int .u64 0, .int .u64 0, .int .u64 0, .int .i64 0, .int .i64 0, .slice none 0 0, .slice none 0 0, .slice none 0 0, .int .u64 0, .int .u64 0, .int .u64 0, .int .u64 0, .slice none 0 0, .int .u64 0, .int .u64 0, .slice none 0 0] (heap_alloc_last _ _) HI.out rfl HONE.out ?_; rw [World.setRow_alloc_new])
      have hG1 : Blk (w.alloc (.cells #[.int .i64 2, .int .i64 (s.fed : Int), .int .i64 0, .int .i64 0, .int .u64 0, .int .u64 0, .int .u64 0, .int .i64 0, .int .i64 0, .slice none 0 0, .slice none 0 0, .slice none 0 0, .int .u64 0, .int .u64 0, .int .u64 0, .int .u64 0, .slice none 0 0, .int .u64 0, .int .u64 0, .slice none 0 0] 50)) g 60 #[.bool true, .slice aJ N cJ, .int .i64 (s.first : Int), .int .i64 (s.fed : Int), .int .i64 (s.need : Int), .int .i64 0] := HB.out.alloc _
      have hE1 : Blk (w.alloc (.cells #[.int .i64 2, .int .i64 (s.fed : Int), .int .i64 0, .int .i64 0, .int .u64 0, .int .u64 0, .int .u64 0, .int .i64 0, .int .i64 0, .slice none 0 0, .slice none 0 0, .slice none 0 0, .int .u64 0, .int .u64 0, .int .u64 0, .int .u64 0, .slice none 0 0, .int .u64 0, .int .u64 0, .slice none 0 0] 50)) w.heap.size 50 #[.int .i64 2, .int .i64 (s.fed : Int), .int .i64 0, .int .i64 0, .int .u64 0, .int .u64 0, .int .u64 0, .int .i64 0, .int .i64 0, .slice none 0 0, .slice none 0 0, .slice none 0 0, .int .u64 0, .int .u64 0, .int .u64 0, .int .u64 0, .slice none 0 0, .int .u64 0, .int .u64 0, .slice none 0 0] := by (repeat (first | assumption | exact Blk.newAt _ _ _ (by first | (simp; done) | (simp; omega)) | refine Blk.alloc ?_ _ | refine Blk.drew ?_ | refine Blk.drewN ?_ _ | refine Blk.far ?_ (by first | (simp; done) | (simp; omega)) _))
      have hT1 : Tch (· = g) w (w.alloc (.cells #[.int .i64 2, .int .i64 (s.fed : Int), .int .i64 0, .int .i64 0, .int .u64 0, .int .u64 0, .int .u64 0, .int .i64 0, .int .i64 0, .slice none 0 0, .slice none 0 0, .slice none 0 0, .int .u64 0, .int .u64 0, .int .u64 0, .int .u64 0, .slice none 0 0, .int .u64 0, .int .u64 0, .slice none 0 0] 50)) := (Tch.refl (· = g) w).alloc _
      generalize (w.alloc (.cells #[.int .i64 2, .int .i64 (s.fed : Int), .int .i64 0, .int .i64 0, .int .u64 0, .int .u64 0, .int .u64 0, .int .i64 0, .int .i64 0, .slice none 0 0, .slice none 0 0, .slice none 0 0, .int .u64 0, .int .u64 0, .int .u64 0, .int .u64 0, .slice none 0 0, .int .u64 0, .int .u64 0, .slice none 0 0] 50)) = w1 at *
      have HG1 := hid hG1
      have HE1 := hid hE1
      have HT1 := hid hT1
      clear hG1 hE1 hT1 y0 y1 y2 y3 y4 y5 ly z0 z1 z2 z3 z4 z5
      obtain ⟨y0, y1, y2, y3, y4, y5, ly⟩ := par_blk HG1.out
      obtain ⟨z0, z1, z2, z3, z4, z5⟩ := par_free HG1.out
      obtain ⟨n0, n1, n2, n3, n4, n5, n6, n7, n8, n9, n10, n11, n12, n13, n14, n15, n16, n17, n18, n19, ln⟩ := ev_blk HE1.out
      obtain ⟨g0, g1, g2, g3, g4, g5, g6, g7, g8, g9, g10, g11, g12, g13, g14, g15, g16, g17, g18, g19⟩ := ev_free HE1.out
      go_upto_region 6 with (fail)
      have hG2 : Blk ((w1.setCell ⟨w.heap.size, 0, none⟩ (.int .i64 3)).setCell ⟨w.heap.size, 2, none⟩ (.int .i64 1)) g 60 #[.bool true, .slice aJ N cJ, .int .i64 (s.first : Int), .int .i64 (s.fed : Int), .int .i64 (s.need : Int), .int .i64 0] := (HG1.out.far (by dsimp only; omega) _).far (by dsimp only; omega) _
      have hE2 : Blk ((w1.setCell ⟨w.heap.size, 0, none⟩ (.int .i64 3)).setCell ⟨w.heap.size, 2, none⟩ (.int .i64 1)) w.heap.size 50 #[.int .i64 3, .int .i64 (s.fed : Int), .int .i64 1, .int .i64 0, .int .u64 0, .int .u64 0, .int .u64 0, .int .i64 0, .int .i64 0, .slice none 0 0, .slice none 0 0, .slice none 0 0, .int .u64 0, .int .u64 0, .int .u64 0, .int .u64 0, .slice none 0 0, .int .u64 0, .int .u64 0, .slice none 0 0] := (HE1.out.set 0 (.int .i64 3)).set 2 (.int .i64 1)
      have hT2 : Tch (· = g) w ((w1.setCell ⟨w.heap.size, 0, none⟩ (.int .i64 3)).setCell ⟨w.heap.size, 2, none⟩ (.int .i64 1)) := (HT1.out.setCell (p := ⟨w.heap.size, 0, none⟩) (fun e => absurd e (Nat.lt_irrefl _)) _).setCell (p := ⟨w.heap.size, 2, none⟩) (fun e => absurd e (Nat.lt_irrefl _)) _
      generalize ((w1.setCell ⟨w.heap.size, 0, none⟩ (.int .i64 3)).setCell ⟨w.heap.size, 2, none⟩ (.int .i64 1)) = w2 at *
      clear y0 y1 y2 y3 y4 y5 ly z0 z1 z2 z3 z4 z5 n0 n1 n2 n3 n4 n5 n6 n7 n8 n9 n10 n11 n12 n13 n14 n15 n16 n17 n18 n19 ln g0 g1 g2 g3 g4 g5 g6 g7 g8 g9 g10 g11 g12 g13 g14 g15 g16 g17 g18 g19
      have HG2 := hid hG2
      have HE2 := hid hE2
      have HT2 := hid hT2
      clear hG2 hE2 hT2 HG1 HE1 HT1
      obtain ⟨y0, y1, y2, y3, y4, y5, ly⟩ := par_blk HG2.out
      obtain ⟨z0, z1, z2, z3, z4, z5⟩ := par_free HG2.out
      obtain ⟨n0, n1, n2, n3, n4, n5, n6, n7, n8, n9, n10, n11, n12, n13, n14, n15, n16, n17, n18, n19, ln⟩ := ev_blk HE2.out
      go_upto_region 7 with (fail)
      have hG3 : Blk ((w2.setCell ⟨g, 5, none⟩ (.int .i64 3)).setCell ⟨g, 1, none⟩ (.slice none 0 0)) g 60 #[.bool true, .slice none 0 0, .int .i64 (s.first : Int), .int .i64 (s.fed : Int), .int .i64 (s.need : Int), .int .i64 3] := (HG2.out.set 5 (.int .i64 3)).set 1 (.slice none 0 0)
      have hE3 : Blk ((w2.setCell ⟨g, 5, none⟩ (.int .i64 3)).setCell ⟨g, 1, none⟩ (.slice none 0 0)) w.heap.size 50 #[.int .i64 3, .int .i64 (s.fed : Int), .int .i64 1, .int .i64 0, .int .u64 0, .int .u64 0, .int .u64 0, .int .i64 0, .int .i64 0, .slice none 0 0, .slice none 0 0, .slice none 0 0, .int .u64 0, .int .u64 0, .int .u64 0, .int .u64 0, .slice none 0 0, .int .u64 0, .int .u64 0, .slice none 0 0] := (HE2.out.far (by dsimp only; omega) _).far (by dsimp only; omega) _
      have hT3 : Tch (· = g) w ((w2.setCell ⟨g, 5, none⟩ (.int .i64 3)).setCell ⟨g, 1, none⟩ (.slice none 0 0)) := (HT2.out.setCell (p := ⟨g, 5, none⟩) (fun _ => rfl) _).setCell (p := ⟨g, 1, none⟩) (fun _ => rfl) _
      generalize ((w2.setCell ⟨g, 5, none⟩ (.int .i64 3)).setCell ⟨g, 1, none⟩ (.slice none 0 0)) = w3 at *
      clear y0 y1 y2 y3 y4 y5 ly z0 z1 z2 z3 z4 z5 n0 n1 n2 n3 n4 n5 n6 n7 n8 n9 n10 n11 n12 n13 n14 n15 n16 n17 n18 n19 ln
      have HG3 := hid hG3
      have HE3 := hid hE3
      have HT3 := hid hT3
      clear hG3 hE3 hT3 HG2 HE2 HT2
      go_wp2_with (refine wpList_load_row rfl 50 _ rfl w.heap.size rfl 50 _ (0, 0) _ HE3.out Tryz.underlying50 rfl (zero_of_info info20).2 ?_)
      go_ret
      have hz3 := HT3.out.size
      rw [HGO.out]
      exact ⟨.slice none 0 0, _, rfl, evs_one (x := Ev.x ⟨3, (s.fed : Int), 1, noMsg⟩) (a1 := none) (c1 := 0) (a2 := none) (c2 := 0) (a3 := none) (c3 := 0) (a4 := none) (c4 := 0) (a5 := none) (c5 := 0) (Blk.new w3 50 #[.int .i64 3, .int .i64 (s.fed : Int), .int .i64 1, .int .i64 0, .int .u64 0, .int .u64 0, .int .u64 0, .int .i64 0, .int .i64 0, .slice none 0 0, .slice none 0 0, .slice none 0 0, .int .u64 0, .int .u64 0, .int .u64 0, .int .u64 0, .slice none 0 0, .int .u64 0, .int .u64 0, .slice none 0 0]) ⟨by omega, by simp⟩ evIn_flat, ⟨HG3.out.alloc _, OwnB.nil⟩, .inr rfl, HT3.out.alloc _⟩
  · rw [if_neg he] at hgo
    rw [decide_eq_false he, Bool.true_and] at HO
    have HGO := hid hgo
    clear h he hgo
    go_enter Tryz.func21, Tryz.ntmps21
    go_wp2_with fail
    refine HO.out.mono ?_
    rintro r w1 ⟨rfl, rfl⟩
    go_wp2_with fail
    go_ret
    rw [HGO.out]
    exact ⟨_, _, rfl, evs_nil, HP.out, .inl rfl, Tch.refl _ _⟩
theorem push_close0 (w : World) : Calls Tryz.prog 21 #[.pointer none] w fun r w' => r = .returned (.slice none 0 0) ∧ w = w' := by
  have HO := hid (push_open0 w)
  go_enter Tryz.func21, Tryz.ntmps21
  go_wp2_with fail
  refine HO.out.mono ?_
  rintro r w1 ⟨rfl, rfl⟩
  go_wp2_with fail
  go_ret
  exact ⟨rfl, rfl⟩
theorem push_closeX (w : World) {g : Nat} {x1 x2 x3 x4 : Value} {e : Int} (h : Blk w g 60 #[.bool false, x1, x2, x3, x4, .int .i64 e]) : Calls Tryz.prog 21 #[.pointer (some ⟨g, 0, none⟩)] w fun r w' => r = .returned (.slice none 0 0) ∧ w = w' := by
  have HO := hid (push_open w h)
  rw [Bool.false_and] at HO
  clear h
  go_enter Tryz.func21, Tryz.ntmps21
  go_wp2_with fail
  refine HO.out.mono ?_
  rintro r w1 ⟨rfl, rfl⟩
  go_wp2_with fail
  go_ret
  exact ⟨rfl, rfl⟩
end Go.Proofs.YtfddhafbhceoaaaGreat
namespace Go.Bs
open Go.RowKit
set_option linter.unusedVariables false
section
variable {P : Program} {a : Act} {w : World} {Q : Exit → Act → World → Prop}
/-- Many labels; the code ahead of the first one falls into it. -/
theorem wp_scope_manyE {c rest : Code} (l0 : Nat) (J : Nat → Act → World → Prop) (μ : Nat → Act → World → Nat) (hf : findLabel c l0 = some (Code.skip.seq rest))
    (pass : ∀ l a w, J l a w → ∃ rest, findLabel c l = some (Code.skip.seq rest) ∧ rest.wp P (manyX (fun l' a' w' => J l' a' w' ∧ μ l' a' w' < μ l a w) Q) a w)
    (first : ∀ K : Exit → Act → World → Prop, (∀ a w, J l0 a w → rest.wp P K a w) → c.wp P K a w) : (Code.scope c).wp P Q a w := by
  refine wp_scope_many J μ ?_ ?_
  · intro l a w h
    obtain ⟨r, h1, h2⟩ := pass l a w h
    exact ⟨_, h1, wp_skip_seq h2⟩
  · refine first _ fun a w h => ?_
    obtain ⟨r, h1, h2⟩ := pass l0 a w h
    rw [hf] at h1
    obtain rfl : rest = r := by
      have := Option.some.inj h1
      injection this
    refine wp_mono h2 fun e a' w' hq => ?_
    cases e <;> first | exact hq | exact hq.1
end
end Go.Bs
namespace Go.Proofs.YtfddhafbhceoaaaGreat
open Go.RowKit Go.Bs Go.Maps
set_option linter.unusedVariables false
set_option linter.unusedSimpArgs false

theorem ownRow_low {base base' : Nat} {e : TypeId} {size : Nat} {v : Value} {n : Nat} {xs : List Value} {w : World} (h : w.ownsRow base e size v n xs) (hb : base' ≤ base) : w.ownsRow base' e size v n xs := by
  refine ⟨h.1, ?_⟩
  rcases h.2 with h0 | ⟨g, cap, cur, h1, h2, h3⟩
  · exact .inl h0
  · exact .inr ⟨g, cap, cur, h1, Nat.le_trans hb h2, h3⟩
/-- Events in a row of one's own, apart from a parser's buffer. -/
structure OutEv (w : World) (vb : Value) (w' : World) (vo : Value) (E : List EvX) : Prop where
  own : ∃ cells, OwnElsF (fun q => w.heap.size ≤ q ∧ q < w'.heap.size ∧ vb.ownBlock ≠ some q) rEvX w.heap.size 50 20 w' vo E cells
  ne : ∀ q, vo.ownBlock = some q → vb.ownBlock ≠ some q
theorem OutEv.read {w w' : World} {vb vo : Value} {E : List EvX} (h : OutEv w vb w' vo E) : rEvs.r (fun q => w.heap.size ≤ q ∧ q < w'.heap.size ∧ vb.ownBlock ≠ some q) w' [vo] E := by
  obtain ⟨cells, hc⟩ := h.own
  refine rEvs.mono hc.slice fun b e => ?_
  rcases e with e | e
  · exact e
  · have := own_lt2 hc.1 b e
    exact ⟨this.1, this.2, h.ne b e⟩
theorem OutEv.nil {w w' : World} {vb : Value} : OutEv w vb w' (.slice none 0 0) [] := ⟨⟨[], OwnElsF.nil⟩, fun q e => by cases e⟩
/-- While Feed runs: w is the world at its beginning, behind it lie m and f; the buffer is v, what was told lies in vo. -/
structure FeedI (w : World) (g : Nat) (v0 : Value) (B : List UInt8) (a : Option Addr) (c : Nat) (s : PSt) (v : Value) (E : List EvX) (vo : Value) (W : World) : Prop where
  par : ParAt W g v s
  vb : v.ownBlock = v0.ownBlock ∨ ∀ q, v.ownBlock = some q → w.heap.size + 2 ≤ q
  own : ∃ cells, OwnElsF (fun q => w.heap.size + 2 ≤ q ∧ q < W.heap.size ∧ v.ownBlock ≠ some q) rEvX (w.heap.size + 2) 50 20 W vo E cells
  ne : ∀ q, vo.ownBlock = some q → v.ownBlock ≠ some q
  mb : ∃ u0 u1 u2 u3 u4 u5 u6 u7 u8 u9 u10 u11 u12 u13 : Value, Blk W w.heap.size 45 #[u0, u1, u2, u3, u4, u5, u6, u7, u8, u9, u10, u11, u12, u13]
  fb : ∃ k f : Int, Blk W (w.heap.size + 1) 65 #[.int .i64 k, .int .i64 f]
  dat : rBytes.r (fun q => q < w.heap.size ∧ q ≠ g ∧ v0.ownBlock ≠ some q) W [.slice a B.length c] B
  tch : Tch (fun q => q = g ∨ v0.ownBlock = some q) w W
  sz : w.heap.size + 2 ≤ W.heap.size
  gl : g < w.heap.size
  v0l : ∀ q, v0.ownBlock = some q → q < w.heap.size
section
variable {w W W' : World} {g : Nat} {v0 v v' vo vo' : Value} {B : List UInt8} {a : Option Addr} {c : Nat} {s s' : PSt} {E : List EvX}
theorem FeedI.vq (h : FeedI w g v0 B a c s v E vo W) : ∀ q, v.ownBlock = some q → q ≠ g ∧ q < W.heap.size ∧ (v0.ownBlock = some q ∨ w.heap.size + 2 ≤ q) := fun q e => by
  have := h.par.at_ q e
  refine ⟨by omega, this.2, ?_⟩
  rcases h.vb with hv | hv
  · exact .inl (hv ▸ e)
  · exact .inr (hv q e)
theorem FeedI.later (h : FeedI w g v0 B a c s v E vo W) (hb : Below W.heap.size W W') : FeedI w g v0 B a c s v E vo W' := by
  obtain ⟨cells, hc⟩ := h.own
  obtain ⟨u0, u1, u2, u3, u4, u5, u6, u7, u8, u9, u10, u11, u12, u13, hm⟩ := h.mb
  obtain ⟨k, f, hf⟩ := h.fb
  exact ⟨h.par.later hb, h.vb, ⟨cells, (hc.keep (fun b e => hb.block b e.2.1) (fun q e => hb.block q (own_lt2 hc.1 q e).2)).mono fun b e => ⟨e.1, Nat.lt_of_lt_of_le e.2.1 hb.size, e.2.2⟩⟩, h.ne,
    ⟨u0, u1, u2, u3, u4, u5, u6, u7, u8, u9, u10, u11, u12, u13, hm.later hb⟩, ⟨k, f, hf.later hb⟩, rBytes.keep h.dat fun q hq => hb.block q (Nat.lt_of_lt_of_le hq.1 h.tch.size), h.tch.trans (Tch.of_later (F := fun q => q = g ∨ v0.ownBlock = some q) hb) fun _ _ e => e, Nat.le_trans h.sz hb.size, h.gl, h.v0l⟩
/-- The message and the fault are stored. -/
theorem FeedI.mf (h : FeedI w g v0 B a c s v E vo W) (ht : Tch (fun b => b = w.heap.size ∨ b = w.heap.size + 1) W W') (hm : ∃ u0 u1 u2 u3 u4 u5 u6 u7 u8 u9 u10 u11 u12 u13 : Value, Blk W' w.heap.size 45 #[u0, u1, u2, u3, u4, u5, u6, u7, u8, u9, u10, u11, u12, u13]) (hf : ∃ k f : Int, Blk W' (w.heap.size + 1) 65 #[.int .i64 k, .int .i64 f]) : FeedI w g v0 B a c s v E vo W' := by
  obtain ⟨cells, hc⟩ := h.own
  have hg := h.gl
  refine ⟨h.par.tch ht (by omega) (fun q e => ?_), h.vb, ⟨cells, (hc.keep (fun b e => ht.block b e.2.1 (by have := e.1; omega)) (fun q e => ht.block q (own_lt2 hc.1 q e).2 (by have := (own_lt2 hc.1 q e).1; omega))).mono fun b e => ⟨e.1, Nat.lt_of_lt_of_le e.2.1 ht.size, e.2.2⟩⟩, h.ne, hm, hf,
    rBytes.keep h.dat fun q hq => ht.block q (Nat.lt_of_lt_of_le hq.1 h.tch.size) (by have := hq.1; omega), h.tch.trans ht fun b hb e => by omega, Nat.le_trans h.sz ht.size, h.gl, h.v0l⟩
  rcases (h.vq q e).2.2 with h1 | h1
  · have := h.v0l q h1
    omega
  · omega
/-- A cell of the parser is stored. -/
theorem FeedI.gset (h : FeedI w g v0 B a c s v E vo W) (i : Nat) (u : Value) (hb : Blk (W.setCell ⟨g, i, none⟩ u) g 60 #[.bool true, v, .int .i64 (s'.first : Int), .int .i64 (s'.fed : Int), .int .i64 (s'.need : Int), .int .i64 s'.ended]) (hs : s'.buf = s.buf) : FeedI w g v0 B a c s' v E vo (W.setCell ⟨g, i, none⟩ u) := by
  obtain ⟨cells, hc⟩ := h.own
  obtain ⟨u0, u1, u2, u3, u4, u5, u6, u7, u8, u9, u10, u11, u12, u13, hm⟩ := h.mb
  obtain ⟨k, f, hf⟩ := h.fb
  have hg := h.gl
  have hz : (W.setCell ⟨g, i, none⟩ u).heap.size = W.heap.size := by simp [World.setCell]
  refine ⟨⟨hb, ?_⟩, h.vb, ⟨cells, (hc.keep (fun b e => Below.heap_setCell _ _ _ _ (by dsimp only; have := e.1; omega)) (fun q e => Below.heap_setCell _ _ _ _ (by dsimp only; have := (own_lt2 hc.1 q e).1; omega))).mono fun b e => ⟨e.1, by omega, e.2.2⟩⟩, h.ne,
    ⟨u0, u1, u2, u3, u4, u5, u6, u7, u8, u9, u10, u11, u12, u13, hm.far (by dsimp only; omega) _⟩, ⟨k, f, hf.far (by dsimp only; omega) _⟩, rBytes.keep h.dat fun q hq => Below.heap_setCell _ _ _ _ hq.2.1, h.tch.setCell (p := ⟨g, i, none⟩) (fun _ => .inl rfl) _, by rw [hz]; exact h.sz, h.gl, h.v0l⟩
  rw [hs]
  exact h.par.buf.keepv fun q e => Below.heap_setCell _ _ _ _ (h.vq q e).1
theorem FeedI.setfed (h : FeedI w g v0 B a c s v E vo W) : FeedI w g v0 B a c ⟨s.buf, s.first, s.fed + 1, s.need, s.ended⟩ v E vo (W.setCell ⟨g, 3, none⟩ (.int .i64 ((s.fed : Int) + 1))) :=
  h.gset 3 _ (by have := h.par.blk.set 3 (.int .i64 ((s.fed : Int) + 1)); exact this) rfl
theorem FeedI.setneed (h : FeedI w g v0 B a c s v E vo W) (n : Nat) : FeedI w g v0 B a c ⟨s.buf, s.first, s.fed, n, s.ended⟩ v E vo (W.setCell ⟨g, 4, none⟩ (.int .i64 (n : Int))) :=
  h.gset 4 _ (by have := h.par.blk.set 4 (.int .i64 (n : Int)); exact this) rfl
theorem FeedI.setfirst (h : FeedI w g v0 B a c s v E vo W) (n : Nat) : FeedI w g v0 B a c ⟨s.buf, n, s.fed, s.need, s.ended⟩ v E vo (W.setCell ⟨g, 2, none⟩ (.int .i64 (n : Int))) :=
  h.gset 2 _ (by have := h.par.blk.set 2 (.int .i64 (n : Int)); exact this) rfl
/-- The buffer is let go. -/
theorem FeedI.drop (h : FeedI w g v0 B a c s v E vo W) : FeedI w g v0 B a c ⟨[], s.first, s.fed, s.need, s.ended⟩ (.slice none 0 0) E vo (W.setCell ⟨g, 1, none⟩ (.slice none 0 0)) := by
  obtain ⟨cells, hc⟩ := h.own
  obtain ⟨u0, u1, u2, u3, u4, u5, u6, u7, u8, u9, u10, u11, u12, u13, hm⟩ := h.mb
  obtain ⟨k, f, hf⟩ := h.fb
  have hg := h.gl
  have hz : (W.setCell ⟨g, 1, none⟩ (.slice none 0 0)).heap.size = W.heap.size := by simp [World.setCell]
  exact ⟨⟨by have := h.par.blk.set 1 (.slice none 0 0); exact this, OwnB.nil⟩, .inr (fun q e => by cases e), ⟨cells, (hc.keep (fun b e => Below.heap_setCell _ _ _ _ (by dsimp only; have := e.1; omega)) (fun q e => Below.heap_setCell _ _ _ _ (by dsimp only; have := (own_lt2 hc.1 q e).1; omega))).mono fun b e => ⟨e.1, by omega, (fun e2 => by cases e2)⟩⟩, (fun q _ e => by cases e),
    ⟨u0, u1, u2, u3, u4, u5, u6, u7, u8, u9, u10, u11, u12, u13, hm.far (by dsimp only; omega) _⟩, ⟨k, f, hf.far (by dsimp only; omega) _⟩, rBytes.keep h.dat fun q hq => Below.heap_setCell _ _ _ _ hq.2.1, h.tch.setCell (p := ⟨g, 1, none⟩) (fun _ => .inl rfl) _, by rw [hz]; exact h.sz, h.gl, h.v0l⟩
/-- Behind 'bad'. -/
theorem FeedI.bad (h : FeedI w g v0 B a c s v E vo W) (hp : ParAt W' g (.slice none 0 0) s') (ht : Tch (· = g) W W') : FeedI w g v0 B a c s' (.slice none 0 0) E vo W' := by
  obtain ⟨cells, hc⟩ := h.own
  obtain ⟨u0, u1, u2, u3, u4, u5, u6, u7, u8, u9, u10, u11, u12, u13, hm⟩ := h.mb
  obtain ⟨k, f, hf⟩ := h.fb
  have hg := h.gl
  exact ⟨hp, .inr (fun q e => by cases e), ⟨cells, (hc.keep (fun b e => ht.block b e.2.1 (by have := e.1; omega)) (fun q e => ht.block q (own_lt2 hc.1 q e).2 (by have := (own_lt2 hc.1 q e).1; omega))).mono fun b e => ⟨e.1, Nat.lt_of_lt_of_le e.2.1 ht.size, (fun e2 => by cases e2)⟩⟩, (fun q _ e => by cases e),
    ⟨u0, u1, u2, u3, u4, u5, u6, u7, u8, u9, u10, u11, u12, u13, hm.tch ht (by omega)⟩, ⟨k, f, hf.tch ht (by omega)⟩, rBytes.keep h.dat fun q hq => ht.block q (Nat.lt_of_lt_of_le hq.1 h.tch.size) hq.2.1, h.tch.trans ht fun b hb e => .inl e, Nat.le_trans h.sz ht.size, h.gl, h.v0l⟩
/-- A byte is put behind the buffer. -/
theorem FeedI.put (h : FeedI w g v0 B a c s v E vo W) {x : UInt8} (hown : W'.ownsRow (g + 1) 5 1 v' (s.buf.length + 1) (byteCells s.buf ++ [.int .u8 (x.toNat : Int)])) (hgr : W.grownBy W' v.ownBlock) (hat : v'.ownBlock = v.ownBlock ∨ v'.ownBlock = some W.heap.size) :
    FeedI w g v0 B a c ⟨s.buf ++ [x], s.first, s.fed, s.need, s.ended⟩ v' E vo (W'.setCell ⟨g, 1, none⟩ v') := by
  obtain ⟨cells, hc⟩ := h.own
  obtain ⟨u0, u1, u2, u3, u4, u5, u6, u7, u8, u9, u10, u11, u12, u13, hm⟩ := h.mb
  obtain ⟨k, f, hf⟩ := h.fb
  have hg := h.gl
  have hsz := h.sz
  have hgs := hgr.size
  have hz : (W'.setCell ⟨g, 1, none⟩ v').heap.size = W'.heap.size := by simp [World.setCell]
  have hvm : ∀ q, q = w.heap.size ∨ q = w.heap.size + 1 → some q ≠ v.ownBlock := fun q hq e => by
    rcases (h.vq q e.symm).2.2 with h1 | h1
    · have := h.v0l q h1
      omega
    · omega
  have hb' : OwnB W' (g + 1) v' (s.buf ++ [x]) := by
    unfold OwnB
    rw [List.length_append]
    have : byteCells (s.buf ++ [x]) = byteCells s.buf ++ [.int .u8 (x.toNat : Int)] := by simp [byteCells]
    rw [this]
    exact hown
  refine ⟨⟨by have := (h.par.blk.grown hgr (fun e => (h.vq g e.symm).1 rfl)).set 1 v'; exact this, hb'.keepv fun q e => Below.heap_setCell _ _ _ _ (by dsimp only; have := (hb'.at_ q e).1; omega)⟩, ?_, ⟨cells, (hc.keep (fun b e => (Below.heap_setCell _ _ _ _ (by dsimp only; have := e.1; omega)).trans (hgr.block b e.2.1 (fun e2 => e.2.2 e2.symm))) (fun q e => (Below.heap_setCell _ _ _ _ (by dsimp only; have := (own_lt2 hc.1 q e).1; omega)).trans (hgr.block q (own_lt2 hc.1 q e).2 (fun e2 => h.ne q e e2.symm)))).mono fun b e => ⟨e.1, by omega, fun e2 => ?_⟩⟩, fun q e e2 => ?_,
    ⟨u0, u1, u2, u3, u4, u5, u6, u7, u8, u9, u10, u11, u12, u13, (hm.grown hgr (hvm _ (.inl rfl))).far (by dsimp only; omega) _⟩, ⟨k, f, (hf.grown hgr (hvm _ (.inr rfl))).far (by dsimp only; omega) _⟩, rBytes.keep h.dat fun q hq => (Below.heap_setCell _ _ _ _ hq.2.1).trans (hgr.block q (Nat.lt_of_lt_of_le hq.1 h.tch.size) (fun e => ?_)), (h.tch.trans (Tch.of_grown hgr) fun b hb e => ?_).setCell (p := ⟨g, 1, none⟩) (fun _ => .inl rfl) _, by omega, h.gl, h.v0l⟩
  · rcases hat with h1 | h1
    · rw [h1]
      exact h.vb
    · refine .inr fun q e => ?_
      rw [h1] at e
      have := Option.some.inj e
      omega
  · rcases hat with h1 | h1
    · exact e.2.2 (h1 ▸ e2)
    · rw [h1] at e2
      have := Option.some.inj e2
      have := e.2.1
      omega
  · rcases hat with h1 | h1
    · exact h.ne q e (h1 ▸ e2)
    · rw [h1] at e2
      have := Option.some.inj e2
      have := (own_lt2 hc.1 q e).2
      omega
  · rcases (h.vq q e.symm).2.2 with h1 | h1
    · exact hq.2.2 h1
    · have := hq.1
      omega
  · rcases (h.vq b e).2.2 with h1 | h1
    · exact .inr h1
    · omega
/-- An event is told. -/
theorem FeedI.tell (h : FeedI w g v0 B a c s v E vo W) {cells : List (List Value)} (hc : OwnElsF (fun q => w.heap.size + 2 ≤ q ∧ q < W.heap.size ∧ v.ownBlock ≠ some q) rEvX (w.heap.size + 2) 50 20 W vo E cells) {news : List Value} {x : EvX} (hn : news.length = 20)
    (hx : rEvX.r (fun q => (w.heap.size + 2 ≤ q ∧ q < W.heap.size ∧ v.ownBlock ≠ some q) ∧ vo.ownBlock ≠ some q) W news x)
    (hown : W'.ownsRow (w.heap.size + 2) 50 20 vo' (E.length + 1) (cells.flatten ++ news)) (hgr : W.grownBy W' vo.ownBlock) (hat : vo'.ownBlock = vo.ownBlock ∨ vo'.ownBlock = some W.heap.size) : FeedI w g v0 B a c s v (E ++ [x]) vo' W' := by
  obtain ⟨u0, u1, u2, u3, u4, u5, u6, u7, u8, u9, u10, u11, u12, u13, hm⟩ := h.mb
  obtain ⟨k, f, hf⟩ := h.fb
  have hg := h.gl
  have hsz := h.sz
  have hgs := hgr.size
  have hlo := own_lt2 hc.1
  refine ⟨⟨h.par.blk.grown hgr (fun e => by have := (hlo g e.symm).1; omega), h.par.buf.keepv fun q e => hgr.block q (h.vq q e).2.1 (fun e2 => h.ne q e2.symm e)⟩, h.vb, ⟨_, (hc.push (fun b e => e.2.1) hn hx hown hgr hat).mono fun b e => ⟨e.1, by omega, e.2.2⟩⟩, fun q e => ?_,
    ⟨u0, u1, u2, u3, u4, u5, u6, u7, u8, u9, u10, u11, u12, u13, hm.grown hgr (fun e => by have := (hlo _ e.symm).1; omega)⟩, ⟨k, f, hf.grown hgr (fun e => by have := (hlo _ e.symm).1; omega)⟩, rBytes.keep h.dat fun q hq => hgr.block q (Nat.lt_of_lt_of_le hq.1 h.tch.size) (fun e => by have := (hlo q e.symm).1; have := hq.1; omega), h.tch.trans (Tch.of_grown hgr) fun b hb e => by have := (hlo b e).1; omega, by omega, h.gl, h.v0l⟩
  rcases hat with h1 | h1
  · exact h.ne q (h1 ▸ e)
  · rw [h1] at e
    have := Option.some.inj e
    intro e2
    have := (h.vq q e2).2.1
    omega
/-- What it tells, at its end. -/
theorem FeedI.told (h : FeedI w g v0 B a c s v E vo W) : OutEv w v W vo E := by
  obtain ⟨cells, hc⟩ := h.own
  exact ⟨⟨cells, ⟨ownRow_low hc.1 (by omega), hc.2.1, hc.2.2.1, fun i cs x h1 h2 => rEvX.mono (hc.2.2.2 i cs x h1 h2) fun b e => ⟨⟨by omega, e.1.2⟩, e.2⟩⟩⟩, h.ne⟩
/-- A fault is stored. -/
theorem FeedI.setf (h : FeedI w g v0 B a c s v E vo W) (k f : Int) : FeedI w g v0 B a c s v E vo ((W.setCell ⟨w.heap.size + 1, 0, none⟩ (.int .i64 k)).setCell ⟨w.heap.size + 1, 1, none⟩ (.int .i64 f)) ∧ Blk ((W.setCell ⟨w.heap.size + 1, 0, none⟩ (.int .i64 k)).setCell ⟨w.heap.size + 1, 1, none⟩ (.int .i64 f)) (w.heap.size + 1) 65 #[.int .i64 k, .int .i64 f] := by
  obtain ⟨u0, u1, u2, u3, u4, u5, u6, u7, u8, u9, u10, u11, u12, u13, hm⟩ := h.mb
  obtain ⟨k0, f0, hf⟩ := h.fb
  have hF := (hf.set 0 (.int .i64 k)).set 1 (.int .i64 f)
  exact ⟨h.mf (((Tch.refl _ W).setCell (p := ⟨w.heap.size + 1, 0, none⟩) (fun _ => .inr rfl) _).setCell (p := ⟨w.heap.size + 1, 1, none⟩) (fun _ => .inr rfl) _) ⟨u0, u1, u2, u3, u4, u5, u6, u7, u8, u9, u10, u11, u12, u13, (hm.far (by dsimp only; omega) _).far (by dsimp only; omega) _⟩ ⟨k, f, hF⟩, hF⟩
end
/-! What a round computes. -/
/-- Behind a frame's length. -/
def restP (s : PSt) : PSt × List Ev :=
  if s.buf.length < s.need then (s, [])
  else if (getMS s.buf).2.2.2.1 = 0 then (⟨[], s.fed, s.fed, 0, s.ended⟩, [evItem s.first (getMS s.buf).1])
  else (⟨[], s.first, s.fed, s.need, 4⟩, [evBad (wrap64 ((getMS s.buf).2.2.2.2 + (s.first : Int))) (getMS s.buf).2.2.2.1])
/-- What comes of a round and of the bytes behind. -/
def goP (r : PSt × List Ev) (E : List Ev) (l : List UInt8) : PSt × List Ev := if r.1.ended = 0 then ((feedP r.1 l).1, E ++ r.2 ++ (feedP r.1 l).2) else (r.1, E ++ r.2)
theorem goP_bad {s : PSt} {E e : List Ev} {l : List UInt8} (h : s.ended ≠ 0) : goP (s, e) E l = (s, E ++ e) := by
  unfold goP
  exact if_neg h
theorem goP_go {s : PSt} {E e : List Ev} {l : List UInt8} (h : s.ended = 0) : goP (s, e) E l = ((feedP s l).1, (E ++ e) ++ (feedP s l).2) := by
  unfold goP
  exact if_pos h
theorem feedP_go (s : PSt) (E : List Ev) (b : UInt8) (l : List UInt8) : ((feedP s (b :: l)).1, E ++ (feedP s (b :: l)).2) = goP (stepP s b) E l := by
  rw [feedP_cons]
  unfold goP
  split
  · rw [List.append_assoc]
  · rfl
theorem stepP_need {s : PSt} {b : UInt8} (h : 0 < s.need) (he : s.ended = 0) : stepP s b = restP ⟨s.buf ++ [b], s.first, s.fed + 1, s.need, s.ended⟩ := by
  unfold stepP restP
  dsimp only
  rw [if_pos h, if_pos h, he]
theorem stepP_whole {s : PSt} {b : UInt8} (h : ¬ 0 < s.need) (he : s.ended = 0) (hw : 0 < wholeN (s.buf ++ [b])) : stepP s b = restP ⟨s.buf ++ [b], s.first, s.fed + 1, wholeN (s.buf ++ [b]), s.ended⟩ := by
  unfold stepP restP
  dsimp only
  rw [if_neg h, if_pos hw, he]
theorem stepP_wait {s : PSt} {b : UInt8} (h : ¬ 0 < s.need) (he : s.ended = 0) (hw : ¬ 0 < wholeN (s.buf ++ [b])) (hk : (intD (s.buf ++ [b])).1.k = 1) : stepP s b = (⟨s.buf ++ [b], s.first, s.fed + 1, wholeN (s.buf ++ [b]), s.ended⟩, []) := by
  have h0 : wholeN (s.buf ++ [b]) = 0 := by omega
  unfold stepP
  dsimp only
  rw [if_neg h, if_neg hw, if_pos hk, h0, he]
theorem stepP_bad {s : PSt} {b : UInt8} (h : ¬ 0 < s.need) (he : s.ended = 0) (hw : ¬ 0 < wholeN (s.buf ++ [b])) (hk : (intD (s.buf ++ [b])).1.k ≠ 1) : stepP s b = (⟨[], s.first, s.fed + 1, wholeN (s.buf ++ [b]), 4⟩, [evBad (wrap64 ((intD (s.buf ++ [b])).1.f + (s.first : Int))) (intD (s.buf ++ [b])).1.k]) := by
  have h0 : wholeN (s.buf ++ [b]) = 0 := by omega
  unfold stepP
  dsimp only
  rw [if_neg h, if_neg hw, if_neg hk, h0]
theorem stepP_fed (s : PSt) (b : UInt8) : (stepP s b).1.fed = s.fed + 1 ∧ (stepP s b).1.buf.length ≤ s.buf.length + 1 ∧ (stepP s b).2.length ≤ 1 := by
  unfold stepP
  dsimp only
  have h1 : (s.buf ++ [b]).length = s.buf.length + 1 := by simp
  generalize s.buf ++ [b] = D at *
  repeat' split
  all_goals first | exact ⟨rfl, by dsimp only; omega, by simp⟩ | exact ⟨rfl, by simp, by simp⟩
theorem feedP_fed : ∀ (l : List UInt8) (s : PSt), (feedP s l).1.fed ≤ s.fed + l.length ∧ (feedP s l).1.buf.length ≤ s.buf.length + l.length ∧ (feedP s l).2.length ≤ l.length
  | [], s => ⟨Nat.le_refl _, Nat.le_refl _, Nat.le_refl _⟩
  | b :: l, s => by
    have h1 := stepP_fed s b
    have h2 := feedP_fed l (stepP s b).1
    rw [feedP_cons]
    split
    · refine ⟨by simp only [List.length_cons]; omega, by simp only [List.length_cons]; omega, ?_⟩
      rw [List.length_append, List.length_cons]
      omega
    · exact ⟨by simp only [List.length_cons]; omega, by simp only [List.length_cons]; omega, by simp only [List.length_cons]; omega⟩
theorem closeP_len (s : PSt) : (closeP s).2.length ≤ 1 := by
  unfold closeP
  split <;> simp
theorem intD_bad {D : List UInt8} (hw : ¬ 0 < wholeN D) : (intD D).1.k ≠ 0 := fun e => hw (wholeN_pos.2 e)
end Go.Proofs.YtfddhafbhceoaaaGreat
