/- Needed by bodyOnce_walk, part 11: texts put together by shake.py; no condition. -/
import Derived.Test.YtlbffbkbkajciaaGreatZd10
import Derived.Deep.Cut
import Derived.Deep.RegionHeld3
import Derived.Test.YtlbffbkbkajciaaGreatZd2
import Derived.Test.YtlbffbkbkajciaaGreatZd5
import Derived.Test.YtlbffbkbkajciaaGreatZd4
import Derived.Test.YtlbffbkbkajciaaGreatZd7
import Derived.Lib.SlBytesConst
import Derived.Deep.AppendLies
import Derived.Deep.RegionLaw
import Derived.Test.YtlbffbkbkajciaaGreatZd1
import Derived.Test.YtlbffbkbkajciaaGreatZd3
import Derived.Test.YtlbffbkbkajciaaGreatZd8
import Derived.Test.YtlbffbkbkajciaaGreatZd9
import Derived.Deep.CutRange
namespace Go.Proofs.YtlbffbkbkajciaaGreat
open Go.RowKit Go.Bs Go.Maps
set_option linter.unusedVariables false
set_option linter.unusedSimpArgs false

theorem Rs.body_none {B : List UInt8} {blk : Rs → Rs × List UInt8 × Bool} {k : Int} {s : Rs} (h : (s.body B blk k).1.k ≠ 0) : (s.body B blk k).2 = (noMsg, false) := by
  unfold Rs.body at h ⊢
  by_cases h1 : 1 ≤ k ∧ k ≤ 14
  · rw [if_pos h1] at h ⊢
    dsimp only at h ⊢
    split at h
    · rename_i h2
      exact absurd h2 h
    · rename_i h2
      rw [if_neg h2]
  · rw [if_neg h1]
theorem blkS_badm {B : List UInt8} (t : Rs) (h : t.k ≠ 0) : (blkS B t).1 = t ∧ (blkS B t).2.1 = [] := by
  unfold blkS
  dsimp only
  rw [Rs.loose_of_bad h]
  unfold Rs.strict
  dsimp only
  rw [if_neg h]
  exact ⟨rfl, rfl⟩
theorem blkL_badm {B : List UInt8} (t : Rs) (h : t.k ≠ 0) : (blkL B t).1 = t ∧ (blkL B t).2.1 = [] := by
  unfold blkL
  rw [Rs.loose_of_bad h]
  exact ⟨rfl, rfl⟩
/-- A message's rows in a world in which one block turned. -/
theorem rows_put {S S' : Nat → Prop} {w w' : World} {m : Msg} {v1 v2 v3 v4 : Value} (hk : ∀ q, S q → w'.heap[q]? = w.heap[q]?) (hs : ∀ q, S q → S' q) (h : rU64s.r S w [v1] m.streams ∧ rLinks.r S w [v2] m.links ∧ rBytes.r S w [v3] m.data ∧ rStripes.r S w [v4] m.proj.stripes) :
    rU64s.r S' w' [v1] m.streams ∧ rLinks.r S' w' [v2] m.links ∧ rBytes.r S' w' [v3] m.data ∧ rStripes.r S' w' [v4] m.proj.stripes :=
  ⟨rU64s.mono (rU64s.keep h.1 hk) hs, rLinks.mono (rLinks.keep h.2.1 hk) hs, rBytes.mono (rBytes.keep h.2.2.1 hk) hs, rStripes.mono (rStripes.keep h.2.2.2 hk) hs⟩

set_option maxRecDepth 100000 in
theorem body_read1 (w : World) {g p : Nat} {B : List UInt8} {a : Option Addr} {s : Rs} (h : RdAt w g B a s) (hB : B.length ≤ 1000000000) (hp : Blk w p 52 #[.pointer (some ⟨g, 0, none⟩)]) :
    Calls Tryz.prog 116 #[.pointer (some ⟨p, 0, none⟩)] w fun r w' => ∃ v, r = .returned v ∧ rBytes.r (Fresh w w') w' [v] (blkS B s).2.1 ∧ RdStep w g B a (blkS B s).1 w' := by
  have HB := hid (block_read w h hB 1048576 (by omega))
  have x0 : w.cell? ⟨p, 0, none⟩ = some (.pointer (some ⟨g, 0, none⟩)) := hp.cell 0
  unfold blkS
  dsimp only
  generalize Rs.strict (s.loose B 1048576) = T at *
  obtain ⟨s1, D⟩ := T
  dsimp only at *
  clear h hp
  go_enter Tryz.func116, Tryz.ntmps116
  go_wp2_with fail
  refine HB.out.mono ?_
  rintro r w1 ⟨v, rfl, hv, hst⟩
  obtain ⟨a1, c1, hfv, hv2, _⟩ := sl_form hv
  simp only [List.cons.injEq, and_true] at hfv
  subst hfv
  have HV := hid hv2
  have HS := hid hst
  clear hv hv2 hst
  go_wp2
  go_ret
  exact ⟨_, rfl, HV.out, HS.out⟩

set_option maxRecDepth 100000 in
theorem body_readloose1 (w : World) {g p q : Nat} {B : List UInt8} {a : Option Addr} {s : Rs} (h : RdAt w g B a s) (hB : B.length ≤ 1000000000) (hp : Blk w p 52 #[.pointer (some ⟨g, 0, none⟩)]) {o : Bool} (hq : Blk w q 4 #[.bool o]) (hne : q ≠ g ∧ p ≠ q ∧ p ≠ g)
    (hd : rBytes.r (fun x => x < w.heap.size ∧ ¬ (x = g ∨ x = q)) w [.slice a B.length B.length] B) :
    Calls Tryz.prog 118 #[.pointer (some ⟨p, 0, none⟩), .pointer (some ⟨q, 0, none⟩)] w fun r w' => ∃ v, r = .returned v ∧ rBytes.r (Fresh w w') w' [v] (blkL B s).2.1 ∧ RdAt w' g B a (blkL B s).1 ∧ Tch (fun x => x = g ∨ x = q) w w' ∧ Blk w' p 52 #[.pointer (some ⟨g, 0, none⟩)] ∧ Blk w' q 4 #[.bool (blkL B s).2.2] := by
  have HB := hid (block_loose w h hB 1048576 (by omega))
  have x0 : w.cell? ⟨p, 0, none⟩ = some (.pointer (some ⟨g, 0, none⟩)) := hp.cell 0
  obtain ⟨n1, n2, n3⟩ := hne
  have HP := hid hp
  have HQ := hid hq
  have HD := hid hd
  have lq := hq.lt
  have lp := hp.lt
  unfold blkL
  generalize s.loose B 1048576 = T at *
  obtain ⟨s1, D, z⟩ := T
  dsimp only at *
  clear h hp hq hd
  go_enter Tryz.func118, Tryz.ntmps118
  go_wp2_with fail
  refine HB.out.mono ?_
  rintro r w1 ⟨v, rfl, hv, hst⟩
  obtain ⟨a1, c1, hfv, hv2, _⟩ := sl_form hv
  simp only [List.cons.injEq, and_true] at hfv
  subst hfv
  have Q1 := HQ.out.tch hst.2 (by omega)
  have P1 := HP.out.tch hst.2 (by omega)
  have q0 : w1.cell? ⟨q, 0, none⟩ = some (.bool o) := Q1.cell 0
  have q1 := Q1.free 0
  have HV := hid hv2
  have HS := hid hst
  clear hv hv2 hst
  go_wp2
  go_ret
  have hT : Tch (fun x => x = g ∨ x = q) w (w1.setCell ⟨q, 0, none⟩ (.bool z)) := (HS.out.2.mono fun b _ e => .inl e).setCell (fun _ => .inr rfl) _
  refine ⟨_, rfl, ?_, ⟨Blk.far HS.out.1.blk (by dsimp only; omega) _, rBytes.mono (rBytes.keep HD.out fun x hx => hT.block x hx.1 hx.2) fun x hx => ⟨Nat.lt_of_lt_of_le hx.1 hT.size, fun e => hx.2 (.inl e)⟩, HS.out.1.ok⟩, hT, Blk.far P1 (by dsimp only; omega) _, Q1.set 0 _⟩
  refine rBytes.mono (rBytes.keep HV.out fun x hx => Below.heap_setCell _ _ _ _ (by have := hx.1; dsimp only; omega)) fun x hx => ⟨hx.1, by simpa using hx.2⟩

set_option maxRecDepth 100000 in
set_option maxHeartbeats 3200000 in
theorem body_readS (w : World) {g : Nat} {B : List UInt8} {a : Option Addr} {s : Rs} (h : RdAt w g B a s) (hB : B.length ≤ 1000000000) (k : Int) :
    Calls Tryz.prog 39 #[.pointer (some ⟨g, 0, none⟩), .int .i64 k] w fun r w' => ∃ v1 v2 v3 v4, r = .returned (.agg (bodCells (s.body B (blkS B) k).2.1 v1 v2 v3 v4)) ∧ (rU64s.r (Fresh w w') w' [v1] (s.body B (blkS B) k).2.1.streams ∧ rLinks.r (Fresh w w') w' [v2] (s.body B (blkS B) k).2.1.links ∧ rBytes.r (Fresh w w') w' [v3] (s.body B (blkS B) k).2.1.data ∧ rStripes.r (Fresh w w') w' [v4] (s.body B (blkS B) k).2.1.proj.stripes) ∧ RdStep w g B a (s.body B (blkS B) k).1 w' := by
  have hlt := h.blk.lt
  have HIN := hid (RdInv.refl h)
  clear h
  generalize hZ : s.body B (blkS B) k = Z
  have HZ := hid hZ
  clear hZ
  obtain ⟨s1, m, q⟩ := Z
  dsimp only at *
  go_enter Tryz.func39, Tryz.ntmps39
  go_wp2_with fail
  have hbw : Below w.heap.size w ((w.alloc (.cells #[.pointer (some ⟨g, 0, none⟩)] 52)).alloc (.cells #[.int .i64 0, .int .u64 0, .int .u64 0, .int .u64 0, .int .i64 0, .int .i64 0, .slice none 0 0, .slice none 0 0, .slice none 0 0, .int .u64 0, .int .u64 0, .int .u64 0, .int .u64 0, .slice none 0 0] 32)) := by (repeat (first | with_reducible exact Below.refl _ _ | with_reducible assumption | (with_reducible refine below_alloc ?_ _) | (with_reducible refine Below.setCell ?_ (by first | omega | (simp; done) | (simp; omega)) _) | (with_reducible refine Below.drew ?_) | (with_reducible refine below_drewN ?_ _) | (refine below_then (by with_reducible assumption) ?_)))
  have R0 : Blk ((w.alloc (.cells #[.pointer (some ⟨g, 0, none⟩)] 52)).alloc (.cells #[.int .i64 0, .int .u64 0, .int .u64 0, .int .u64 0, .int .i64 0, .int .i64 0, .slice none 0 0, .slice none 0 0, .slice none 0 0, .int .u64 0, .int .u64 0, .int .u64 0, .int .u64 0, .slice none 0 0] 32)) (w.heap.size + 1) 32 zeroCells := by (repeat (first | assumption | exact Blk.newAt _ _ _ (by first | (simp; done) | (simp; omega)) | refine Blk.alloc ?_ _ | refine Blk.drew ?_ | refine Blk.drewN ?_ _ | refine Blk.far ?_ (by first | (simp; done) | (simp; omega)) _))
  have P0 : Blk ((w.alloc (.cells #[.pointer (some ⟨g, 0, none⟩)] 52)).alloc (.cells #[.int .i64 0, .int .u64 0, .int .u64 0, .int .u64 0, .int .i64 0, .int .i64 0, .slice none 0 0, .slice none 0 0, .slice none 0 0, .int .u64 0, .int .u64 0, .int .u64 0, .int .u64 0, .slice none 0 0] 32)) w.heap.size 52 #[.pointer (some ⟨g, 0, none⟩)] := by (repeat (first | assumption | exact Blk.newAt _ _ _ (by first | (simp; done) | (simp; omega)) | refine Blk.alloc ?_ _ | refine Blk.drew ?_ | refine Blk.drewN ?_ _ | refine Blk.far ?_ (by first | (simp; done) | (simp; omega)) _))
  have HIN0 := hid (HIN.out.row hbw)
  have hsz : (((w.alloc (.cells #[.pointer (some ⟨g, 0, none⟩)] 52)).alloc (.cells #[.int .i64 0, .int .u64 0, .int .u64 0, .int .u64 0, .int .i64 0, .int .i64 0, .slice none 0 0, .slice none 0 0, .slice none 0 0, .int .u64 0, .int .u64 0, .int .u64 0, .int .u64 0, .slice none 0 0] 32))).heap.size = w.heap.size + 2 := by simp
  have HBW := hid hbw
  clear hbw
  generalize ((w.alloc (.cells #[.pointer (some ⟨g, 0, none⟩)] 52)).alloc (.cells #[.int .i64 0, .int .u64 0, .int .u64 0, .int .u64 0, .int .i64 0, .int .i64 0, .slice none 0 0, .slice none 0 0, .slice none 0 0, .int .u64 0, .int .u64 0, .int .u64 0, .int .u64 0, .slice none 0 0] 32)) = W at *
  have hU : UnblockB W g B a 116 #[.pointer (some ⟨w.heap.size, 0, none⟩)] (blkS B) (· = g) (fun V _ => Blk V w.heap.size 52 #[.pointer (some ⟨g, 0, none⟩)]) := {
    lt := fun b e => by omega
    own := rfl
    st := fun V V' q hv hs ht => Blk.tch hv ht (by omega)
    call := fun V t q0 hV hX hs ht => (body_read1 V hV hB hX).mono fun r V' ⟨v, h1, h2, h3⟩ => ⟨v, h1, h2, h3.1, h3.2, Blk.tch hX h3.2 (by omega)⟩
    size := blkS_len
    dat := HIN0.out.rd.dat
    bad := fun t ht => blkS_badm t ht
    ent := fun xs V => by go_simp }
  have hC := body_read_gen W HIN0.out.rd hB k _ _ _ _ _ hU P0
  rw [HZ.out] at hC
  dsimp only [bodCells] at hC
  have HC := hid hC
  clear hU P0 hC
  refine HC.out.mono ?_
  rintro r w1 ⟨v1, v2, v3, v4, q1, rfl, hrows, hrd, ht, _, _⟩
  have HRW := hid hrows
  obtain ⟨h1, h2, h3, h4⟩ := hrows
  obtain ⟨a1, c1, hfv, _, _⟩ := sl_form h1
  simp only [List.cons.injEq, and_true] at hfv
  subst hfv
  obtain ⟨a2, c2, hfv, _, _⟩ := sl_form h2
  simp only [List.cons.injEq, and_true] at hfv
  subst hfv
  obtain ⟨a3, c3, hfv, _, _⟩ := sl_form h3
  simp only [List.cons.injEq, and_true] at hfv
  subst hfv
  obtain ⟨a4, c4, hfv, _, _⟩ := sl_form h4
  simp only [List.cons.injEq, and_true] at hfv
  subst hfv
  have R1 := R0.tch ht (by omega)
  have hs1 := ht.size
  have HIN1 := hid (HIN0.out.step ⟨hrd, ht⟩)
  obtain ⟨x0, x1, x2, x3, x4, x5, x6, x7, x8, x9, x10, x11, x12, x13, l1⟩ := mm_blk R1
  obtain ⟨f0, f1, f2, f3, f4, f5, f6, f7, f8, f9, f10, f11, f12, f13⟩ := m_free R1
  clear h1 h2 h3 h4 hrd ht R0
  go_wp2_with fail
  have hput := msg_put (W := w1) (m := m) (v1 := .slice a1 m.streams.length c1) (v2 := .slice a2 m.links.length c2) (v3 := .slice a3 m.data.length c3) (v4 := .slice a4 m.proj.stripes.length c4) (cs := #[]) R1
  refine post_world (fun W => Blk W (w.heap.size + 1) 32 (bodCells m (.slice a1 m.streams.length c1) (.slice a2 m.links.length c2) (.slice a3 m.data.length c3) (.slice a4 m.proj.stripes.length c4)) ∧ Tch (· = w.heap.size + 1) w1 W) ⟨hput, tch14⟩ ?_
  intro W5 ⟨q5, ht5⟩
  obtain ⟨n0, n1, n2, n3, n4, n5, n6, n7, n8, n9, n10, n11, n12, n13, ln⟩ := mm_blk q5
  have hz5 := ht5.size
  have hbF : Below w.heap.size w1 W5 := ht5.to_below (by omega) fun b _ e => by omega
  refine bodyPost_ret (v := .agg #[.int .i64 m.kind, .int .u64 m.epoch, .int .u64 m.seq, .int .u64 m.pos, .int .i64 m.count, .int .i64 m.state, .slice a1 m.streams.length c1, .slice a2 m.links.length c2, .slice a3 m.data.length c3, .int .u64 m.sea.epoch, .int .u64 m.sea.node, .int .u64 m.sea.tail, .int .u64 m.proj.epoch, .slice a4 m.proj.stripes.length c4]) (by simp [results, Tryz.results39, go_sem, n0, n1, n2, n3, n4, n5, n6, n7, n8, n9, n10, n11, n12, n13]) rfl ⟨_, _, _, _, rfl, rows_put (fun q hq => ht5.block q hq.2 (by have := hq.1; omega)) (fun q hq => ⟨by have := hq.1; omega, by have := hq.2; omega⟩) HRW.out, (HIN1.out.row hbF).to⟩

set_option maxRecDepth 100000 in
set_option maxHeartbeats 6400000 in
theorem body_readL (w : World) {g : Nat} {B : List UInt8} {a : Option Addr} {s : Rs} (h : RdAt w g B a s) (hB : B.length ≤ 1000000000) (k : Int) :
    Calls Tryz.prog 40 #[.pointer (some ⟨g, 0, none⟩), .int .i64 k] w fun r w' => ∃ v1 v2 v3 v4, r = .returned (.tuple #[.agg (bodCells (s.body B (blkL B) k).2.1 v1 v2 v3 v4), .bool (s.body B (blkL B) k).2.2]) ∧ (rU64s.r (Fresh w w') w' [v1] (s.body B (blkL B) k).2.1.streams ∧ rLinks.r (Fresh w w') w' [v2] (s.body B (blkL B) k).2.1.links ∧ rBytes.r (Fresh w w') w' [v3] (s.body B (blkL B) k).2.1.data ∧ rStripes.r (Fresh w w') w' [v4] (s.body B (blkL B) k).2.1.proj.stripes) ∧ RdStep w g B a (s.body B (blkL B) k).1 w' := by
  have hlt := h.blk.lt
  have HIN := hid (RdInv.refl h)
  clear h
  have hbad := Rs.body_none (B := B) (blk := blkL B) (k := k) (s := s)
  generalize hZ : s.body B (blkL B) k = Z at *
  have HZ := hid hZ
  clear hZ
  obtain ⟨s1, m, q⟩ := Z
  dsimp only at *
  have hq0 : s1.k ≠ 0 → q = false := fun hk => congrArg Prod.snd (hbad hk)
  clear hbad
  go_enter Tryz.func40, Tryz.ntmps40
  go_wp2_with fail
  have hbw : Below w.heap.size w (((w.alloc (.cells #[.pointer (some ⟨g, 0, none⟩)] 52)).alloc (.cells #[.int .i64 0, .int .u64 0, .int .u64 0, .int .u64 0, .int .i64 0, .int .i64 0, .slice none 0 0, .slice none 0 0, .slice none 0 0, .int .u64 0, .int .u64 0, .int .u64 0, .int .u64 0, .slice none 0 0] 32)).alloc (.cells #[.bool true] 4)) := by (repeat (first | with_reducible exact Below.refl _ _ | with_reducible assumption | (with_reducible refine below_alloc ?_ _) | (with_reducible refine Below.setCell ?_ (by first | omega | (simp; done) | (simp; omega)) _) | (with_reducible refine Below.drew ?_) | (with_reducible refine below_drewN ?_ _) | (refine below_then (by with_reducible assumption) ?_)))
  have R0 : Blk (((w.alloc (.cells #[.pointer (some ⟨g, 0, none⟩)] 52)).alloc (.cells #[.int .i64 0, .int .u64 0, .int .u64 0, .int .u64 0, .int .i64 0, .int .i64 0, .slice none 0 0, .slice none 0 0, .slice none 0 0, .int .u64 0, .int .u64 0, .int .u64 0, .int .u64 0, .slice none 0 0] 32)).alloc (.cells #[.bool true] 4)) (w.heap.size + 1) 32 zeroCells := by (repeat (first | assumption | exact Blk.newAt _ _ _ (by first | (simp; done) | (simp; omega)) | refine Blk.alloc ?_ _ | refine Blk.drew ?_ | refine Blk.drewN ?_ _ | refine Blk.far ?_ (by first | (simp; done) | (simp; omega)) _))
  have P0 : Blk (((w.alloc (.cells #[.pointer (some ⟨g, 0, none⟩)] 52)).alloc (.cells #[.int .i64 0, .int .u64 0, .int .u64 0, .int .u64 0, .int .i64 0, .int .i64 0, .slice none 0 0, .slice none 0 0, .slice none 0 0, .int .u64 0, .int .u64 0, .int .u64 0, .int .u64 0, .slice none 0 0] 32)).alloc (.cells #[.bool true] 4)) w.heap.size 52 #[.pointer (some ⟨g, 0, none⟩)] := by (repeat (first | assumption | exact Blk.newAt _ _ _ (by first | (simp; done) | (simp; omega)) | refine Blk.alloc ?_ _ | refine Blk.drew ?_ | refine Blk.drewN ?_ _ | refine Blk.far ?_ (by first | (simp; done) | (simp; omega)) _))
  have Q0 : Blk (((w.alloc (.cells #[.pointer (some ⟨g, 0, none⟩)] 52)).alloc (.cells #[.int .i64 0, .int .u64 0, .int .u64 0, .int .u64 0, .int .i64 0, .int .i64 0, .slice none 0 0, .slice none 0 0, .slice none 0 0, .int .u64 0, .int .u64 0, .int .u64 0, .int .u64 0, .slice none 0 0] 32)).alloc (.cells #[.bool true] 4)) (w.heap.size + 1 + 1) 4 #[.bool true] := by (repeat (first | assumption | exact Blk.newAt _ _ _ (by first | (simp; done) | (simp; omega)) | refine Blk.alloc ?_ _ | refine Blk.drew ?_ | refine Blk.drewN ?_ _ | refine Blk.far ?_ (by first | (simp; done) | (simp; omega)) _))
  have HIN0 := hid (HIN.out.row hbw)
  have hsz : ((((w.alloc (.cells #[.pointer (some ⟨g, 0, none⟩)] 52)).alloc (.cells #[.int .i64 0, .int .u64 0, .int .u64 0, .int .u64 0, .int .i64 0, .int .i64 0, .slice none 0 0, .slice none 0 0, .slice none 0 0, .int .u64 0, .int .u64 0, .int .u64 0, .int .u64 0, .slice none 0 0] 32)).alloc (.cells #[.bool true] 4))).heap.size = w.heap.size + 3 := by simp
  have HBW := hid hbw
  clear hbw
  generalize (((w.alloc (.cells #[.pointer (some ⟨g, 0, none⟩)] 52)).alloc (.cells #[.int .i64 0, .int .u64 0, .int .u64 0, .int .u64 0, .int .i64 0, .int .i64 0, .slice none 0 0, .slice none 0 0, .slice none 0 0, .int .u64 0, .int .u64 0, .int .u64 0, .int .u64 0, .slice none 0 0] 32)).alloc (.cells #[.bool true] 4)) = W at *
  have hU : UnblockB W g B a 118 #[.pointer (some ⟨w.heap.size, 0, none⟩), .pointer (some ⟨w.heap.size + 1 + 1, 0, none⟩)] (blkL B) (fun x => x = g ∨ x = w.heap.size + 1 + 1) (fun V q => Blk V w.heap.size 52 #[.pointer (some ⟨g, 0, none⟩)] ∧ Blk V (w.heap.size + 1 + 1) 4 #[.bool q]) := by
    have hdat : rBytes.r (fun x => x < W.heap.size ∧ ¬ (x = g ∨ x = w.heap.size + 1 + 1)) W [.slice a B.length B.length] B := rBytes.mono HIN0.out.dat fun x hx => ⟨by omega, fun e => e.elim (fun e => hx.2 e) fun e => by omega⟩
    exact {
      lt := fun b e => by omega
      own := .inl rfl
      st := fun V V' q hv hs ht => ⟨Blk.tch hv.1 ht (by omega), Blk.tch hv.2 ht (by omega)⟩
      call := fun V t q0 hV hX hs ht => (body_readloose1 V hV hB hX.1 hX.2 (by omega) (rBytes.mono (rBytes.keep hdat fun x hx => ht.block x hx.1 hx.2) fun x hx => ⟨by omega, hx.2⟩)).mono fun r V' ⟨v, h1, h2, h3, h4, h5, h6⟩ => ⟨v, h1, h2, h3, h4, h5, h6⟩
      size := fun t => Rs.loose_len
      dat := hdat
      bad := fun t ht => blkL_badm t ht
      ent := fun xs V => by go_simp }
  have hC := body_read_gen W HIN0.out.rd hB k _ _ _ _ _ hU ⟨P0, Q0⟩
  rw [HZ.out] at hC
  dsimp only [bodCells] at hC
  have HC := hid hC
  clear hU P0 Q0 hC
  refine HC.out.mono ?_
  rintro r w1 ⟨v1, v2, v3, v4, q1, rfl, hrows, hrd, ht, ⟨P1, Q1⟩, hq1⟩
  (try dsimp only at hrd hq1 hrows)
  have HRW := hid hrows
  obtain ⟨h1, h2, h3, h4⟩ := hrows
  obtain ⟨a1, c1, hfv, _, _⟩ := sl_form h1
  simp only [List.cons.injEq, and_true] at hfv
  subst hfv
  obtain ⟨a2, c2, hfv, _, _⟩ := sl_form h2
  simp only [List.cons.injEq, and_true] at hfv
  subst hfv
  obtain ⟨a3, c3, hfv, _, _⟩ := sl_form h3
  simp only [List.cons.injEq, and_true] at hfv
  subst hfv
  obtain ⟨a4, c4, hfv, _, _⟩ := sl_form h4
  simp only [List.cons.injEq, and_true] at hfv
  subst hfv
  have R1 := R0.tch ht (by omega)
  have hs1 := ht.size
  have HRD := hid hrd
  have hTw : Tch (· = g) w w1 := (Tch.of_later (F := (· = g)) (HBW.out)).trans ht fun b hb e => by omega
  have HTW := hid hTw
  have lr := R1.lt; have lp := P1.lt; have lq := Q1.lt
  clear h1 h2 h3 h4 hrd ht hTw
  have SK := hid (fun (w' : World) (h0 : Blk w' w1.heap.size 32 #[.int .i64 m.kind, .int .u64 m.epoch, .int .u64 m.seq, .int .u64 m.pos, .int .i64 m.count, .int .i64 m.state, .slice a1 m.streams.length c1, .slice a2 m.links.length c2, .slice a3 m.data.length c3, .int .u64 m.sea.epoch, .int .u64 m.sea.node, .int .u64 m.sea.tail, .int .u64 m.proj.epoch, .slice a4 m.proj.stripes.length c4]) (h2 : Blk w' w.heap.size 52 #[.pointer (some ⟨g, 0, none⟩)]) (h3 : Blk w' (w.heap.size + 1 + 1) 4 #[.bool q1]) => (⟨h0.cell 0, h0.cell 1, h0.cell 2, h0.cell 3, h0.cell 4, h0.cell 5, h0.cell 6, h0.cell 7, h0.cell 8, h0.cell 9, h0.cell 10, h0.cell 11, h0.cell 12, h0.cell 13, h2.cell 0, h3.cell 0⟩ : w'.cell? ⟨w1.heap.size, 0, none⟩ = some (.int .i64 m.kind) ∧ w'.cell? ⟨w1.heap.size, 1, none⟩ = some (.int .u64 m.epoch) ∧ w'.cell? ⟨w1.heap.size, 2, none⟩ = some (.int .u64 m.seq) ∧ w'.cell? ⟨w1.heap.size, 3, none⟩ = some (.int .u64 m.pos) ∧ w'.cell? ⟨w1.heap.size, 4, none⟩ = some (.int .i64 m.count) ∧ w'.cell? ⟨w1.heap.size, 5, none⟩ = some (.int .i64 m.state) ∧ w'.cell? ⟨w1.heap.size, 6, none⟩ = some (.slice a1 m.streams.length c1) ∧ w'.cell? ⟨w1.heap.size, 7, none⟩ = some (.slice a2 m.links.length c2) ∧ w'.cell? ⟨w1.heap.size, 8, none⟩ = some (.slice a3 m.data.length c3) ∧ w'.cell? ⟨w1.heap.size, 9, none⟩ = some (.int .u64 m.sea.epoch) ∧ w'.cell? ⟨w1.heap.size, 10, none⟩ = some (.int .u64 m.sea.node) ∧ w'.cell? ⟨w1.heap.size, 11, none⟩ = some (.int .u64 m.sea.tail) ∧ w'.cell? ⟨w1.heap.size, 12, none⟩ = some (.int .u64 m.proj.epoch) ∧ w'.cell? ⟨w1.heap.size, 13, none⟩ = some (.slice a4 m.proj.stripes.length c4) ∧ w'.cell? ⟨w.heap.size, 0, none⟩ = some (.pointer (some ⟨g, 0, none⟩)) ∧ w'.cell? ⟨w.heap.size + 1 + 1, 0, none⟩ = some (.bool q1)))
  have E2 : Blk (w1.alloc (.cells #[.int .i64 m.kind, .int .u64 m.epoch, .int .u64 m.seq, .int .u64 m.pos, .int .i64 m.count, .int .i64 m.state, .slice a1 m.streams.length c1, .slice a2 m.links.length c2, .slice a3 m.data.length c3, .int .u64 m.sea.epoch, .int .u64 m.sea.node, .int .u64 m.sea.tail, .int .u64 m.proj.epoch, .slice a4 m.proj.stripes.length c4] 32)) w1.heap.size 32 #[.int .i64 m.kind, .int .u64 m.epoch, .int .u64 m.seq, .int .u64 m.pos, .int .i64 m.count, .int .i64 m.state, .slice a1 m.streams.length c1, .slice a2 m.links.length c2, .slice a3 m.data.length c3, .int .u64 m.sea.epoch, .int .u64 m.sea.node, .int .u64 m.sea.tail, .int .u64 m.proj.epoch, .slice a4 m.proj.stripes.length c4] := Blk.newAt _ _ _ rfl
  have P2 : Blk (w1.alloc (.cells #[.int .i64 m.kind, .int .u64 m.epoch, .int .u64 m.seq, .int .u64 m.pos, .int .i64 m.count, .int .i64 m.state, .slice a1 m.streams.length c1, .slice a2 m.links.length c2, .slice a3 m.data.length c3, .int .u64 m.sea.epoch, .int .u64 m.sea.node, .int .u64 m.sea.tail, .int .u64 m.proj.epoch, .slice a4 m.proj.stripes.length c4] 32)) w.heap.size 52 #[.pointer (some ⟨g, 0, none⟩)] := P1.alloc _
  have Q2 : Blk (w1.alloc (.cells #[.int .i64 m.kind, .int .u64 m.epoch, .int .u64 m.seq, .int .u64 m.pos, .int .i64 m.count, .int .i64 m.state, .slice a1 m.streams.length c1, .slice a2 m.links.length c2, .slice a3 m.data.length c3, .int .u64 m.sea.epoch, .int .u64 m.sea.node, .int .u64 m.sea.tail, .int .u64 m.proj.epoch, .slice a4 m.proj.stripes.length c4] 32)) (w.heap.size + 1 + 1) 4 #[.bool q1] := Q1.alloc _
  have R2 : Blk (w1.alloc (.cells #[.int .i64 m.kind, .int .u64 m.epoch, .int .u64 m.seq, .int .u64 m.pos, .int .i64 m.count, .int .i64 m.state, .slice a1 m.streams.length c1, .slice a2 m.links.length c2, .slice a3 m.data.length c3, .int .u64 m.sea.epoch, .int .u64 m.sea.node, .int .u64 m.sea.tail, .int .u64 m.proj.epoch, .slice a4 m.proj.stripes.length c4] 32)) (w.heap.size + 1) 32 zeroCells := R1.alloc _
  have hg1 : g < w1.heap.size := by omega
  have HRD2 := hid (HRD.out.later (show Below w1.heap.size w1 (w1.alloc (.cells #[.int .i64 m.kind, .int .u64 m.epoch, .int .u64 m.seq, .int .u64 m.pos, .int .i64 m.count, .int .i64 m.state, .slice a1 m.streams.length c1, .slice a2 m.links.length c2, .slice a3 m.data.length c3, .int .u64 m.sea.epoch, .int .u64 m.sea.node, .int .u64 m.sea.tail, .int .u64 m.proj.epoch, .slice a4 m.proj.stripes.length c4] 32)) from by (repeat (first | with_reducible exact Below.refl _ _ | with_reducible assumption | (with_reducible refine below_alloc ?_ _) | (with_reducible refine Below.setCell ?_ (by first | omega | (simp; done) | (simp; omega)) _) | (with_reducible refine Below.drew ?_) | (with_reducible refine below_drewN ?_ _) | (refine below_then (by with_reducible assumption) ?_)))))
  have HS2 := hid (SK.out (w1.alloc (.cells #[.int .i64 m.kind, .int .u64 m.epoch, .int .u64 m.seq, .int .u64 m.pos, .int .i64 m.count, .int .i64 m.state, .slice a1 m.streams.length c1, .slice a2 m.links.length c2, .slice a3 m.data.length c3, .int .u64 m.sea.epoch, .int .u64 m.sea.node, .int .u64 m.sea.tail, .int .u64 m.proj.epoch, .slice a4 m.proj.stripes.length c4] 32)) E2 P2 Q2)
  have HB12 := hid (show Below w1.heap.size w1 (w1.alloc (.cells #[.int .i64 m.kind, .int .u64 m.epoch, .int .u64 m.seq, .int .u64 m.pos, .int .i64 m.count, .int .i64 m.state, .slice a1 m.streams.length c1, .slice a2 m.links.length c2, .slice a3 m.data.length c3, .int .u64 m.sea.epoch, .int .u64 m.sea.node, .int .u64 m.sea.tail, .int .u64 m.proj.epoch, .slice a4 m.proj.stripes.length c4] 32)) from by (repeat (first | with_reducible exact Below.refl _ _ | with_reducible assumption | (with_reducible refine below_alloc ?_ _) | (with_reducible refine Below.setCell ?_ (by first | omega | (simp; done) | (simp; omega)) _) | (with_reducible refine Below.drew ?_) | (with_reducible refine below_drewN ?_ _) | (refine below_then (by with_reducible assumption) ?_))))
  have hz2 : (w1.alloc (.cells #[.int .i64 m.kind, .int .u64 m.epoch, .int .u64 m.seq, .int .u64 m.pos, .int .i64 m.count, .int .i64 m.state, .slice a1 m.streams.length c1, .slice a2 m.links.length c2, .slice a3 m.data.length c3, .int .u64 m.sea.epoch, .int .u64 m.sea.node, .int .u64 m.sea.tail, .int .u64 m.proj.epoch, .slice a4 m.proj.stripes.length c4] 32)).heap.size = w1.heap.size + 1 := by simp
  clear P1 Q1 R1 R0
  go_wp2_with fail
  generalize (w1.alloc (.cells #[.int .i64 m.kind, .int .u64 m.epoch, .int .u64 m.seq, .int .u64 m.pos, .int .i64 m.count, .int .i64 m.state, .slice a1 m.streams.length c1, .slice a2 m.links.length c2, .slice a3 m.data.length c3, .int .u64 m.sea.epoch, .int .u64 m.sea.node, .int .u64 m.sea.tail, .int .u64 m.proj.epoch, .slice a4 m.proj.stripes.length c4] 32)) = w2 at *
  cases q1
  · have hqf : q = false := by
      by_cases hk : s1.k = 0
      · exact (hq1 hk).symm
      · exact hq0 hk
    subst hqf
    clear hq1 hq0
    refine wp_region_held_drew (S := fun w' => w'.cell? ⟨w1.heap.size, 0, none⟩ = some (.int .i64 m.kind) ∧ w'.cell? ⟨w1.heap.size, 1, none⟩ = some (.int .u64 m.epoch) ∧ w'.cell? ⟨w1.heap.size, 2, none⟩ = some (.int .u64 m.seq) ∧ w'.cell? ⟨w1.heap.size, 3, none⟩ = some (.int .u64 m.pos) ∧ w'.cell? ⟨w1.heap.size, 4, none⟩ = some (.int .i64 m.count) ∧ w'.cell? ⟨w1.heap.size, 5, none⟩ = some (.int .i64 m.state) ∧ w'.cell? ⟨w1.heap.size, 6, none⟩ = some (.slice a1 m.streams.length c1) ∧ w'.cell? ⟨w1.heap.size, 7, none⟩ = some (.slice a2 m.links.length c2) ∧ w'.cell? ⟨w1.heap.size, 8, none⟩ = some (.slice a3 m.data.length c3) ∧ w'.cell? ⟨w1.heap.size, 9, none⟩ = some (.int .u64 m.sea.epoch) ∧ w'.cell? ⟨w1.heap.size, 10, none⟩ = some (.int .u64 m.sea.node) ∧ w'.cell? ⟨w1.heap.size, 11, none⟩ = some (.int .u64 m.sea.tail) ∧ w'.cell? ⟨w1.heap.size, 12, none⟩ = some (.int .u64 m.proj.epoch) ∧ w'.cell? ⟨w1.heap.size, 13, none⟩ = some (.slice a4 m.proj.stripes.length c4) ∧ w'.cell? ⟨w.heap.size, 0, none⟩ = some (.pointer (some ⟨g, 0, none⟩)) ∧ w'.cell? ⟨w.heap.size + 1 + 1, 0, none⟩ = some (.bool false)) (by kernel_rfl) HS2.out (fun hHeld => ?_)
    refine wpAnyH_take (i := 0) (oi := _) (v := ?_) rfl (by decide +kernel) (by decide +kernel) (by decide +kernel) (fun _ _ _ h => h) (Or.inl ⟨by rfl, ?_⟩) (by assumption) ?_
    rotate_left
    · (intro w hSw; (try dsimp only at hSw); go_simp <;> with_reducible rfl)
    (try simp only [Act.put, List.setIfInBounds_toArray, List.set_cons_zero, List.set_cons_succ])
    refine wpAnyH_take (i := 1) (oi := _) (v := ?_) rfl (by decide +kernel) (by decide +kernel) (by decide +kernel) (fun _ _ _ h => h) (Or.inl ⟨by rfl, ?_⟩) (by assumption) ?_
    rotate_left
    · (intro w hSw; (try dsimp only at hSw); go_simp <;> with_reducible rfl)
    (try simp only [Act.put, List.setIfInBounds_toArray, List.set_cons_zero, List.set_cons_succ])
    refine wpAnyH_take (i := 2) (oi := _) (v := ?_) rfl (by decide +kernel) (by decide +kernel) (by decide +kernel) (fun _ _ _ h => h) (Or.inl ⟨by rfl, ?_⟩) (by assumption) ?_
    rotate_left
    · (intro w hSw; (try dsimp only at hSw); go_simp <;> with_reducible rfl)
    (try simp only [Act.put, List.setIfInBounds_toArray, List.set_cons_zero, List.set_cons_succ])
    refine wpAnyH_take (i := 3) (oi := _) (v := undef) rfl (by decide +kernel) (by decide +kernel) (by decide +kernel) (fun _ _ _ h => h) (Or.inr ⟨by kernel_rfl, rfl⟩) (by assumption) ?_
    (try simp only [Act.put, List.setIfInBounds_toArray, List.set_cons_zero, List.set_cons_succ])
    refine wpAnyH_take (i := 4) (oi := _) (v := undef) rfl (by decide +kernel) (by decide +kernel) (by decide +kernel) (fun _ _ _ h => h) (Or.inr ⟨by kernel_rfl, rfl⟩) (by assumption) ?_
    (try simp only [Act.put, List.setIfInBounds_toArray, List.set_cons_zero, List.set_cons_succ])
    refine wpAnyH_take (i := 5) (oi := _) (v := ?_) rfl (by decide +kernel) (by decide +kernel) (by decide +kernel) (fun _ _ _ h => h) (Or.inl ⟨by kernel_rfl, ?_⟩) (by assumption) ?_
    rotate_left
    · (intro w hSw; (try dsimp only at hSw); go_simp <;> with_reducible rfl)
    (try simp only [Act.put, List.setIfInBounds_toArray, List.set_cons_zero, List.set_cons_succ])
    simp only [List.getElem_toArray, List.getElem_cons_zero, List.getElem_cons_succ, Act.put, List.setIfInBounds_toArray, List.set_cons_zero, List.set_cons_succ]
    obtain ⟨x0, x1, x2, x3, x4, x5, x6, x7, x8, x9, x10, x11, x12, x13, l1⟩ := mm_blk R2
    obtain ⟨f0, f1, f2, f3, f4, f5, f6, f7, f8, f9, f10, f11, f12, f13⟩ := m_free R2
    refine wpAnyH_ready (rs := [6]) (by decide +kernel) (by simp) ?_
    refine AllReadyH.cons (o := _) rfl (fun K hK => ?_) AllReadyH.nil
    go_simp
    refine hK.out _ _ ?_ (fun hHeld => ?_)
    · exact SK.out _ (by repeat (first | with_reducible assumption | with_reducible refine Blk.drew ?_ | with_reducible refine Blk.far ?_ (by dsimp only; omega) _)) (by repeat (first | with_reducible assumption | with_reducible refine Blk.drew ?_ | with_reducible refine Blk.far ?_ (by dsimp only; omega) _)) (by repeat (first | with_reducible assumption | with_reducible refine Blk.drew ?_ | with_reducible refine Blk.far ?_ (by dsimp only; omega) _))
    clear hK K
    (try simp only [Act.put, List.setIfInBounds_toArray, List.set_cons_zero, List.set_cons_succ])
    refine wpAnyH_take (i := 7) (oi := _) (v := ?_) rfl (by decide +kernel) (by decide +kernel) (by decide +kernel) (fun _ _ _ h => h) (Or.inl ⟨by rfl, ?_⟩) (by assumption) ?_
    rotate_left
    · (intro w hSw; (try dsimp only at hSw); go_simp <;> with_reducible rfl)
    (try simp only [Act.put, List.setIfInBounds_toArray, List.set_cons_zero, List.set_cons_succ])
    simp only [List.getElem_toArray, List.getElem_cons_zero, List.getElem_cons_succ, Act.put, List.setIfInBounds_toArray, List.set_cons_zero, List.set_cons_succ]
    refine wpAnyH_done (by kernel_rfl) ?_ _
    go_wp2_with fail
    have hput := msg_put (W := w2) (m := m) (v1 := .slice a1 m.streams.length c1) (v2 := .slice a2 m.links.length c2) (v3 := .slice a3 m.data.length c3) (v4 := .slice a4 m.proj.stripes.length c4) (cs := #[]) R2
    refine post_world (fun W => Blk W (w.heap.size + 1) 32 (bodCells m (.slice a1 m.streams.length c1) (.slice a2 m.links.length c2) (.slice a3 m.data.length c3) (.slice a4 m.proj.stripes.length c4)) ∧ Tch (· = w.heap.size + 1) w2 W) ⟨hput.drew, tch14.drew⟩ ?_
    intro W5 ⟨q5, ht5⟩
    obtain ⟨n0, n1, n2, n3, n4, n5, n6, n7, n8, n9, n10, n11, n12, n13, ln⟩ := mm_blk q5
    have hz5 := ht5.size
    have hb1X : Below w1.heap.size w1 w2 := HB12.out
    have hzX := hb1X.size
    have hbF : Below w.heap.size w1 W5 := (hb1X.mono (by omega)).trans (ht5.to_below (by omega) fun b _ e => by omega)
    have hdF := hbF.size
    refine bodyPost_ret (v := .tuple #[.agg #[.int .i64 m.kind, .int .u64 m.epoch, .int .u64 m.seq, .int .u64 m.pos, .int .i64 m.count, .int .i64 m.state, .slice a1 m.streams.length c1, .slice a2 m.links.length c2, .slice a3 m.data.length c3, .int .u64 m.sea.epoch, .int .u64 m.sea.node, .int .u64 m.sea.tail, .int .u64 m.proj.epoch, .slice a4 m.proj.stripes.length c4], .bool false]) (by simp [results, Tryz.results40, go_sem, n0, n1, n2, n3, n4, n5, n6, n7, n8, n9, n10, n11, n12, n13]) rfl ⟨_, _, _, _, rfl, rows_put (fun q hq => (ht5.block q (Nat.lt_of_lt_of_le hq.2 hzX) (by have := hq.1; omega)).trans (hb1X.block q hq.2)) (fun q hq => ⟨by have := hq.1; omega, by have := hq.2; omega⟩) HRW.out, ⟨HRD.out.blk.below hbF hlt, rBytes.mono (rBytes.keep HIN0.out.dat fun x hx => (hbF.block x hx.1).trans ((HTW.out.block x hx.1 hx.2).trans (HBW.out.block x hx.1).symm)) fun x hx => ⟨by omega, hx.2⟩, HRD.out.ok⟩, HTW.out.trans (Tch.of_below hbF) fun b hb hle => by omega⟩
  · have hqf : decide (s1.k = 0) = q := by
      by_cases hk : s1.k = 0
      · rw [decide_eq_true hk]; exact hq1 hk
      · rw [decide_eq_false hk]; exact (hq0 hk).symm
    have HG := hid (fun (V : World) (hV : RdAt V g B a s1) => (by have := rd_good V hV; rw [hqf] at this; exact this : Calls Tryz.prog 44 #[.pointer (some ⟨g, 0, none⟩)] V fun r w' => r = .returned (.bool q) ∧ Below V.heap.size V w'))
    have HRD3 := hid (HRD2.out.later (show Below _ w2 w2.drew from (Below.refl _ _).drew))
    clear hq1 hq0 hqf
    refine wp_region_held_drew (S := fun w' => w'.cell? ⟨w1.heap.size, 0, none⟩ = some (.int .i64 m.kind) ∧ w'.cell? ⟨w1.heap.size, 1, none⟩ = some (.int .u64 m.epoch) ∧ w'.cell? ⟨w1.heap.size, 2, none⟩ = some (.int .u64 m.seq) ∧ w'.cell? ⟨w1.heap.size, 3, none⟩ = some (.int .u64 m.pos) ∧ w'.cell? ⟨w1.heap.size, 4, none⟩ = some (.int .i64 m.count) ∧ w'.cell? ⟨w1.heap.size, 5, none⟩ = some (.int .i64 m.state) ∧ w'.cell? ⟨w1.heap.size, 6, none⟩ = some (.slice a1 m.streams.length c1) ∧ w'.cell? ⟨w1.heap.size, 7, none⟩ = some (.slice a2 m.links.length c2) ∧ w'.cell? ⟨w1.heap.size, 8, none⟩ = some (.slice a3 m.data.length c3) ∧ w'.cell? ⟨w1.heap.size, 9, none⟩ = some (.int .u64 m.sea.epoch) ∧ w'.cell? ⟨w1.heap.size, 10, none⟩ = some (.int .u64 m.sea.node) ∧ w'.cell? ⟨w1.heap.size, 11, none⟩ = some (.int .u64 m.sea.tail) ∧ w'.cell? ⟨w1.heap.size, 12, none⟩ = some (.int .u64 m.proj.epoch) ∧ w'.cell? ⟨w1.heap.size, 13, none⟩ = some (.slice a4 m.proj.stripes.length c4) ∧ w'.cell? ⟨w.heap.size, 0, none⟩ = some (.pointer (some ⟨g, 0, none⟩)) ∧ w'.cell? ⟨w.heap.size + 1 + 1, 0, none⟩ = some (.bool true)) (by kernel_rfl) HS2.out (fun hHeld => ?_)
    refine wpAnyH_take (i := 0) (oi := _) (v := ?_) rfl (by decide +kernel) (by decide +kernel) (by decide +kernel) (fun _ _ _ h => h) (Or.inl ⟨by rfl, ?_⟩) (by assumption) ?_
    rotate_left
    · (intro w hSw; (try dsimp only at hSw); go_simp <;> with_reducible rfl)
    (try simp only [Act.put, List.setIfInBounds_toArray, List.set_cons_zero, List.set_cons_succ])
    refine wpAnyH_take (i := 1) (oi := _) (v := ?_) rfl (by decide +kernel) (by decide +kernel) (by decide +kernel) (fun _ _ _ h => h) (Or.inl ⟨by rfl, ?_⟩) (by assumption) ?_
    rotate_left
    · (intro w hSw; (try dsimp only at hSw); go_simp <;> with_reducible rfl)
    (try simp only [Act.put, List.setIfInBounds_toArray, List.set_cons_zero, List.set_cons_succ])
    refine wpAnyH_take (i := 2) (oi := _) (v := ?_) rfl (by decide +kernel) (by decide +kernel) (by decide +kernel) (fun _ _ _ h => h) (Or.inl ⟨by rfl, ?_⟩) (by assumption) ?_
    rotate_left
    · (intro w hSw; (try dsimp only at hSw); go_simp <;> with_reducible rfl)
    (try simp only [Act.put, List.setIfInBounds_toArray, List.set_cons_zero, List.set_cons_succ])
    refine wpAnyH_take (i := 3) (oi := _) (v := ?_) rfl (by decide +kernel) (by decide +kernel) (by decide +kernel) (fun _ _ _ h => h) (Or.inl ⟨by kernel_rfl, ?_⟩) (by assumption) ?_
    rotate_left
    · (intro w hSw; (try dsimp only at hSw); go_simp <;> with_reducible rfl)
    (try simp only [Act.put, List.setIfInBounds_toArray, List.set_cons_zero, List.set_cons_succ])
    simp only [List.getElem_toArray, List.getElem_cons_zero, List.getElem_cons_succ, Act.put, List.setIfInBounds_toArray, List.set_cons_zero, List.set_cons_succ]
    refine wpAnyH_ready (rs := [4]) (by decide +kernel) (by simp) ?_
    refine AllReadyH.cons (o := _) rfl (fun K hK => ?_) AllReadyH.nil
    (go_simp; go_at_call 44; refine (HG.out _ HRD3.out).mono ?_; rintro e1 w7 ⟨rfl, hb7⟩; have E7 := E2.drew.later hb7; have P7 := P2.drew.later hb7; have Q7 := Q2.drew.later hb7; have R7 := R2.drew.later hb7; have HB7 := hid hb7; have hs7 : w1.heap.size + 1 ≤ w7.heap.size := (by have := hb7.size; simp at this; omega); obtain ⟨x0, x1, x2, x3, x4, x5, x6, x7, x8, x9, x10, x11, x12, x13, l1⟩ := mm_blk R7; obtain ⟨f0, f1, f2, f3, f4, f5, f6, f7, f8, f9, f10, f11, f12, f13⟩ := m_free R7; clear E2 P2 Q2 R2 hb7; (try dsimp only))
    refine hK.out _ _ ?_ (fun hHeld => ?_)
    · exact SK.out _ (by repeat (first | with_reducible assumption | with_reducible refine Blk.drew ?_ | with_reducible refine Blk.far ?_ (by dsimp only; omega) _)) (by repeat (first | with_reducible assumption | with_reducible refine Blk.drew ?_ | with_reducible refine Blk.far ?_ (by dsimp only; omega) _)) (by repeat (first | with_reducible assumption | with_reducible refine Blk.drew ?_ | with_reducible refine Blk.far ?_ (by dsimp only; omega) _))
    clear hK K
    (try simp only [Act.put, List.setIfInBounds_toArray, List.set_cons_zero, List.set_cons_succ])
    refine wpAnyH_take (i := 5) (oi := _) (v := ?_) rfl (by decide +kernel) (by decide +kernel) (by decide +kernel) (fun _ _ _ h => h) (Or.inl ⟨by kernel_rfl, ?_⟩) (by assumption) ?_
    rotate_left
    · (intro w hSw; (try dsimp only at hSw); go_simp <;> with_reducible rfl)
    (try simp only [Act.put, List.setIfInBounds_toArray, List.set_cons_zero, List.set_cons_succ])
    simp only [List.getElem_toArray, List.getElem_cons_zero, List.getElem_cons_succ, Act.put, List.setIfInBounds_toArray, List.set_cons_zero, List.set_cons_succ]
    refine wpAnyH_ready (rs := [6]) (by decide +kernel) (by simp) ?_
    refine AllReadyH.cons (o := _) rfl (fun K hK => ?_) AllReadyH.nil
    go_simp
    refine hK.out _ _ ?_ (fun hHeld => ?_)
    · exact SK.out _ (by repeat (first | with_reducible assumption | with_reducible refine Blk.drew ?_ | with_reducible refine Blk.far ?_ (by dsimp only; omega) _)) (by repeat (first | with_reducible assumption | with_reducible refine Blk.drew ?_ | with_reducible refine Blk.far ?_ (by dsimp only; omega) _)) (by repeat (first | with_reducible assumption | with_reducible refine Blk.drew ?_ | with_reducible refine Blk.far ?_ (by dsimp only; omega) _))
    clear hK K
    (try simp only [Act.put, List.setIfInBounds_toArray, List.set_cons_zero, List.set_cons_succ])
    refine wpAnyH_take (i := 7) (oi := _) (v := ?_) rfl (by decide +kernel) (by decide +kernel) (by decide +kernel) (fun _ _ _ h => h) (Or.inl ⟨by rfl, ?_⟩) (by assumption) ?_
    rotate_left
    · (intro w hSw; (try dsimp only at hSw); go_simp <;> with_reducible rfl)
    (try simp only [Act.put, List.setIfInBounds_toArray, List.set_cons_zero, List.set_cons_succ])
    simp only [List.getElem_toArray, List.getElem_cons_zero, List.getElem_cons_succ, Act.put, List.setIfInBounds_toArray, List.set_cons_zero, List.set_cons_succ]
    refine wpAnyH_done (by kernel_rfl) ?_ _
    go_wp2_with fail
    have hput := msg_put (W := w7) (m := m) (v1 := .slice a1 m.streams.length c1) (v2 := .slice a2 m.links.length c2) (v3 := .slice a3 m.data.length c3) (v4 := .slice a4 m.proj.stripes.length c4) (cs := #[]) R7
    refine post_world (fun W => Blk W (w.heap.size + 1) 32 (bodCells m (.slice a1 m.streams.length c1) (.slice a2 m.links.length c2) (.slice a3 m.data.length c3) (.slice a4 m.proj.stripes.length c4)) ∧ Tch (· = w.heap.size + 1) w7 W) ⟨hput, tch14⟩ ?_
    intro W5 ⟨q5, ht5⟩
    obtain ⟨n0, n1, n2, n3, n4, n5, n6, n7, n8, n9, n10, n11, n12, n13, ln⟩ := mm_blk q5
    have hz5 := ht5.size
    have hb1X : Below w1.heap.size w1 w7 := (HB12.out.drew).trans (HB7.out.mono (by simp; omega))
    have hzX := hb1X.size
    have hbF : Below w.heap.size w1 W5 := (hb1X.mono (by omega)).trans (ht5.to_below (by omega) fun b _ e => by omega)
    have hdF := hbF.size
    refine bodyPost_ret (v := .tuple #[.agg #[.int .i64 m.kind, .int .u64 m.epoch, .int .u64 m.seq, .int .u64 m.pos, .int .i64 m.count, .int .i64 m.state, .slice a1 m.streams.length c1, .slice a2 m.links.length c2, .slice a3 m.data.length c3, .int .u64 m.sea.epoch, .int .u64 m.sea.node, .int .u64 m.sea.tail, .int .u64 m.proj.epoch, .slice a4 m.proj.stripes.length c4], .bool q]) (by simp [results, Tryz.results40, go_sem, n0, n1, n2, n3, n4, n5, n6, n7, n8, n9, n10, n11, n12, n13]) rfl ⟨_, _, _, _, rfl, rows_put (fun q hq => (ht5.block q (Nat.lt_of_lt_of_le hq.2 hzX) (by have := hq.1; omega)).trans (hb1X.block q hq.2)) (fun q hq => ⟨by have := hq.1; omega, by have := hq.2; omega⟩) HRW.out, ⟨HRD.out.blk.below hbF hlt, rBytes.mono (rBytes.keep HIN0.out.dat fun x hx => (hbF.block x hx.1).trans ((HTW.out.block x hx.1 hx.2).trans (HBW.out.block x hx.1).symm)) fun x hx => ⟨by omega, hx.2⟩, HRD.out.ok⟩, HTW.out.trans (Tch.of_below hbF) fun b hb hle => by omega⟩
end Go.Proofs.YtlbffbkbkajciaaGreat
namespace Go.Proofs.YtlbffbkbkajciaaGreat
open Go.RowKit Go.Bs Go.Maps
set_option linter.unusedVariables false
set_option linter.unusedSimpArgs false

/-- What stands at the last test of the document's Loose. -/
structure LInv (w W : World) (B : List UInt8) (a : Option Addr) (c : Nat) (s sf : Rs) (ge : Nat) (D : List UInt8) (aD : Option Addr) (cD : Nat) : Prop where
  b0 : Blk W w.heap.size 60 #[.slice a B.length c, .int .i64 (s.p : Int), .int .i64 s.k, .int .i64 s.f]
  b1 : Blk W (w.heap.size + 1) 60 #[.slice none 0 0, .int .i64 0, .int .i64 0, .int .i64 0]
  be : Blk W ge 60 #[.slice a B.length c, .int .i64 (sf.p : Int), .int .i64 sf.k, .int .i64 sf.f]
  lo : w.heap.size + 1 < ge
  dat : rBytes.r (fun q => ge < q ∧ q < W.heap.size) W [.slice aD D.length cD] D
  bel : Below w.heap.size w W

theorem LInv.later {w V V' : World} {B : List UInt8} {a : Option Addr} {c : Nat} {s sf : Rs} {ge : Nat} {D : List UInt8} {aD : Option Addr} {cD : Nat} (h : LInv w V B a c s sf ge D aD cD) (hb : Below V.heap.size V V') : LInv w V' B a c s sf ge D aD cD :=
  ⟨h.b0.later hb, h.b1.later hb, h.be.later hb, h.lo, rBytes.mono (rBytes.keep h.dat fun q hq => hb.block q hq.2) fun q hq => ⟨hq.1, Nat.lt_of_lt_of_le hq.2 hb.size⟩, below_then hb h.bel⟩
theorem LInv.data {w V : World} {B : List UInt8} {a : Option Addr} {c : Nat} {s sf : Rs} {ge : Nat} {D D' : List UInt8} {aD aD' : Option Addr} {cD cD' : Nat} (h : LInv w V B a c s sf ge D aD cD) (hd : rBytes.r (fun q => ge < q ∧ q < V.heap.size) V [.slice aD' D'.length cD'] D') : LInv w V B a c s sf ge D' aD' cD' :=
  ⟨h.b0, h.b1, h.be, h.lo, hd, h.bel⟩
theorem LInv.set {w V : World} {B : List UInt8} {a : Option Addr} {c : Nat} {s sf : Rs} {ge : Nat} {D : List UInt8} {aD : Option Addr} {cD : Nat} (h : LInv w V B a c s sf ge D aD cD) (t : Rs) :
    LInv w ((((V.setCell ⟨ge, 0, none⟩ (.slice a B.length c)).setCell ⟨ge, 1, none⟩ (.int .i64 (t.p : Int))).setCell ⟨ge, 2, none⟩ (.int .i64 t.k)).setCell ⟨ge, 3, none⟩ (.int .i64 t.f)) B a c s t ge D aD cD := by
  have hlo := h.lo
  refine ⟨?_, ?_, ?_, hlo, ?_, ?_⟩
  · exact Blk.far (Blk.far (Blk.far (Blk.far h.b0 (by dsimp only; omega) _) (by dsimp only; omega) _) (by dsimp only; omega) _) (by dsimp only; omega) _
  · exact Blk.far (Blk.far (Blk.far (Blk.far h.b1 (by dsimp only; omega) _) (by dsimp only; omega) _) (by dsimp only; omega) _) (by dsimp only; omega) _
  · exact Blk.set (Blk.set (Blk.set (Blk.set h.be 0 _) 1 _) 2 _) 3 _
  · refine rBytes.mono (rBytes.keep h.dat fun q hq => ?_) fun q hq => ⟨hq.1, by have := hq.2; simp [World.setCell]; omega⟩
    have hq1 := hq.1
    repeat (rw [Below.heap_setCell _ _ _ _ (by dsimp only; omega)])
  · have hb := h.bel
    (repeat (first | with_reducible exact Below.refl _ _ | with_reducible assumption | (with_reducible refine below_alloc ?_ _) | (with_reducible refine Below.setCell ?_ (by first | omega | (simp; done) | (simp; omega)) _) | (with_reducible refine Below.drew ?_) | (with_reducible refine below_drewN ?_ _) | (refine below_then (by with_reducible assumption) ?_)))

end Go.Proofs.YtlbffbkbkajciaaGreat
namespace Go.Proofs.YtlbffbkbkajciaaGreat
open Go.RowKit Go.Bs Go.Maps
set_option linter.unusedVariables false
set_option linter.unusedSimpArgs false

/-- The document's body as far as it is read. -/
structure RefI (w : World) (B : List UInt8) (a : Option Addr) (c : Nat) (m : Msg) (v1 v2 v3 v4 : Value) (s : Rs) (W : World) : Prop where
  d : Blk W w.heap.size 60 #[.slice a B.length c, .int .i64 (s.p : Int), .int .i64 s.k, .int .i64 s.f]
  r6 : Blk W (w.heap.size + 1) 60 #[.slice none 0 0, .int .i64 0, .int .i64 0, .int .i64 0]
  r7 : Blk W (w.heap.size + 1 + 1) 32 zeroCells
  pm : Blk W (w.heap.size + 1 + 1 + 1) 32 (bodCells m v1 v2 v3 v4)
  ok : s.ok B.length
  bel : Below w.heap.size w W
  low : w.heap.size + 1 + 1 + 1 + 1 ≤ W.heap.size
  st : rU64s.r (fun b => w.heap.size + 1 + 1 + 1 + 1 ≤ b ∧ b < W.heap.size) W [v1] m.streams
  ln : rLinks.r (fun b => w.heap.size + 1 + 1 + 1 + 1 ≤ b ∧ b < W.heap.size) W [v2] m.links
  da : rBytes.r (fun b => w.heap.size + 1 + 1 + 1 + 1 ≤ b ∧ b < W.heap.size) W [v3] m.data
  sp : rStripes.r (fun b => w.heap.size + 1 + 1 + 1 + 1 ≤ b ∧ b < W.heap.size) W [v4] m.proj.stripes
theorem RefI.later {w : World} {B : List UInt8} {a : Option Addr} {c : Nat} {m : Msg} {v1 v2 v3 v4 : Value} {s : Rs} {W : World} (h : RefI w B a c m v1 v2 v3 v4 s W) {W' : World} (hb : Below W.heap.size W W') : RefI w B a c m v1 v2 v3 v4 s W' := by
  have hk : ∀ b, w.heap.size + 1 + 1 + 1 + 1 ≤ b ∧ b < W.heap.size → W'.heap[b]? = W.heap[b]? := fun b hb' => hb.block b hb'.2
  have hm : ∀ b, w.heap.size + 1 + 1 + 1 + 1 ≤ b ∧ b < W.heap.size → w.heap.size + 1 + 1 + 1 + 1 ≤ b ∧ b < W'.heap.size := fun b hb' => ⟨hb'.1, Nat.lt_of_lt_of_le hb'.2 hb.size⟩
  exact ⟨h.d.later hb, h.r6.later hb, h.r7.later hb, h.pm.later hb, h.ok, below_then hb h.bel, Nat.le_trans h.low hb.size, rU64s.mono (rU64s.keep h.st hk) hm, rLinks.mono (rLinks.keep h.ln hk) hm, rBytes.mono (rBytes.keep h.da hk) hm, rStripes.mono (rStripes.keep h.sp hk) hm⟩
theorem RefI.setM {w : World} {B : List UInt8} {a : Option Addr} {c : Nat} {m : Msg} {v1 v2 v3 v4 : Value} {s : Rs} {W : World} (h : RefI w B a c m v1 v2 v3 v4 s W) (i : Nat) (u : Value) {m' : Msg} {v1' v2' v3' v4' : Value} (hc : (bodCells m v1 v2 v3 v4).setIfInBounds i u = bodCells m' v1' v2' v3' v4')
    (h1 : rU64s.r (fun b => w.heap.size + 1 + 1 + 1 + 1 ≤ b ∧ b < W.heap.size) W [v1'] m'.streams) (h2 : rLinks.r (fun b => w.heap.size + 1 + 1 + 1 + 1 ≤ b ∧ b < W.heap.size) W [v2'] m'.links) (h3 : rBytes.r (fun b => w.heap.size + 1 + 1 + 1 + 1 ≤ b ∧ b < W.heap.size) W [v3'] m'.data) (h4 : rStripes.r (fun b => w.heap.size + 1 + 1 + 1 + 1 ≤ b ∧ b < W.heap.size) W [v4'] m'.proj.stripes) : RefI w B a c m' v1' v2' v3' v4' s (W.setCell ⟨w.heap.size + 1 + 1 + 1, i, none⟩ u) := by
  have hz : (W.setCell ⟨w.heap.size + 1 + 1 + 1, i, none⟩ u).heap.size = W.heap.size := size_set _ _ _
  have hk : ∀ b, w.heap.size + 1 + 1 + 1 + 1 ≤ b ∧ b < W.heap.size → (W.setCell ⟨w.heap.size + 1 + 1 + 1, i, none⟩ u).heap[b]? = W.heap[b]? := fun b hb => Below.heap_setCell _ _ _ _ (by have := hb.1; dsimp only; omega)
  have hm : ∀ b, w.heap.size + 1 + 1 + 1 + 1 ≤ b ∧ b < W.heap.size → w.heap.size + 1 + 1 + 1 + 1 ≤ b ∧ b < (W.setCell ⟨w.heap.size + 1 + 1 + 1, i, none⟩ u).heap.size := fun b hb => ⟨hb.1, by rw [hz]; exact hb.2⟩
  refine ⟨Blk.far h.d (by dsimp only; omega) _, Blk.far h.r6 (by dsimp only; omega) _, Blk.far h.r7 (by dsimp only; omega) _, ?_, h.ok, h.bel.setCell (by dsimp only; omega) _, by rw [hz]; exact h.low, rU64s.mono (rU64s.keep h1 hk) hm, rLinks.mono (rLinks.keep h2 hk) hm, rBytes.mono (rBytes.keep h3 hk) hm, rStripes.mono (rStripes.keep h4 hk) hm⟩
  rw [← hc]
  exact h.pm.set i u
end Go.Proofs.YtlbffbkbkajciaaGreat
namespace Go.Proofs.YtlbffbkbkajciaaGreat
open Go.RowKit Go.Bs Go.Maps
set_option linter.unusedVariables false
set_option linter.unusedSimpArgs false

theorem Rs.loose_bad2 {B : List UInt8} {s : Rs} {most : Int} (h : (s.loose B most).1.k ≠ 0) : (s.loose B most).2.1 = [] ∧ (s.loose B most).2.2 = false := by
  unfold Rs.loose at *
  by_cases h1 : ((s.int B (min most 1048576)).1.byte B).1.k = 0
  · rw [if_pos h1] at h ⊢
    by_cases h2 : ((s.int B (min most 1048576)).1.byte B).2.toNat = 0
    · rw [if_pos h2] at h ⊢
      by_cases h3 : (((s.int B (min most 1048576)).1.byte B).1.take B ((s.int B (min most 1048576)).2 : Int)).1.k = 0
      · rw [if_pos h3] at h; exact absurd h3 h
      · rw [if_neg h3]; exact ⟨rfl, rfl⟩
    · rw [if_neg h2] at h ⊢
      by_cases h4 : ((s.int B (min most 1048576)).1.byte B).2.toNat = 1
      · rw [if_pos h4] at h ⊢
        by_cases h3 : (((s.int B (min most 1048576)).1.byte B).1.unp B (s.int B (min most 1048576)).2).1.k = 0
        · rw [if_pos h3] at h; exact absurd h3 h
        · rw [if_neg h3]; exact ⟨rfl, rfl⟩
      · rw [if_neg h4]; exact ⟨rfl, rfl⟩
  · rw [if_neg h1]; exact ⟨rfl, rfl⟩
theorem Rs.loose_written2 {B : List UInt8} {s : Rs} {m : Int} (h : (s.loose B m).2.2 = true) : blockB (s.loose B m).2.1 = (B.drop s.p).take ((s.loose B m).1.p - s.p) := by
  unfold Rs.loose at *
  by_cases h1 : ((s.int B (min m 1048576)).1.byte B).1.k = 0
  · simp only [if_pos h1] at h ⊢
    by_cases h2 : ((s.int B (min m 1048576)).1.byte B).2.toNat = 0
    · simp only [if_pos h2] at h ⊢
      by_cases h3 : (((s.int B (min m 1048576)).1.byte B).1.take B ((s.int B (min m 1048576)).2 : Int)).1.k = 0
      · simp only [if_pos h3] at h ⊢
        exact of_decide_eq_true h
      · simp only [if_neg h3] at h; cases h
    · simp only [if_neg h2] at h ⊢
      by_cases h4 : ((s.int B (min m 1048576)).1.byte B).2.toNat = 1
      · simp only [if_pos h4] at h ⊢
        by_cases h3 : (((s.int B (min m 1048576)).1.byte B).1.unp B (s.int B (min m 1048576)).2).1.k = 0
        · simp only [if_pos h3] at h ⊢
          exact of_decide_eq_true h
        · simp only [if_neg h3] at h; cases h
      · simp only [if_neg h4] at h; cases h
  · simp only [if_neg h1] at h; cases h
/-- The strict reader and the loose one. -/
theorem blk_rel {B : List UInt8} (t : Rs) : ((blkS B t).1 = (blkL B t).1 ∧ (blkS B t).2.1 = (blkL B t).2.1 ∧ ((blkL B t).1.k = 0 → (blkL B t).2.2 = true)) ∨ ((blkS B t).1.k = 12 ∧ (blkL B t).1.k = 0 ∧ (blkL B t).2.2 = false) := by
  have hb := Rs.loose_bad2 (B := B) (s := t) (most := 1048576)
  unfold blkS blkL Rs.strict
  generalize t.loose B 1048576 = L at *
  obtain ⟨s, D, q⟩ := L
  dsimp only at *
  by_cases h : s.k = 0
  · rw [if_pos h]
    cases q
    · right
      refine ⟨?_, h, rfl⟩
      simp [Rs.fail, h]
    · left
      simp
  · rw [if_neg h]
    left
    exact ⟨rfl, (hb h).1.symm, fun e => absurd e h⟩
theorem blkS_k {B : List UInt8} (t : Rs) (h : (blkS B t).1.k = 0) : t.k = 0 := by
  by_cases hk : t.k = 0
  · exact hk
  · have : (blkS B t).1 = t := by
      unfold blkS
      rw [Rs.loose_of_bad hk]
      unfold Rs.strict
      rw [if_neg hk]
    rw [this] at h
    exact h
theorem blkL_k {B : List UInt8} (t : Rs) (h : (blkL B t).1.k = 0) : t.k = 0 := by
  by_cases hk : t.k = 0
  · exact hk
  · unfold blkL at h
    rw [Rs.loose_of_bad hk] at h
    exact h
/-- One of some bytes, a great one: whether or not. -/
theorem law25_great (w : World) (B : List UInt8) (a : Option Addr) (n c : Nat) (hl : rBytes.r (· < w.heap.size) w [.slice a n c] B) (hB : B.length ≤ 1000000000) :
    Calls Tryz.prog 37 #[.slice a n c] w fun r w' => ∃ q : Bool, r = .returned (.bool q) ∧ w = w' := by
  obtain ⟨rfl, hm, _, _⟩ := sl_len hl
  have HL := hid hl
  clear hl
  go_enter Tryz.func37, Tryz.ntmps37
  go_wp2
  go_loop [3] (fun i => ∃ k : Nat, k ≤ B.length ∧ i = .int .i64 k) (fun i => B.length + 1 - (intOf i).toNat)
  case atStart => exact ⟨0, Nat.zero_le _, rfl⟩
  case round =>
    obtain ⟨k, hk, rfl⟩ := hrel
    by_cases h1 : k + 1 < B.length
    · obtain ⟨b1, o1, hA1, hb1, hx1⟩ := byte_at HL.out (i := k) (by omega)
      obtain ⟨b2, o2, hA2, hb2, hx2⟩ := byte_at HL.out (i := k + 1) h1
      subst hA1
      simp only [Option.some.injEq, Addr.mk.injEq, and_true] at hA2
      obtain ⟨rfl, rfl⟩ := hA2
      have e1 : decide ((k : Int) + 1 < (B.length : Int)) = true := decide_eq_true (by omega)
      have i1 : (k : Int) < (B.length : Int) := by omega
      have i2 : (k : Int) + 1 < (B.length : Int) := by omega
      generalize B[k].toNat = x at *
      generalize B[k + 1].toNat = y at *
      by_cases c1 : 128 ≤ x
      · have d1 : decide ((128 : Int) ≤ (x : Int)) = true := decide_eq_true (by omega)
        have d1' : decide (128 ≤ x) = true := decide_eq_true c1
        by_cases c2 : 3 ≤ y
        · have d2 : decide ((3 : Int) ≤ (y : Int)) = true := decide_eq_true (by omega)
          have d2' : decide (3 ≤ y) = true := decide_eq_true c2
          go_wp2
          go_ret
          first | exact ⟨.inl rfl, rfl⟩ | exact ⟨.inr rfl, rfl⟩
        · have d2 : decide ((3 : Int) ≤ (y : Int)) = false := decide_eq_false (by omega)
          have d2' : decide (3 ≤ y) = false := decide_eq_false c2
          go_wp2
          go_round
          case rel => exact ⟨k + 1, by omega, by go_num⟩
          case measure => simp [intOf]; omega
      · have d1 : decide ((128 : Int) ≤ (x : Int)) = false := decide_eq_false (by omega)
        have d1' : decide (128 ≤ x) = false := decide_eq_false c1
        go_wp2
        go_round
        case rel => exact ⟨k + 1, by omega, by go_num⟩
        case measure => simp [intOf]; omega
    · have e1 : decide ((k : Int) + 1 < (B.length : Int)) = false := decide_eq_false (by omega)
      go_wp2
      go_ret
      first | exact ⟨.inl rfl, rfl⟩ | exact ⟨.inr rfl, rfl⟩
end Go.Proofs.YtlbffbkbkajciaaGreat
namespace Go.Proofs.YtlbffbkbkajciaaGreat
open Go.RowKit Go.Bs Go.Maps
set_option linter.unusedVariables false
set_option linter.unusedSimpArgs false

set_option maxRecDepth 100000 in
set_option maxHeartbeats 12800000 in
theorem ref28_same (m o : Msg) (a1 : Option Addr) (c1 : Nat) (a2 : Option Addr) (c2 : Nat) (a3 : Option Addr) (c3 : Nat) (a4 : Option Addr) (c4 : Nat) (b1 : Option Addr) (d1 : Nat) (b2 : Option Addr) (d2 : Nat) (b3 : Option Addr) (d3 : Nat) (b4 : Option Addr) (d4 : Nat) (w : World) (hm : MsgIn (· < w.heap.size) w m a1 c1 a2 c2 a3 c3 a4 c4) (ho : MsgIn (· < w.heap.size) w o b1 d1 b2 d2 b3 d3 b4 d4) :
    Calls Tryz.prog 22 #[.agg #[.int .i64 m.kind, .int .u64 m.epoch, .int .u64 m.seq, .int .u64 m.pos, .int .i64 m.count, .int .i64 m.state, .slice a1 m.streams.length c1, .slice a2 m.links.length c2, .slice a3 m.data.length c3, .int .u64 m.sea.epoch, .int .u64 m.sea.node, .int .u64 m.sea.tail, .int .u64 m.proj.epoch, .slice a4 m.proj.stripes.length c4], .agg #[.int .i64 o.kind, .int .u64 o.epoch, .int .u64 o.seq, .int .u64 o.pos, .int .i64 o.count, .int .i64 o.state, .slice b1 o.streams.length d1, .slice b2 o.links.length d2, .slice b3 o.data.length d3, .int .u64 o.sea.epoch, .int .u64 o.sea.node, .int .u64 o.sea.tail, .int .u64 o.proj.epoch, .slice b4 o.proj.stripes.length d4]] w fun r w' => r = .returned (.bool (decide (m = o))) ∧ Below w.heap.size w w' := by
  have E1 := hid (fun (W : World) (hW : Below w.heap.size w W) => same_u64s m.streams o.streams a1 b1 _ c1 _ d1 W (lift hm.streams hW) (lift ho.streams hW))
  have E2 := hid (fun (W : World) (hW : Below w.heap.size w W) => ref23_same m.links o.links a2 b2 _ c2 _ d2 W (lift hm.links hW) (lift ho.links hW))
  have E3 := hid (fun (W : World) (hW : Below w.heap.size w W) => same_bytes m.data o.data a3 b3 _ _ _ _ W (lift hm.data hW) (lift ho.data hW))
  have E4 := hid (fun (W : World) (hW : Below w.heap.size w W) => ref20_same m.proj o.proj a4 b4 _ c4 _ d4 W (lift hm.stripes hW) (lift ho.stripes hW))
  obtain ⟨kk, ep, sq, po, cn, st, SS, LS, DD, ⟨se, sn, tl⟩, ⟨pe, PL⟩⟩ := m
  obtain ⟨kko, epo, sqo, poo, cno, sto, SSo, LSo, DDo, ⟨seo, sno, tlo⟩, ⟨peo, PLo⟩⟩ := o
  dsimp only at *
  clear hm ho
  have hb0 : Below w.heap.size w ((w.alloc (.cells #[.int .i64 kk, .int .u64 ep, .int .u64 sq, .int .u64 po, .int .i64 cn, .int .i64 st, .slice a1 SS.length c1, .slice a2 LS.length c2, .slice a3 DD.length c3, .int .u64 se, .int .u64 sn, .int .u64 tl, .int .u64 pe, .slice a4 PL.length c4] 32)).alloc (.cells #[.int .i64 kko, .int .u64 epo, .int .u64 sqo, .int .u64 poo, .int .i64 cno, .int .i64 sto, .slice b1 SSo.length d1, .slice b2 LSo.length d2, .slice b3 DDo.length d3, .int .u64 seo, .int .u64 sno, .int .u64 tlo, .int .u64 peo, .slice b4 PLo.length d4] 32)) := by (repeat (first | exact Below.refl _ _ | assumption | (refine below_alloc ?_ _) | (refine Below.setCell ?_ (by first | omega | (simp; done) | (simp; omega)) _) | (refine Below.drew ?_) | (refine below_drewN ?_ _) | (refine below_then (by assumption) ?_)))
  have HBX : Hid (Blk ((w.alloc (.cells #[.int .i64 kk, .int .u64 ep, .int .u64 sq, .int .u64 po, .int .i64 cn, .int .i64 st, .slice a1 SS.length c1, .slice a2 LS.length c2, .slice a3 DD.length c3, .int .u64 se, .int .u64 sn, .int .u64 tl, .int .u64 pe, .slice a4 PL.length c4] 32)).alloc (.cells #[.int .i64 kko, .int .u64 epo, .int .u64 sqo, .int .u64 poo, .int .i64 cno, .int .i64 sto, .slice b1 SSo.length d1, .slice b2 LSo.length d2, .slice b3 DDo.length d3, .int .u64 seo, .int .u64 sno, .int .u64 tlo, .int .u64 peo, .slice b4 PLo.length d4] 32)) w.heap.size 32 #[.int .i64 kk, .int .u64 ep, .int .u64 sq, .int .u64 po, .int .i64 cn, .int .i64 st, .slice a1 SS.length c1, .slice a2 LS.length c2, .slice a3 DD.length c3, .int .u64 se, .int .u64 sn, .int .u64 tl, .int .u64 pe, .slice a4 PL.length c4]) := hid ((Blk.new w _ _).alloc _)
  have HBY : Hid (Blk ((w.alloc (.cells #[.int .i64 kk, .int .u64 ep, .int .u64 sq, .int .u64 po, .int .i64 cn, .int .i64 st, .slice a1 SS.length c1, .slice a2 LS.length c2, .slice a3 DD.length c3, .int .u64 se, .int .u64 sn, .int .u64 tl, .int .u64 pe, .slice a4 PL.length c4] 32)).alloc (.cells #[.int .i64 kko, .int .u64 epo, .int .u64 sqo, .int .u64 poo, .int .i64 cno, .int .i64 sto, .slice b1 SSo.length d1, .slice b2 LSo.length d2, .slice b3 DDo.length d3, .int .u64 seo, .int .u64 sno, .int .u64 tlo, .int .u64 peo, .slice b4 PLo.length d4] 32)) (w.heap.size + 1) 32 #[.int .i64 kko, .int .u64 epo, .int .u64 sqo, .int .u64 poo, .int .i64 cno, .int .i64 sto, .slice b1 SSo.length d1, .slice b2 LSo.length d2, .slice b3 DDo.length d3, .int .u64 seo, .int .u64 sno, .int .u64 tlo, .int .u64 peo, .slice b4 PLo.length d4]) := hid (Blk.new1 w _ _ _)
  by_cases h0 : kk = kko
  · have e0 : (kk != kko) = false := by simp [h0]
    by_cases h1 : ep = epo
    · have e1 : (ep != epo) = false := by simp [h1]
      by_cases h2 : sq = sqo
      · have e2 : (sq != sqo) = false := by simp [h2]
        by_cases h3 : po = poo
        · have e3 : (po != poo) = false := by simp [h3]
          by_cases h4 : cn = cno
          · have e4 : (cn != cno) = false := by simp [h4]
            by_cases h5 : st = sto
            · have e5 : (st != sto) = false := by simp [h5]
              by_cases h6 : se = seo
              · have e6 : (se == seo) = true := by simp [h6]
                by_cases h7 : sn = sno
                · have e7 : (sn == sno) = true := by simp [h7]
                  by_cases h8 : tl = tlo
                  · have e8 : (tl == tlo) = true := by simp [h8]
                    have hfull : Hid (decide ((⟨kk, ep, sq, po, cn, st, SS, LS, DD, ⟨se, sn, tl⟩, ⟨pe, PL⟩⟩ : Msg) = ⟨kko, epo, sqo, poo, cno, sto, SSo, LSo, DDo, ⟨seo, sno, tlo⟩, ⟨peo, PLo⟩⟩) = (decide (SS = SSo) && (decide (LS = LSo) && (decide (DD = DDo) && decide ((⟨pe, PL⟩ : Projn) = ⟨peo, PLo⟩))))) := hid (by rw [Bool.eq_iff_iff]; simp [h0, h1, h2, h3, h4, h5, h6, h7, h8])
                    clear h0 h1 h2 h3 h4 h5 h6 h7 h8
                    generalize decide ((⟨kk, ep, sq, po, cn, st, SS, LS, DD, ⟨se, sn, tl⟩, ⟨pe, PL⟩⟩ : Msg) = ⟨kko, epo, sqo, poo, cno, sto, SSo, LSo, DDo, ⟨seo, sno, tlo⟩, ⟨peo, PLo⟩⟩) = RR at *
                    generalize decide (SS = SSo) = Q1 at *
                    generalize decide (LS = LSo) = Q2 at *
                    generalize decide (DD = DDo) = Q3 at *
                    generalize decide ((⟨pe, PL⟩ : Projn) = ⟨peo, PLo⟩) = Q4 at *
                    go_enter Tryz.func22, Tryz.ntmps22
                    go_wp2_with fail
                    generalize ((w.alloc (.cells #[.int .i64 kk, .int .u64 ep, .int .u64 sq, .int .u64 po, .int .i64 cn, .int .i64 st, .slice a1 SS.length c1, .slice a2 LS.length c2, .slice a3 DD.length c3, .int .u64 se, .int .u64 sn, .int .u64 tl, .int .u64 pe, .slice a4 PL.length c4] 32)).alloc (.cells #[.int .i64 kko, .int .u64 epo, .int .u64 sqo, .int .u64 poo, .int .i64 cno, .int .i64 sto, .slice b1 SSo.length d1, .slice b2 LSo.length d2, .slice b3 DDo.length d3, .int .u64 seo, .int .u64 sno, .int .u64 tlo, .int .u64 peo, .slice b4 PLo.length d4] 32)) = w0 at *
                    refine (E1.out _ hb0).mono ?_
                    rintro r w1 ⟨rfl, hb1⟩
                    have hb01 := below_then hb1 hb0
                    have X1 := HBX.out.later hb1
                    have Y1 := HBY.out.later hb1
                    cases Q1
                    · have hfin : Hid (RR = false) := hid (by rw [hfull.out]; rfl)
                      go_wp2_with fail
                      go_ret
                      exact ⟨by rw [hfin.out]; rfl, hb01⟩
                    · have px7 : w1.cell? ⟨w.heap.size, 7, none⟩ = some (.slice a2 LS.length c2) := X1.cell 7
                      have py7 : w1.cell? ⟨w.heap.size + 1, 7, none⟩ = some (.slice b2 LSo.length d2) := Y1.cell 7
                      go_wp2_with fail
                      refine (E2.out _ hb01).mono ?_
                      rintro r w2 ⟨rfl, hb2⟩
                      have hb02 := below_then hb2 hb01
                      have X2 := X1.later hb2
                      have Y2 := Y1.later hb2
                      clear px7 py7
                      cases Q2
                      · have hfin : Hid (RR = false) := hid (by rw [hfull.out]; rfl)
                        go_wp2_with fail
                        go_ret
                        exact ⟨by rw [hfin.out]; rfl, hb02⟩
                      · have qx8 : w2.cell? ⟨w.heap.size, 8, none⟩ = some (.slice a3 DD.length c3) := X2.cell 8
                        have qy8 : w2.cell? ⟨w.heap.size + 1, 8, none⟩ = some (.slice b3 DDo.length d3) := Y2.cell 8
                        go_wp2_with fail
                        refine (E3.out _ hb02).mono ?_
                        rintro r w3 ⟨rfl, rfl⟩
                        cases Q3
                        · have hfin : Hid (RR = false) := hid (by rw [hfull.out]; rfl)
                          go_wp2_with fail
                          go_ret
                          exact ⟨by rw [hfin.out]; rfl, hb02⟩
                        · have hfin : Hid (RR = Q4) := hid (by rw [hfull.out]; rfl)
                          have rx12 : w2.cell? ⟨w.heap.size, 12, none⟩ = some (.int .u64 pe) := X2.cell 12
                          have ry12 : w2.cell? ⟨w.heap.size + 1, 12, none⟩ = some (.int .u64 peo) := Y2.cell 12
                          have rx13 : w2.cell? ⟨w.heap.size, 13, none⟩ = some (.slice a4 PL.length c4) := X2.cell 13
                          have ry13 : w2.cell? ⟨w.heap.size + 1, 13, none⟩ = some (.slice b4 PLo.length d4) := Y2.cell 13
                          go_wp2_with fail
                          refine (E4.out _ hb02).mono ?_
                          rintro r w4 ⟨rfl, hb4⟩
                          have hb04 := below_then hb4 hb02
                          go_wp2_with fail
                          go_ret
                          exact ⟨by rw [hfin.out]; rfl, hb04⟩
                  · have e8 : (tl == tlo) = false := by simpa using h8
                    have hfin : Hid (decide ((⟨kk, ep, sq, po, cn, st, SS, LS, DD, ⟨se, sn, tl⟩, ⟨pe, PL⟩⟩ : Msg) = ⟨kko, epo, sqo, poo, cno, sto, SSo, LSo, DDo, ⟨seo, sno, tlo⟩, ⟨peo, PLo⟩⟩) = false) := hid (by simp [h0, h1, h2, h3, h4, h5, h6, h7, h8])
                    clear h0 h1 h2 h3 h4 h5 h6 h7 h8
                    go_enter Tryz.func22, Tryz.ntmps22
                    go_wp2_with fail
                    go_ret
                    exact ⟨by rw [hfin.out]; rfl, hb0⟩
                · have e7 : (sn == sno) = false := by simpa using h7
                  have hfin : Hid (decide ((⟨kk, ep, sq, po, cn, st, SS, LS, DD, ⟨se, sn, tl⟩, ⟨pe, PL⟩⟩ : Msg) = ⟨kko, epo, sqo, poo, cno, sto, SSo, LSo, DDo, ⟨seo, sno, tlo⟩, ⟨peo, PLo⟩⟩) = false) := hid (by simp [h0, h1, h2, h3, h4, h5, h6, h7])
                  clear h0 h1 h2 h3 h4 h5 h6 h7
                  go_enter Tryz.func22, Tryz.ntmps22
                  go_wp2_with fail
                  go_ret
                  exact ⟨by rw [hfin.out]; rfl, hb0⟩
              · have e6 : (se == seo) = false := by simpa using h6
                have hfin : Hid (decide ((⟨kk, ep, sq, po, cn, st, SS, LS, DD, ⟨se, sn, tl⟩, ⟨pe, PL⟩⟩ : Msg) = ⟨kko, epo, sqo, poo, cno, sto, SSo, LSo, DDo, ⟨seo, sno, tlo⟩, ⟨peo, PLo⟩⟩) = false) := hid (by simp [h0, h1, h2, h3, h4, h5, h6])
                clear h0 h1 h2 h3 h4 h5 h6
                go_enter Tryz.func22, Tryz.ntmps22
                go_wp2_with fail
                go_ret
                exact ⟨by rw [hfin.out]; rfl, hb0⟩
            · have e5 : (st != sto) = true := by simpa using h5
              have hfin : Hid (decide ((⟨kk, ep, sq, po, cn, st, SS, LS, DD, ⟨se, sn, tl⟩, ⟨pe, PL⟩⟩ : Msg) = ⟨kko, epo, sqo, poo, cno, sto, SSo, LSo, DDo, ⟨seo, sno, tlo⟩, ⟨peo, PLo⟩⟩) = false) := hid (by simp [h0, h1, h2, h3, h4, h5])
              clear h0 h1 h2 h3 h4 h5
              go_enter Tryz.func22, Tryz.ntmps22
              go_wp2_with fail
              go_ret
              exact ⟨by rw [hfin.out]; rfl, hb0⟩
          · have e4 : (cn != cno) = true := by simpa using h4
            have hfin : Hid (decide ((⟨kk, ep, sq, po, cn, st, SS, LS, DD, ⟨se, sn, tl⟩, ⟨pe, PL⟩⟩ : Msg) = ⟨kko, epo, sqo, poo, cno, sto, SSo, LSo, DDo, ⟨seo, sno, tlo⟩, ⟨peo, PLo⟩⟩) = false) := hid (by simp [h0, h1, h2, h3, h4])
            clear h0 h1 h2 h3 h4
            go_enter Tryz.func22, Tryz.ntmps22
            go_wp2_with fail
            go_ret
            exact ⟨by rw [hfin.out]; rfl, hb0⟩
        · have e3 : (po != poo) = true := by simpa using h3
          have hfin : Hid (decide ((⟨kk, ep, sq, po, cn, st, SS, LS, DD, ⟨se, sn, tl⟩, ⟨pe, PL⟩⟩ : Msg) = ⟨kko, epo, sqo, poo, cno, sto, SSo, LSo, DDo, ⟨seo, sno, tlo⟩, ⟨peo, PLo⟩⟩) = false) := hid (by simp [h0, h1, h2, h3])
          clear h0 h1 h2 h3
          go_enter Tryz.func22, Tryz.ntmps22
          go_wp2_with fail
          go_ret
          exact ⟨by rw [hfin.out]; rfl, hb0⟩
      · have e2 : (sq != sqo) = true := by simpa using h2
        have hfin : Hid (decide ((⟨kk, ep, sq, po, cn, st, SS, LS, DD, ⟨se, sn, tl⟩, ⟨pe, PL⟩⟩ : Msg) = ⟨kko, epo, sqo, poo, cno, sto, SSo, LSo, DDo, ⟨seo, sno, tlo⟩, ⟨peo, PLo⟩⟩) = false) := hid (by simp [h0, h1, h2])
        clear h0 h1 h2
        go_enter Tryz.func22, Tryz.ntmps22
        go_wp2_with fail
        go_ret
        exact ⟨by rw [hfin.out]; rfl, hb0⟩
    · have e1 : (ep != epo) = true := by simpa using h1
      have hfin : Hid (decide ((⟨kk, ep, sq, po, cn, st, SS, LS, DD, ⟨se, sn, tl⟩, ⟨pe, PL⟩⟩ : Msg) = ⟨kko, epo, sqo, poo, cno, sto, SSo, LSo, DDo, ⟨seo, sno, tlo⟩, ⟨peo, PLo⟩⟩) = false) := hid (by simp [h0, h1])
      clear h0 h1
      go_enter Tryz.func22, Tryz.ntmps22
      go_wp2_with fail
      go_ret
      exact ⟨by rw [hfin.out]; rfl, hb0⟩
  · have e0 : (kk != kko) = true := by simpa using h0
    have hfin : Hid (decide ((⟨kk, ep, sq, po, cn, st, SS, LS, DD, ⟨se, sn, tl⟩, ⟨pe, PL⟩⟩ : Msg) = ⟨kko, epo, sqo, poo, cno, sto, SSo, LSo, DDo, ⟨seo, sno, tlo⟩, ⟨peo, PLo⟩⟩) = false) := hid (by simp [h0])
    clear h0
    go_enter Tryz.func22, Tryz.ntmps22
    go_wp2_with fail
    go_ret
    exact ⟨by rw [hfin.out]; rfl, hb0⟩

end Go.Proofs.YtlbffbkbkajciaaGreat
namespace Go.Proofs.YtlbffbkbkajciaaGreat
open Go.RowKit Go.Bs Go.Maps
set_option linter.unusedVariables false
set_option linter.unusedSimpArgs false

theorem part_all {α : Type} {h : Bool} {s : Rs} {f : Rs → Rs × α} {z : α} {P : α → Prop} (h1 : P (f s).2) (h2 : P z) : P (Rs.part h s f z).2 := by
  cases h
  · exact h2
  · exact h1
theorem Rs.ep_u {B : List UInt8} {s : Rs} : inU ((s.ep B).2 : Int) := by
  have := Rs.num_small (B := B) (s := s)
  unfold Rs.ep inU
  split
  · split
    · omega
    · simp
  · simp
theorem Rs.most_u {B : List UInt8} {s : Rs} {m : Nat} : inU ((s.most B m).2 : Int) := by
  have := Rs.num_small (B := B) (s := s)
  unfold Rs.most inU
  split
  · simp
  · omega
theorem Rs.tl_u {B : List UInt8} {s : Rs} : inU ((s.tl B).2 : Int) := by
  have := Rs.num_small (B := B) (s := s)
  unfold Rs.tl inU
  split
  · split
    · omega
    · simp
  · simp
theorem inU_zero : inU 0 := ⟨Int.le_refl _, by decide⟩
theorem inI_zero : inI 0 := ⟨by decide, by decide⟩
theorem Rs.seal_u {B : List UInt8} {s : Rs} : inU (s.seal_ B).2.epoch ∧ inU (s.seal_ B).2.node ∧ inU (s.seal_ B).2.tail := by
  unfold Rs.seal_
  dsimp only
  split
  · exact ⟨Rs.ep_u, Rs.most_u, Rs.tl_u⟩
  · exact ⟨inU_zero, inU_zero, inU_zero⟩
theorem Rs.proj_u {B : List UInt8} {s : Rs} : inU (s.proj_ B).2.epoch := by
  unfold Rs.proj_
  dsimp only
  split <;> split
  · exact Rs.ep_u
  · exact inU_zero
  · exact Rs.ep_u
  · exact inU_zero
theorem Rs.cnt_u {B : List UInt8} {s : Rs} : inI (s.cnt B).2 := by
  have h2 : (s.many B 65536).2 ≤ 65536 := Rs.many_le (m := 65536)
  unfold Rs.cnt inI
  dsimp only
  omega
theorem Rs.stt_u {B : List UInt8} {s : Rs} {k : Int} : inI (s.stt B k).2 := by
  have h2 : (s.byte B).2.toNat < 256 := (s.byte B).2.toNat_lt
  unfold Rs.stt inI
  dsimp only
  omega
/-- The bounds of the numbers that are read. -/
structure MsgB (m : Msg) : Prop where
  kind : inI m.kind
  epoch : inU m.epoch
  seq : inU m.seq
  pos : inU m.pos
  count : inI m.count
  state : inI m.state
  sealE : inU m.sea.epoch
  sealN : inU m.sea.node
  sealT : inU m.sea.tail
  projE : inU m.proj.epoch
theorem MsgB.none : MsgB noMsg := ⟨inI_zero, inU_zero, inU_zero, inU_zero, inI_zero, inI_zero, inU_zero, inU_zero, inU_zero, inU_zero⟩
theorem body_nums {B : List UInt8} {blk : Rs → Rs × List UInt8 × Bool} {k : Int} {s : Rs} (hk : inI k) : MsgB (s.body B blk k).2.1 := by
  unfold Rs.body Rs.ahead
  split
  · dsimp only
    split
    · exact ⟨hk, inU_zero, inU_zero, part_all (P := inU) Rs.pos_u inU_zero, part_all (P := inI) Rs.cnt_u inI_zero, part_all (P := inI) Rs.stt_u inI_zero, (part_all (P := fun z : Seal => inU z.epoch) Rs.seal_u.1 inU_zero), (part_all (P := fun z : Seal => inU z.node) Rs.seal_u.2.1 inU_zero), (part_all (P := fun z : Seal => inU z.tail) Rs.seal_u.2.2 inU_zero), (part_all (P := fun z : Projn => inU z.epoch) Rs.proj_u inU_zero)⟩
    · exact MsgB.none
  · exact MsgB.none
theorem MsgB.to {m : Msg} (h : MsgB m) {S : Nat → Prop} {W : World} {a1 : Option Addr} {c1 : Nat} {a2 : Option Addr} {c2 : Nat} {a3 : Option Addr} {c3 : Nat} {a4 : Option Addr} {c4 : Nat} (h1 : rU64s.r S W [.slice a1 m.streams.length c1] m.streams) (h2 : rLinks.r S W [.slice a2 m.links.length c2] m.links) (h3 : rBytes.r S W [.slice a3 m.data.length c3] m.data) (h4 : rStripes.r S W [.slice a4 m.proj.stripes.length c4] m.proj.stripes) :
    MsgIn S W m a1 c1 a2 c2 a3 c3 a4 c4 := ⟨h.kind, h.epoch, h.seq, h.pos, h.count, h.state, h.sealE, h.sealN, h.sealT, h.projE, h1, h2, h3, h4⟩

theorem bodyS (w : World) {g : Nat} {B : List UInt8} {a : Option Addr} {s s1 : Rs} {m : Msg} {q : Bool} (h : RdAt w g B a s) (hB : B.length ≤ 1000000000) (k : Int) (hk : inI k) (hZ : s.body B (blkS B) k = (s1, m, q)) :
    Calls Tryz.prog 39 #[.pointer (some ⟨g, 0, none⟩), .int .i64 k] w fun r w' => ∃ a1 a1' a2 a2' a3 a3' a4 a4', r = .returned (.agg #[.int .i64 m.kind, .int .u64 m.epoch, .int .u64 m.seq, .int .u64 m.pos, .int .i64 m.count, .int .i64 m.state, .slice a1 m.streams.length a1', .slice a2 m.links.length a2', .slice a3 m.data.length a3', .int .u64 m.sea.epoch, .int .u64 m.sea.node, .int .u64 m.sea.tail, .int .u64 m.proj.epoch, .slice a4 m.proj.stripes.length a4']) ∧ MsgIn (fun q => w.heap.size ≤ q ∧ q < w'.heap.size) w' m a1 a1' a2 a2' a3 a3' a4 a4' ∧ RdStep w g B a s1 w' := by
  have hC := body_readS w h hB k
  have hN := body_nums (B := B) (blk := blkS B) (s := s) hk
  rw [hZ] at hC hN
  refine hC.mono ?_
  rintro r w' ⟨v1, v2, v3, v4, rfl, ⟨h1, h2, h3, h4⟩, hst⟩
  obtain ⟨a1, a1', hfv, _, _⟩ := sl_form h1
  simp only [List.cons.injEq, and_true] at hfv
  subst hfv
  obtain ⟨a2, a2', hfv, _, _⟩ := sl_form h2
  simp only [List.cons.injEq, and_true] at hfv
  subst hfv
  obtain ⟨a3, a3', hfv, _, _⟩ := sl_form h3
  simp only [List.cons.injEq, and_true] at hfv
  subst hfv
  obtain ⟨a4, a4', hfv, _, _⟩ := sl_form h4
  simp only [List.cons.injEq, and_true] at hfv
  subst hfv
  exact ⟨a1, a1', a2, a2', a3, a3', a4, a4', rfl, hN.to h1 h2 h3 h4, hst⟩
theorem bodyL (w : World) {g : Nat} {B : List UInt8} {a : Option Addr} {s s1 : Rs} {m : Msg} {q : Bool} (h : RdAt w g B a s) (hB : B.length ≤ 1000000000) (k : Int) (hk : inI k) (hZ : s.body B (blkL B) k = (s1, m, q)) :
    Calls Tryz.prog 40 #[.pointer (some ⟨g, 0, none⟩), .int .i64 k] w fun r w' => ∃ a1 a1' a2 a2' a3 a3' a4 a4', r = .returned (.tuple #[.agg #[.int .i64 m.kind, .int .u64 m.epoch, .int .u64 m.seq, .int .u64 m.pos, .int .i64 m.count, .int .i64 m.state, .slice a1 m.streams.length a1', .slice a2 m.links.length a2', .slice a3 m.data.length a3', .int .u64 m.sea.epoch, .int .u64 m.sea.node, .int .u64 m.sea.tail, .int .u64 m.proj.epoch, .slice a4 m.proj.stripes.length a4'], .bool q]) ∧ MsgIn (fun q => w.heap.size ≤ q ∧ q < w'.heap.size) w' m a1 a1' a2 a2' a3 a3' a4 a4' ∧ RdStep w g B a s1 w' := by
  have hC := body_readL w h hB k
  have hN := body_nums (B := B) (blk := blkL B) (s := s) hk
  rw [hZ] at hC hN
  refine hC.mono ?_
  rintro r w' ⟨v1, v2, v3, v4, rfl, ⟨h1, h2, h3, h4⟩, hst⟩
  obtain ⟨a1, a1', hfv, _, _⟩ := sl_form h1
  simp only [List.cons.injEq, and_true] at hfv
  subst hfv
  obtain ⟨a2, a2', hfv, _, _⟩ := sl_form h2
  simp only [List.cons.injEq, and_true] at hfv
  subst hfv
  obtain ⟨a3, a3', hfv, _, _⟩ := sl_form h3
  simp only [List.cons.injEq, and_true] at hfv
  subst hfv
  obtain ⟨a4, a4', hfv, _, _⟩ := sl_form h4
  simp only [List.cons.injEq, and_true] at hfv
  subst hfv
  exact ⟨a1, a1', a2, a2', a3, a3', a4, a4', rfl, hN.to h1 h2 h3 h4, hst⟩
theorem msg_same (m : Msg) (W : World) (a1 a2 a3 a4 b1 b2 b3 b4 : Option Addr) (a1' a2' a3' a4' b1' b2' b3' b4' : Nat) (h1 : MsgIn (· < W.heap.size) W m a1 a1' a2 a2' a3 a3' a4 a4') (h2 : MsgIn (· < W.heap.size) W m b1 b1' b2 b2' b3 b3' b4 b4') :
    Calls Tryz.prog 22 #[.agg #[.int .i64 m.kind, .int .u64 m.epoch, .int .u64 m.seq, .int .u64 m.pos, .int .i64 m.count, .int .i64 m.state, .slice a1 m.streams.length a1', .slice a2 m.links.length a2', .slice a3 m.data.length a3', .int .u64 m.sea.epoch, .int .u64 m.sea.node, .int .u64 m.sea.tail, .int .u64 m.proj.epoch, .slice a4 m.proj.stripes.length a4'], .agg #[.int .i64 m.kind, .int .u64 m.epoch, .int .u64 m.seq, .int .u64 m.pos, .int .i64 m.count, .int .i64 m.state, .slice b1 m.streams.length b1', .slice b2 m.links.length b2', .slice b3 m.data.length b3', .int .u64 m.sea.epoch, .int .u64 m.sea.node, .int .u64 m.sea.tail, .int .u64 m.proj.epoch, .slice b4 m.proj.stripes.length b4']] W fun r w' => r = .returned (.bool true) ∧ Below W.heap.size W w' := by
  have := ref28_same m m a1 a1' a2 a2' a3 a3' a4 a4' b1 b1' b2 b2' b3 b3' b4 b4' W h1 h2
  simp only [decide_true] at this
  exact this
theorem MsgIn.keepS {S S' : Nat → Prop} {w w' : World} {m : Msg} {a1 : Option Addr} {c1 : Nat} {a2 : Option Addr} {c2 : Nat} {a3 : Option Addr} {c3 : Nat} {a4 : Option Addr} {c4 : Nat} (h : MsgIn S w m a1 c1 a2 c2 a3 c3 a4 c4) (hk : ∀ q, S q → w'.heap[q]? = w.heap[q]?) (hs : ∀ q, S q → S' q) : MsgIn S' w' m a1 c1 a2 c2 a3 c3 a4 c4 :=
  MsgIn.tr (fun A cs x hx => A.mono (A.keep hx hk) hs) h
end Go.Proofs.YtlbffbkbkajciaaGreat
namespace Go.Proofs.YtlbffbkbkajciaaGreat
open Go.RowKit Go.Bs Go.Maps
set_option linter.unusedVariables false
set_option linter.unusedSimpArgs false

theorem msgR_eq (m : Msg) : msgR m = (decide (1 ≤ m.kind ∧ m.kind ≤ 14) && (withinR (hasK m.kind 1) (poR m.pos) (m.pos == 0) && (withinR (hasK m.kind 2) (decide (1 ≤ m.count) && decide (m.count ≤ 65536)) (m.count == 0) &&
      (withinR (hasK m.kind 4) (decide (1 ≤ m.state) && decide (m.state ≤ mostK m.kind)) (m.state == 0) && (withinR (hasK m.kind 8) (decide (m.streams.length ≤ 16) && risesB m.streams) ((m.streams.length : Int) == 0) &&
      (withinR (hasK m.kind 16) (linksR m.pos m.links) ((m.links.length : Int) == 0) && (withinR (hasK m.kind 64) (sealR m.sea) (m.sea.epoch == 0 && (m.sea.node == 0 && m.sea.tail == 0)) &&
      (withinR (hasK m.kind 128) (projR m.proj) (m.proj.epoch == 0 && (m.proj.stripes.length : Int) == 0) && (((m.data.length : Int) == 0) || (blockK m.kind m.state && decide (m.data.length ≤ 1048576))))))))))) := by
  unfold msgR
  rw [len_zero, len_zero, len_zero, len_zero, seal_zero, Bool.decide_and, Bool.decide_and, Bool.decide_and]
  rfl

set_option maxRecDepth 100000 in
set_option maxHeartbeats 6400000 in
theorem ref28_right (m : Msg) (a1 : Option Addr) (c1 : Nat) (a2 : Option Addr) (c2 : Nat) (a3 : Option Addr) (c3 : Nat) (a4 : Option Addr) (c4 : Nat) (w : World) (h : MsgIn (· < w.heap.size) w m a1 c1 a2 c2 a3 c3 a4 c4) :
    Calls Tryz.prog 20 #[.agg #[.int .i64 m.kind, .int .u64 m.epoch, .int .u64 m.seq, .int .u64 m.pos, .int .i64 m.count, .int .i64 m.state, .slice a1 m.streams.length c1, .slice a2 m.links.length c2, .slice a3 m.data.length c3, .int .u64 m.sea.epoch, .int .u64 m.sea.node, .int .u64 m.sea.tail, .int .u64 m.proj.epoch, .slice a4 m.proj.stripes.length c4]] w fun r w' => r = .returned (.bool (msgR m)) ∧ Below w.heap.size w w' := by
  have hM := msgR_eq m
  have HPO := hid (fun W : World => ref17_pos m.pos W)
  have HMO := hid (fun W : World => ref28_most m.kind W)
  have HST := hid (fun (W : World) (hW : Below w.heap.size w W) => ref05_rises m.streams a1 _ c1 W (lift h.streams hW))
  have HLK := hid (fun (W : World) (hW : Below w.heap.size w W) => ref23_right m.pos m.links a2 _ c2 W (lift h.links hW))
  have HSE := hid (fun (W : World) => ref18_right m.sea h.sealE W)
  have HPR := hid (fun (W : World) (hW : Below w.heap.size w W) => ref20_right m.proj.epoch h.projE.1 m.proj.stripes a4 _ c4 W (lift h.stripes hW))
  have HBL := hid (fun (W : World) => ref28_block m.kind m.state W)
  have HH1 := hid (fun W : World => ref28_has m.kind 1 (by unfold isPart; decide) W)
  have HH2 := hid (fun W : World => ref28_has m.kind 2 (by unfold isPart; decide) W)
  have HH4 := hid (fun W : World => ref28_has m.kind 4 (by unfold isPart; decide) W)
  have HH8 := hid (fun W : World => ref28_has m.kind 8 (by unfold isPart; decide) W)
  have HH16 := hid (fun W : World => ref28_has m.kind 16 (by unfold isPart; decide) W)
  have HH64 := hid (fun W : World => ref28_has m.kind 64 (by unfold isPart; decide) W)
  have HH128 := hid (fun W : World => ref28_has m.kind 128 (by unfold isPart; decide) W)
  obtain ⟨kk, ep, sq, po, cn, st, SS, LS, DD, ⟨se, sn, tl⟩, ⟨pe, PL⟩⟩ := m
  dsimp only at *
  generalize hasK kk 1 = H1 at *
  generalize hasK kk 2 = H2 at *
  generalize hasK kk 4 = H4 at *
  generalize hasK kk 8 = H8 at *
  generalize hasK kk 16 = H16 at *
  generalize hasK kk 64 = H64 at *
  generalize hasK kk 128 = H128 at *
  obtain ⟨B1, hB1⟩ : ∃ B, B = withinR H1 (poR po) (po == 0) := ⟨_, rfl⟩
  rw [← hB1] at hM
  have HQ1 := hid hB1
  clear hB1
  obtain ⟨B2, hB2⟩ : ∃ B, B = withinR H2 (decide (1 ≤ cn) && decide (cn ≤ 65536)) (cn == 0) := ⟨_, rfl⟩
  rw [← hB2] at hM
  have HQ2 := hid hB2
  clear hB2
  obtain ⟨B4, hB4⟩ : ∃ B, B = withinR H4 (decide (1 ≤ st) && decide (st ≤ mostK kk)) (st == 0) := ⟨_, rfl⟩
  rw [← hB4] at hM
  have HQ4 := hid hB4
  clear hB4
  obtain ⟨B8, hB8⟩ : ∃ B, B = withinR H8 (decide (SS.length ≤ 16) && risesB SS) ((SS.length : Int) == 0) := ⟨_, rfl⟩
  rw [← hB8] at hM
  have HQ8 := hid hB8
  clear hB8
  obtain ⟨B16, hB16⟩ : ∃ B, B = withinR H16 (linksR po LS) ((LS.length : Int) == 0) := ⟨_, rfl⟩
  rw [← hB16] at hM
  have HQ16 := hid hB16
  clear hB16
  obtain ⟨B64, hB64⟩ : ∃ B, B = withinR H64 (sealR ⟨se, sn, tl⟩) (se == 0 && (sn == 0 && tl == 0)) := ⟨_, rfl⟩
  rw [← hB64] at hM
  have HQ64 := hid hB64
  clear hB64
  obtain ⟨B128, hB128⟩ : ∃ B, B = withinR H128 (projR ⟨pe, PL⟩) (pe == 0 && (PL.length : Int) == 0) := ⟨_, rfl⟩
  rw [← hB128] at hM
  have HQ128 := hid hB128
  clear hB128
  generalize poR po = R1 at *
  generalize linksR po LS = R16 at *
  generalize sealR ⟨se, sn, tl⟩ = R64 at *
  generalize projR ⟨pe, PL⟩ = R128 at *
  generalize risesB SS = RS at *
  generalize mostK kk = MK at *
  generalize blockK kk st = BL at *
  obtain ⟨DB, hDB⟩ : ∃ B, B = (((DD.length : Int) == 0) || (BL && decide (DD.length ≤ 1048576))) := ⟨_, rfl⟩
  rw [← hDB] at hM
  have HDB := hid hDB
  generalize hK : decide (1 ≤ kk ∧ kk ≤ 14) = K at *
  have HM := hid hM
  generalize msgR ⟨kk, ep, sq, po, cn, st, SS, LS, DD, ⟨se, sn, tl⟩, ⟨pe, PL⟩⟩ = MM at *
  have hb0 : Below w.heap.size w (w.alloc (.cells #[.int .i64 kk, .int .u64 ep, .int .u64 sq, .int .u64 po, .int .i64 cn, .int .i64 st, .slice a1 SS.length c1, .slice a2 LS.length c2, .slice a3 DD.length c3, .int .u64 se, .int .u64 sn, .int .u64 tl, .int .u64 pe, .slice a4 PL.length c4] 32)) := by (repeat (first | exact Below.refl _ _ | assumption | (refine below_alloc ?_ _) | (refine Below.setCell ?_ (by first | omega | (simp; done) | (simp; omega)) _) | (refine Below.drew ?_) | (refine below_drewN ?_ _) | (refine below_then (by assumption) ?_)))
  have HBX : Hid (Blk (w.alloc (.cells #[.int .i64 kk, .int .u64 ep, .int .u64 sq, .int .u64 po, .int .i64 cn, .int .i64 st, .slice a1 SS.length c1, .slice a2 LS.length c2, .slice a3 DD.length c3, .int .u64 se, .int .u64 sn, .int .u64 tl, .int .u64 pe, .slice a4 PL.length c4] 32)) w.heap.size 32 #[.int .i64 kk, .int .u64 ep, .int .u64 sq, .int .u64 po, .int .i64 cn, .int .i64 st, .slice a1 SS.length c1, .slice a2 LS.length c2, .slice a3 DD.length c3, .int .u64 se, .int .u64 sn, .int .u64 tl, .int .u64 pe, .slice a4 PL.length c4]) := hid (Blk.new w _ _)
  clear hM h hDB
  cases K
  · have hK' : ¬ (1 ≤ kk ∧ kk ≤ 14) := of_decide_eq_false hK
    have hff : Hid (MM = false) := hid (by rw [HM.out]; rfl)
    clear hK
    by_cases g1 : kk < 1
    · have d1 : decide (kk < 1) = true := decide_eq_true g1
      go_enter Tryz.func20, Tryz.ntmps20
      go_wp2_with fail
      go_ret
      exact ⟨by rw [hff.out]; rfl, hb0⟩
    · have d1 : decide (kk < 1) = false := decide_eq_false g1
      have d2 : decide (14 < kk) = true := decide_eq_true (by omega)
      go_enter Tryz.func20, Tryz.ntmps20
      go_wp2_with fail
      go_ret
      exact ⟨by rw [hff.out]; rfl, hb0⟩
  · have hK' : 1 ≤ kk ∧ kk ≤ 14 := of_decide_eq_true hK
    have d1 : decide (kk < 1) = false := decide_eq_false (by omega)
    have d2 : decide (14 < kk) = false := decide_eq_false (by omega)
    clear hK hK'
    go_enter Tryz.func20, Tryz.ntmps20
    go_upto_region 4 with (fail)
    generalize (w.alloc (.cells #[.int .i64 kk, .int .u64 ep, .int .u64 sq, .int .u64 po, .int .i64 cn, .int .i64 st, .slice a1 SS.length c1, .slice a2 LS.length c2, .slice a3 DD.length c3, .int .u64 se, .int .u64 sn, .int .u64 tl, .int .u64 pe, .slice a4 PL.length c4] 32)) = w0 at *
    have HB0 := hid hb0
    clear hb0
    have HB1 : Hid (Below w0.heap.size w0 w0) := hid (Below.refl _ _)
    go_cut [29] from 12 to 28 (fun v V => v = .bool (!B1) ∧ Below w0.heap.size w0 V)
    case first =>
      cases H1
      · go_wp2_with fail
        refine (HH1.out _).mono ?_
        rintro r v101 ⟨rfl, hb101⟩
        have HC101 := hid (below_then hb101 HB1.out)
        clear hb101
        go_wp2_with fail
        refine (HH1.out _).mono ?_
        rintro r v102 ⟨rfl, hb102⟩
        have HC102 := hid (below_then hb102 HC101.out)
        clear hb102
        have HX102 := hid (HBX.out.later HC102.out)
        have y102_3 : v102.cell? ⟨w.heap.size, 3, none⟩ = some (.int .u64 po) := HX102.out.cell 3
        clear HX102
        have hv1 : Hid (B1 = (po == 0)) := hid (by rw [HQ1.out]; rfl)
        go_wp2_with fail
        go_meet
        case rel => exact ⟨by rw [hv1.out]; first | rfl | simp, HC102.out⟩
      · go_wp2_with fail
        refine (HH1.out _).mono ?_
        rintro r v103 ⟨rfl, hb103⟩
        have HC103 := hid (below_then hb103 HB1.out)
        clear hb103
        have HX103 := hid (HBX.out.later HC103.out)
        have y103_3 : v103.cell? ⟨w.heap.size, 3, none⟩ = some (.int .u64 po) := HX103.out.cell 3
        clear HX103
        cases R1
        · go_wp2_with fail
          refine (HPO.out _).mono ?_
          rintro r v104 ⟨rfl, rfl⟩
          have hv1 : Hid (B1 = false) := hid (by rw [HQ1.out]; rfl)
          go_wp2_with fail
          go_meet
          case rel => exact ⟨by rw [hv1.out]; first | rfl | simp, HC103.out⟩
        · go_wp2_with fail
          refine (HPO.out _).mono ?_
          rintro r v104 ⟨rfl, rfl⟩
          go_wp2_with fail
          refine (HH1.out _).mono ?_
          rintro r v105 ⟨rfl, hb105⟩
          have HC105 := hid (below_then hb105 HC103.out)
          clear hb105
          have hv1 : Hid (B1 = true) := hid (by rw [HQ1.out]; rfl)
          go_wp2_with fail
          go_meet
          case rel => exact ⟨by rw [hv1.out]; first | rfl | simp, HC105.out⟩
    case rest =>
      obtain ⟨rfl, hbc⟩ := hcut
      have HB2 := hid hbc
      clear hbc
      obtain ⟨w1, hwn⟩ : ∃ W : World, W = wc := ⟨_, rfl⟩
      subst hwn
      cases B1
      · have hff : Hid (MM = false) := hid (by rw [HM.out]; simp)
        go_wp2_with fail
        go_ret
        exact ⟨by rw [hff.out]; rfl, HB0.out.trans (HB2.out.mono HB0.out.size)⟩
      · go_upto_region 6 with (fail)
        go_cut [51] from 30 to 50 (fun v V => v = .bool (!B2) ∧ Below w0.heap.size w0 V)
        case first =>
          cases H2
          · go_wp2_with fail
            refine (HH2.out _).mono ?_
            rintro r v106 ⟨rfl, hb106⟩
            have HC106 := hid (below_then hb106 HB2.out)
            clear hb106
            go_wp2_with fail
            refine (HH2.out _).mono ?_
            rintro r v107 ⟨rfl, hb107⟩
            have HC107 := hid (below_then hb107 HC106.out)
            clear hb107
            have HX107 := hid (HBX.out.later HC107.out)
            have y107_4 : v107.cell? ⟨w.heap.size, 4, none⟩ = some (.int .i64 cn) := HX107.out.cell 4
            clear HX107
            have hv2 : Hid (B2 = (cn == 0)) := hid (by rw [HQ2.out]; rfl)
            go_wp2_with fail
            go_meet
            case rel => exact ⟨by rw [hv2.out]; first | rfl | simp, HC107.out⟩
          · go_wp2_with fail
            refine (HH2.out _).mono ?_
            rintro r v108 ⟨rfl, hb108⟩
            have HC108 := hid (below_then hb108 HB2.out)
            clear hb108
            have HX108 := hid (HBX.out.later HC108.out)
            have y108_4 : v108.cell? ⟨w.heap.size, 4, none⟩ = some (.int .i64 cn) := HX108.out.cell 4
            clear HX108
            by_cases g1 : cn < 1
            · have d1 : decide (cn < 1) = true := decide_eq_true g1
              have hv2 : Hid (B2 = false) := hid (by rw [HQ2.out]; show (decide (1 ≤ cn) && _) = false; rw [decide_eq_false (by omega)]; rfl)
              go_wp2_with fail
              go_meet
              case rel => exact ⟨by rw [hv2.out]; first | rfl | simp, HC108.out⟩
            · have d1 : decide (cn < 1) = false := decide_eq_false g1
              by_cases g2 : 65536 < cn
              · have d2 : decide (65536 < cn) = true := decide_eq_true g2
                have hv2 : Hid (B2 = false) := hid (by rw [HQ2.out]; show (decide (1 ≤ cn) && decide (cn ≤ 65536)) = false; rw [decide_eq_false (by omega : ¬ cn ≤ 65536), Bool.and_false])
                go_wp2_with fail
                go_meet
                case rel => exact ⟨by rw [hv2.out]; first | rfl | simp, HC108.out⟩
              · have d2 : decide (65536 < cn) = false := decide_eq_false g2
                have hv2 : Hid (B2 = true) := hid (by rw [HQ2.out]; show (decide (1 ≤ cn) && decide (cn ≤ 65536)) = true; rw [decide_eq_true (by omega : cn ≤ 65536), decide_eq_true (by omega : 1 ≤ cn)]; rfl)
                go_wp2_with fail
                refine (HH2.out _).mono ?_
                rintro r v109 ⟨rfl, hb109⟩
                have HC109 := hid (below_then hb109 HC108.out)
                clear hb109
                go_wp2_with fail
                go_meet
                case rel => exact ⟨by rw [hv2.out]; first | rfl | simp, HC109.out⟩
        case rest =>
          obtain ⟨rfl, hbc⟩ := hcut
          have HB3 := hid hbc
          clear hbc
          obtain ⟨w2, hwn⟩ : ∃ W : World, W = wc := ⟨_, rfl⟩
          subst hwn
          cases B2
          · have hff : Hid (MM = false) := hid (by rw [HM.out]; simp)
            go_wp2_with fail
            go_ret
            exact ⟨by rw [hff.out]; rfl, HB0.out.trans (HB3.out.mono HB0.out.size)⟩
          · go_upto_region 8 with (fail)
            go_cut [75] from 52 to 74 (fun v V => v = .bool (!B4) ∧ Below w0.heap.size w0 V)
            case first =>
              have HX4 := hid (HBX.out.later HB3.out)
              have Y5 := fun s : Later w2 => s.cell (HX4.out.cell 5 : w2.cell? ⟨w.heap.size, 5, none⟩ = some (.int .i64 st))
              cases H4
              · have hv4 : Hid (B4 = (st == 0)) := hid (by rw [HQ4.out]; rfl)
                refine wp_region_later (by kernel_rfl) (by kernel_rfl) ?_
                repeat (go_big_quiet_step ((first | (go_at_call 88; with_reducible exact later_of (HH4.out _)) | (go_at_call 90; with_reducible exact later_same (HMO.out _)))))
                refine wpQuiet_nil ?_
                rintro W5 ⟨⟨W5', hb5⟩, rfl⟩
                go_wp2_with fail
                go_meet
                case rel => exact ⟨by rw [hv4.out]; first | rfl | simp, below_then hb5 HB3.out⟩
              · by_cases g1 : st < 1
                · have d1 : decide (st < 1) = true := decide_eq_true g1
                  have hv4 : Hid (B4 = false) := hid (by rw [HQ4.out]; show (decide (1 ≤ st) && _) = false; rw [decide_eq_false (by omega)]; rfl)
                  refine wp_region_later (by kernel_rfl) (by kernel_rfl) ?_
                  repeat (go_big_quiet_step ((first | (go_at_call 88; with_reducible exact later_of (HH4.out _)) | (go_at_call 90; with_reducible exact later_same (HMO.out _)))))
                  refine wpQuiet_nil ?_
                  rintro W5 ⟨⟨W5', hb5⟩, rfl⟩
                  go_wp2_with fail
                  go_meet
                  case rel => exact ⟨by rw [hv4.out]; first | rfl | simp, below_then hb5 HB3.out⟩
                · have d1 : decide (st < 1) = false := decide_eq_false g1
                  by_cases g2 : MK < st
                  · have d2 : decide (MK < st) = true := decide_eq_true g2
                    have hv4 : Hid (B4 = false) := hid (by rw [HQ4.out]; show (decide (1 ≤ st) && decide (st ≤ MK)) = false; rw [decide_eq_false (by omega : ¬ st ≤ MK), Bool.and_false])
                    refine wp_region_later (by kernel_rfl) (by kernel_rfl) ?_
                    repeat (go_big_quiet_step ((first | (go_at_call 88; with_reducible exact later_of (HH4.out _)) | (go_at_call 90; with_reducible exact later_same (HMO.out _)))))
                    refine wpQuiet_nil ?_
                    rintro W5 ⟨⟨W5', hb5⟩, rfl⟩
                    go_wp2_with fail
                    go_meet
                    case rel => exact ⟨by rw [hv4.out]; first | rfl | simp, below_then hb5 HB3.out⟩
                  · have d2 : decide (MK < st) = false := decide_eq_false g2
                    have hv4 : Hid (B4 = true) := hid (by rw [HQ4.out]; show (decide (1 ≤ st) && decide (st ≤ MK)) = true; rw [decide_eq_true (by omega : st ≤ MK), decide_eq_true (by omega : 1 ≤ st)]; rfl)
                    refine wp_region_later (by kernel_rfl) (by kernel_rfl) ?_
                    repeat (go_big_quiet_step ((first | (go_at_call 88; with_reducible exact later_of (HH4.out _)) | (go_at_call 90; with_reducible exact later_same (HMO.out _)))))
                    refine wpQuiet_nil ?_
                    rintro W5 ⟨⟨W5', hb5⟩, rfl⟩
                    go_wp2_with fail
                    go_meet
                    case rel => exact ⟨by rw [hv4.out]; first | rfl | simp, below_then hb5 HB3.out⟩
            case rest =>
              obtain ⟨rfl, hbc⟩ := hcut
              have HB4 := hid hbc
              clear hbc
              obtain ⟨w3, hwn⟩ : ∃ W : World, W = wc := ⟨_, rfl⟩
              subst hwn
              cases B4
              · have hff : Hid (MM = false) := hid (by rw [HM.out]; simp)
                go_wp2_with fail
                go_ret
                exact ⟨by rw [hff.out]; rfl, HB0.out.trans (HB4.out.mono HB0.out.size)⟩
              · go_upto_region 10 with (fail)
                go_cut [100] from 76 to 99 (fun v V => v = .bool (!B8) ∧ Below w0.heap.size w0 V)
                case first =>
                  cases H8
                  · go_wp2_with fail
                    refine (HH8.out _).mono ?_
                    rintro r v110 ⟨rfl, hb110⟩
                    have HC110 := hid (below_then hb110 HB4.out)
                    clear hb110
                    go_wp2_with fail
                    refine (HH8.out _).mono ?_
                    rintro r v111 ⟨rfl, hb111⟩
                    have HC111 := hid (below_then hb111 HC110.out)
                    clear hb111
                    have HX111 := hid (HBX.out.later HC111.out)
                    have y111_6 : v111.cell? ⟨w.heap.size, 6, none⟩ = some (.slice a1 SS.length c1) := HX111.out.cell 6
                    clear HX111
                    by_cases hz : SS.length = 0
                    · have hz1 : ((SS.length : Int) == 0) = true := by rw [len_zero]; exact decide_eq_true hz
                      have g1 : decide (0 < (SS.length : Int)) = false := decide_eq_false (by omega)
                      have g2 : decide (0 < SS.length) = false := decide_eq_false (by omega)
                      clear hz
                      have hv8 : Hid (B8 = true) := hid (by rw [HQ8.out]; exact hz1)
                      clear hz1
                      go_wp2_with fail
                      go_meet
                      case rel => exact ⟨by rw [hv8.out]; first | rfl | simp, HC111.out⟩
                    · have hz1 : ((SS.length : Int) == 0) = false := by rw [len_zero]; exact decide_eq_false hz
                      have g1 : decide (0 < (SS.length : Int)) = true := decide_eq_true (by omega)
                      have g2 : decide (0 < SS.length) = true := decide_eq_true (by omega)
                      clear hz
                      have hv8 : Hid (B8 = false) := hid (by rw [HQ8.out]; exact hz1)
                      clear hz1
                      go_wp2_with fail
                      go_meet
                      case rel => exact ⟨by rw [hv8.out]; first | rfl | simp, HC111.out⟩
                  · go_wp2_with fail
                    refine (HH8.out _).mono ?_
                    rintro r v112 ⟨rfl, hb112⟩
                    have HC112 := hid (below_then hb112 HB4.out)
                    clear hb112
                    have HX112 := hid (HBX.out.later HC112.out)
                    have y112_6 : v112.cell? ⟨w.heap.size, 6, none⟩ = some (.slice a1 SS.length c1) := HX112.out.cell 6
                    clear HX112
                    by_cases g1 : 16 < SS.length
                    · have d1 : decide ((16 : Int) < (SS.length : Int)) = true := decide_eq_true (by omega)
                      have hv8 : Hid (B8 = false) := hid (by rw [HQ8.out]; show (decide (SS.length ≤ 16) && _) = false; rw [decide_eq_false (by omega)]; rfl)
                      go_wp2_with fail
                      go_meet
                      case rel => exact ⟨by rw [hv8.out]; first | rfl | simp, HC112.out⟩
                    · have d1 : decide ((16 : Int) < (SS.length : Int)) = false := decide_eq_false (by omega)
                      cases RS
                      · have hv8 : Hid (B8 = false) := hid (by rw [HQ8.out]; show (_ && false) = false; rw [Bool.and_false])
                        go_wp2_with fail
                        refine (HST.out _ (HB0.out.trans (HC112.out.mono HB0.out.size))).mono ?_
                        rintro r v113 ⟨rfl, hb113⟩
                        have HC113 := hid (below_then hb113 HC112.out)
                        clear hb113
                        go_wp2_with fail
                        go_meet
                        case rel => exact ⟨by rw [hv8.out]; first | rfl | simp, HC113.out⟩
                      · have hv8 : Hid (B8 = true) := hid (by rw [HQ8.out]; show (decide (SS.length ≤ 16) && true) = true; rw [decide_eq_true (by omega)]; rfl)
                        go_wp2_with fail
                        refine (HST.out _ (HB0.out.trans (HC112.out.mono HB0.out.size))).mono ?_
                        rintro r v113 ⟨rfl, hb113⟩
                        have HC113 := hid (below_then hb113 HC112.out)
                        clear hb113
                        go_wp2_with fail
                        refine (HH8.out _).mono ?_
                        rintro r v114 ⟨rfl, hb114⟩
                        have HC114 := hid (below_then hb114 HC113.out)
                        clear hb114
                        go_wp2_with fail
                        go_meet
                        case rel => exact ⟨by rw [hv8.out]; first | rfl | simp, HC114.out⟩
                case rest =>
                  obtain ⟨rfl, hbc⟩ := hcut
                  have HB5 := hid hbc
                  clear hbc
                  obtain ⟨w4, hwn⟩ : ∃ W : World, W = wc := ⟨_, rfl⟩
                  subst hwn
                  cases B8
                  · have hff : Hid (MM = false) := hid (by rw [HM.out]; simp)
                    go_wp2_with fail
                    go_ret
                    exact ⟨by rw [hff.out]; rfl, HB0.out.trans (HB5.out.mono HB0.out.size)⟩
                  · go_upto_region 12 with (fail)
                    go_cut [121] from 101 to 120 (fun v V => v = .bool (!B16) ∧ Below w0.heap.size w0 V)
                    case first =>
                      cases H16
                      · go_wp2_with fail
                        refine (HH16.out _).mono ?_
                        rintro r v115 ⟨rfl, hb115⟩
                        have HC115 := hid (below_then hb115 HB5.out)
                        clear hb115
                        go_wp2_with fail
                        refine (HH16.out _).mono ?_
                        rintro r v116 ⟨rfl, hb116⟩
                        have HC116 := hid (below_then hb116 HC115.out)
                        clear hb116
                        have HX116 := hid (HBX.out.later HC116.out)
                        have y116_3 : v116.cell? ⟨w.heap.size, 3, none⟩ = some (.int .u64 po) := HX116.out.cell 3
                        have y116_7 : v116.cell? ⟨w.heap.size, 7, none⟩ = some (.slice a2 LS.length c2) := HX116.out.cell 7
                        clear HX116
                        by_cases hz : LS.length = 0
                        · have hz1 : ((LS.length : Int) == 0) = true := by rw [len_zero]; exact decide_eq_true hz
                          have g1 : decide (0 < (LS.length : Int)) = false := decide_eq_false (by omega)
                          have g2 : decide (0 < LS.length) = false := decide_eq_false (by omega)
                          clear hz
                          have hv16 : Hid (B16 = true) := hid (by rw [HQ16.out]; exact hz1)
                          clear hz1
                          go_wp2_with fail
                          go_meet
                          case rel => exact ⟨by rw [hv16.out]; first | rfl | simp, HC116.out⟩
                        · have hz1 : ((LS.length : Int) == 0) = false := by rw [len_zero]; exact decide_eq_false hz
                          have g1 : decide (0 < (LS.length : Int)) = true := decide_eq_true (by omega)
                          have g2 : decide (0 < LS.length) = true := decide_eq_true (by omega)
                          clear hz
                          have hv16 : Hid (B16 = false) := hid (by rw [HQ16.out]; exact hz1)
                          clear hz1
                          go_wp2_with fail
                          go_meet
                          case rel => exact ⟨by rw [hv16.out]; first | rfl | simp, HC116.out⟩
                      · go_wp2_with fail
                        refine (HH16.out _).mono ?_
                        rintro r v117 ⟨rfl, hb117⟩
                        have HC117 := hid (below_then hb117 HB5.out)
                        clear hb117
                        have HX117 := hid (HBX.out.later HC117.out)
                        have y117_3 : v117.cell? ⟨w.heap.size, 3, none⟩ = some (.int .u64 po) := HX117.out.cell 3
                        have y117_7 : v117.cell? ⟨w.heap.size, 7, none⟩ = some (.slice a2 LS.length c2) := HX117.out.cell 7
                        clear HX117
                        cases R16
                        · go_wp2_with fail
                          refine (HLK.out _ (HB0.out.trans (HC117.out.mono HB0.out.size))).mono ?_
                          rintro r v118 ⟨rfl, hb118⟩
                          have HC118 := hid (below_then hb118 HC117.out)
                          clear hb118
                          have hv16 : Hid (B16 = false) := hid (by rw [HQ16.out]; rfl)
                          go_wp2_with fail
                          go_meet
                          case rel => exact ⟨by rw [hv16.out]; first | rfl | simp, HC118.out⟩
                        · go_wp2_with fail
                          refine (HLK.out _ (HB0.out.trans (HC117.out.mono HB0.out.size))).mono ?_
                          rintro r v118 ⟨rfl, hb118⟩
                          have HC118 := hid (below_then hb118 HC117.out)
                          clear hb118
                          go_wp2_with fail
                          refine (HH16.out _).mono ?_
                          rintro r v119 ⟨rfl, hb119⟩
                          have HC119 := hid (below_then hb119 HC118.out)
                          clear hb119
                          have hv16 : Hid (B16 = true) := hid (by rw [HQ16.out]; rfl)
                          go_wp2_with fail
                          go_meet
                          case rel => exact ⟨by rw [hv16.out]; first | rfl | simp, HC119.out⟩
                    case rest =>
                      obtain ⟨rfl, hbc⟩ := hcut
                      have HB6 := hid hbc
                      clear hbc
                      obtain ⟨w5, hwn⟩ : ∃ W : World, W = wc := ⟨_, rfl⟩
                      subst hwn
                      cases B16
                      · have hff : Hid (MM = false) := hid (by rw [HM.out]; simp)
                        go_wp2_with fail
                        go_ret
                        exact ⟨by rw [hff.out]; rfl, HB0.out.trans (HB6.out.mono HB0.out.size)⟩
                      · go_upto_region 14 with (fail)
                        go_cut [138] from 122 to 137 (fun v V => v = .bool (!DB) ∧ Below w0.heap.size w0 V)
                        case first =>
                          have HX5 := hid (HBX.out.later HB6.out)
                          have y5_5 : w5.cell? ⟨w.heap.size, 5, none⟩ = some (.int .i64 st) := HX5.out.cell 5
                          have y5_8 : w5.cell? ⟨w.heap.size, 8, none⟩ = some (.slice a3 DD.length c3) := HX5.out.cell 8
                          clear HX5
                          by_cases g0 : DD.length = 0
                          · have d0 : decide ((0 : Int) < (DD.length : Int)) = false := decide_eq_false (by omega)
                            have d0n : decide (0 < DD.length) = false := decide_eq_false (by omega)
                            have d1 : decide ((1048576 : Int) < (DD.length : Int)) = false := decide_eq_false (by omega)
                            have hvD : Hid (DB = true) := hid (by rw [HDB.out]; rw [len_zero, decide_eq_true g0]; rfl)
                            clear g0
                            go_wp2_with fail
                            go_meet
                            case rel => exact ⟨by rw [hvD.out]; first | rfl | simp, HB6.out⟩
                          · have d0 : decide ((0 : Int) < (DD.length : Int)) = true := decide_eq_true (by omega)
                            have d0n : decide (0 < DD.length) = true := decide_eq_true (by omega)
                            cases BL
                            · have hvD : Hid (DB = false) := hid (by rw [HDB.out]; rw [len_zero, decide_eq_false g0]; rfl)
                              clear g0
                              go_wp2_with fail
                              refine (HBL.out _).mono ?_
                              rintro r v120 ⟨rfl, rfl⟩
                              go_wp2_with fail
                              go_meet
                              case rel => exact ⟨by rw [hvD.out]; first | rfl | simp, HB6.out⟩
                            · by_cases g1 : 1048576 < DD.length
                              · have d1 : decide ((1048576 : Int) < (DD.length : Int)) = true := decide_eq_true (by omega)
                                have hvD : Hid (DB = false) := hid (by rw [HDB.out]; rw [len_zero, decide_eq_false g0, decide_eq_false (by omega)]; rfl)
                                clear g0
                                go_wp2_with fail
                                refine (HBL.out _).mono ?_
                                rintro r v120 ⟨rfl, rfl⟩
                                go_wp2_with fail
                                go_meet
                                case rel => exact ⟨by rw [hvD.out]; first | rfl | simp, HB6.out⟩
                              · have d1 : decide ((1048576 : Int) < (DD.length : Int)) = false := decide_eq_false (by omega)
                                have hvD : Hid (DB = true) := hid (by rw [HDB.out]; rw [len_zero, decide_eq_false g0, decide_eq_true (by omega)]; rfl)
                                clear g0
                                go_wp2_with fail
                                refine (HBL.out _).mono ?_
                                rintro r v120 ⟨rfl, rfl⟩
                                go_wp2_with fail
                                go_meet
                                case rel => exact ⟨by rw [hvD.out]; first | rfl | simp, HB6.out⟩
                        case rest =>
                          obtain ⟨rfl, hbc⟩ := hcut
                          have HB7 := hid hbc
                          clear hbc
                          obtain ⟨w6, hwn⟩ : ∃ W : World, W = wc := ⟨_, rfl⟩
                          subst hwn
                          cases DB
                          · have hff : Hid (MM = false) := hid (by rw [HM.out]; simp)
                            go_wp2_with fail
                            go_ret
                            exact ⟨by rw [hff.out]; rfl, HB0.out.trans (HB7.out.mono HB0.out.size)⟩
                          · go_upto_region 16 with (fail)
                            go_cut [157] from 139 to 156 (fun v V => v = .bool (!B64) ∧ Below w0.heap.size w0 V)
                            case first =>
                              cases H64
                              · go_wp2_with fail
                                refine (HH64.out _).mono ?_
                                rintro r v121 ⟨rfl, hb121⟩
                                have HC121 := hid (below_then hb121 HB7.out)
                                clear hb121
                                go_wp2_with fail
                                refine (HH64.out _).mono ?_
                                rintro r v122 ⟨rfl, hb122⟩
                                have HC122 := hid (below_then hb122 HC121.out)
                                clear hb122
                                have HX122 := hid (HBX.out.later HC122.out)
                                have y122_9 : v122.cell? ⟨w.heap.size, 9, none⟩ = some (.int .u64 se) := HX122.out.cell 9
                                have y122_10 : v122.cell? ⟨w.heap.size, 10, none⟩ = some (.int .u64 sn) := HX122.out.cell 10
                                have y122_11 : v122.cell? ⟨w.heap.size, 11, none⟩ = some (.int .u64 tl) := HX122.out.cell 11
                                clear HX122
                                cases hc : (se == 0)
                                · have hc' : (se != 0) = true := by rw [bne, hc]; rfl
                                  have hv64 : Hid (B64 = false) := hid (by rw [HQ64.out]; simp [withinR, hc])
                                  go_wp2_with fail
                                  go_meet
                                  case rel => exact ⟨by rw [hv64.out]; first | rfl | simp, HC122.out⟩
                                · cases hd : (sn == 0)
                                  · have hv64 : Hid (B64 = false) := hid (by rw [HQ64.out]; simp [withinR, hc, hd])
                                    go_wp2_with fail
                                    go_meet
                                    case rel => exact ⟨by rw [hv64.out]; first | rfl | simp, HC122.out⟩
                                  · cases he : (tl == 0)
                                    · have hv64 : Hid (B64 = false) := hid (by rw [HQ64.out]; simp [withinR, hc, hd, he])
                                      go_wp2_with fail
                                      go_meet
                                      case rel => exact ⟨by rw [hv64.out]; first | rfl | simp, HC122.out⟩
                                    · have hv64 : Hid (B64 = true) := hid (by rw [HQ64.out]; simp [withinR, hc, hd, he])
                                      go_wp2_with fail
                                      go_meet
                                      case rel => exact ⟨by rw [hv64.out]; first | rfl | simp, HC122.out⟩
                              · go_wp2_with fail
                                refine (HH64.out _).mono ?_
                                rintro r v123 ⟨rfl, hb123⟩
                                have HC123 := hid (below_then hb123 HB7.out)
                                clear hb123
                                have HX123 := hid (HBX.out.later HC123.out)
                                have y123_9 : v123.cell? ⟨w.heap.size, 9, none⟩ = some (.int .u64 se) := HX123.out.cell 9
                                have y123_10 : v123.cell? ⟨w.heap.size, 10, none⟩ = some (.int .u64 sn) := HX123.out.cell 10
                                have y123_11 : v123.cell? ⟨w.heap.size, 11, none⟩ = some (.int .u64 tl) := HX123.out.cell 11
                                clear HX123
                                cases R64
                                · go_wp2_with fail
                                  refine (HSE.out _).mono ?_
                                  rintro r v124 ⟨rfl, hb124⟩
                                  have HC124 := hid (below_then hb124 HC123.out)
                                  clear hb124
                                  have hv64 : Hid (B64 = false) := hid (by rw [HQ64.out]; rfl)
                                  go_wp2_with fail
                                  go_meet
                                  case rel => exact ⟨by rw [hv64.out]; first | rfl | simp, HC124.out⟩
                                · go_wp2_with fail
                                  refine (HSE.out _).mono ?_
                                  rintro r v124 ⟨rfl, hb124⟩
                                  have HC124 := hid (below_then hb124 HC123.out)
                                  clear hb124
                                  go_wp2_with fail
                                  refine (HH64.out _).mono ?_
                                  rintro r v125 ⟨rfl, hb125⟩
                                  have HC125 := hid (below_then hb125 HC124.out)
                                  clear hb125
                                  have hv64 : Hid (B64 = true) := hid (by rw [HQ64.out]; rfl)
                                  go_wp2_with fail
                                  go_meet
                                  case rel => exact ⟨by rw [hv64.out]; first | rfl | simp, HC125.out⟩
                            case rest =>
                              obtain ⟨rfl, hbc⟩ := hcut
                              have HB8 := hid hbc
                              clear hbc
                              obtain ⟨w7, hwn⟩ : ∃ W : World, W = wc := ⟨_, rfl⟩
                              subst hwn
                              cases B64
                              · have hff : Hid (MM = false) := hid (by rw [HM.out]; simp)
                                go_wp2_with fail
                                go_ret
                                exact ⟨by rw [hff.out]; rfl, HB0.out.trans (HB8.out.mono HB0.out.size)⟩
                              · cases H128
                                · go_wp2_with fail
                                  refine (HH128.out _).mono ?_
                                  rintro r v126 ⟨rfl, hb126⟩
                                  have HC126 := hid (below_then hb126 HB8.out)
                                  clear hb126
                                  go_wp2_with fail
                                  refine (HH128.out _).mono ?_
                                  rintro r v127 ⟨rfl, hb127⟩
                                  have HC127 := hid (below_then hb127 HC126.out)
                                  clear hb127
                                  have HX127 := hid (HBX.out.later HC127.out)
                                  have y127_12 : v127.cell? ⟨w.heap.size, 12, none⟩ = some (.int .u64 pe) := HX127.out.cell 12
                                  have y127_13 : v127.cell? ⟨w.heap.size, 13, none⟩ = some (.slice a4 PL.length c4) := HX127.out.cell 13
                                  clear HX127
                                  cases hc : (pe == 0)
                                  · have hff : Hid (MM = false) := hid (by rw [HM.out, HQ128.out]; simp [withinR, hc])
                                    go_wp2_with fail
                                    go_ret
                                    exact ⟨by rw [hff.out]; first | rfl | simp, (HB0.out.trans (HC127.out.mono HB0.out.size))⟩
                                  · have hff : Hid (MM = ((PL.length : Int) == 0)) := hid (by rw [HM.out, HQ128.out]; simp [withinR, hc])
                                    go_wp2_with fail
                                    go_ret
                                    exact ⟨by rw [hff.out]; first | rfl | simp, (HB0.out.trans (HC127.out.mono HB0.out.size))⟩
                                · go_wp2_with fail
                                  refine (HH128.out _).mono ?_
                                  rintro r v128 ⟨rfl, hb128⟩
                                  have HC128 := hid (below_then hb128 HB8.out)
                                  clear hb128
                                  have HX128 := hid (HBX.out.later HC128.out)
                                  have y128_12 : v128.cell? ⟨w.heap.size, 12, none⟩ = some (.int .u64 pe) := HX128.out.cell 12
                                  have y128_13 : v128.cell? ⟨w.heap.size, 13, none⟩ = some (.slice a4 PL.length c4) := HX128.out.cell 13
                                  clear HX128
                                  cases R128
                                  · have hff : Hid (MM = false) := hid (by rw [HM.out, HQ128.out]; simp [withinR])
                                    go_wp2_with fail
                                    refine (HPR.out _ (HB0.out.trans (HC128.out.mono HB0.out.size))).mono ?_
                                    rintro r v129 ⟨rfl, hb129⟩
                                    have HC129 := hid (below_then hb129 HC128.out)
                                    clear hb129
                                    go_wp2_with fail
                                    refine (HH128.out _).mono ?_
                                    rintro r v130 ⟨rfl, hb130⟩
                                    have HC130 := hid (below_then hb130 HC129.out)
                                    clear hb130
                                    go_wp2_with fail
                                    go_ret
                                    exact ⟨by rw [hff.out]; first | rfl | simp, (HB0.out.trans (HC130.out.mono HB0.out.size))⟩
                                  · have hff : Hid (MM = true) := hid (by rw [HM.out, HQ128.out]; simp [withinR])
                                    go_wp2_with fail
                                    refine (HPR.out _ (HB0.out.trans (HC128.out.mono HB0.out.size))).mono ?_
                                    rintro r v129 ⟨rfl, hb129⟩
                                    have HC129 := hid (below_then hb129 HC128.out)
                                    clear hb129
                                    go_wp2_with fail
                                    go_ret
                                    exact ⟨by rw [hff.out]; first | rfl | simp, (HB0.out.trans (HC129.out.mono HB0.out.size))⟩
end Go.Proofs.YtlbffbkbkajciaaGreat
namespace Go.Proofs.YtlbffbkbkajciaaGreat
open Go.RowKit Go.Bs Go.Maps
set_option linter.unusedVariables false
set_option linter.unusedSimpArgs false

theorem rd_anew2 {W : World} {g w0 : Nat} {B : List UInt8} {a : Option Addr} {s : Rs} (hb : Blk W g 117 #[.slice a B.length B.length, .int .i64 (s.p : Int), .int .i64 s.k, .int .i64 s.f]) (hd : rBytes.r (· < w0) W [.slice a B.length B.length] B) (hg : w0 ≤ g) (hs : s.ok B.length) : RdAt W g B a s :=
  ⟨hb, rBytes.mono hd fun q hq => ⟨Nat.lt_of_lt_of_le hq (Nat.le_trans hg (Nat.le_of_lt hb.lt)), by omega⟩, hs⟩
end Go.Proofs.YtlbffbkbkajciaaGreat
namespace Go.Proofs.YtlbffbkbkajciaaGreat
open Go.RowKit Go.Bs Go.Maps
set_option linter.unusedVariables false
set_option linter.unusedSimpArgs false

theorem blockK_last {k st : Int} (h : blockK k st = true) : hasK k 64 = false ∧ hasK k 128 = false := by
  unfold blockK at h
  simp only [Bool.or_eq_true, Bool.and_eq_true, decide_eq_true_eq] at h
  rcases h with rfl | ⟨rfl, _⟩ <;> decide
theorem body_rel {B : List UInt8} (s : Rs) (k : Int) :
    (s.body B (blkS B) k = s.body B (blkL B) k ∧ ((s.body B (blkL B) k).1.k = 0 → (s.body B (blkL B) k).2.2 = true)) ∨ ((s.body B (blkS B) k).1.k = 12 ∧ (s.body B (blkL B) k).1.k = 0 ∧ (s.body B (blkL B) k).2.2 = false) := by
  unfold Rs.body
  by_cases hk : 1 ≤ k ∧ k ≤ 14
  · rw [if_pos hk, if_pos hk]
    dsimp only
    generalize s.ahead B k = e
    cases hb : blockK k e.2.state
    · left
      refine ⟨rfl, fun h => ?_⟩
      split at h
      · rename_i h1
        rw [if_pos h1]
        rfl
      · rename_i h1
        exact absurd h h1
    · obtain ⟨h64, h128⟩ := blockK_last hb
      rw [h64, h128]
      have hr := blk_rel (B := B) e.1
      have hSt : (blkS B e.1).2.2 = true := rfl
      unfold Rs.part
      (try dsimp only)
      generalize blkS B e.1 = S at *
      generalize blkL B e.1 = L at *
      obtain ⟨u1, D1, q1⟩ := S
      obtain ⟨u2, D2, q2⟩ := L
      dsimp only at *
      subst hSt
      rcases hr with ⟨rfl, rfl, h3⟩ | ⟨h1, h2, h3⟩
      · left
        by_cases h0 : u1.k = 0
        · rw [h3 h0]
          refine ⟨rfl, fun h => ?_⟩
          simp [h0]
        · refine ⟨?_, fun h => ?_⟩
          · simp [h0]
          · simp [h0] at h
      · right
        subst h3
        simp [h1, h2]
  · rw [if_neg hk, if_neg hk]
    left
    exact ⟨rfl, fun h => absurd h (Rs.fail_k (by omega))⟩
theorem Rs.loose_pm {B : List UInt8} {t : Rs} (ht : t.ok B.length) {m : Int} : t.p ≤ (t.loose B m).1.p := by
  have h1 := Rs.int_p (B := B) (s := t) (m := min m 1048576)
  have o1 := Rs.int_ok (B := B) (m := min m 1048576) ht
  have h2 := Rs.byte_p (B := B) o1
  have o2 := Rs.byte_ok (B := B) o1
  have h3 := Rs.take_p (B := B) o2 ((t.int B (min m 1048576)).2 : Int)
  have h4 := Rs.unp_p (B := B) o2 (t.int B (min m 1048576)).2
  unfold Rs.loose
  split
  · split
    · split <;> (dsimp only; omega)
    · split
      · split <;> (dsimp only; omega)
      · dsimp only
        rw [Rs.fail_p]
        omega
  · dsimp only
    omega
theorem blkL_can {B : List UInt8} (t : Rs) (ht : t.ok B.length) (h : (blkL B t).1.k = 0) (hf : (blkL B t).2.2 = true) : B.drop t.p = blockB (blkL B t).2.1 ++ B.drop (blkL B t).1.p := by
  have h1 := Rs.loose_written2 (B := B) (s := t) (m := 1048576) hf
  have h2 := Rs.loose_pm (B := B) ht (m := 1048576)
  unfold blkL at *
  rw [h1]
  have : B.drop (t.loose B 1048576).1.p = (B.drop t.p).drop ((t.loose B 1048576).1.p - t.p) := by
    rw [List.drop_drop]
    congr 1
    omega
  rw [this, List.take_append_drop]
theorem blkS_can {B : List UInt8} (t : Rs) (ht : t.ok B.length) (h : (blkS B t).1.k = 0) (hf : (blkS B t).2.2 = true) : B.drop t.p = blockB (blkS B t).2.1 ++ B.drop (blkS B t).1.p := by
  rcases blk_rel (B := B) t with ⟨h1, h2, h3⟩ | ⟨h1, h2, h3⟩
  · rw [h1] at h ⊢
    rw [h2]
    exact blkL_can t ht h (h3 h)
  · omega
theorem blkS_okl {B : List UInt8} {t : Rs} (h : t.ok B.length) : (blkS B t).1.ok B.length := by
  unfold blkS Rs.strict
  dsimp only
  split
  · split
    · exact Rs.loose_ok h 1048576
    · exact Rs.fail_ok (Rs.loose_ok h 1048576) (by omega)
  · exact Rs.loose_ok h 1048576
theorem blkL_lenb {B : List UInt8} (t : Rs) : (blkL B t).2.1.length ≤ 1048576 := Rs.loose_len
theorem body_none2 {B : List UInt8} {blk : Rs → Rs × List UInt8 × Bool} {k : Int} {s : Rs} (h : (s.body B blk k).1.k ≠ 0) : (s.body B blk k).2.1 = noMsg := by
  unfold Rs.body at h ⊢
  by_cases h1 : 1 ≤ k ∧ k ≤ 14
  · rw [if_pos h1] at h ⊢
    dsimp only at h ⊢
    split at h
    · rename_i h2
      exact absurd h2 h
    · rename_i h2
      rw [if_neg h2]
  · rw [if_neg h1]
/-- What BodyOnce says, plain. -/
theorem body_once {B : List UInt8} {k : Int} {s1 s2 : Rs} {m1 m2 : Msg} {f1 f2 : Bool} (hS : (⟨0, 0, 0⟩ : Rs).body B (blkS B) k = (s1, m1, f1)) (hL : (⟨0, 0, 0⟩ : Rs).body B (blkL B) k = (s2, m2, f2)) :
    (s1.k = 0 → s2 = s1 ∧ m2 = m1 ∧ f2 = true ∧ msgR m1 = true ∧ MsgN m1 ∧ msgB m1 = B.take s1.p ∧ s1.p ≤ B.length) ∧ (s1.k ≠ 0 → m1 = noMsg) ∧ (s2.k ≠ 0 → m2 = noMsg) ∧ (s1.k ≠ 0 → s2.k = 0 → f2 = false ∧ s1.k = 12 ∧ msgR m2 = true ∧ MsgN m2) := by
  have ok0 : (⟨0, 0, 0⟩ : Rs).ok B.length := ⟨Nat.zero_le _, fun _ => rfl⟩
  have hR := body_rel (B := B) ⟨0, 0, 0⟩ k
  have cS := Rs.body_canon (B := B) (s := ⟨0, 0, 0⟩) (k := k) (blk := blkS B) ok0
  have cL := Rs.body_canon (B := B) (s := ⟨0, 0, 0⟩) (k := k) (blk := blkL B) ok0
  have nS := body_none2 (B := B) (s := ⟨0, 0, 0⟩) (k := k) (blk := blkS B)
  have nL := body_none2 (B := B) (s := ⟨0, 0, 0⟩) (k := k) (blk := blkL B)
  have oS := Rs.body_ok (B := B) (k := k) (blk := blkS B) ok0 (fun t ht => blkS_okl ht)
  rw [hS] at hR cS nS oS
  rw [hL] at hR cL nL
  dsimp only at *
  refine ⟨fun h => ?_, nS, nL, fun h1 h2 => ?_⟩
  · rcases hR with ⟨e, hf⟩ | ⟨e, _, _⟩
    · cases e
      obtain ⟨c1, c2, c3, c4, c5, c6, c7⟩ := cS h (fun t ht => blkS_okl ht) (fun t => blkS_k t) blkS_len (fun t ht => blkS_can t ht)
      have hd := c7 (hf h)
      rw [List.drop_zero] at hd
      have hle := oS.le
      refine ⟨rfl, rfl, hf h, c1, c2, ?_, hle⟩
      have hl : (msgB m1).length = s1.p := by
        have := congrArg List.length hd
        rw [List.length_append, List.length_drop] at this
        omega
      rw [← hl]
      have ht := congrArg (List.take (msgB m1).length) hd
      rw [List.take_left' rfl] at ht
      exact ht.symm
    · omega
  · rcases hR with ⟨e, hf⟩ | ⟨e1, e2, e3⟩
    · cases e
      exact absurd h2 h1
    · obtain ⟨c1, c2, _⟩ := cL h2 (fun t ht => Rs.loose_ok ht 1048576) (fun t => blkL_k t) blkL_lenb (fun t ht => blkL_can t ht)
      exact ⟨e3, e1, c1, c2⟩
end Go.Proofs.YtlbffbkbkajciaaGreat
