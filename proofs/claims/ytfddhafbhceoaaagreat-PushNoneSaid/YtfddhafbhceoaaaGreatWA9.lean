/- Needed by pushNone_walk, part 9: texts put together by shake.py; no condition. -/
import Derived.Test.YtfddhafbhceoaaaGreatWA8
import Derived.Deep.Cut
import Derived.Deep.CutRange
import Derived.Test.YtfddhafbhceoaaaGreatWA7
import Derived.Test.YtfddhafbhceoaaaGreatWA6
import Derived.Test.YtfddhafbhceoaaaGreatWA4
import Derived.Test.YtfddhafbhceoaaaGreatWA5
import Derived.Deep.RegionHeld3
import Derived.Test.YtfddhafbhceoaaaGreatWA2
import Derived.Test.YtfddhafbhceoaaaGreatWA3
import Derived.Lib.SlBytesConst
import Derived.Deep.AppendLies
import Derived.Deep.RegionLaw
import Derived.Test.YtfddhafbhceoaaaGreatWA1
namespace Go.Proofs.YtfddhafbhceoaaaGreat
open Go.RowKit Go.Bs Go.Maps
set_option linter.unusedVariables false
set_option linter.unusedSimpArgs false

theorem part_skip {α : Type} {h : Bool} {s : Rs} {f : Rs → Rs × α} {z : α} (hn : h = false ∨ s.k ≠ 0) (hb : s.k ≠ 0 → f s = (s, z)) : Rs.part h s f z = (s, z) := by
  cases h
  · rfl
  · exact hb (hn.resolve_left (by decide))

set_option maxRecDepth 100000 in
set_option maxHeartbeats 1600000 in
theorem bread_has1 {w : World} {g : Nat} {B : List UInt8} {a : Option Addr} {K : Nat → Prop} {X : World → Bool → Prop} {q : Bool} {M lo : Nat} {k : Int} {m : Msg} {v1 v2 v3 v4 : Value} {s : Rs} {W : World} {fn : Nat} {caps : Array Value} {blk : Rs → Rs × List UInt8 × Bool} (hU : UnblockB w g B a fn caps blk K X) (h : BodI w g B a K X q M lo k m v1 v2 v3 v4 s W) (P : World → Prop)
    (HC : hasK k 1 = true → s.k = 0 → ∀ W' : World, Below W.heap.size W W' → Calls Tryz.prog 308 #[.int .i64 (s.p : Int), .pointer (some ⟨w.heap.size, 0, none⟩), .pointer (some ⟨M, 0, none⟩)] W' fun r W'' => r = .returned (.tuple #[]) ∧ P W'')
    (HN : (hasK k 1 = false ∨ s.k ≠ 0) → ∀ W' : World, Below W.heap.size W W' → P W') :
    Calls Tryz.prog 307 #[.int .i64 1, .func (Fn.func 308) #[] #[.pointer (some ⟨w.heap.size, 0, none⟩), .pointer (some ⟨M, 0, none⟩)], .pointer (some ⟨w.heap.size + 1, 0, none⟩), .pointer (some ⟨w.heap.size, 0, none⟩)] W fun r W' => r = .returned (.tuple #[]) ∧ P W' := by
  have HH := hid (kind_has k 1 (by unfold isPart; decide) W)
  have HRD := hid h.rd
  have y0 : W.cell? ⟨w.heap.size + 1, 0, none⟩ = some (.int .i64 k) := h.pk.cell 0
  have p0 : W.cell? ⟨w.heap.size, 0, none⟩ = some (.pointer (some ⟨g, 0, none⟩)) := h.pa.cell 0
  have l0 := h.pa.lt
  have HCC := hid HC
  have HNN := hid HN
  clear h HC HN hU
  generalize hasK k 1 = H at *
  cases H
  · go_enter Tryz.func307, Tryz.ntmps307
    go_wp2_with fail
    refine HH.out.mono ?_
    rintro r w1 ⟨rfl, hb1⟩
    have HP := hid (HNN.out (.inl (by first | rfl | trivial)) w1 hb1)
    clear hb1
    go_wp2_with fail
    first | go_end0 | refine bodyPost_ret (results_none rfl _ _ _) rfl ?_
    exact ⟨rfl, HP.out⟩
  · by_cases hk : s.k = 0
    · have HG := hid (fun (V : World) (hV : RdAt V g B a s) => (by have := rd_good V hV; rw [decide_eq_true hk] at this; exact this : Calls Tryz.prog 112 #[.pointer (some ⟨g, 0, none⟩)] V fun r w' => r = .returned (.bool true) ∧ Below V.heap.size V w'))
      have HC2 := hid (HCC.out (by first | rfl | trivial) hk)
      clear hk
      go_enter Tryz.func307, Tryz.ntmps307
      go_wp2_with fail
      refine HH.out.mono ?_
      rintro r w1 ⟨rfl, hb1⟩
      have p1 := (hb1.cell (p := ⟨w.heap.size, 0, none⟩) l0).trans p0
      have HRD1 := hid (HRD.out.later hb1)
      have HB1 := hid hb1
      have l1 := Nat.lt_of_lt_of_le l0 hb1.size
      clear hb1
      go_wp2_with fail
      refine (HG.out _ HRD1.out).mono ?_
      rintro r w2 ⟨rfl, hb2⟩
      have p2 := (hb2.cell (p := ⟨w.heap.size, 0, none⟩) l1).trans p1
      have HRD2 := hid (HRD1.out.later hb2)
      have HB2 := hid (HB1.out.trans (hb2.mono HB1.out.size))
      clear hb2
      go_wp2_with fail
      refine (rd_at _ HRD2.out).mono ?_
      rintro r w2' ⟨rfl, rfl⟩
      go_wp2_with fail
      refine (HC2.out _ HB2.out).mono ?_
      rintro r w3 ⟨rfl, hp⟩
      have HP := hid hp
      clear hp
      go_wp2_with fail
      first | go_end0 | refine bodyPost_ret (results_none rfl _ _ _) rfl ?_
      exact ⟨rfl, HP.out⟩
    · have HG := hid (fun (V : World) (hV : RdAt V g B a s) => (by have := rd_good V hV; rw [decide_eq_false hk] at this; exact this : Calls Tryz.prog 112 #[.pointer (some ⟨g, 0, none⟩)] V fun r w' => r = .returned (.bool false) ∧ Below V.heap.size V w'))
      have HN2 := hid (HNN.out (.inr hk))
      clear hk
      go_enter Tryz.func307, Tryz.ntmps307
      go_wp2_with fail
      refine HH.out.mono ?_
      rintro r w1 ⟨rfl, hb1⟩
      have p1 := (hb1.cell (p := ⟨w.heap.size, 0, none⟩) l0).trans p0
      have HRD1 := hid (HRD.out.later hb1)
      have HB1 := hid hb1
      clear hb1
      go_wp2_with fail
      refine (HG.out _ HRD1.out).mono ?_
      rintro r w2 ⟨rfl, hb2⟩
      have HP := hid (HN2.out _ (HB1.out.trans (hb2.mono HB1.out.size)))
      clear hb2
      go_wp2_with fail
      first | go_end0 | refine bodyPost_ret (results_none rfl _ _ _) rfl ?_
      exact ⟨rfl, HP.out⟩

theorem bread_p1 {w : World} {g : Nat} {B : List UInt8} {a : Option Addr} {K : Nat → Prop} {X : World → Bool → Prop} {q : Bool} {M lo : Nat} {k : Int} {m : Msg} {v1 v2 v3 v4 : Value} {s : Rs} {W : World} {fn : Nat} {caps : Array Value} {blk : Rs → Rs × List UInt8 × Bool} (hU : UnblockB w g B a fn caps blk K X) (hB : B.length ≤ 1000000000) (h : BodI w g B a K X q M lo k m v1 v2 v3 v4 s W) (hz : m.pos = (0 : Int)) :
    Calls Tryz.prog 307 #[.int .i64 1, .func (Fn.func 308) #[] #[.pointer (some ⟨w.heap.size, 0, none⟩), .pointer (some ⟨M, 0, none⟩)], .pointer (some ⟨w.heap.size + 1, 0, none⟩), .pointer (some ⟨w.heap.size, 0, none⟩)] W fun r W' => r = .returned (.tuple #[]) ∧ BodI w g B a K X q M lo k { m with pos := (Rs.part (hasK k 1) s (Rs.pos_ B) 0).2 } v1 v2 v3 v4 (Rs.part (hasK k 1) s (Rs.pos_ B) 0).1 W' := by
  refine bread_has1 hU h (fun W' => BodI w g B a K X q M lo k { m with pos := (Rs.part (hasK k 1) s (Rs.pos_ B) 0).2 } v1 v2 v3 v4 (Rs.part (hasK k 1) s (Rs.pos_ B) 0).1 W') (fun hh hk W' hb => ?_) (fun hn W' hb => ?_)
  · have := bread_pos hU hB (h.later hU hb) s.p
    rw [hh]
    exact this
  · rw [part_skip hn fun e => Rs.pos_of_bad e]
    have e : { m with pos := (0 : Int) } = m := by
      cases m
      dsimp only at hz
      subst hz
      rfl
    dsimp only
    rw [e]
    exact h.later hU hb

set_option maxRecDepth 100000 in
set_option maxHeartbeats 1600000 in
theorem bread_has2 {w : World} {g : Nat} {B : List UInt8} {a : Option Addr} {K : Nat → Prop} {X : World → Bool → Prop} {q : Bool} {M lo : Nat} {k : Int} {m : Msg} {v1 v2 v3 v4 : Value} {s : Rs} {W : World} {fn : Nat} {caps : Array Value} {blk : Rs → Rs × List UInt8 × Bool} (hU : UnblockB w g B a fn caps blk K X) (h : BodI w g B a K X q M lo k m v1 v2 v3 v4 s W) (P : World → Prop)
    (HC : hasK k 2 = true → s.k = 0 → ∀ W' : World, Below W.heap.size W W' → Calls Tryz.prog 309 #[.int .i64 (s.p : Int), .pointer (some ⟨w.heap.size, 0, none⟩), .pointer (some ⟨M, 0, none⟩)] W' fun r W'' => r = .returned (.tuple #[]) ∧ P W'')
    (HN : (hasK k 2 = false ∨ s.k ≠ 0) → ∀ W' : World, Below W.heap.size W W' → P W') :
    Calls Tryz.prog 307 #[.int .i64 2, .func (Fn.func 309) #[] #[.pointer (some ⟨w.heap.size, 0, none⟩), .pointer (some ⟨M, 0, none⟩)], .pointer (some ⟨w.heap.size + 1, 0, none⟩), .pointer (some ⟨w.heap.size, 0, none⟩)] W fun r W' => r = .returned (.tuple #[]) ∧ P W' := by
  have HH := hid (kind_has k 2 (by unfold isPart; decide) W)
  have HRD := hid h.rd
  have y0 : W.cell? ⟨w.heap.size + 1, 0, none⟩ = some (.int .i64 k) := h.pk.cell 0
  have p0 : W.cell? ⟨w.heap.size, 0, none⟩ = some (.pointer (some ⟨g, 0, none⟩)) := h.pa.cell 0
  have l0 := h.pa.lt
  have HCC := hid HC
  have HNN := hid HN
  clear h HC HN hU
  generalize hasK k 2 = H at *
  cases H
  · go_enter Tryz.func307, Tryz.ntmps307
    go_wp2_with fail
    refine HH.out.mono ?_
    rintro r w1 ⟨rfl, hb1⟩
    have HP := hid (HNN.out (.inl (by first | rfl | trivial)) w1 hb1)
    clear hb1
    go_wp2_with fail
    first | go_end0 | refine bodyPost_ret (results_none rfl _ _ _) rfl ?_
    exact ⟨rfl, HP.out⟩
  · by_cases hk : s.k = 0
    · have HG := hid (fun (V : World) (hV : RdAt V g B a s) => (by have := rd_good V hV; rw [decide_eq_true hk] at this; exact this : Calls Tryz.prog 112 #[.pointer (some ⟨g, 0, none⟩)] V fun r w' => r = .returned (.bool true) ∧ Below V.heap.size V w'))
      have HC2 := hid (HCC.out (by first | rfl | trivial) hk)
      clear hk
      go_enter Tryz.func307, Tryz.ntmps307
      go_wp2_with fail
      refine HH.out.mono ?_
      rintro r w1 ⟨rfl, hb1⟩
      have p1 := (hb1.cell (p := ⟨w.heap.size, 0, none⟩) l0).trans p0
      have HRD1 := hid (HRD.out.later hb1)
      have HB1 := hid hb1
      have l1 := Nat.lt_of_lt_of_le l0 hb1.size
      clear hb1
      go_wp2_with fail
      refine (HG.out _ HRD1.out).mono ?_
      rintro r w2 ⟨rfl, hb2⟩
      have p2 := (hb2.cell (p := ⟨w.heap.size, 0, none⟩) l1).trans p1
      have HRD2 := hid (HRD1.out.later hb2)
      have HB2 := hid (HB1.out.trans (hb2.mono HB1.out.size))
      clear hb2
      go_wp2_with fail
      refine (rd_at _ HRD2.out).mono ?_
      rintro r w2' ⟨rfl, rfl⟩
      go_wp2_with fail
      refine (HC2.out _ HB2.out).mono ?_
      rintro r w3 ⟨rfl, hp⟩
      have HP := hid hp
      clear hp
      go_wp2_with fail
      first | go_end0 | refine bodyPost_ret (results_none rfl _ _ _) rfl ?_
      exact ⟨rfl, HP.out⟩
    · have HG := hid (fun (V : World) (hV : RdAt V g B a s) => (by have := rd_good V hV; rw [decide_eq_false hk] at this; exact this : Calls Tryz.prog 112 #[.pointer (some ⟨g, 0, none⟩)] V fun r w' => r = .returned (.bool false) ∧ Below V.heap.size V w'))
      have HN2 := hid (HNN.out (.inr hk))
      clear hk
      go_enter Tryz.func307, Tryz.ntmps307
      go_wp2_with fail
      refine HH.out.mono ?_
      rintro r w1 ⟨rfl, hb1⟩
      have p1 := (hb1.cell (p := ⟨w.heap.size, 0, none⟩) l0).trans p0
      have HRD1 := hid (HRD.out.later hb1)
      have HB1 := hid hb1
      clear hb1
      go_wp2_with fail
      refine (HG.out _ HRD1.out).mono ?_
      rintro r w2 ⟨rfl, hb2⟩
      have HP := hid (HN2.out _ (HB1.out.trans (hb2.mono HB1.out.size)))
      clear hb2
      go_wp2_with fail
      first | go_end0 | refine bodyPost_ret (results_none rfl _ _ _) rfl ?_
      exact ⟨rfl, HP.out⟩

theorem bread_p2 {w : World} {g : Nat} {B : List UInt8} {a : Option Addr} {K : Nat → Prop} {X : World → Bool → Prop} {q : Bool} {M lo : Nat} {k : Int} {m : Msg} {v1 v2 v3 v4 : Value} {s : Rs} {W : World} {fn : Nat} {caps : Array Value} {blk : Rs → Rs × List UInt8 × Bool} (hU : UnblockB w g B a fn caps blk K X) (hB : B.length ≤ 1000000000) (h : BodI w g B a K X q M lo k m v1 v2 v3 v4 s W) (hz : m.count = (0 : Int)) :
    Calls Tryz.prog 307 #[.int .i64 2, .func (Fn.func 309) #[] #[.pointer (some ⟨w.heap.size, 0, none⟩), .pointer (some ⟨M, 0, none⟩)], .pointer (some ⟨w.heap.size + 1, 0, none⟩), .pointer (some ⟨w.heap.size, 0, none⟩)] W fun r W' => r = .returned (.tuple #[]) ∧ BodI w g B a K X q M lo k { m with count := (Rs.part (hasK k 2) s (Rs.cnt B) 0).2 } v1 v2 v3 v4 (Rs.part (hasK k 2) s (Rs.cnt B) 0).1 W' := by
  refine bread_has2 hU h (fun W' => BodI w g B a K X q M lo k { m with count := (Rs.part (hasK k 2) s (Rs.cnt B) 0).2 } v1 v2 v3 v4 (Rs.part (hasK k 2) s (Rs.cnt B) 0).1 W') (fun hh hk W' hb => ?_) (fun hn W' hb => ?_)
  · have := bread_count hU hB (h.later hU hb) s.p
    rw [hh]
    exact this.mono fun r V ⟨h1, h2⟩ => ⟨h1, h2 rfl⟩
  · rw [part_skip hn fun e => Rs.cnt_of_bad e]
    have e : { m with count := (0 : Int) } = m := by
      cases m
      dsimp only at hz
      subst hz
      rfl
    dsimp only
    rw [e]
    exact h.later hU hb

set_option maxRecDepth 100000 in
set_option maxHeartbeats 1600000 in
theorem bread_has4 {w : World} {g : Nat} {B : List UInt8} {a : Option Addr} {K : Nat → Prop} {X : World → Bool → Prop} {q : Bool} {M lo : Nat} {k : Int} {m : Msg} {v1 v2 v3 v4 : Value} {s : Rs} {W : World} {fn : Nat} {caps : Array Value} {blk : Rs → Rs × List UInt8 × Bool} (hU : UnblockB w g B a fn caps blk K X) (h : BodI w g B a K X q M lo k m v1 v2 v3 v4 s W) (P : World → Prop)
    (HC : hasK k 4 = true → s.k = 0 → ∀ W' : World, Below W.heap.size W W' → Calls Tryz.prog 311 #[.int .i64 (s.p : Int), .pointer (some ⟨w.heap.size, 0, none⟩), .pointer (some ⟨M, 0, none⟩), .pointer (some ⟨w.heap.size + 1, 0, none⟩)] W' fun r W'' => r = .returned (.tuple #[]) ∧ P W'')
    (HN : (hasK k 4 = false ∨ s.k ≠ 0) → ∀ W' : World, Below W.heap.size W W' → P W') :
    Calls Tryz.prog 307 #[.int .i64 4, .func (Fn.func 311) #[] #[.pointer (some ⟨w.heap.size, 0, none⟩), .pointer (some ⟨M, 0, none⟩), .pointer (some ⟨w.heap.size + 1, 0, none⟩)], .pointer (some ⟨w.heap.size + 1, 0, none⟩), .pointer (some ⟨w.heap.size, 0, none⟩)] W fun r W' => r = .returned (.tuple #[]) ∧ P W' := by
  have HH := hid (kind_has k 4 (by unfold isPart; decide) W)
  have HRD := hid h.rd
  have y0 : W.cell? ⟨w.heap.size + 1, 0, none⟩ = some (.int .i64 k) := h.pk.cell 0
  have p0 : W.cell? ⟨w.heap.size, 0, none⟩ = some (.pointer (some ⟨g, 0, none⟩)) := h.pa.cell 0
  have l0 := h.pa.lt
  have HCC := hid HC
  have HNN := hid HN
  clear h HC HN hU
  generalize hasK k 4 = H at *
  cases H
  · go_enter Tryz.func307, Tryz.ntmps307
    go_wp2_with fail
    refine HH.out.mono ?_
    rintro r w1 ⟨rfl, hb1⟩
    have HP := hid (HNN.out (.inl (by first | rfl | trivial)) w1 hb1)
    clear hb1
    go_wp2_with fail
    first | go_end0 | refine bodyPost_ret (results_none rfl _ _ _) rfl ?_
    exact ⟨rfl, HP.out⟩
  · by_cases hk : s.k = 0
    · have HG := hid (fun (V : World) (hV : RdAt V g B a s) => (by have := rd_good V hV; rw [decide_eq_true hk] at this; exact this : Calls Tryz.prog 112 #[.pointer (some ⟨g, 0, none⟩)] V fun r w' => r = .returned (.bool true) ∧ Below V.heap.size V w'))
      have HC2 := hid (HCC.out (by first | rfl | trivial) hk)
      clear hk
      go_enter Tryz.func307, Tryz.ntmps307
      go_wp2_with fail
      refine HH.out.mono ?_
      rintro r w1 ⟨rfl, hb1⟩
      have p1 := (hb1.cell (p := ⟨w.heap.size, 0, none⟩) l0).trans p0
      have HRD1 := hid (HRD.out.later hb1)
      have HB1 := hid hb1
      have l1 := Nat.lt_of_lt_of_le l0 hb1.size
      clear hb1
      go_wp2_with fail
      refine (HG.out _ HRD1.out).mono ?_
      rintro r w2 ⟨rfl, hb2⟩
      have p2 := (hb2.cell (p := ⟨w.heap.size, 0, none⟩) l1).trans p1
      have HRD2 := hid (HRD1.out.later hb2)
      have HB2 := hid (HB1.out.trans (hb2.mono HB1.out.size))
      clear hb2
      go_wp2_with fail
      refine (rd_at _ HRD2.out).mono ?_
      rintro r w2' ⟨rfl, rfl⟩
      go_wp2_with fail
      refine (HC2.out _ HB2.out).mono ?_
      rintro r w3 ⟨rfl, hp⟩
      have HP := hid hp
      clear hp
      go_wp2_with fail
      first | go_end0 | refine bodyPost_ret (results_none rfl _ _ _) rfl ?_
      exact ⟨rfl, HP.out⟩
    · have HG := hid (fun (V : World) (hV : RdAt V g B a s) => (by have := rd_good V hV; rw [decide_eq_false hk] at this; exact this : Calls Tryz.prog 112 #[.pointer (some ⟨g, 0, none⟩)] V fun r w' => r = .returned (.bool false) ∧ Below V.heap.size V w'))
      have HN2 := hid (HNN.out (.inr hk))
      clear hk
      go_enter Tryz.func307, Tryz.ntmps307
      go_wp2_with fail
      refine HH.out.mono ?_
      rintro r w1 ⟨rfl, hb1⟩
      have p1 := (hb1.cell (p := ⟨w.heap.size, 0, none⟩) l0).trans p0
      have HRD1 := hid (HRD.out.later hb1)
      have HB1 := hid hb1
      clear hb1
      go_wp2_with fail
      refine (HG.out _ HRD1.out).mono ?_
      rintro r w2 ⟨rfl, hb2⟩
      have HP := hid (HN2.out _ (HB1.out.trans (hb2.mono HB1.out.size)))
      clear hb2
      go_wp2_with fail
      first | go_end0 | refine bodyPost_ret (results_none rfl _ _ _) rfl ?_
      exact ⟨rfl, HP.out⟩

theorem bread_p4 {w : World} {g : Nat} {B : List UInt8} {a : Option Addr} {K : Nat → Prop} {X : World → Bool → Prop} {q : Bool} {M lo : Nat} {k : Int} {m : Msg} {v1 v2 v3 v4 : Value} {s : Rs} {W : World} {fn : Nat} {caps : Array Value} {blk : Rs → Rs × List UInt8 × Bool} (hU : UnblockB w g B a fn caps blk K X) (hB : B.length ≤ 1000000000) (h : BodI w g B a K X q M lo k m v1 v2 v3 v4 s W) (hz : m.state = (0 : Int)) :
    Calls Tryz.prog 307 #[.int .i64 4, .func (Fn.func 311) #[] #[.pointer (some ⟨w.heap.size, 0, none⟩), .pointer (some ⟨M, 0, none⟩), .pointer (some ⟨w.heap.size + 1, 0, none⟩)], .pointer (some ⟨w.heap.size + 1, 0, none⟩), .pointer (some ⟨w.heap.size, 0, none⟩)] W fun r W' => r = .returned (.tuple #[]) ∧ BodI w g B a K X q M lo k { m with state := (Rs.part (hasK k 4) s (Rs.stt B k) 0).2 } v1 v2 v3 v4 (Rs.part (hasK k 4) s (Rs.stt B k) 0).1 W' := by
  refine bread_has4 hU h (fun W' => BodI w g B a K X q M lo k { m with state := (Rs.part (hasK k 4) s (Rs.stt B k) 0).2 } v1 v2 v3 v4 (Rs.part (hasK k 4) s (Rs.stt B k) 0).1 W') (fun hh hk W' hb => ?_) (fun hn W' hb => ?_)
  · have := bread_state hU hB (h.later hU hb) s.p
    rw [hh]
    exact this.mono fun r V ⟨h1, h2⟩ => ⟨h1, h2 rfl⟩
  · rw [part_skip hn fun e => Rs.stt_of_bad e]
    have e : { m with state := (0 : Int) } = m := by
      cases m
      dsimp only at hz
      subst hz
      rfl
    dsimp only
    rw [e]
    exact h.later hU hb

set_option maxRecDepth 100000 in
set_option maxHeartbeats 1600000 in
theorem bread_has8 {w : World} {g : Nat} {B : List UInt8} {a : Option Addr} {K : Nat → Prop} {X : World → Bool → Prop} {q : Bool} {M lo : Nat} {k : Int} {m : Msg} {v1 v2 v3 v4 : Value} {s : Rs} {W : World} {fn : Nat} {caps : Array Value} {blk : Rs → Rs × List UInt8 × Bool} (hU : UnblockB w g B a fn caps blk K X) (h : BodI w g B a K X q M lo k m v1 v2 v3 v4 s W) (P : World → Prop)
    (HC : hasK k 8 = true → s.k = 0 → ∀ W' : World, Below W.heap.size W W' → Calls Tryz.prog 312 #[.int .i64 (s.p : Int), .pointer (some ⟨w.heap.size, 0, none⟩), .pointer (some ⟨M, 0, none⟩)] W' fun r W'' => r = .returned (.tuple #[]) ∧ P W'')
    (HN : (hasK k 8 = false ∨ s.k ≠ 0) → ∀ W' : World, Below W.heap.size W W' → P W') :
    Calls Tryz.prog 307 #[.int .i64 8, .func (Fn.func 312) #[] #[.pointer (some ⟨w.heap.size, 0, none⟩), .pointer (some ⟨M, 0, none⟩)], .pointer (some ⟨w.heap.size + 1, 0, none⟩), .pointer (some ⟨w.heap.size, 0, none⟩)] W fun r W' => r = .returned (.tuple #[]) ∧ P W' := by
  have HH := hid (kind_has k 8 (by unfold isPart; decide) W)
  have HRD := hid h.rd
  have y0 : W.cell? ⟨w.heap.size + 1, 0, none⟩ = some (.int .i64 k) := h.pk.cell 0
  have p0 : W.cell? ⟨w.heap.size, 0, none⟩ = some (.pointer (some ⟨g, 0, none⟩)) := h.pa.cell 0
  have l0 := h.pa.lt
  have HCC := hid HC
  have HNN := hid HN
  clear h HC HN hU
  generalize hasK k 8 = H at *
  cases H
  · go_enter Tryz.func307, Tryz.ntmps307
    go_wp2_with fail
    refine HH.out.mono ?_
    rintro r w1 ⟨rfl, hb1⟩
    have HP := hid (HNN.out (.inl (by first | rfl | trivial)) w1 hb1)
    clear hb1
    go_wp2_with fail
    first | go_end0 | refine bodyPost_ret (results_none rfl _ _ _) rfl ?_
    exact ⟨rfl, HP.out⟩
  · by_cases hk : s.k = 0
    · have HG := hid (fun (V : World) (hV : RdAt V g B a s) => (by have := rd_good V hV; rw [decide_eq_true hk] at this; exact this : Calls Tryz.prog 112 #[.pointer (some ⟨g, 0, none⟩)] V fun r w' => r = .returned (.bool true) ∧ Below V.heap.size V w'))
      have HC2 := hid (HCC.out (by first | rfl | trivial) hk)
      clear hk
      go_enter Tryz.func307, Tryz.ntmps307
      go_wp2_with fail
      refine HH.out.mono ?_
      rintro r w1 ⟨rfl, hb1⟩
      have p1 := (hb1.cell (p := ⟨w.heap.size, 0, none⟩) l0).trans p0
      have HRD1 := hid (HRD.out.later hb1)
      have HB1 := hid hb1
      have l1 := Nat.lt_of_lt_of_le l0 hb1.size
      clear hb1
      go_wp2_with fail
      refine (HG.out _ HRD1.out).mono ?_
      rintro r w2 ⟨rfl, hb2⟩
      have p2 := (hb2.cell (p := ⟨w.heap.size, 0, none⟩) l1).trans p1
      have HRD2 := hid (HRD1.out.later hb2)
      have HB2 := hid (HB1.out.trans (hb2.mono HB1.out.size))
      clear hb2
      go_wp2_with fail
      refine (rd_at _ HRD2.out).mono ?_
      rintro r w2' ⟨rfl, rfl⟩
      go_wp2_with fail
      refine (HC2.out _ HB2.out).mono ?_
      rintro r w3 ⟨rfl, hp⟩
      have HP := hid hp
      clear hp
      go_wp2_with fail
      first | go_end0 | refine bodyPost_ret (results_none rfl _ _ _) rfl ?_
      exact ⟨rfl, HP.out⟩
    · have HG := hid (fun (V : World) (hV : RdAt V g B a s) => (by have := rd_good V hV; rw [decide_eq_false hk] at this; exact this : Calls Tryz.prog 112 #[.pointer (some ⟨g, 0, none⟩)] V fun r w' => r = .returned (.bool false) ∧ Below V.heap.size V w'))
      have HN2 := hid (HNN.out (.inr hk))
      clear hk
      go_enter Tryz.func307, Tryz.ntmps307
      go_wp2_with fail
      refine HH.out.mono ?_
      rintro r w1 ⟨rfl, hb1⟩
      have p1 := (hb1.cell (p := ⟨w.heap.size, 0, none⟩) l0).trans p0
      have HRD1 := hid (HRD.out.later hb1)
      have HB1 := hid hb1
      clear hb1
      go_wp2_with fail
      refine (HG.out _ HRD1.out).mono ?_
      rintro r w2 ⟨rfl, hb2⟩
      have HP := hid (HN2.out _ (HB1.out.trans (hb2.mono HB1.out.size)))
      clear hb2
      go_wp2_with fail
      first | go_end0 | refine bodyPost_ret (results_none rfl _ _ _) rfl ?_
      exact ⟨rfl, HP.out⟩

theorem bread_p8 {w : World} {g : Nat} {B : List UInt8} {a : Option Addr} {K : Nat → Prop} {X : World → Bool → Prop} {q : Bool} {M lo : Nat} {k : Int} {m : Msg} {v1 v2 v3 v4 : Value} {s : Rs} {W : World} {fn : Nat} {caps : Array Value} {blk : Rs → Rs × List UInt8 × Bool} (hU : UnblockB w g B a fn caps blk K X) (hB : B.length ≤ 1000000000) (h : BodI w g B a K X q M lo k m v1 v2 v3 v4 s W) (hz : m.streams = ([] : List Int)) :
    Calls Tryz.prog 307 #[.int .i64 8, .func (Fn.func 312) #[] #[.pointer (some ⟨w.heap.size, 0, none⟩), .pointer (some ⟨M, 0, none⟩)], .pointer (some ⟨w.heap.size + 1, 0, none⟩), .pointer (some ⟨w.heap.size, 0, none⟩)] W fun r W' => r = .returned (.tuple #[]) ∧ ∃ v1', BodI w g B a K X q M lo k { m with streams := (Rs.part (hasK k 8) s (Rs.strm B) []).2 } v1' v2 v3 v4 (Rs.part (hasK k 8) s (Rs.strm B) []).1 W' := by
  refine bread_has8 hU h (fun W' => ∃ v1', BodI w g B a K X q M lo k { m with streams := (Rs.part (hasK k 8) s (Rs.strm B) []).2 } v1' v2 v3 v4 (Rs.part (hasK k 8) s (Rs.strm B) []).1 W') (fun hh hk W' hb => ?_) (fun hn W' hb => ?_)
  · have := bread_streams hU hB (h.later hU hb) s.p
    rw [hh]
    exact this
  · rw [part_skip hn fun e => Rs.strm_of_bad e]
    have e : { m with streams := ([] : List Int) } = m := by
      cases m
      dsimp only at hz
      subst hz
      rfl
    dsimp only
    rw [e]
    exact ⟨_, h.later hU hb⟩

set_option maxRecDepth 100000 in
set_option maxHeartbeats 1600000 in
theorem bread_has16 {w : World} {g : Nat} {B : List UInt8} {a : Option Addr} {K : Nat → Prop} {X : World → Bool → Prop} {q : Bool} {M lo : Nat} {k : Int} {m : Msg} {v1 v2 v3 v4 : Value} {s : Rs} {W : World} {fn : Nat} {caps : Array Value} {blk : Rs → Rs × List UInt8 × Bool} (hU : UnblockB w g B a fn caps blk K X) (h : BodI w g B a K X q M lo k m v1 v2 v3 v4 s W) (P : World → Prop)
    (HC : hasK k 16 = true → s.k = 0 → ∀ W' : World, Below W.heap.size W W' → Calls Tryz.prog 314 #[.int .i64 (s.p : Int), .pointer (some ⟨w.heap.size, 0, none⟩), .pointer (some ⟨M, 0, none⟩)] W' fun r W'' => r = .returned (.tuple #[]) ∧ P W'')
    (HN : (hasK k 16 = false ∨ s.k ≠ 0) → ∀ W' : World, Below W.heap.size W W' → P W') :
    Calls Tryz.prog 307 #[.int .i64 16, .func (Fn.func 314) #[] #[.pointer (some ⟨w.heap.size, 0, none⟩), .pointer (some ⟨M, 0, none⟩)], .pointer (some ⟨w.heap.size + 1, 0, none⟩), .pointer (some ⟨w.heap.size, 0, none⟩)] W fun r W' => r = .returned (.tuple #[]) ∧ P W' := by
  have HH := hid (kind_has k 16 (by unfold isPart; decide) W)
  have HRD := hid h.rd
  have y0 : W.cell? ⟨w.heap.size + 1, 0, none⟩ = some (.int .i64 k) := h.pk.cell 0
  have p0 : W.cell? ⟨w.heap.size, 0, none⟩ = some (.pointer (some ⟨g, 0, none⟩)) := h.pa.cell 0
  have l0 := h.pa.lt
  have HCC := hid HC
  have HNN := hid HN
  clear h HC HN hU
  generalize hasK k 16 = H at *
  cases H
  · go_enter Tryz.func307, Tryz.ntmps307
    go_wp2_with fail
    refine HH.out.mono ?_
    rintro r w1 ⟨rfl, hb1⟩
    have HP := hid (HNN.out (.inl (by first | rfl | trivial)) w1 hb1)
    clear hb1
    go_wp2_with fail
    first | go_end0 | refine bodyPost_ret (results_none rfl _ _ _) rfl ?_
    exact ⟨rfl, HP.out⟩
  · by_cases hk : s.k = 0
    · have HG := hid (fun (V : World) (hV : RdAt V g B a s) => (by have := rd_good V hV; rw [decide_eq_true hk] at this; exact this : Calls Tryz.prog 112 #[.pointer (some ⟨g, 0, none⟩)] V fun r w' => r = .returned (.bool true) ∧ Below V.heap.size V w'))
      have HC2 := hid (HCC.out (by first | rfl | trivial) hk)
      clear hk
      go_enter Tryz.func307, Tryz.ntmps307
      go_wp2_with fail
      refine HH.out.mono ?_
      rintro r w1 ⟨rfl, hb1⟩
      have p1 := (hb1.cell (p := ⟨w.heap.size, 0, none⟩) l0).trans p0
      have HRD1 := hid (HRD.out.later hb1)
      have HB1 := hid hb1
      have l1 := Nat.lt_of_lt_of_le l0 hb1.size
      clear hb1
      go_wp2_with fail
      refine (HG.out _ HRD1.out).mono ?_
      rintro r w2 ⟨rfl, hb2⟩
      have p2 := (hb2.cell (p := ⟨w.heap.size, 0, none⟩) l1).trans p1
      have HRD2 := hid (HRD1.out.later hb2)
      have HB2 := hid (HB1.out.trans (hb2.mono HB1.out.size))
      clear hb2
      go_wp2_with fail
      refine (rd_at _ HRD2.out).mono ?_
      rintro r w2' ⟨rfl, rfl⟩
      go_wp2_with fail
      refine (HC2.out _ HB2.out).mono ?_
      rintro r w3 ⟨rfl, hp⟩
      have HP := hid hp
      clear hp
      go_wp2_with fail
      first | go_end0 | refine bodyPost_ret (results_none rfl _ _ _) rfl ?_
      exact ⟨rfl, HP.out⟩
    · have HG := hid (fun (V : World) (hV : RdAt V g B a s) => (by have := rd_good V hV; rw [decide_eq_false hk] at this; exact this : Calls Tryz.prog 112 #[.pointer (some ⟨g, 0, none⟩)] V fun r w' => r = .returned (.bool false) ∧ Below V.heap.size V w'))
      have HN2 := hid (HNN.out (.inr hk))
      clear hk
      go_enter Tryz.func307, Tryz.ntmps307
      go_wp2_with fail
      refine HH.out.mono ?_
      rintro r w1 ⟨rfl, hb1⟩
      have p1 := (hb1.cell (p := ⟨w.heap.size, 0, none⟩) l0).trans p0
      have HRD1 := hid (HRD.out.later hb1)
      have HB1 := hid hb1
      clear hb1
      go_wp2_with fail
      refine (HG.out _ HRD1.out).mono ?_
      rintro r w2 ⟨rfl, hb2⟩
      have HP := hid (HN2.out _ (HB1.out.trans (hb2.mono HB1.out.size)))
      clear hb2
      go_wp2_with fail
      first | go_end0 | refine bodyPost_ret (results_none rfl _ _ _) rfl ?_
      exact ⟨rfl, HP.out⟩

theorem bread_p16 {w : World} {g : Nat} {B : List UInt8} {a : Option Addr} {K : Nat → Prop} {X : World → Bool → Prop} {q : Bool} {M lo : Nat} {k : Int} {m : Msg} {v1 v2 v3 v4 : Value} {s : Rs} {W : World} {fn : Nat} {caps : Array Value} {blk : Rs → Rs × List UInt8 × Bool} (hU : UnblockB w g B a fn caps blk K X) (hB : B.length ≤ 1000000000) (h : BodI w g B a K X q M lo k m v1 v2 v3 v4 s W) (hz : m.links = ([] : List Link)) (hpos : 0 ≤ m.pos ∧ m.pos ≤ 18446744073709551615) :
    Calls Tryz.prog 307 #[.int .i64 16, .func (Fn.func 314) #[] #[.pointer (some ⟨w.heap.size, 0, none⟩), .pointer (some ⟨M, 0, none⟩)], .pointer (some ⟨w.heap.size + 1, 0, none⟩), .pointer (some ⟨w.heap.size, 0, none⟩)] W fun r W' => r = .returned (.tuple #[]) ∧ ∃ v2', BodI w g B a K X q M lo k { m with links := (Rs.part (hasK k 16) s (fun t => t.links B m.pos) []).2 } v1 v2' v3 v4 (Rs.part (hasK k 16) s (fun t => t.links B m.pos) []).1 W' := by
  refine bread_has16 hU h (fun W' => ∃ v2', BodI w g B a K X q M lo k { m with links := (Rs.part (hasK k 16) s (fun t => t.links B m.pos) []).2 } v1 v2' v3 v4 (Rs.part (hasK k 16) s (fun t => t.links B m.pos) []).1 W') (fun hh hk W' hb => ?_) (fun hn W' hb => ?_)
  · have := bread_links hU hB (h.later hU hb) s.p hpos
    rw [hh]
    exact this
  · rw [part_skip hn fun e => Rs.links_of_badm e]
    have e : { m with links := ([] : List Link) } = m := by
      cases m
      dsimp only at hz
      subst hz
      rfl
    dsimp only
    rw [e]
    exact ⟨_, h.later hU hb⟩

set_option maxRecDepth 100000 in
set_option maxHeartbeats 1600000 in
theorem bread_has64 {w : World} {g : Nat} {B : List UInt8} {a : Option Addr} {K : Nat → Prop} {X : World → Bool → Prop} {q : Bool} {M lo : Nat} {k : Int} {m : Msg} {v1 v2 v3 v4 : Value} {s : Rs} {W : World} {fn : Nat} {caps : Array Value} {blk : Rs → Rs × List UInt8 × Bool} (hU : UnblockB w g B a fn caps blk K X) (h : BodI w g B a K X q M lo k m v1 v2 v3 v4 s W) (P : World → Prop)
    (HC : hasK k 64 = true → s.k = 0 → ∀ W' : World, Below W.heap.size W W' → Calls Tryz.prog 316 #[.int .i64 (s.p : Int), .pointer (some ⟨w.heap.size, 0, none⟩), .pointer (some ⟨M, 0, none⟩)] W' fun r W'' => r = .returned (.tuple #[]) ∧ P W'')
    (HN : (hasK k 64 = false ∨ s.k ≠ 0) → ∀ W' : World, Below W.heap.size W W' → P W') :
    Calls Tryz.prog 307 #[.int .i64 64, .func (Fn.func 316) #[] #[.pointer (some ⟨w.heap.size, 0, none⟩), .pointer (some ⟨M, 0, none⟩)], .pointer (some ⟨w.heap.size + 1, 0, none⟩), .pointer (some ⟨w.heap.size, 0, none⟩)] W fun r W' => r = .returned (.tuple #[]) ∧ P W' := by
  have HH := hid (kind_has k 64 (by unfold isPart; decide) W)
  have HRD := hid h.rd
  have y0 : W.cell? ⟨w.heap.size + 1, 0, none⟩ = some (.int .i64 k) := h.pk.cell 0
  have p0 : W.cell? ⟨w.heap.size, 0, none⟩ = some (.pointer (some ⟨g, 0, none⟩)) := h.pa.cell 0
  have l0 := h.pa.lt
  have HCC := hid HC
  have HNN := hid HN
  clear h HC HN hU
  generalize hasK k 64 = H at *
  cases H
  · go_enter Tryz.func307, Tryz.ntmps307
    go_wp2_with fail
    refine HH.out.mono ?_
    rintro r w1 ⟨rfl, hb1⟩
    have HP := hid (HNN.out (.inl (by first | rfl | trivial)) w1 hb1)
    clear hb1
    go_wp2_with fail
    first | go_end0 | refine bodyPost_ret (results_none rfl _ _ _) rfl ?_
    exact ⟨rfl, HP.out⟩
  · by_cases hk : s.k = 0
    · have HG := hid (fun (V : World) (hV : RdAt V g B a s) => (by have := rd_good V hV; rw [decide_eq_true hk] at this; exact this : Calls Tryz.prog 112 #[.pointer (some ⟨g, 0, none⟩)] V fun r w' => r = .returned (.bool true) ∧ Below V.heap.size V w'))
      have HC2 := hid (HCC.out (by first | rfl | trivial) hk)
      clear hk
      go_enter Tryz.func307, Tryz.ntmps307
      go_wp2_with fail
      refine HH.out.mono ?_
      rintro r w1 ⟨rfl, hb1⟩
      have p1 := (hb1.cell (p := ⟨w.heap.size, 0, none⟩) l0).trans p0
      have HRD1 := hid (HRD.out.later hb1)
      have HB1 := hid hb1
      have l1 := Nat.lt_of_lt_of_le l0 hb1.size
      clear hb1
      go_wp2_with fail
      refine (HG.out _ HRD1.out).mono ?_
      rintro r w2 ⟨rfl, hb2⟩
      have p2 := (hb2.cell (p := ⟨w.heap.size, 0, none⟩) l1).trans p1
      have HRD2 := hid (HRD1.out.later hb2)
      have HB2 := hid (HB1.out.trans (hb2.mono HB1.out.size))
      clear hb2
      go_wp2_with fail
      refine (rd_at _ HRD2.out).mono ?_
      rintro r w2' ⟨rfl, rfl⟩
      go_wp2_with fail
      refine (HC2.out _ HB2.out).mono ?_
      rintro r w3 ⟨rfl, hp⟩
      have HP := hid hp
      clear hp
      go_wp2_with fail
      first | go_end0 | refine bodyPost_ret (results_none rfl _ _ _) rfl ?_
      exact ⟨rfl, HP.out⟩
    · have HG := hid (fun (V : World) (hV : RdAt V g B a s) => (by have := rd_good V hV; rw [decide_eq_false hk] at this; exact this : Calls Tryz.prog 112 #[.pointer (some ⟨g, 0, none⟩)] V fun r w' => r = .returned (.bool false) ∧ Below V.heap.size V w'))
      have HN2 := hid (HNN.out (.inr hk))
      clear hk
      go_enter Tryz.func307, Tryz.ntmps307
      go_wp2_with fail
      refine HH.out.mono ?_
      rintro r w1 ⟨rfl, hb1⟩
      have p1 := (hb1.cell (p := ⟨w.heap.size, 0, none⟩) l0).trans p0
      have HRD1 := hid (HRD.out.later hb1)
      have HB1 := hid hb1
      clear hb1
      go_wp2_with fail
      refine (HG.out _ HRD1.out).mono ?_
      rintro r w2 ⟨rfl, hb2⟩
      have HP := hid (HN2.out _ (HB1.out.trans (hb2.mono HB1.out.size)))
      clear hb2
      go_wp2_with fail
      first | go_end0 | refine bodyPost_ret (results_none rfl _ _ _) rfl ?_
      exact ⟨rfl, HP.out⟩

theorem bread_p64 {w : World} {g : Nat} {B : List UInt8} {a : Option Addr} {K : Nat → Prop} {X : World → Bool → Prop} {q : Bool} {M lo : Nat} {k : Int} {m : Msg} {v1 v2 v3 v4 : Value} {s : Rs} {W : World} {fn : Nat} {caps : Array Value} {blk : Rs → Rs × List UInt8 × Bool} (hU : UnblockB w g B a fn caps blk K X) (hB : B.length ≤ 1000000000) (h : BodI w g B a K X q M lo k m v1 v2 v3 v4 s W) (hz : m.sea = noSealS) :
    Calls Tryz.prog 307 #[.int .i64 64, .func (Fn.func 316) #[] #[.pointer (some ⟨w.heap.size, 0, none⟩), .pointer (some ⟨M, 0, none⟩)], .pointer (some ⟨w.heap.size + 1, 0, none⟩), .pointer (some ⟨w.heap.size, 0, none⟩)] W fun r W' => r = .returned (.tuple #[]) ∧ BodI w g B a K X q M lo k { m with sea := (Rs.part (hasK k 64) s (Rs.seal_ B) noSealS).2 } v1 v2 v3 v4 (Rs.part (hasK k 64) s (Rs.seal_ B) noSealS).1 W' := by
  refine bread_has64 hU h (fun W' => BodI w g B a K X q M lo k { m with sea := (Rs.part (hasK k 64) s (Rs.seal_ B) noSealS).2 } v1 v2 v3 v4 (Rs.part (hasK k 64) s (Rs.seal_ B) noSealS).1 W') (fun hh hk W' hb => ?_) (fun hn W' hb => ?_)
  · have := bread_seal hU hB (h.later hU hb) s.p
    rw [hh]
    exact this
  · rw [part_skip hn fun e => Rs.seal_of_bad e]
    have e : { m with sea := noSealS } = m := by
      cases m
      dsimp only at hz
      subst hz
      rfl
    dsimp only
    rw [e]
    exact h.later hU hb

set_option maxRecDepth 100000 in
set_option maxHeartbeats 1600000 in
theorem bread_has128 {w : World} {g : Nat} {B : List UInt8} {a : Option Addr} {K : Nat → Prop} {X : World → Bool → Prop} {q : Bool} {M lo : Nat} {k : Int} {m : Msg} {v1 v2 v3 v4 : Value} {s : Rs} {W : World} {fn : Nat} {caps : Array Value} {blk : Rs → Rs × List UInt8 × Bool} (hU : UnblockB w g B a fn caps blk K X) (h : BodI w g B a K X q M lo k m v1 v2 v3 v4 s W) (P : World → Prop)
    (HC : hasK k 128 = true → s.k = 0 → ∀ W' : World, Below W.heap.size W W' → Calls Tryz.prog 318 #[.int .i64 (s.p : Int), .pointer (some ⟨w.heap.size, 0, none⟩), .pointer (some ⟨M, 0, none⟩)] W' fun r W'' => r = .returned (.tuple #[]) ∧ P W'')
    (HN : (hasK k 128 = false ∨ s.k ≠ 0) → ∀ W' : World, Below W.heap.size W W' → P W') :
    Calls Tryz.prog 307 #[.int .i64 128, .func (Fn.func 318) #[] #[.pointer (some ⟨w.heap.size, 0, none⟩), .pointer (some ⟨M, 0, none⟩)], .pointer (some ⟨w.heap.size + 1, 0, none⟩), .pointer (some ⟨w.heap.size, 0, none⟩)] W fun r W' => r = .returned (.tuple #[]) ∧ P W' := by
  have HH := hid (kind_has k 128 (by unfold isPart; decide) W)
  have HRD := hid h.rd
  have y0 : W.cell? ⟨w.heap.size + 1, 0, none⟩ = some (.int .i64 k) := h.pk.cell 0
  have p0 : W.cell? ⟨w.heap.size, 0, none⟩ = some (.pointer (some ⟨g, 0, none⟩)) := h.pa.cell 0
  have l0 := h.pa.lt
  have HCC := hid HC
  have HNN := hid HN
  clear h HC HN hU
  generalize hasK k 128 = H at *
  cases H
  · go_enter Tryz.func307, Tryz.ntmps307
    go_wp2_with fail
    refine HH.out.mono ?_
    rintro r w1 ⟨rfl, hb1⟩
    have HP := hid (HNN.out (.inl (by first | rfl | trivial)) w1 hb1)
    clear hb1
    go_wp2_with fail
    first | go_end0 | refine bodyPost_ret (results_none rfl _ _ _) rfl ?_
    exact ⟨rfl, HP.out⟩
  · by_cases hk : s.k = 0
    · have HG := hid (fun (V : World) (hV : RdAt V g B a s) => (by have := rd_good V hV; rw [decide_eq_true hk] at this; exact this : Calls Tryz.prog 112 #[.pointer (some ⟨g, 0, none⟩)] V fun r w' => r = .returned (.bool true) ∧ Below V.heap.size V w'))
      have HC2 := hid (HCC.out (by first | rfl | trivial) hk)
      clear hk
      go_enter Tryz.func307, Tryz.ntmps307
      go_wp2_with fail
      refine HH.out.mono ?_
      rintro r w1 ⟨rfl, hb1⟩
      have p1 := (hb1.cell (p := ⟨w.heap.size, 0, none⟩) l0).trans p0
      have HRD1 := hid (HRD.out.later hb1)
      have HB1 := hid hb1
      have l1 := Nat.lt_of_lt_of_le l0 hb1.size
      clear hb1
      go_wp2_with fail
      refine (HG.out _ HRD1.out).mono ?_
      rintro r w2 ⟨rfl, hb2⟩
      have p2 := (hb2.cell (p := ⟨w.heap.size, 0, none⟩) l1).trans p1
      have HRD2 := hid (HRD1.out.later hb2)
      have HB2 := hid (HB1.out.trans (hb2.mono HB1.out.size))
      clear hb2
      go_wp2_with fail
      refine (rd_at _ HRD2.out).mono ?_
      rintro r w2' ⟨rfl, rfl⟩
      go_wp2_with fail
      refine (HC2.out _ HB2.out).mono ?_
      rintro r w3 ⟨rfl, hp⟩
      have HP := hid hp
      clear hp
      go_wp2_with fail
      first | go_end0 | refine bodyPost_ret (results_none rfl _ _ _) rfl ?_
      exact ⟨rfl, HP.out⟩
    · have HG := hid (fun (V : World) (hV : RdAt V g B a s) => (by have := rd_good V hV; rw [decide_eq_false hk] at this; exact this : Calls Tryz.prog 112 #[.pointer (some ⟨g, 0, none⟩)] V fun r w' => r = .returned (.bool false) ∧ Below V.heap.size V w'))
      have HN2 := hid (HNN.out (.inr hk))
      clear hk
      go_enter Tryz.func307, Tryz.ntmps307
      go_wp2_with fail
      refine HH.out.mono ?_
      rintro r w1 ⟨rfl, hb1⟩
      have p1 := (hb1.cell (p := ⟨w.heap.size, 0, none⟩) l0).trans p0
      have HRD1 := hid (HRD.out.later hb1)
      have HB1 := hid hb1
      clear hb1
      go_wp2_with fail
      refine (HG.out _ HRD1.out).mono ?_
      rintro r w2 ⟨rfl, hb2⟩
      have HP := hid (HN2.out _ (HB1.out.trans (hb2.mono HB1.out.size)))
      clear hb2
      go_wp2_with fail
      first | go_end0 | refine bodyPost_ret (results_none rfl _ _ _) rfl ?_
      exact ⟨rfl, HP.out⟩

theorem bread_p128 {w : World} {g : Nat} {B : List UInt8} {a : Option Addr} {K : Nat → Prop} {X : World → Bool → Prop} {q : Bool} {M lo : Nat} {k : Int} {m : Msg} {v1 v2 v3 v4 : Value} {s : Rs} {W : World} {fn : Nat} {caps : Array Value} {blk : Rs → Rs × List UInt8 × Bool} (hU : UnblockB w g B a fn caps blk K X) (hB : B.length ≤ 1000000000) (h : BodI w g B a K X q M lo k m v1 v2 v3 v4 s W) (hz : m.proj = noProj) :
    Calls Tryz.prog 307 #[.int .i64 128, .func (Fn.func 318) #[] #[.pointer (some ⟨w.heap.size, 0, none⟩), .pointer (some ⟨M, 0, none⟩)], .pointer (some ⟨w.heap.size + 1, 0, none⟩), .pointer (some ⟨w.heap.size, 0, none⟩)] W fun r W' => r = .returned (.tuple #[]) ∧ ∃ v4', BodI w g B a K X q M lo k { m with proj := (Rs.part (hasK k 128) s (Rs.proj_ B) noProj).2 } v1 v2 v3 v4' (Rs.part (hasK k 128) s (Rs.proj_ B) noProj).1 W' := by
  refine bread_has128 hU h (fun W' => ∃ v4', BodI w g B a K X q M lo k { m with proj := (Rs.part (hasK k 128) s (Rs.proj_ B) noProj).2 } v1 v2 v3 v4' (Rs.part (hasK k 128) s (Rs.proj_ B) noProj).1 W') (fun hh hk W' hb => ?_) (fun hn W' hb => ?_)
  · have := bread_proj hU hB (h.later hU hb) s.p
    rw [hh]
    exact this
  · rw [part_skip hn fun e => Rs.proj_of_bad e]
    have e : { m with proj := noProj } = m := by
      cases m
      dsimp only at hz
      subst hz
      rfl
    dsimp only
    rw [e]
    exact ⟨_, h.later hU hb⟩


theorem Rs.pos_u {B : List UInt8} {s : Rs} : 0 ≤ (s.pos_ B).2 ∧ (s.pos_ B).2 ≤ 18446744073709551615 := by
  have := Rs.num_small (B := B) (s := s)
  unfold Rs.pos_ Rs.po
  split
  · split
    · dsimp only; omega
    · simp
  · simp
theorem part_u {B : List UInt8} {s : Rs} {h : Bool} : 0 ≤ (Rs.part h s (Rs.pos_ B) 0).2 ∧ (Rs.part h s (Rs.pos_ B) 0).2 ≤ 18446744073709551615 := by
  cases h
  · exact ⟨Int.le_refl _, (by decide : (0 : Int) ≤ 18446744073709551615)⟩
  · exact Rs.pos_u
/-- A message returned: the cells of a block that it is stored in. -/
theorem msg_put {W : World} {R : Nat} {m : Msg} {v1 v2 v3 v4 : Value} {cs : Array Value} (h : Blk W R 45 zeroCells) :
    Blk ((((((((((((((W.setCell ⟨R, 0, none⟩ (.int .i64 m.kind)).setCell ⟨R, 1, none⟩ (.int .u64 m.epoch)).setCell ⟨R, 2, none⟩ (.int .u64 m.seq)).setCell ⟨R, 3, none⟩ (.int .u64 m.pos)).setCell ⟨R, 4, none⟩ (.int .i64 m.count)).setCell ⟨R, 5, none⟩ (.int .i64 m.state)).setCell ⟨R, 6, none⟩ v1).setCell ⟨R, 7, none⟩ v2).setCell ⟨R, 8, none⟩ v3).setCell ⟨R, 9, none⟩ (.int .u64 m.sea.epoch)).setCell ⟨R, 10, none⟩ (.int .u64 m.sea.node)).setCell ⟨R, 11, none⟩ (.int .u64 m.sea.tail)).setCell ⟨R, 12, none⟩ (.int .u64 m.proj.epoch)).setCell ⟨R, 13, none⟩ v4) R 45 (bodCells m v1 v2 v3 v4) := by
  have := ((((((((((((((h.set 0 (.int .i64 m.kind)).set 1 (.int .u64 m.epoch)).set 2 (.int .u64 m.seq)).set 3 (.int .u64 m.pos)).set 4 (.int .i64 m.count)).set 5 (.int .i64 m.state)).set 6 v1).set 7 v2).set 8 v3).set 9 (.int .u64 m.sea.epoch)).set 10 (.int .u64 m.sea.node)).set 11 (.int .u64 m.sea.tail)).set 12 (.int .u64 m.proj.epoch)).set 13 v4)
  simp only [List.setIfInBounds_toArray, List.set_cons_zero, List.set_cons_succ] at this
  exact this
theorem tch14 {W : World} {R : Nat} {u0 u1 u2 u3 u4 u5 u6 u7 u8 u9 u10 u11 u12 u13 : Value} : Tch (· = R) W ((((((((((((((W.setCell ⟨R, 0, none⟩ u0).setCell ⟨R, 1, none⟩ u1).setCell ⟨R, 2, none⟩ u2).setCell ⟨R, 3, none⟩ u3).setCell ⟨R, 4, none⟩ u4).setCell ⟨R, 5, none⟩ u5).setCell ⟨R, 6, none⟩ u6).setCell ⟨R, 7, none⟩ u7).setCell ⟨R, 8, none⟩ u8).setCell ⟨R, 9, none⟩ u9).setCell ⟨R, 10, none⟩ u10).setCell ⟨R, 11, none⟩ u11).setCell ⟨R, 12, none⟩ u12).setCell ⟨R, 13, none⟩ u13) := by
  refine Tch.setCell (F := (· = R)) (p := ⟨R, 13, none⟩) ?_ (fun _ => rfl) u13
  refine Tch.setCell (F := (· = R)) (p := ⟨R, 12, none⟩) ?_ (fun _ => rfl) u12
  refine Tch.setCell (F := (· = R)) (p := ⟨R, 11, none⟩) ?_ (fun _ => rfl) u11
  refine Tch.setCell (F := (· = R)) (p := ⟨R, 10, none⟩) ?_ (fun _ => rfl) u10
  refine Tch.setCell (F := (· = R)) (p := ⟨R, 9, none⟩) ?_ (fun _ => rfl) u9
  refine Tch.setCell (F := (· = R)) (p := ⟨R, 8, none⟩) ?_ (fun _ => rfl) u8
  refine Tch.setCell (F := (· = R)) (p := ⟨R, 7, none⟩) ?_ (fun _ => rfl) u7
  refine Tch.setCell (F := (· = R)) (p := ⟨R, 6, none⟩) ?_ (fun _ => rfl) u6
  refine Tch.setCell (F := (· = R)) (p := ⟨R, 5, none⟩) ?_ (fun _ => rfl) u5
  refine Tch.setCell (F := (· = R)) (p := ⟨R, 4, none⟩) ?_ (fun _ => rfl) u4
  refine Tch.setCell (F := (· = R)) (p := ⟨R, 3, none⟩) ?_ (fun _ => rfl) u3
  refine Tch.setCell (F := (· = R)) (p := ⟨R, 2, none⟩) ?_ (fun _ => rfl) u2
  refine Tch.setCell (F := (· = R)) (p := ⟨R, 1, none⟩) ?_ (fun _ => rfl) u1
  refine Tch.setCell (F := (· = R)) (p := ⟨R, 0, none⟩) ?_ (fun _ => rfl) u0
  exact Tch.refl _ _
theorem m_free {w : World} {g : Nat} {t : TypeId} {cs : Array Value} (h : Blk w g t cs) : w.frozen? ⟨g, 0, none⟩ = false ∧ w.frozen? ⟨g, 1, none⟩ = false ∧ w.frozen? ⟨g, 2, none⟩ = false ∧ w.frozen? ⟨g, 3, none⟩ = false ∧ w.frozen? ⟨g, 4, none⟩ = false ∧ w.frozen? ⟨g, 5, none⟩ = false ∧ w.frozen? ⟨g, 6, none⟩ = false ∧ w.frozen? ⟨g, 7, none⟩ = false ∧ w.frozen? ⟨g, 8, none⟩ = false ∧ w.frozen? ⟨g, 9, none⟩ = false ∧ w.frozen? ⟨g, 10, none⟩ = false ∧ w.frozen? ⟨g, 11, none⟩ = false ∧ w.frozen? ⟨g, 12, none⟩ = false ∧ w.frozen? ⟨g, 13, none⟩ = false :=
  ⟨h.free 0, h.free 1, h.free 2, h.free 3, h.free 4, h.free 5, h.free 6, h.free 7, h.free 8, h.free 9, h.free 10, h.free 11, h.free 12, h.free 13⟩

theorem rBytes_nil {S : Nat → Prop} {w : World} : rBytes.r S w [.slice none 0 0] [] := rSl_mk (xs := []) rfl (Nat.le_refl _) (Nat.zero_le _) (.inl rfl)
theorem body_fin {w : World} {g : Nat} {B : List UInt8} {a : Option Addr} {K : Nat → Prop} {X : World → Bool → Prop} {q : Bool} {k : Int} {m : Msg} {v1 v2 v3 v4 : Value} {s : Rs} {W W' : World} {fn : Nat} {caps : Array Value} {blk : Rs → Rs × List UInt8 × Bool} (hU : UnblockB w g B a fn caps blk K X)
    (h : BodI w g B a K X q (w.heap.size + 1 + 1 + 1) (w.heap.size + 1 + 1 + 1 + 1) k m v1 v2 v3 v4 s W) (ht : Tch (· = w.heap.size + 1 + 1) W W') :
    (rU64s.r (Fresh w W') W' [v1] m.streams ∧ rLinks.r (Fresh w W') W' [v2] m.links ∧ rBytes.r (Fresh w W') W' [v3] m.data ∧ rStripes.r (Fresh w W') W' [v4] m.proj.stripes) ∧ RdAt W' g B a s ∧ Tch K w W' ∧ X W' q := by
  have hgl := hU.lt g hU.own
  have hw := h.tch.size
  have hlm := h.lm
  have hk : ∀ b, (w.heap.size + 1 + 1 + 1 + 1) ≤ b ∧ b < W.heap.size → W'.heap[b]? = W.heap[b]? := fun b hb => ht.block b hb.2 (by omega)
  have hm : ∀ b, (w.heap.size + 1 + 1 + 1 + 1) ≤ b ∧ b < W.heap.size → w.heap.size ≤ b ∧ b < W'.heap.size := fun b hb => ⟨by omega, Nat.lt_of_lt_of_le hb.2 ht.size⟩
  have hT : Tch K w W' := h.tch.trans ht fun b hb e => by omega
  exact ⟨⟨rU64s.mono (rU64s.keep h.st hk) hm, rLinks.mono (rLinks.keep h.ln hk) hm, rBytes.mono (rBytes.keep h.da hk) hm, rStripes.mono (rStripes.keep h.sp hk) hm⟩, ⟨h.rd.blk.tch ht (by omega), rBytes.mono (rBytes.keep hU.dat fun b hb => hT.block b hb.1 hb.2) fun b hb => ⟨by have := hT.size; omega, fun e => hb.2 (e ▸ hU.own)⟩, h.rd.ok⟩, hT, hU.st W W' q h.x hw (ht.mono fun b _ e => .inr (by omega))⟩

set_option maxRecDepth 100000 in
set_option maxHeartbeats 3200000 in
theorem body_read_gen (w : World) {g : Nat} {B : List UInt8} {a : Option Addr} {s : Rs} (h : RdAt w g B a s) (hB : B.length ≤ 1000000000) (k : Int) (fn : Nat) (caps : Array Value) (blk : Rs → Rs × List UInt8 × Bool) (K : Nat → Prop) (X : World → Bool → Prop) (hU : UnblockB w g B a fn caps blk K X) (hX : X w true) :
    Calls Tryz.prog 248 #[.pointer (some ⟨g, 0, none⟩), .int .i64 k, .func (Fn.func fn) #[] caps] w fun r w' => ∃ v1 v2 v3 v4 q, r = .returned (.agg (bodCells (s.body B blk k).2.1 v1 v2 v3 v4)) ∧ (rU64s.r (Fresh w w') w' [v1] (s.body B blk k).2.1.streams ∧ rLinks.r (Fresh w w') w' [v2] (s.body B blk k).2.1.links ∧ rBytes.r (Fresh w w') w' [v3] (s.body B blk k).2.1.data ∧ rStripes.r (Fresh w w') w' [v4] (s.body B blk k).2.1.proj.stripes) ∧
      RdAt w' g B a (s.body B blk k).1 ∧ Tch K w w' ∧ X w' q ∧ ((s.body B blk k).1.k = 0 → q = (s.body B blk k).2.2) := by
  have hgl := hU.lt g hU.own
  have HU := hid hU
  have HKR := hid (fun (W : World) => kind_right k W)
  by_cases hkr : 1 ≤ k ∧ k ≤ 14
  · have dk : decide (1 ≤ k ∧ k ≤ 14) = true := decide_eq_true hkr
    rw [dk] at HKR
    unfold Rs.body Rs.ahead
    rw [if_pos hkr]
    dsimp only
    have hpu := part_u (B := B) (s := s) (h := hasK k 1)
    generalize hP1 : Rs.part (hasK k 1) s (Rs.pos_ B) 0 = P1 at *
    obtain ⟨s1, x1⟩ := P1
    dsimp only at *
    generalize hP2 : Rs.part (hasK k 2) s1 (Rs.cnt B) 0 = P2 at *
    obtain ⟨s2, x2⟩ := P2
    dsimp only at *
    generalize hP3 : Rs.part (hasK k 4) s2 (Rs.stt B k) 0 = P3 at *
    obtain ⟨s3, x3⟩ := P3
    dsimp only at *
    generalize hP4 : Rs.part (hasK k 8) s3 (Rs.strm B) [] = P4 at *
    obtain ⟨s4, L4⟩ := P4
    dsimp only at *
    generalize hP5 : Rs.part (hasK k 16) s4 (fun t => t.links B x1) [] = P5 at *
    obtain ⟨s5, L5⟩ := P5
    dsimp only at *
    generalize hP6 : Rs.part (blockK k x3) s5 blk ([], true) = P6 at *
    obtain ⟨s6, D, fl⟩ := P6
    dsimp only at *
    generalize hP7 : Rs.part (hasK k 64) s6 (Rs.seal_ B) noSealS = P7 at *
    obtain ⟨s7, z7⟩ := P7
    dsimp only at *
    generalize hP8 : Rs.part (hasK k 128) s7 (Rs.proj_ B) noProj = P8 at *
    obtain ⟨s8, z8⟩ := P8
    dsimp only at *
    generalize hRS : (if s8.k = 0 then (s8, (⟨k, 0, 0, x1, x2, x3, L4, L5, D, z7, z8⟩ : Msg), fl) else (s8, noMsg, false)) = RES
    have HRS := hid hRS
    clear hRS
    have HP1 := hid hP1
    have HP2 := hid hP2
    have HP3 := hid hP3
    have HP4 := hid hP4
    have HP5 := hid hP5
    have HP6 := hid hP6
    have HP7 := hid hP7
    have HP8 := hid hP8
    clear hP1 hP2 hP3 hP4 hP5 hP6 hP7 hP8 dk hkr
    have hbW : Below w.heap.size w ((((w.alloc (.cells #[.pointer (some ⟨g, 0, none⟩)] 112)).alloc (.cells #[.int .i64 k] 3)).alloc (.cells #[.int .i64 0, .int .u64 0, .int .u64 0, .int .u64 0, .int .i64 0, .int .i64 0, .slice none 0 0, .slice none 0 0, .slice none 0 0, .int .u64 0, .int .u64 0, .int .u64 0, .int .u64 0, .slice none 0 0] 45)).alloc (.cells #[.int .i64 k, .int .u64 0, .int .u64 0, .int .u64 0, .int .i64 0, .int .i64 0, .slice none 0 0, .slice none 0 0, .slice none 0 0, .int .u64 0, .int .u64 0, .int .u64 0, .int .u64 0, .slice none 0 0] 45)) := by (repeat (first | with_reducible exact Below.refl _ _ | with_reducible assumption | (with_reducible refine below_alloc ?_ _) | (with_reducible refine Below.setCell ?_ (by first | omega | (simp; done) | (simp; omega)) _) | (with_reducible refine Below.drew ?_) | (with_reducible refine below_drewN ?_ _) | (refine below_then (by with_reducible assumption) ?_)))
    have hszW : (((((w.alloc (.cells #[.pointer (some ⟨g, 0, none⟩)] 112)).alloc (.cells #[.int .i64 k] 3)).alloc (.cells #[.int .i64 0, .int .u64 0, .int .u64 0, .int .u64 0, .int .i64 0, .int .i64 0, .slice none 0 0, .slice none 0 0, .slice none 0 0, .int .u64 0, .int .u64 0, .int .u64 0, .int .u64 0, .slice none 0 0] 45)).alloc (.cells #[.int .i64 k, .int .u64 0, .int .u64 0, .int .u64 0, .int .i64 0, .int .i64 0, .slice none 0 0, .slice none 0 0, .slice none 0 0, .int .u64 0, .int .u64 0, .int .u64 0, .int .u64 0, .slice none 0 0] 45))).heap.size = w.heap.size + 1 + 1 + 1 + 1 := by simp
    have hI0 : BodI w g B a K X true (w.heap.size + 1 + 1 + 1) (w.heap.size + 1 + 1 + 1 + 1) k ⟨k, 0, 0, 0, 0, 0, [], [], [], noSealS, noProj⟩ (.slice none 0 0) (.slice none 0 0) (.slice none 0 0) (.slice none 0 0) s ((((w.alloc (.cells #[.pointer (some ⟨g, 0, none⟩)] 112)).alloc (.cells #[.int .i64 k] 3)).alloc (.cells #[.int .i64 0, .int .u64 0, .int .u64 0, .int .u64 0, .int .i64 0, .int .i64 0, .slice none 0 0, .slice none 0 0, .slice none 0 0, .int .u64 0, .int .u64 0, .int .u64 0, .int .u64 0, .slice none 0 0] 45)).alloc (.cells #[.int .i64 k, .int .u64 0, .int .u64 0, .int .u64 0, .int .i64 0, .int .i64 0, .slice none 0 0, .slice none 0 0, .slice none 0 0, .int .u64 0, .int .u64 0, .int .u64 0, .int .u64 0, .slice none 0 0] 45)) :=
      ⟨h.later hbW, rBytes.keep hU.dat fun b hb => hbW.block b hb.1, by (repeat (first | assumption | exact Blk.newAt _ _ _ (by first | (simp; done) | (simp; omega)) | refine Blk.alloc ?_ _ | refine Blk.drew ?_ | refine Blk.drewN ?_ _ | refine Blk.far ?_ (by first | (simp; done) | (simp; omega)) _)), by (repeat (first | assumption | exact Blk.newAt _ _ _ (by first | (simp; done) | (simp; omega)) | refine Blk.alloc ?_ _ | refine Blk.drew ?_ | refine Blk.drewN ?_ _ | refine Blk.far ?_ (by first | (simp; done) | (simp; omega)) _)), by (repeat (first | assumption | exact Blk.newAt _ _ _ (by first | (simp; done) | (simp; omega)) | refine Blk.alloc ?_ _ | refine Blk.drew ?_ | refine Blk.drewN ?_ _ | refine Blk.far ?_ (by first | (simp; done) | (simp; omega)) _)), by (repeat (first | assumption | exact Blk.newAt _ _ _ (by first | (simp; done) | (simp; omega)) | refine Blk.alloc ?_ _ | refine Blk.drew ?_ | refine Blk.drewN ?_ _ | refine Blk.far ?_ (by first | (simp; done) | (simp; omega)) _)), ⟨by omega, by omega⟩, by omega, rSl_mk (xs := []) rfl (Nat.le_refl _) (Nat.zero_le _) (.inl rfl), rSl_mk (xs := []) rfl (Nat.le_refl _) (Nat.zero_le _) (.inl rfl), rBytes_nil, rSl_mk (xs := []) rfl (Nat.le_refl _) (Nat.zero_le _) (.inl rfl), Tch.of_later hbW, hU.st w _ true hX (Nat.le_refl _) (Tch.of_later hbW)⟩
    have HI0 := hid hI0
    clear hI0 hbW hszW h hX
    go_enter Tryz.func248, Tryz.ntmps248
    go_wp2_with fail
    refine (HKR.out _).mono ?_
    rintro r w0 ⟨rfl, rfl⟩
    go_wp2_with fail
    generalize ((((w.alloc (.cells #[.pointer (some ⟨g, 0, none⟩)] 112)).alloc (.cells #[.int .i64 k] 3)).alloc (.cells #[.int .i64 0, .int .u64 0, .int .u64 0, .int .u64 0, .int .i64 0, .int .i64 0, .slice none 0 0, .slice none 0 0, .slice none 0 0, .int .u64 0, .int .u64 0, .int .u64 0, .int .u64 0, .slice none 0 0] 45)).alloc (.cells #[.int .i64 k, .int .u64 0, .int .u64 0, .int .u64 0, .int .i64 0, .int .i64 0, .slice none 0 0, .slice none 0 0, .slice none 0 0, .int .u64 0, .int .u64 0, .int .u64 0, .int .u64 0, .slice none 0 0] 45)) = w1 at *
    have hC1 := bread_p1 HU.out hB HI0.out rfl
    rw [HP1.out] at hC1
    dsimp only at hC1
    have HC1 := hid hC1
    clear hC1
    refine HC1.out.mono ?_
    rintro r w2 ⟨rfl, hI⟩
    have HI1 := hid hI
    clear hI HC1
    go_wp2_with fail
    have hC2 := bread_p2 HU.out hB HI1.out rfl
    rw [HP2.out] at hC2
    dsimp only at hC2
    have HC2 := hid hC2
    clear hC2
    refine HC2.out.mono ?_
    rintro r w3 ⟨rfl, hI⟩
    have HI2 := hid hI
    clear hI HC2
    go_wp2_with fail
    have hC3 := bread_p4 HU.out hB HI2.out rfl
    rw [HP3.out] at hC3
    dsimp only at hC3
    have HC3 := hid hC3
    clear hC3
    refine HC3.out.mono ?_
    rintro r w4 ⟨rfl, hI⟩
    have HI3 := hid hI
    clear hI HC3
    go_wp2_with fail
    have hC4 := bread_p8 HU.out hB HI3.out rfl
    rw [HP4.out] at hC4
    dsimp only at hC4
    have HC4 := hid hC4
    clear hC4
    refine HC4.out.mono ?_
    rintro r w5 ⟨rfl, v, hI⟩
    obtain ⟨b1, d1, e, _, _⟩ := sl_form hI.st
    cases e
    have HI4 := hid hI
    clear hI HC4
    go_wp2_with fail
    have hC5 := bread_p16 HU.out hB HI4.out rfl hpu
    rw [HP5.out] at hC5
    dsimp only at hC5
    have HC5 := hid hC5
    clear hC5
    refine HC5.out.mono ?_
    rintro r w6 ⟨rfl, v, hI⟩
    obtain ⟨b2, d2, e, _, _⟩ := sl_form hI.ln
    cases e
    have HI5 := hid hI
    clear hI HC5
    go_upto_region 11 with (fail)
    obtain ⟨R, hR⟩ : ∃ R, R = (blockK k x3 && decide (s5.k = 0)) := ⟨_, rfl⟩
    have HR := hid hR
    clear hR
    go_cut [40] from 35 to 39 (fun v V => v = .bool R ∧ Hid (Below w6.heap.size w6 V))
    case first =>
      have hm := HI5.out.pm
      dsimp only [bodCells] at hm
      obtain ⟨y0, y1, y2, y3, y4, y5, y6, y7, y8, y9, y10, y11, y12, y13, lm⟩ := mm_blk hm
      have p0 : w6.cell? ⟨w.heap.size, 0, none⟩ = some (.pointer (some ⟨g, 0, none⟩)) := HI5.out.pa.cell 0
      have HHD := hid (body_hasdata ⟨k, 0, 0, x1, x2, x3, L4, L5, [], noSealS, noProj⟩ b1 d1 b2 d2 none 0 none 0 w6)
      dsimp only at HHD
      clear hm
      cases hBk : blockK k x3
      · rw [hBk] at HHD HR
        have HR2 : Hid (R = false) := hid HR.out
        clear hBk
        go_wp2_with fail
        refine HHD.out.mono ?_
        rintro r w7 ⟨rfl, hb7⟩
        have HB7 := hid hb7
        clear hb7
        go_wp2_with fail
        go_meet
        case rel => exact ⟨congrArg Value.bool HR2.out.symm, HB7⟩
      · rw [hBk] at HHD HR
        have HR2 : Hid (R = decide (s5.k = 0)) := hid (by rw [HR.out, Bool.true_and])
        have HG := hid (fun (V : World) (hV : RdAt V g B a s5) => (by have := rd_good V hV; rw [← HR2.out] at this; exact this : Calls Tryz.prog 112 #[.pointer (some ⟨g, 0, none⟩)] V fun r w' => r = .returned (.bool R) ∧ Below V.heap.size V w'))
        clear hBk
        go_wp2_with fail
        refine HHD.out.mono ?_
        rintro r w7 ⟨rfl, hb7⟩
        have HI6 := hid (HI5.out.later HU.out hb7)
        have p7 : w7.cell? ⟨w.heap.size, 0, none⟩ = some (.pointer (some ⟨g, 0, none⟩)) := HI6.out.pa.cell 0
        have HB7 := hid hb7
        clear hb7
        go_wp2_with fail
        refine (HG.out _ HI6.out.rd).mono ?_
        rintro r w8 ⟨rfl, hb8⟩
        have HB8 := hid (HB7.out.trans (hb8.mono HB7.out.size))
        clear hb8
        go_wp2_with fail
        go_meet
        case rel => exact ⟨rfl, HB8⟩
    case rest =>
    obtain ⟨rfl, hBB⟩ := hcut
    obtain ⟨w7, hwn⟩ : ∃ W : World, W = wc := ⟨_, rfl⟩
    subst hwn
    have HI5b := hid (HI5.out.later HU.out hBB.out)
    go_upto_if 40 with (fail)
    go_cut [] from 41 to 43 (fun V => ∃ v3 q, Hid (BodI w g B a K X q (w.heap.size + 1 + 1 + 1) (w.heap.size + 1 + 1 + 1 + 1) k ⟨k, 0, 0, x1, x2, x3, L4, L5, D, noSealS, noProj⟩ (.slice b1 L4.length d1) (.slice b2 L5.length d2) v3 (.slice none 0 0) s6 V) ∧ Hid (s6.k = 0 → q = fl))
    case first =>
      have HQ := HP6.out
      have hR := HR.out
      cases R
      · have HX2 : Hid (BodI w g B a K X true (w.heap.size + 1 + 1 + 1) (w.heap.size + 1 + 1 + 1 + 1) k ⟨k, 0, 0, x1, x2, x3, L4, L5, D, noSealS, noProj⟩ (.slice b1 L4.length d1) (.slice b2 L5.length d2) (.slice none 0 0) (.slice none 0 0) s6 w7 ∧ (s6.k = 0 → true = fl)) := hid (by
          cases hBk : blockK k x3
          · rw [hBk] at HQ
            have HQ2 : (s5, ([] : List UInt8), true) = (s6, D, fl) := HQ
            cases HQ2
            exact ⟨HI5b.out, fun _ => rfl⟩
          · rw [hBk] at HQ
            have HQ2 : blk s5 = (s6, D, fl) := HQ
            have hk5 : s5.k ≠ 0 := fun e => by
              rw [hBk, decide_eq_true e] at hR
              exact absurd hR (by decide)
            obtain ⟨hq1, hq2⟩ := HU.out.bad s5 hk5
            rw [HQ2] at hq1 hq2
            dsimp only at hq1 hq2
            subst hq1 hq2
            exact ⟨HI5b.out, fun e => absurd e hk5⟩)
        clear HQ hR
        go_wp2_with fail
        go_meet
        case rel => exact ⟨_, true, hid HX2.out.1, hid HX2.out.2⟩
      · have hBk : blockK k x3 = true := by
          cases hh : blockK k x3
          · rw [hh, Bool.false_and] at hR; exact absurd hR (by decide)
          · rfl
        have hk5 : s5.k = 0 := by
          rw [hBk] at hR
          exact of_decide_eq_true (by rw [Bool.true_and] at hR; exact hR.symm)
        rw [hBk] at HQ
        have HQ2 : blk s5 = (s6, D, fl) := HQ
        have HUC := hid (fun (V : World) (h1 : RdAt V g B a s5) (h2 : X V true) (h3 : w.heap.size ≤ V.heap.size) (h4 : Tch K w V) => (by have := HU.out.call V s5 true h1 h2 h3 h4; rw [HQ2] at this; exact this : Calls Tryz.prog fn caps V fun r W' => ∃ v, r = .returned v ∧ rBytes.r (Fresh V W') W' [v] D ∧ RdAt W' g B a s6 ∧ Tch K V W' ∧ X W' fl))
        clear HQ2 hk5 HQ hR hBk
        go_wp2_with fail
        rw [HU.out.ent]
        refine (HUC.out _ HI5b.out.rd HI5b.out.x HI5b.out.tch.size HI5b.out.tch).mono ?_
        rintro r w9 ⟨v9, rfl, hD9, hRD9, hT9, hX9⟩
        obtain ⟨ad, cd, hfv, hD9', _⟩ := sl_form hD9
        simp only [List.cons.injEq, and_true] at hfv
        subst hfv
        have HI8 := hid (HI5b.out.stepK HU.out hT9 hRD9 hX9)
        have hlow := HI5b.out.low
        have HV := hid (rBytes.mono hD9' fun b hb => (⟨by have := hb.1; omega, hb.2⟩ : (w.heap.size + 1 + 1 + 1 + 1) ≤ b ∧ b < w9.heap.size))
        have f8 := fr_blk HI8.out.pm 8
        obtain ⟨y0, y1, y2, y3, y4, y5, y6, y7, y8, y9, y10, y11, y12, y13, l8⟩ := mm_blk HI8.out.pm
        clear hD9 hRD9 hT9 hX9 hD9'
        go_wp2_with fail
        go_meet
        case rel => exact ⟨_, fl, hid (HI8.out.setM HU.out 8 _ (by first | (simp only [bodCells, List.setIfInBounds_toArray, List.set_cons_zero, List.set_cons_succ]; done) | (simp only [bodCells, List.setIfInBounds_toArray, List.set_cons_zero, List.set_cons_succ]; rfl)) HI8.out.st HI8.out.ln HV.out HI8.out.sp), hid fun _ => rfl⟩
    case rest =>
      obtain ⟨v3, q, HI6, HQF⟩ := hcut
      obtain ⟨w70, hwn⟩ : ∃ W : World, W = wc := ⟨_, rfl⟩
      subst hwn
      obtain ⟨b3, d3, e, _, _⟩ := sl_form HI6.out.da
      cases e
      clear HI0 HI1 HI2 HI3 HI4 HI5 HI5b
      go_wp2_with fail
      have hC7 := bread_p64 HU.out hB HI6.out rfl
      rw [HP7.out] at hC7
      dsimp only at hC7
      have HC7 := hid hC7
      clear hC7
      refine HC7.out.mono ?_
      rintro r w8 ⟨rfl, hI⟩
      have HI7 := hid hI
      clear hI HC7
      go_wp2_with fail
      have hC8 := bread_p128 HU.out hB HI7.out rfl
      rw [HP8.out] at hC8
      dsimp only at hC8
      have HC8 := hid hC8
      clear hC8
      refine HC8.out.mono ?_
      rintro r w9 ⟨rfl, v, hI⟩
      obtain ⟨b4, d4, e, _, _⟩ := sl_form hI.sp
      cases e
      have HI8 := hid hI
      have p9 : w9.cell? ⟨w.heap.size, 0, none⟩ = some (.pointer (some ⟨g, 0, none⟩)) := hI.pa.cell 0
      have HQF8 : Hid (s8.k = 0 → q = fl) := hid fun e => HQF.out (by
        have h7 := Rs.part_k (by rw [HP8.out]; exact e) Rs.proj_k
        exact Rs.part_k (by rw [HP7.out]; exact h7) Rs.seal_k)
      clear hI HC8
      by_cases hk : s8.k = 0
      · have HG := hid (fun (V : World) (hV : RdAt V g B a s8) => (by have := rd_good V hV; rw [decide_eq_true hk] at this; exact this : Calls Tryz.prog 112 #[.pointer (some ⟨g, 0, none⟩)] V fun r w' => r = .returned (.bool true) ∧ Below V.heap.size V w'))
        have HK := hid hk
        clear hk
        go_wp2_with fail
        refine (HG.out _ HI8.out.rd).mono ?_
        rintro r w10 ⟨rfl, hb10⟩
        have HI9 := hid (HI8.out.later HU.out hb10)
        clear hb10
        have hm := HI9.out.pm
        dsimp only [bodCells] at hm
        obtain ⟨y0, y1, y2, y3, y4, y5, y6, y7, y8, y9, y10, y11, y12, y13, lm⟩ := mm_blk hm
        obtain ⟨r0, r1, r2, r3, r4, r5, r6, r7, r8, r9, r10, r11, r12, r13, lz⟩ := mm_blk HI9.out.pr
        obtain ⟨f0, f1, f2, f3, f4, f5, f6, f7, f8, f9, f10, f11, f12, f13⟩ := m_free HI9.out.pr
        have hq := HQF8.out HK.out
        clear hm p9
        go_wp2_with fail
        have hput := msg_put (W := w10) (m := ⟨k, 0, 0, x1, x2, x3, L4, L5, D, z7, z8⟩) (v1 := .slice b1 L4.length d1) (v2 := .slice b2 L5.length d2) (v3 := .slice b3 D.length d3) (v4 := .slice b4 z8.stripes.length d4) (cs := #[]) HI9.out.pr
        dsimp only at hput
        refine post_world (fun W => Blk W (w.heap.size + 1 + 1) 45 (bodCells ⟨k, 0, 0, x1, x2, x3, L4, L5, D, z7, z8⟩ (.slice b1 L4.length d1) (.slice b2 L5.length d2) (.slice b3 D.length d3) (.slice b4 z8.stripes.length d4)) ∧ Tch (· = w.heap.size + 1 + 1) w10 W) ⟨hput, ?_⟩ ?_
        · exact tch14
        intro W5 ⟨q5, ht5⟩
        have hFIN := body_fin HU.out HI9.out ht5
        dsimp only [bodCells] at q5
        obtain ⟨n0, n1, n2, n3, n4, n5, n6, n7, n8, n9, n10, n11, n12, n13, ln⟩ := mm_blk q5
        have hRES : RES = (s8, (⟨k, 0, 0, x1, x2, x3, L4, L5, D, z7, z8⟩ : Msg), fl) := by rw [← HRS.out]; exact if_pos HK.out
        rw [hRES]
        refine bodyPost_ret (v := .agg #[.int .i64 k, .int .u64 0, .int .u64 0, .int .u64 x1, .int .i64 x2, .int .i64 x3, .slice b1 L4.length d1, .slice b2 L5.length d2, .slice b3 D.length d3, .int .u64 z7.epoch, .int .u64 z7.node, .int .u64 z7.tail, .int .u64 z8.epoch, .slice b4 z8.stripes.length d4]) (by simp [results, Tryz.results248, go_sem, n0, n1, n2, n3, n4, n5, n6, n7, n8, n9, n10, n11, n12, n13]) rfl ⟨_, _, _, _, q, rfl, hFIN.1, hFIN.2.1, hFIN.2.2.1, hFIN.2.2.2, fun _ => hq⟩
      · have HG := hid (fun (V : World) (hV : RdAt V g B a s8) => (by have := rd_good V hV; rw [decide_eq_false hk] at this; exact this : Calls Tryz.prog 112 #[.pointer (some ⟨g, 0, none⟩)] V fun r w' => r = .returned (.bool false) ∧ Below V.heap.size V w'))
        have HK := hid hk
        clear hk
        go_wp2_with fail
        refine (HG.out _ HI8.out.rd).mono ?_
        rintro r w10 ⟨rfl, hb10⟩
        have HI9 := hid (HI8.out.later HU.out hb10)
        clear hb10 p9
        obtain ⟨r0, r1, r2, r3, r4, r5, r6, r7, r8, r9, r10, r11, r12, r13, lz⟩ := mm_blk HI9.out.pr
        obtain ⟨f0, f1, f2, f3, f4, f5, f6, f7, f8, f9, f10, f11, f12, f13⟩ := m_free HI9.out.pr
        go_wp2_with fail
        have hput := msg_put (W := w10) (m := noMsg) (v1 := (.slice none 0 0)) (v2 := (.slice none 0 0)) (v3 := (.slice none 0 0)) (v4 := (.slice none 0 0)) (cs := #[]) HI9.out.pr
        dsimp only [noMsg, noSealS, noProj] at hput
        refine post_world (fun W => Blk W (w.heap.size + 1 + 1) 45 zeroCells ∧ Tch (· = w.heap.size + 1 + 1) w10 W) ⟨hput, ?_⟩ ?_
        · exact tch14
        intro W5 ⟨q5, ht5⟩
        have hFIN := body_fin HU.out HI9.out ht5
        dsimp only [zeroCells] at q5
        obtain ⟨n0, n1, n2, n3, n4, n5, n6, n7, n8, n9, n10, n11, n12, n13, ln⟩ := mm_blk q5
        have hRES : RES = (s8, noMsg, false) := by rw [← HRS.out]; exact if_neg HK.out
        rw [hRES]
        refine bodyPost_ret (v := .agg #[.int .i64 0, .int .u64 0, .int .u64 0, .int .u64 0, .int .i64 0, .int .i64 0, .slice none 0 0, .slice none 0 0, .slice none 0 0, .int .u64 0, .int .u64 0, .int .u64 0, .int .u64 0, .slice none 0 0]) (by simp [results, Tryz.results248, go_sem, n0, n1, n2, n3, n4, n5, n6, n7, n8, n9, n10, n11, n12, n13]) rfl ⟨(.slice none 0 0), (.slice none 0 0), (.slice none 0 0), (.slice none 0 0), q, rfl, ⟨rSl_mk (xs := []) rfl (Nat.le_refl _) (Nat.zero_le _) (.inl rfl), rSl_mk (xs := []) rfl (Nat.le_refl _) (Nat.zero_le _) (.inl rfl), rBytes_nil, rSl_mk (xs := []) rfl (Nat.le_refl _) (Nat.zero_le _) (.inl rfl)⟩, hFIN.2.1, hFIN.2.2.1, hFIN.2.2.2, fun e => absurd e HK.out⟩
  · have dk : decide (1 ≤ k ∧ k ≤ 14) = false := decide_eq_false hkr
    rw [dk] at HKR
    unfold Rs.body
    rw [if_neg hkr]
    clear dk hkr
    have HE0 := hid (fun (V : World) (hV : RdAt V g B a s) => rd_at V hV)
    have HF0 := hid (fun (V : World) (hV : RdAt V g B a s) => rd_fail V hV 7 (s.p : Int) (by omega))
    have hfk : (s.fail 7 (s.p : Int)).k ≠ 0 := Rs.fail_k (by omega)
    have HFK := hid hfk
    clear hfk
    generalize s.fail 7 (s.p : Int) = s1 at *
    have hbW : Below w.heap.size w (((w.alloc (.cells #[.pointer (some ⟨g, 0, none⟩)] 112)).alloc (.cells #[.int .i64 k] 3)).alloc (.cells #[.int .i64 0, .int .u64 0, .int .u64 0, .int .u64 0, .int .i64 0, .int .i64 0, .slice none 0 0, .slice none 0 0, .slice none 0 0, .int .u64 0, .int .u64 0, .int .u64 0, .int .u64 0, .slice none 0 0] 45)) := by (repeat (first | with_reducible exact Below.refl _ _ | with_reducible assumption | (with_reducible refine below_alloc ?_ _) | (with_reducible refine Below.setCell ?_ (by first | omega | (simp; done) | (simp; omega)) _) | (with_reducible refine Below.drew ?_) | (with_reducible refine below_drewN ?_ _) | (refine below_then (by with_reducible assumption) ?_)))
    have HR0 := hid (h.later hbW)
    have HBW := hid hbW
    have A0 : Blk (((w.alloc (.cells #[.pointer (some ⟨g, 0, none⟩)] 112)).alloc (.cells #[.int .i64 k] 3)).alloc (.cells #[.int .i64 0, .int .u64 0, .int .u64 0, .int .u64 0, .int .i64 0, .int .i64 0, .slice none 0 0, .slice none 0 0, .slice none 0 0, .int .u64 0, .int .u64 0, .int .u64 0, .int .u64 0, .slice none 0 0] 45)) w.heap.size 112 #[.pointer (some ⟨g, 0, none⟩)] := by (repeat (first | assumption | exact Blk.newAt _ _ _ (by first | (simp; done) | (simp; omega)) | refine Blk.alloc ?_ _ | refine Blk.drew ?_ | refine Blk.drewN ?_ _ | refine Blk.far ?_ (by first | (simp; done) | (simp; omega)) _))
    have R0 : Blk (((w.alloc (.cells #[.pointer (some ⟨g, 0, none⟩)] 112)).alloc (.cells #[.int .i64 k] 3)).alloc (.cells #[.int .i64 0, .int .u64 0, .int .u64 0, .int .u64 0, .int .i64 0, .int .i64 0, .slice none 0 0, .slice none 0 0, .slice none 0 0, .int .u64 0, .int .u64 0, .int .u64 0, .int .u64 0, .slice none 0 0] 45)) (w.heap.size + 1 + 1) 45 zeroCells := by (repeat (first | assumption | exact Blk.newAt _ _ _ (by first | (simp; done) | (simp; omega)) | refine Blk.alloc ?_ _ | refine Blk.drew ?_ | refine Blk.drewN ?_ _ | refine Blk.far ?_ (by first | (simp; done) | (simp; omega)) _))
    have HX := hid hX
    go_enter Tryz.func248, Tryz.ntmps248
    go_wp2_with fail
    refine (HKR.out _).mono ?_
    rintro r w0 ⟨rfl, rfl⟩
    go_wp2_with fail
    generalize (((w.alloc (.cells #[.pointer (some ⟨g, 0, none⟩)] 112)).alloc (.cells #[.int .i64 k] 3)).alloc (.cells #[.int .i64 0, .int .u64 0, .int .u64 0, .int .u64 0, .int .i64 0, .int .i64 0, .slice none 0 0, .slice none 0 0, .slice none 0 0, .int .u64 0, .int .u64 0, .int .u64 0, .int .u64 0, .slice none 0 0] 45)) = w1 at *
    have p0 : w1.cell? ⟨w.heap.size, 0, none⟩ = some (.pointer (some ⟨g, 0, none⟩)) := A0.cell 0
    have l0 := A0.lt
    have HR1 := hid (HR0.out.later (show Below w1.heap.size w1 w1.drew from (Below.refl _ _).drew))
    refine wp_region_held_drew (S := fun w' => w'.cell? ⟨w.heap.size, 0, none⟩ = some (.pointer (some ⟨g, 0, none⟩))) (by kernel_rfl) p0 (fun hHeld => ?_)
    refine wpAnyH_take (i := 0) (oi := _) (v := ?_) rfl (by decide +kernel) (by decide +kernel) (by decide +kernel) (fun _ _ _ h => h) (Or.inl ⟨by rfl, ?_⟩) (by assumption) ?_
    rotate_left
    · (intro w hSw; (try dsimp only at hSw); go_simp <;> with_reducible rfl)
    (try simp only [Act.put, List.setIfInBounds_toArray, List.set_cons_zero, List.set_cons_succ])
    refine wpAnyH_take (i := 1) (oi := _) (v := ?_) rfl (by decide +kernel) (by decide +kernel) (by decide +kernel) (fun _ _ _ h => h) (Or.inl ⟨by rfl, ?_⟩) (by assumption) ?_
    rotate_left
    · (intro w hSw; (try dsimp only at hSw); go_simp <;> with_reducible rfl)
    (try simp only [Act.put, List.setIfInBounds_toArray, List.set_cons_zero, List.set_cons_succ])
    refine wpAnyH_ready (rs := [2]) (by decide +kernel) (by simp) ?_
    refine AllReadyH.cons (o := _) rfl (fun K hK => ?_) AllReadyH.nil
    (go_simp; go_at_call 173; refine (HE0.out _ HR1.out).mono ?_; rintro e1 w7 ⟨rfl, rfl⟩; (try dsimp only))
    refine hK.out _ _ ?_ (fun hHeld => ?_)
    · ((try dsimp only); first | assumption | (go_keep; done))
    clear hK K
    (try simp only [Act.put, List.setIfInBounds_toArray, List.set_cons_zero, List.set_cons_succ])
    refine wpAnyH_ready (rs := [3]) (by decide +kernel) (by simp) ?_
    refine AllReadyH.cons (o := _) rfl (fun K hK => ?_) AllReadyH.nil
    (go_simp; go_at_call 124; refine (HF0.out _ HR1.out).mono ?_; rintro e1 w8 ⟨rfl, hst8⟩; have HS8 := hid hst8; have n1 := (hst8.2.cell (p := ⟨w.heap.size, 0, none⟩) (by exact l0) (by dsimp only; omega)).trans p0; have R8 := hid (Blk.tch R0.drew hst8.2 (by omega)); clear hst8; (try dsimp only))
    refine hK.out _ _ ?_ (fun hHeld => ?_)
    · ((try dsimp only); first | assumption | (go_keep; done))
    clear hK K
    (try simp only [Act.put, List.setIfInBounds_toArray, List.set_cons_zero, List.set_cons_succ])
    (try simp only [List.getElem_toArray, List.getElem_cons_zero, List.getElem_cons_succ, Act.put, List.setIfInBounds_toArray, List.set_cons_zero, List.set_cons_succ])
    refine wpAnyH_done (by kernel_rfl) ?_ _
    obtain ⟨z0, z1, z2, z3, z4, z5, z6, z7, z8, z9, z10, z11, z12, z13, lz⟩ := mm_blk R8.out
    obtain ⟨f0, f1, f2, f3, f4, f5, f6, f7, f8, f9, f10, f11, f12, f13⟩ := m_free R8.out
    go_wp2_with fail
    have hput := msg_put (W := w8) (m := noMsg) (v1 := (.slice none 0 0)) (v2 := (.slice none 0 0)) (v3 := (.slice none 0 0)) (v4 := (.slice none 0 0)) (cs := #[]) R8.out
    dsimp only [noMsg, noSealS, noProj] at hput
    refine post_world (fun W => Blk W (w.heap.size + 1 + 1) 45 zeroCells ∧ Tch (· = w.heap.size + 1 + 1) w8 W) ⟨hput, ?_⟩ ?_
    · exact tch14
    intro W5 ⟨q5, ht5⟩
    dsimp only [zeroCells] at q5
    obtain ⟨n0', n1', n2, n3, n4, n5, n6, n7, n8, n9, n10, n11, n12, n13, ln⟩ := mm_blk q5
    have hTA : Tch (fun b => b = g ∨ w.heap.size ≤ b) w W5 := (((Tch.of_later (F := fun b => b = g ∨ w.heap.size ≤ b) HBW.out).drew.trans HS8.out.2 fun b _ e => .inl e).trans ht5 fun b _ e => .inr (by omega))
    have hTK : Tch K w W5 := hTA.mono fun b hb e => e.elim (fun e => e ▸ HU.out.own) fun e => by omega
    have hRD : RdAt W5 g B a s1 := ⟨HS8.out.1.blk.tch ht5 (by omega), rBytes.mono (rBytes.keep HU.out.dat fun b hb => hTK.block b hb.1 hb.2) fun b hb => ⟨by have := hTK.size; omega, fun e => hb.2 (e ▸ HU.out.own)⟩, HS8.out.1.ok⟩
    refine bodyPost_ret (v := .agg #[.int .i64 0, .int .u64 0, .int .u64 0, .int .u64 0, .int .i64 0, .int .i64 0, .slice none 0 0, .slice none 0 0, .slice none 0 0, .int .u64 0, .int .u64 0, .int .u64 0, .int .u64 0, .slice none 0 0]) (by simp [results, Tryz.results248, go_sem, n0', n1', n2, n3, n4, n5, n6, n7, n8, n9, n10, n11, n12, n13]) rfl ⟨(.slice none 0 0), (.slice none 0 0), (.slice none 0 0), (.slice none 0 0), true, rfl, ⟨rSl_mk (xs := []) rfl (Nat.le_refl _) (Nat.zero_le _) (.inl rfl), rSl_mk (xs := []) rfl (Nat.le_refl _) (Nat.zero_le _) (.inl rfl), rBytes_nil, rSl_mk (xs := []) rfl (Nat.le_refl _) (Nat.zero_le _) (.inl rfl)⟩, hRD, hTK, HU.out.st w W5 true HX.out (Nat.le_refl _) hTA, fun e => absurd e HFK.out⟩

/-- What a function does that reads a block: memory of one's own, and blocks of K; what it leaves besides. -/
structure Unblock (w : World) (g : Nat) (B : List UInt8) (a : Option Addr) (fn : Nat) (caps : Array Value) (blk : Rs → Rs × List UInt8 × Bool) (K : Nat → Prop) (X : World → Bool → Prop) : Prop where
  lt : ∀ b, K b → b < w.heap.size
  own : K g
  st : ∀ W W' q, X W q → w.heap.size ≤ W.heap.size → Tch (fun b => b = g ∨ w.heap.size ≤ b) W W' → X W' q
  call : ∀ W t, RdAt W g B a t → X W false → w.heap.size ≤ W.heap.size → Tch K w W → Calls Tryz.prog fn caps W fun r W' => ∃ v, r = .returned v ∧ rBytes.r (Fresh W W') W' [v] (blk t).2.1 ∧ RdAt W' g B a (blk t).1 ∧ Tch K W W' ∧ X W' (blk t).2.2
  size : ∀ t, (blk t).2.1.length ≤ 1048576
  dat : rBytes.r (fun q => q < w.heap.size ∧ ¬ K q) w [.slice a B.length B.length] B
  ent : ∀ (xs : Array Value) (W : World), (callFunc fn xs).run Tryz.prog W = .ok (.enter fn xs) W

/-- The reader in a world in which K has turned. -/
theorem Unblock.rd {w W : World} {g : Nat} {B : List UInt8} {a : Option Addr} {fn : Nat} {caps : Array Value} {blk : Rs → Rs × List UInt8 × Bool} {K : Nat → Prop} {X : World → Bool → Prop} (hU : Unblock w g B a fn caps blk K X) {s : Rs} (ht : Tch K w W)
    (hb : Blk W g 222 #[.slice a B.length B.length, .int .i64 (s.p : Int), .int .i64 s.k, .int .i64 s.f]) (hs : s.ok B.length) : RdAt W g B a s :=
  ⟨hb, rBytes.mono (rBytes.keep hU.dat fun q hq => ht.block q hq.1 hq.2) fun q hq => ⟨Nat.lt_of_lt_of_le hq.1 ht.size, fun e => hq.2 (e ▸ hU.own)⟩, hs⟩


theorem Rs.take_len {B : List UInt8} {s : Rs} {n : Int} : (s.take B n).2.length ≤ n.toNat := by
  unfold Rs.take
  split
  · simp; omega
  · simp
theorem Rs.loose_len {B : List UInt8} {s : Rs} {m : Int} : (s.loose B m).2.1.length ≤ 1048576 := by
  have h1 := Rs.int_le (B := B) (s := s) (m := min m 1048576)
  unfold Rs.loose
  split
  · split
    · split
      · have := Rs.take_len (B := B) (s := ((s.int B (min m 1048576)).1.byte B).1) (n := ((s.int B (min m 1048576)).2 : Int))
        dsimp only
        omega
      · simp
    · split
      · split
        · have := Rs.unp_len (B := B) (s := ((s.int B (min m 1048576)).1.byte B).1) (s.int B (min m 1048576)).2
          dsimp only
          omega
        · simp
      · simp
  · simp
theorem blkS_len {B : List UInt8} (t : Rs) : (blkS B t).2.1.length ≤ 1048576 := by
  have := Rs.loose_len (B := B) (s := t) (m := 1048576)
  unfold blkS Rs.strict
  dsimp only
  split
  · split
    · exact this
    · simp
  · simp

theorem blkS_badm {B : List UInt8} (t : Rs) (h : t.k ≠ 0) : (blkS B t).1 = t ∧ (blkS B t).2.1 = [] := by
  unfold blkS
  dsimp only
  rw [Rs.loose_of_bad h]
  unfold Rs.strict
  dsimp only
  rw [if_neg h]
  exact ⟨rfl, rfl⟩
/-- A message's rows in a world in which one block turned. -/
theorem rows_put {S S' : Nat → Prop} {w w' : World} {m : Msg} {v1 v2 v3 v4 : Value} (hk : ∀ q, S q → w'.heap[q]? = w.heap[q]?) (hs : ∀ q, S q → S' q) (h : rU64s.r S w [v1] m.streams ∧ rLinks.r S w [v2] m.links ∧ rBytes.r S w [v3] m.data ∧ rStripes.r S w [v4] m.proj.stripes) :
    rU64s.r S' w' [v1] m.streams ∧ rLinks.r S' w' [v2] m.links ∧ rBytes.r S' w' [v3] m.data ∧ rStripes.r S' w' [v4] m.proj.stripes :=
  ⟨rU64s.mono (rU64s.keep h.1 hk) hs, rLinks.mono (rLinks.keep h.2.1 hk) hs, rBytes.mono (rBytes.keep h.2.2.1 hk) hs, rStripes.mono (rStripes.keep h.2.2.2 hk) hs⟩

set_option maxRecDepth 100000 in
theorem body_read1 (w : World) {g p : Nat} {B : List UInt8} {a : Option Addr} {s : Rs} (h : RdAt w g B a s) (hB : B.length ≤ 1000000000) (hp : Blk w p 112 #[.pointer (some ⟨g, 0, none⟩)]) :
    Calls Tryz.prog 249 #[.pointer (some ⟨p, 0, none⟩)] w fun r w' => ∃ v, r = .returned v ∧ rBytes.r (Fresh w w') w' [v] (blkS B s).2.1 ∧ RdStep w g B a (blkS B s).1 w' := by
  have HB := hid (block_read w h hB 1048576 (by omega))
  have x0 : w.cell? ⟨p, 0, none⟩ = some (.pointer (some ⟨g, 0, none⟩)) := hp.cell 0
  unfold blkS
  dsimp only
  generalize Rs.strict (s.loose B 1048576) = T at *
  obtain ⟨s1, D⟩ := T
  dsimp only at *
  clear h hp
  go_enter Tryz.func249, Tryz.ntmps249
  go_wp2_with fail
  refine HB.out.mono ?_
  rintro r w1 ⟨v, rfl, hv, hst⟩
  obtain ⟨a1, c1, hfv, hv2, _⟩ := sl_form hv
  simp only [List.cons.injEq, and_true] at hfv
  subst hfv
  have HV := hid hv2
  have HS := hid hst
  clear hv hv2 hst
  go_wp2
  go_ret
  exact ⟨_, rfl, HV.out, HS.out⟩

set_option maxRecDepth 100000 in
set_option maxHeartbeats 3200000 in
theorem body_readS (w : World) {g : Nat} {B : List UInt8} {a : Option Addr} {s : Rs} (h : RdAt w g B a s) (hB : B.length ≤ 1000000000) (k : Int) :
    Calls Tryz.prog 178 #[.pointer (some ⟨g, 0, none⟩), .int .i64 k] w fun r w' => ∃ v1 v2 v3 v4, r = .returned (.agg (bodCells (s.body B (blkS B) k).2.1 v1 v2 v3 v4)) ∧ (rU64s.r (Fresh w w') w' [v1] (s.body B (blkS B) k).2.1.streams ∧ rLinks.r (Fresh w w') w' [v2] (s.body B (blkS B) k).2.1.links ∧ rBytes.r (Fresh w w') w' [v3] (s.body B (blkS B) k).2.1.data ∧ rStripes.r (Fresh w w') w' [v4] (s.body B (blkS B) k).2.1.proj.stripes) ∧ RdStep w g B a (s.body B (blkS B) k).1 w' := by
  have hlt := h.blk.lt
  have HIN := hid (RdInv.refl h)
  clear h
  generalize hZ : s.body B (blkS B) k = Z
  have HZ := hid hZ
  clear hZ
  obtain ⟨s1, m, q⟩ := Z
  dsimp only at *
  go_enter Tryz.func178, Tryz.ntmps178
  go_wp2_with fail
  have hbw : Below w.heap.size w ((w.alloc (.cells #[.pointer (some ⟨g, 0, none⟩)] 112)).alloc (.cells #[.int .i64 0, .int .u64 0, .int .u64 0, .int .u64 0, .int .i64 0, .int .i64 0, .slice none 0 0, .slice none 0 0, .slice none 0 0, .int .u64 0, .int .u64 0, .int .u64 0, .int .u64 0, .slice none 0 0] 45)) := by (repeat (first | with_reducible exact Below.refl _ _ | with_reducible assumption | (with_reducible refine below_alloc ?_ _) | (with_reducible refine Below.setCell ?_ (by first | omega | (simp; done) | (simp; omega)) _) | (with_reducible refine Below.drew ?_) | (with_reducible refine below_drewN ?_ _) | (refine below_then (by with_reducible assumption) ?_)))
  have R0 : Blk ((w.alloc (.cells #[.pointer (some ⟨g, 0, none⟩)] 112)).alloc (.cells #[.int .i64 0, .int .u64 0, .int .u64 0, .int .u64 0, .int .i64 0, .int .i64 0, .slice none 0 0, .slice none 0 0, .slice none 0 0, .int .u64 0, .int .u64 0, .int .u64 0, .int .u64 0, .slice none 0 0] 45)) (w.heap.size + 1) 45 zeroCells := by (repeat (first | assumption | exact Blk.newAt _ _ _ (by first | (simp; done) | (simp; omega)) | refine Blk.alloc ?_ _ | refine Blk.drew ?_ | refine Blk.drewN ?_ _ | refine Blk.far ?_ (by first | (simp; done) | (simp; omega)) _))
  have P0 : Blk ((w.alloc (.cells #[.pointer (some ⟨g, 0, none⟩)] 112)).alloc (.cells #[.int .i64 0, .int .u64 0, .int .u64 0, .int .u64 0, .int .i64 0, .int .i64 0, .slice none 0 0, .slice none 0 0, .slice none 0 0, .int .u64 0, .int .u64 0, .int .u64 0, .int .u64 0, .slice none 0 0] 45)) w.heap.size 112 #[.pointer (some ⟨g, 0, none⟩)] := by (repeat (first | assumption | exact Blk.newAt _ _ _ (by first | (simp; done) | (simp; omega)) | refine Blk.alloc ?_ _ | refine Blk.drew ?_ | refine Blk.drewN ?_ _ | refine Blk.far ?_ (by first | (simp; done) | (simp; omega)) _))
  have HIN0 := hid (HIN.out.row hbw)
  have hsz : (((w.alloc (.cells #[.pointer (some ⟨g, 0, none⟩)] 112)).alloc (.cells #[.int .i64 0, .int .u64 0, .int .u64 0, .int .u64 0, .int .i64 0, .int .i64 0, .slice none 0 0, .slice none 0 0, .slice none 0 0, .int .u64 0, .int .u64 0, .int .u64 0, .int .u64 0, .slice none 0 0] 45))).heap.size = w.heap.size + 2 := by simp
  have HBW := hid hbw
  clear hbw
  generalize ((w.alloc (.cells #[.pointer (some ⟨g, 0, none⟩)] 112)).alloc (.cells #[.int .i64 0, .int .u64 0, .int .u64 0, .int .u64 0, .int .i64 0, .int .i64 0, .slice none 0 0, .slice none 0 0, .slice none 0 0, .int .u64 0, .int .u64 0, .int .u64 0, .int .u64 0, .slice none 0 0] 45)) = W at *
  have hU : UnblockB W g B a 249 #[.pointer (some ⟨w.heap.size, 0, none⟩)] (blkS B) (· = g) (fun V _ => Blk V w.heap.size 112 #[.pointer (some ⟨g, 0, none⟩)]) := {
    lt := fun b e => by omega
    own := rfl
    st := fun V V' q hv hs ht => Blk.tch hv ht (by omega)
    call := fun V t q0 hV hX hs ht => (body_read1 V hV hB hX).mono fun r V' ⟨v, h1, h2, h3⟩ => ⟨v, h1, h2, h3.1, h3.2, Blk.tch hX h3.2 (by omega)⟩
    size := blkS_len
    dat := HIN0.out.rd.dat
    bad := fun t ht => blkS_badm t ht
    ent := fun xs V => by go_simp }
  have hC := body_read_gen W HIN0.out.rd hB k _ _ _ _ _ hU P0
  rw [HZ.out] at hC
  dsimp only [bodCells] at hC
  have HC := hid hC
  clear hU P0 hC
  refine HC.out.mono ?_
  rintro r w1 ⟨v1, v2, v3, v4, q1, rfl, hrows, hrd, ht, _, _⟩
  have HRW := hid hrows
  obtain ⟨h1, h2, h3, h4⟩ := hrows
  obtain ⟨a1, c1, hfv, _, _⟩ := sl_form h1
  simp only [List.cons.injEq, and_true] at hfv
  subst hfv
  obtain ⟨a2, c2, hfv, _, _⟩ := sl_form h2
  simp only [List.cons.injEq, and_true] at hfv
  subst hfv
  obtain ⟨a3, c3, hfv, _, _⟩ := sl_form h3
  simp only [List.cons.injEq, and_true] at hfv
  subst hfv
  obtain ⟨a4, c4, hfv, _, _⟩ := sl_form h4
  simp only [List.cons.injEq, and_true] at hfv
  subst hfv
  have R1 := R0.tch ht (by omega)
  have hs1 := ht.size
  have HIN1 := hid (HIN0.out.step ⟨hrd, ht⟩)
  obtain ⟨x0, x1, x2, x3, x4, x5, x6, x7, x8, x9, x10, x11, x12, x13, l1⟩ := mm_blk R1
  obtain ⟨f0, f1, f2, f3, f4, f5, f6, f7, f8, f9, f10, f11, f12, f13⟩ := m_free R1
  clear h1 h2 h3 h4 hrd ht R0
  go_wp2_with fail
  have hput := msg_put (W := w1) (m := m) (v1 := .slice a1 m.streams.length c1) (v2 := .slice a2 m.links.length c2) (v3 := .slice a3 m.data.length c3) (v4 := .slice a4 m.proj.stripes.length c4) (cs := #[]) R1
  refine post_world (fun W => Blk W (w.heap.size + 1) 45 (bodCells m (.slice a1 m.streams.length c1) (.slice a2 m.links.length c2) (.slice a3 m.data.length c3) (.slice a4 m.proj.stripes.length c4)) ∧ Tch (· = w.heap.size + 1) w1 W) ⟨hput, tch14⟩ ?_
  intro W5 ⟨q5, ht5⟩
  obtain ⟨n0, n1, n2, n3, n4, n5, n6, n7, n8, n9, n10, n11, n12, n13, ln⟩ := mm_blk q5
  have hz5 := ht5.size
  have hbF : Below w.heap.size w1 W5 := ht5.to_below (by omega) fun b _ e => by omega
  refine bodyPost_ret (v := .agg #[.int .i64 m.kind, .int .u64 m.epoch, .int .u64 m.seq, .int .u64 m.pos, .int .i64 m.count, .int .i64 m.state, .slice a1 m.streams.length c1, .slice a2 m.links.length c2, .slice a3 m.data.length c3, .int .u64 m.sea.epoch, .int .u64 m.sea.node, .int .u64 m.sea.tail, .int .u64 m.proj.epoch, .slice a4 m.proj.stripes.length c4]) (by simp [results, Tryz.results178, go_sem, n0, n1, n2, n3, n4, n5, n6, n7, n8, n9, n10, n11, n12, n13]) rfl ⟨_, _, _, _, rfl, rows_put (fun q hq => ht5.block q hq.2 (by have := hq.1; omega)) (fun q hq => ⟨by have := hq.1; omega, by have := hq.2; omega⟩) HRW.out, (HIN1.out.row hbF).to⟩


/-- What stands at the last test of the document's Loose. -/
structure LInv (w W : World) (B : List UInt8) (a : Option Addr) (c : Nat) (s sf : Rs) (ge : Nat) (D : List UInt8) (aD : Option Addr) (cD : Nat) : Prop where
  b0 : Blk W w.heap.size 91 #[.slice a B.length c, .int .i64 (s.p : Int), .int .i64 s.k, .int .i64 s.f]
  b1 : Blk W (w.heap.size + 1) 91 #[.slice none 0 0, .int .i64 0, .int .i64 0, .int .i64 0]
  be : Blk W ge 91 #[.slice a B.length c, .int .i64 (sf.p : Int), .int .i64 sf.k, .int .i64 sf.f]
  lo : w.heap.size + 1 < ge
  dat : rBytes.r (fun q => ge < q ∧ q < W.heap.size) W [.slice aD D.length cD] D
  bel : Below w.heap.size w W

theorem LInv.later {w V V' : World} {B : List UInt8} {a : Option Addr} {c : Nat} {s sf : Rs} {ge : Nat} {D : List UInt8} {aD : Option Addr} {cD : Nat} (h : LInv w V B a c s sf ge D aD cD) (hb : Below V.heap.size V V') : LInv w V' B a c s sf ge D aD cD :=
  ⟨h.b0.later hb, h.b1.later hb, h.be.later hb, h.lo, rBytes.mono (rBytes.keep h.dat fun q hq => hb.block q hq.2) fun q hq => ⟨hq.1, Nat.lt_of_lt_of_le hq.2 hb.size⟩, below_then hb h.bel⟩
theorem LInv.data {w V : World} {B : List UInt8} {a : Option Addr} {c : Nat} {s sf : Rs} {ge : Nat} {D D' : List UInt8} {aD aD' : Option Addr} {cD cD' : Nat} (h : LInv w V B a c s sf ge D aD cD) (hd : rBytes.r (fun q => ge < q ∧ q < V.heap.size) V [.slice aD' D'.length cD'] D') : LInv w V B a c s sf ge D' aD' cD' :=
  ⟨h.b0, h.b1, h.be, h.lo, hd, h.bel⟩
theorem LInv.set {w V : World} {B : List UInt8} {a : Option Addr} {c : Nat} {s sf : Rs} {ge : Nat} {D : List UInt8} {aD : Option Addr} {cD : Nat} (h : LInv w V B a c s sf ge D aD cD) (t : Rs) :
    LInv w ((((V.setCell ⟨ge, 0, none⟩ (.slice a B.length c)).setCell ⟨ge, 1, none⟩ (.int .i64 (t.p : Int))).setCell ⟨ge, 2, none⟩ (.int .i64 t.k)).setCell ⟨ge, 3, none⟩ (.int .i64 t.f)) B a c s t ge D aD cD := by
  have hlo := h.lo
  refine ⟨?_, ?_, ?_, hlo, ?_, ?_⟩
  · exact Blk.far (Blk.far (Blk.far (Blk.far h.b0 (by dsimp only; omega) _) (by dsimp only; omega) _) (by dsimp only; omega) _) (by dsimp only; omega) _
  · exact Blk.far (Blk.far (Blk.far (Blk.far h.b1 (by dsimp only; omega) _) (by dsimp only; omega) _) (by dsimp only; omega) _) (by dsimp only; omega) _
  · exact Blk.set (Blk.set (Blk.set (Blk.set h.be 0 _) 1 _) 2 _) 3 _
  · refine rBytes.mono (rBytes.keep h.dat fun q hq => ?_) fun q hq => ⟨hq.1, by have := hq.2; simp [World.setCell]; omega⟩
    have hq1 := hq.1
    repeat (rw [Below.heap_setCell _ _ _ _ (by dsimp only; omega)])
  · have hb := h.bel
    (repeat (first | with_reducible exact Below.refl _ _ | with_reducible assumption | (with_reducible refine below_alloc ?_ _) | (with_reducible refine Below.setCell ?_ (by first | omega | (simp; done) | (simp; omega)) _) | (with_reducible refine Below.drew ?_) | (with_reducible refine below_drewN ?_ _) | (refine below_then (by with_reducible assumption) ?_)))


/-- The document's body as far as it is read. -/
structure RefI (w : World) (B : List UInt8) (a : Option Addr) (c : Nat) (m : Msg) (v1 v2 v3 v4 : Value) (s : Rs) (W : World) : Prop where
  d : Blk W w.heap.size 91 #[.slice a B.length c, .int .i64 (s.p : Int), .int .i64 s.k, .int .i64 s.f]
  r6 : Blk W (w.heap.size + 1) 91 #[.slice none 0 0, .int .i64 0, .int .i64 0, .int .i64 0]
  r7 : Blk W (w.heap.size + 1 + 1) 45 zeroCells
  pm : Blk W (w.heap.size + 1 + 1 + 1) 45 (bodCells m v1 v2 v3 v4)
  ok : s.ok B.length
  bel : Below w.heap.size w W
  low : w.heap.size + 1 + 1 + 1 + 1 ≤ W.heap.size
  st : rU64s.r (fun b => w.heap.size + 1 + 1 + 1 + 1 ≤ b ∧ b < W.heap.size) W [v1] m.streams
  ln : rLinks.r (fun b => w.heap.size + 1 + 1 + 1 + 1 ≤ b ∧ b < W.heap.size) W [v2] m.links
  da : rBytes.r (fun b => w.heap.size + 1 + 1 + 1 + 1 ≤ b ∧ b < W.heap.size) W [v3] m.data
  sp : rStripes.r (fun b => w.heap.size + 1 + 1 + 1 + 1 ≤ b ∧ b < W.heap.size) W [v4] m.proj.stripes
theorem RefI.later {w : World} {B : List UInt8} {a : Option Addr} {c : Nat} {m : Msg} {v1 v2 v3 v4 : Value} {s : Rs} {W : World} (h : RefI w B a c m v1 v2 v3 v4 s W) {W' : World} (hb : Below W.heap.size W W') : RefI w B a c m v1 v2 v3 v4 s W' := by
  have hk : ∀ b, w.heap.size + 1 + 1 + 1 + 1 ≤ b ∧ b < W.heap.size → W'.heap[b]? = W.heap[b]? := fun b hb' => hb.block b hb'.2
  have hm : ∀ b, w.heap.size + 1 + 1 + 1 + 1 ≤ b ∧ b < W.heap.size → w.heap.size + 1 + 1 + 1 + 1 ≤ b ∧ b < W'.heap.size := fun b hb' => ⟨hb'.1, Nat.lt_of_lt_of_le hb'.2 hb.size⟩
  exact ⟨h.d.later hb, h.r6.later hb, h.r7.later hb, h.pm.later hb, h.ok, below_then hb h.bel, Nat.le_trans h.low hb.size, rU64s.mono (rU64s.keep h.st hk) hm, rLinks.mono (rLinks.keep h.ln hk) hm, rBytes.mono (rBytes.keep h.da hk) hm, rStripes.mono (rStripes.keep h.sp hk) hm⟩
theorem RefI.setM {w : World} {B : List UInt8} {a : Option Addr} {c : Nat} {m : Msg} {v1 v2 v3 v4 : Value} {s : Rs} {W : World} (h : RefI w B a c m v1 v2 v3 v4 s W) (i : Nat) (u : Value) {m' : Msg} {v1' v2' v3' v4' : Value} (hc : (bodCells m v1 v2 v3 v4).setIfInBounds i u = bodCells m' v1' v2' v3' v4')
    (h1 : rU64s.r (fun b => w.heap.size + 1 + 1 + 1 + 1 ≤ b ∧ b < W.heap.size) W [v1'] m'.streams) (h2 : rLinks.r (fun b => w.heap.size + 1 + 1 + 1 + 1 ≤ b ∧ b < W.heap.size) W [v2'] m'.links) (h3 : rBytes.r (fun b => w.heap.size + 1 + 1 + 1 + 1 ≤ b ∧ b < W.heap.size) W [v3'] m'.data) (h4 : rStripes.r (fun b => w.heap.size + 1 + 1 + 1 + 1 ≤ b ∧ b < W.heap.size) W [v4'] m'.proj.stripes) : RefI w B a c m' v1' v2' v3' v4' s (W.setCell ⟨w.heap.size + 1 + 1 + 1, i, none⟩ u) := by
  have hz : (W.setCell ⟨w.heap.size + 1 + 1 + 1, i, none⟩ u).heap.size = W.heap.size := size_set _ _ _
  have hk : ∀ b, w.heap.size + 1 + 1 + 1 + 1 ≤ b ∧ b < W.heap.size → (W.setCell ⟨w.heap.size + 1 + 1 + 1, i, none⟩ u).heap[b]? = W.heap[b]? := fun b hb => Below.heap_setCell _ _ _ _ (by have := hb.1; dsimp only; omega)
  have hm : ∀ b, w.heap.size + 1 + 1 + 1 + 1 ≤ b ∧ b < W.heap.size → w.heap.size + 1 + 1 + 1 + 1 ≤ b ∧ b < (W.setCell ⟨w.heap.size + 1 + 1 + 1, i, none⟩ u).heap.size := fun b hb => ⟨hb.1, by rw [hz]; exact hb.2⟩
  refine ⟨Blk.far h.d (by dsimp only; omega) _, Blk.far h.r6 (by dsimp only; omega) _, Blk.far h.r7 (by dsimp only; omega) _, ?_, h.ok, h.bel.setCell (by dsimp only; omega) _, by rw [hz]; exact h.low, rU64s.mono (rU64s.keep h1 hk) hm, rLinks.mono (rLinks.keep h2 hk) hm, rBytes.mono (rBytes.keep h3 hk) hm, rStripes.mono (rStripes.keep h4 hk) hm⟩
  rw [← hc]
  exact h.pm.set i u

def Rs.fin (L : Nat) (s : Rs) : Rs := if s.p < L then s.fail 9 s.p else s
set_option maxRecDepth 100000 in
theorem rd_end (w : World) {g : Nat} {B : List UInt8} {a : Option Addr} {s : Rs} (h : RdAt w g B a s) : Calls Tryz.prog 203 #[.pointer (some ⟨g, 0, none⟩)] w fun r w' => r = .returned (.tuple #[]) ∧ RdStep w g B a (s.fin B.length) w' := by
  have HLF := hid (rd_left w h)
  have HH := hid h
  have hln := h.len
  have hle := h.ok.le
  unfold Rs.fin
  clear h
  by_cases hp : s.p < B.length
  · rw [if_pos hp]
    have d1 : decide ((0 : Int) < (B.length : Int) - (s.p : Int)) = true := decide_eq_true (by omega)
    have d2 : decide (s.p < B.length) = true := decide_eq_true hp
    clear hp
    go_enter Tryz.func203, Tryz.ntmps203
    go_wp2_with fail
    refine HLF.out.mono ?_
    rintro r w1 ⟨rfl, hb1⟩
    have HH1 := hid (HH.out.later hb1)
    have x1 := HH1.out.blk.cell 1
    simp at x1
    go_wp2_with fail
    refine (rd_fail w1 HH1.out 9 (s.p : Int) (by omega)).mono ?_
    rintro r w2 ⟨rfl, hst⟩
    have HST := hid (RdStep.trans (s' := s.fail 9 s.p) (Tch.of_later (F := (· = g)) hb1) hst)
    clear hst x1
    go_wp2
    first | go_end0 | refine bodyPost_ret (results_none rfl _ _ _) rfl ?_
    exact ⟨rfl, HST.out⟩
  · rw [if_neg hp]
    have d1 : decide ((0 : Int) < (B.length : Int) - (s.p : Int)) = false := decide_eq_false (by omega)
    have d2 : decide (s.p < B.length) = false := decide_eq_false hp
    clear hp
    go_enter Tryz.func203, Tryz.ntmps203
    go_wp2_with fail
    refine HLF.out.mono ?_
    rintro r w1 ⟨rfl, hb1⟩
    have HST := hid (RdStep.later HH.out hb1)
    go_wp2
    first | go_end0 | refine bodyPost_ret (results_none rfl _ _ _) rfl ?_
    exact ⟨rfl, HST.out⟩

theorem part_all {α : Type} {h : Bool} {s : Rs} {f : Rs → Rs × α} {z : α} {P : α → Prop} (h1 : P (f s).2) (h2 : P z) : P (Rs.part h s f z).2 := by
  cases h
  · exact h2
  · exact h1
theorem Rs.ep_u {B : List UInt8} {s : Rs} : inU ((s.ep B).2 : Int) := by
  have := Rs.num_small (B := B) (s := s)
  unfold Rs.ep inU
  split
  · split
    · omega
    · simp
  · simp
theorem Rs.most_u {B : List UInt8} {s : Rs} {m : Nat} : inU ((s.most B m).2 : Int) := by
  have := Rs.num_small (B := B) (s := s)
  unfold Rs.most inU
  split
  · simp
  · omega
theorem Rs.tl_u {B : List UInt8} {s : Rs} : inU ((s.tl B).2 : Int) := by
  have := Rs.num_small (B := B) (s := s)
  unfold Rs.tl inU
  split
  · split
    · omega
    · simp
  · simp
theorem inU_zero : inU 0 := ⟨Int.le_refl _, by decide⟩
theorem inI_zero : inI 0 := ⟨by decide, by decide⟩
theorem Rs.seal_u {B : List UInt8} {s : Rs} : inU (s.seal_ B).2.epoch ∧ inU (s.seal_ B).2.node ∧ inU (s.seal_ B).2.tail := by
  unfold Rs.seal_
  dsimp only
  split
  · exact ⟨Rs.ep_u, Rs.most_u, Rs.tl_u⟩
  · exact ⟨inU_zero, inU_zero, inU_zero⟩
theorem Rs.proj_u {B : List UInt8} {s : Rs} : inU (s.proj_ B).2.epoch := by
  unfold Rs.proj_
  dsimp only
  split <;> split
  · exact Rs.ep_u
  · exact inU_zero
  · exact Rs.ep_u
  · exact inU_zero
theorem Rs.cnt_u {B : List UInt8} {s : Rs} : inI (s.cnt B).2 := by
  have h2 : (s.many B 65536).2 ≤ 65536 := Rs.many_le (m := 65536)
  unfold Rs.cnt inI
  dsimp only
  omega
theorem Rs.stt_u {B : List UInt8} {s : Rs} {k : Int} : inI (s.stt B k).2 := by
  have h2 : (s.byte B).2.toNat < 256 := (s.byte B).2.toNat_lt
  unfold Rs.stt inI
  dsimp only
  omega
/-- The bounds of the numbers that are read. -/
structure MsgB (m : Msg) : Prop where
  kind : inI m.kind
  epoch : inU m.epoch
  seq : inU m.seq
  pos : inU m.pos
  count : inI m.count
  state : inI m.state
  sealE : inU m.sea.epoch
  sealN : inU m.sea.node
  sealT : inU m.sea.tail
  projE : inU m.proj.epoch
theorem MsgB.none : MsgB noMsg := ⟨inI_zero, inU_zero, inU_zero, inU_zero, inI_zero, inI_zero, inU_zero, inU_zero, inU_zero, inU_zero⟩
theorem body_nums {B : List UInt8} {blk : Rs → Rs × List UInt8 × Bool} {k : Int} {s : Rs} (hk : inI k) : MsgB (s.body B blk k).2.1 := by
  unfold Rs.body Rs.ahead
  split
  · dsimp only
    split
    · exact ⟨hk, inU_zero, inU_zero, part_all (P := inU) Rs.pos_u inU_zero, part_all (P := inI) Rs.cnt_u inI_zero, part_all (P := inI) Rs.stt_u inI_zero, (part_all (P := fun z : Seal => inU z.epoch) Rs.seal_u.1 inU_zero), (part_all (P := fun z : Seal => inU z.node) Rs.seal_u.2.1 inU_zero), (part_all (P := fun z : Seal => inU z.tail) Rs.seal_u.2.2 inU_zero), (part_all (P := fun z : Projn => inU z.epoch) Rs.proj_u inU_zero)⟩
    · exact MsgB.none
  · exact MsgB.none
theorem MsgB.to {m : Msg} (h : MsgB m) {S : Nat → Prop} {W : World} {a1 : Option Addr} {c1 : Nat} {a2 : Option Addr} {c2 : Nat} {a3 : Option Addr} {c3 : Nat} {a4 : Option Addr} {c4 : Nat} (h1 : rU64s.r S W [.slice a1 m.streams.length c1] m.streams) (h2 : rLinks.r S W [.slice a2 m.links.length c2] m.links) (h3 : rBytes.r S W [.slice a3 m.data.length c3] m.data) (h4 : rStripes.r S W [.slice a4 m.proj.stripes.length c4] m.proj.stripes) :
    MsgIn S W m a1 c1 a2 c2 a3 c3 a4 c4 := ⟨h.kind, h.epoch, h.seq, h.pos, h.count, h.state, h.sealE, h.sealN, h.sealT, h.projE, h1, h2, h3, h4⟩

theorem bodyS (w : World) {g : Nat} {B : List UInt8} {a : Option Addr} {s s1 : Rs} {m : Msg} {q : Bool} (h : RdAt w g B a s) (hB : B.length ≤ 1000000000) (k : Int) (hk : inI k) (hZ : s.body B (blkS B) k = (s1, m, q)) :
    Calls Tryz.prog 178 #[.pointer (some ⟨g, 0, none⟩), .int .i64 k] w fun r w' => ∃ a1 a1' a2 a2' a3 a3' a4 a4', r = .returned (.agg #[.int .i64 m.kind, .int .u64 m.epoch, .int .u64 m.seq, .int .u64 m.pos, .int .i64 m.count, .int .i64 m.state, .slice a1 m.streams.length a1', .slice a2 m.links.length a2', .slice a3 m.data.length a3', .int .u64 m.sea.epoch, .int .u64 m.sea.node, .int .u64 m.sea.tail, .int .u64 m.proj.epoch, .slice a4 m.proj.stripes.length a4']) ∧ MsgIn (fun q => w.heap.size ≤ q ∧ q < w'.heap.size) w' m a1 a1' a2 a2' a3 a3' a4 a4' ∧ RdStep w g B a s1 w' := by
  have hC := body_readS w h hB k
  have hN := body_nums (B := B) (blk := blkS B) (s := s) hk
  rw [hZ] at hC hN
  refine hC.mono ?_
  rintro r w' ⟨v1, v2, v3, v4, rfl, ⟨h1, h2, h3, h4⟩, hst⟩
  obtain ⟨a1, a1', hfv, _, _⟩ := sl_form h1
  simp only [List.cons.injEq, and_true] at hfv
  subst hfv
  obtain ⟨a2, a2', hfv, _, _⟩ := sl_form h2
  simp only [List.cons.injEq, and_true] at hfv
  subst hfv
  obtain ⟨a3, a3', hfv, _, _⟩ := sl_form h3
  simp only [List.cons.injEq, and_true] at hfv
  subst hfv
  obtain ⟨a4, a4', hfv, _, _⟩ := sl_form h4
  simp only [List.cons.injEq, and_true] at hfv
  subst hfv
  exact ⟨a1, a1', a2, a2', a3, a3', a4, a4', rfl, hN.to h1 h2 h3 h4, hst⟩
theorem MsgIn.keepS {S S' : Nat → Prop} {w w' : World} {m : Msg} {a1 : Option Addr} {c1 : Nat} {a2 : Option Addr} {c2 : Nat} {a3 : Option Addr} {c3 : Nat} {a4 : Option Addr} {c4 : Nat} (h : MsgIn S w m a1 c1 a2 c2 a3 c3 a4 c4) (hk : ∀ q, S q → w'.heap[q]? = w.heap[q]?) (hs : ∀ q, S q → S' q) : MsgIn S' w' m a1 c1 a2 c2 a3 c3 a4 c4 :=
  MsgIn.tr (fun A cs x hx => A.mono (A.keep hx hk) hs) h

set_option maxRecDepth 100000 in
set_option maxHeartbeats 3200000 in
theorem rpc_strict (w : World) {g : Nat} {B : List UInt8} {a : Option Addr} {s s1 : Rs} {m : Msg} {q : Bool} (h : RdAt w g B a s) (hB : B.length ≤ 1000000000) (k : Int) (hk : inI k) (hZ : s.body B (blkS B) k = (s1, m, q)) :
    Calls Tryz.prog 116 #[.pointer (some ⟨g, 0, none⟩), .int .i64 k] w fun r w' => ∃ a1 a1' a2 a2' a3 a3' a4 a4', r = .returned (.tuple #[.agg #[.int .i64 m.kind, .int .u64 m.epoch, .int .u64 m.seq, .int .u64 m.pos, .int .i64 m.count, .int .i64 m.state, .slice a1 m.streams.length a1', .slice a2 m.links.length a2', .slice a3 m.data.length a3', .int .u64 m.sea.epoch, .int .u64 m.sea.node, .int .u64 m.sea.tail, .int .u64 m.proj.epoch, .slice a4 m.proj.stripes.length a4'], .bool (decide (s1.k = 0))]) ∧ MsgIn (fun q => w.heap.size ≤ q ∧ q < w'.heap.size) w' m a1 a1' a2 a2' a3 a3' a4 a4' ∧ RdStep w g B a s1 w' := by
  have hlt := h.blk.lt
  have HIN := hid (RdInv.refl h)
  have HC := hid (fun (W : World) (hW : RdAt W g B a s) => bodyS W hW hB k hk hZ)
  obtain ⟨G, hG⟩ : ∃ G, G = decide (s1.k = 0) := ⟨_, rfl⟩
  have HGG := hid (fun (V : World) (hV : RdAt V g B a s1) => (by have := rd_good V hV; rw [← hG] at this; exact this : Calls Tryz.prog 112 #[.pointer (some ⟨g, 0, none⟩)] V fun r w' => r = .returned (.bool G) ∧ Below V.heap.size V w'))
  rw [← hG]
  clear h hG hZ
  have hb0 : Below w.heap.size w (w.alloc (.cells #[.int .i64 0, .int .u64 0, .int .u64 0, .int .u64 0, .int .i64 0, .int .i64 0, .slice none 0 0, .slice none 0 0, .slice none 0 0, .int .u64 0, .int .u64 0, .int .u64 0, .int .u64 0, .slice none 0 0] 45)) := by (repeat (first | with_reducible exact Below.refl _ _ | with_reducible assumption | (with_reducible refine below_alloc ?_ _) | (with_reducible refine Below.setCell ?_ (by first | omega | (simp; done) | (simp; omega)) _) | (with_reducible refine Below.drew ?_) | (with_reducible refine below_drewN ?_ _) | (refine below_then (by with_reducible assumption) ?_)))
  have R0 : Blk (w.alloc (.cells #[.int .i64 0, .int .u64 0, .int .u64 0, .int .u64 0, .int .i64 0, .int .i64 0, .slice none 0 0, .slice none 0 0, .slice none 0 0, .int .u64 0, .int .u64 0, .int .u64 0, .int .u64 0, .slice none 0 0] 45)) w.heap.size 45 zeroCells := by (repeat (first | assumption | exact Blk.newAt _ _ _ (by first | (simp; done) | (simp; omega)) | refine Blk.alloc ?_ _ | refine Blk.drew ?_ | refine Blk.drewN ?_ _ | refine Blk.far ?_ (by first | (simp; done) | (simp; omega)) _))
  have HIN0 := hid (HIN.out.row hb0)
  have hsz0 : w.heap.size < ((w.alloc (.cells #[.int .i64 0, .int .u64 0, .int .u64 0, .int .u64 0, .int .i64 0, .int .i64 0, .slice none 0 0, .slice none 0 0, .slice none 0 0, .int .u64 0, .int .u64 0, .int .u64 0, .int .u64 0, .slice none 0 0] 45))).heap.size := by simp
  go_enter Tryz.func116, Tryz.ntmps116
  go_wp2_with fail
  generalize (w.alloc (.cells #[.int .i64 0, .int .u64 0, .int .u64 0, .int .u64 0, .int .i64 0, .int .i64 0, .slice none 0 0, .slice none 0 0, .slice none 0 0, .int .u64 0, .int .u64 0, .int .u64 0, .int .u64 0, .slice none 0 0] 45)) = W at *
  refine (HC.out W HIN0.out.rd).mono ?_
  rintro r w1 ⟨a1, a1', a2, a2', a3, a3', a4, a4', rfl, hm1, hst1⟩
  have R1 := R0.tch hst1.2 (by omega)
  have HIN1 := hid (HIN0.out.step hst1)
  have hz1 := hst1.2.size
  have X1 := hid (MsgIn.keepS hm1 (fun q hq => rfl) (fun q hq => (⟨by have := hq.1; omega, hq.2⟩ : w.heap.size < q ∧ q < w1.heap.size)))
  have lr := R1.lt
  clear hm1 hst1 R0 hb0
  have SK := hid (fun (w' : World) (h0 : Blk w' w1.heap.size 45 #[.int .i64 m.kind, .int .u64 m.epoch, .int .u64 m.seq, .int .u64 m.pos, .int .i64 m.count, .int .i64 m.state, .slice a1 m.streams.length a1', .slice a2 m.links.length a2', .slice a3 m.data.length a3', .int .u64 m.sea.epoch, .int .u64 m.sea.node, .int .u64 m.sea.tail, .int .u64 m.proj.epoch, .slice a4 m.proj.stripes.length a4']) => (⟨h0.cell 0, h0.cell 1, h0.cell 2, h0.cell 3, h0.cell 4, h0.cell 5, h0.cell 6, h0.cell 7, h0.cell 8, h0.cell 9, h0.cell 10, h0.cell 11, h0.cell 12, h0.cell 13⟩ : w'.cell? ⟨w1.heap.size, 0, none⟩ = some (.int .i64 m.kind) ∧ w'.cell? ⟨w1.heap.size, 1, none⟩ = some (.int .u64 m.epoch) ∧ w'.cell? ⟨w1.heap.size, 2, none⟩ = some (.int .u64 m.seq) ∧ w'.cell? ⟨w1.heap.size, 3, none⟩ = some (.int .u64 m.pos) ∧ w'.cell? ⟨w1.heap.size, 4, none⟩ = some (.int .i64 m.count) ∧ w'.cell? ⟨w1.heap.size, 5, none⟩ = some (.int .i64 m.state) ∧ w'.cell? ⟨w1.heap.size, 6, none⟩ = some (.slice a1 m.streams.length a1') ∧ w'.cell? ⟨w1.heap.size, 7, none⟩ = some (.slice a2 m.links.length a2') ∧ w'.cell? ⟨w1.heap.size, 8, none⟩ = some (.slice a3 m.data.length a3') ∧ w'.cell? ⟨w1.heap.size, 9, none⟩ = some (.int .u64 m.sea.epoch) ∧ w'.cell? ⟨w1.heap.size, 10, none⟩ = some (.int .u64 m.sea.node) ∧ w'.cell? ⟨w1.heap.size, 11, none⟩ = some (.int .u64 m.sea.tail) ∧ w'.cell? ⟨w1.heap.size, 12, none⟩ = some (.int .u64 m.proj.epoch) ∧ w'.cell? ⟨w1.heap.size, 13, none⟩ = some (.slice a4 m.proj.stripes.length a4')))
  have E2 : Blk (w1.alloc (.cells #[.int .i64 m.kind, .int .u64 m.epoch, .int .u64 m.seq, .int .u64 m.pos, .int .i64 m.count, .int .i64 m.state, .slice a1 m.streams.length a1', .slice a2 m.links.length a2', .slice a3 m.data.length a3', .int .u64 m.sea.epoch, .int .u64 m.sea.node, .int .u64 m.sea.tail, .int .u64 m.proj.epoch, .slice a4 m.proj.stripes.length a4'] 45)) w1.heap.size 45 #[.int .i64 m.kind, .int .u64 m.epoch, .int .u64 m.seq, .int .u64 m.pos, .int .i64 m.count, .int .i64 m.state, .slice a1 m.streams.length a1', .slice a2 m.links.length a2', .slice a3 m.data.length a3', .int .u64 m.sea.epoch, .int .u64 m.sea.node, .int .u64 m.sea.tail, .int .u64 m.proj.epoch, .slice a4 m.proj.stripes.length a4'] := Blk.newAt _ _ _ rfl
  have R2 : Blk (w1.alloc (.cells #[.int .i64 m.kind, .int .u64 m.epoch, .int .u64 m.seq, .int .u64 m.pos, .int .i64 m.count, .int .i64 m.state, .slice a1 m.streams.length a1', .slice a2 m.links.length a2', .slice a3 m.data.length a3', .int .u64 m.sea.epoch, .int .u64 m.sea.node, .int .u64 m.sea.tail, .int .u64 m.proj.epoch, .slice a4 m.proj.stripes.length a4'] 45)) w.heap.size 45 zeroCells := R1.alloc _
  have hb12 : Below w1.heap.size w1 (w1.alloc (.cells #[.int .i64 m.kind, .int .u64 m.epoch, .int .u64 m.seq, .int .u64 m.pos, .int .i64 m.count, .int .i64 m.state, .slice a1 m.streams.length a1', .slice a2 m.links.length a2', .slice a3 m.data.length a3', .int .u64 m.sea.epoch, .int .u64 m.sea.node, .int .u64 m.sea.tail, .int .u64 m.proj.epoch, .slice a4 m.proj.stripes.length a4'] 45)) := by (repeat (first | with_reducible exact Below.refl _ _ | with_reducible assumption | (with_reducible refine below_alloc ?_ _) | (with_reducible refine Below.setCell ?_ (by first | omega | (simp; done) | (simp; omega)) _) | (with_reducible refine Below.drew ?_) | (with_reducible refine below_drewN ?_ _) | (refine below_then (by with_reducible assumption) ?_)))
  have HIN2 := hid (HIN1.out.row (hb12.mono (by omega)))
  have X2 := hid (MsgIn.keepS X1.out (fun q hq => hb12.block q hq.2) (fun q hq => (⟨hq.1, Nat.lt_of_lt_of_le hq.2 hb12.size⟩ : w.heap.size < q ∧ q < ((w1.alloc (.cells #[.int .i64 m.kind, .int .u64 m.epoch, .int .u64 m.seq, .int .u64 m.pos, .int .i64 m.count, .int .i64 m.state, .slice a1 m.streams.length a1', .slice a2 m.links.length a2', .slice a3 m.data.length a3', .int .u64 m.sea.epoch, .int .u64 m.sea.node, .int .u64 m.sea.tail, .int .u64 m.proj.epoch, .slice a4 m.proj.stripes.length a4'] 45))).heap.size)))
  have HS2 := hid (SK.out (w1.alloc (.cells #[.int .i64 m.kind, .int .u64 m.epoch, .int .u64 m.seq, .int .u64 m.pos, .int .i64 m.count, .int .i64 m.state, .slice a1 m.streams.length a1', .slice a2 m.links.length a2', .slice a3 m.data.length a3', .int .u64 m.sea.epoch, .int .u64 m.sea.node, .int .u64 m.sea.tail, .int .u64 m.proj.epoch, .slice a4 m.proj.stripes.length a4'] 45)) E2)
  have hz2 : w1.heap.size < ((w1.alloc (.cells #[.int .i64 m.kind, .int .u64 m.epoch, .int .u64 m.seq, .int .u64 m.pos, .int .i64 m.count, .int .i64 m.state, .slice a1 m.streams.length a1', .slice a2 m.links.length a2', .slice a3 m.data.length a3', .int .u64 m.sea.epoch, .int .u64 m.sea.node, .int .u64 m.sea.tail, .int .u64 m.proj.epoch, .slice a4 m.proj.stripes.length a4'] 45))).heap.size := by simp
  clear R1 hb12
  go_wp2_with fail
  generalize (w1.alloc (.cells #[.int .i64 m.kind, .int .u64 m.epoch, .int .u64 m.seq, .int .u64 m.pos, .int .i64 m.count, .int .i64 m.state, .slice a1 m.streams.length a1', .slice a2 m.links.length a2', .slice a3 m.data.length a3', .int .u64 m.sea.epoch, .int .u64 m.sea.node, .int .u64 m.sea.tail, .int .u64 m.proj.epoch, .slice a4 m.proj.stripes.length a4'] 45)) = w2 at *
  have HRD3 := hid (HIN2.out.rd.later (show Below w2.heap.size w2 w2.drew from (Below.refl _ _).drew))
  refine wp_region_held_drew (S := fun w' => w'.cell? ⟨w1.heap.size, 0, none⟩ = some (.int .i64 m.kind) ∧ w'.cell? ⟨w1.heap.size, 1, none⟩ = some (.int .u64 m.epoch) ∧ w'.cell? ⟨w1.heap.size, 2, none⟩ = some (.int .u64 m.seq) ∧ w'.cell? ⟨w1.heap.size, 3, none⟩ = some (.int .u64 m.pos) ∧ w'.cell? ⟨w1.heap.size, 4, none⟩ = some (.int .i64 m.count) ∧ w'.cell? ⟨w1.heap.size, 5, none⟩ = some (.int .i64 m.state) ∧ w'.cell? ⟨w1.heap.size, 6, none⟩ = some (.slice a1 m.streams.length a1') ∧ w'.cell? ⟨w1.heap.size, 7, none⟩ = some (.slice a2 m.links.length a2') ∧ w'.cell? ⟨w1.heap.size, 8, none⟩ = some (.slice a3 m.data.length a3') ∧ w'.cell? ⟨w1.heap.size, 9, none⟩ = some (.int .u64 m.sea.epoch) ∧ w'.cell? ⟨w1.heap.size, 10, none⟩ = some (.int .u64 m.sea.node) ∧ w'.cell? ⟨w1.heap.size, 11, none⟩ = some (.int .u64 m.sea.tail) ∧ w'.cell? ⟨w1.heap.size, 12, none⟩ = some (.int .u64 m.proj.epoch) ∧ w'.cell? ⟨w1.heap.size, 13, none⟩ = some (.slice a4 m.proj.stripes.length a4')) (by kernel_rfl) HS2.out (fun hHeld => ?_)
  refine wpAnyH_take (i := 0) (oi := _) (v := ?_) rfl (by decide +kernel) (by decide +kernel) (by decide +kernel) (fun _ _ _ h => h) (Or.inl ⟨by rfl, ?_⟩) (by assumption) ?_
  rotate_left
  · (intro w hSw; (try dsimp only at hSw); go_simp <;> with_reducible rfl)
  (try simp only [Act.put, List.setIfInBounds_toArray, List.set_cons_zero, List.set_cons_succ])
  refine wpAnyH_take (i := 1) (oi := _) (v := ?_) rfl (by decide +kernel) (by decide +kernel) (by decide +kernel) (fun _ _ _ h => h) (Or.inl ⟨by rfl, ?_⟩) (by assumption) ?_
  rotate_left
  · (intro w hSw; (try dsimp only at hSw); go_simp <;> with_reducible rfl)
  (try simp only [Act.put, List.setIfInBounds_toArray, List.set_cons_zero, List.set_cons_succ])
  refine wpAnyH_ready (rs := [2]) (by decide +kernel) (by simp) ?_
  refine AllReadyH.cons (o := _) rfl (fun K hK => ?_) AllReadyH.nil
  (go_simp; go_at_call 112; refine (HGG.out _ HRD3.out).mono ?_; rintro e1 w7 ⟨rfl, hb7⟩; have E7 := E2.drew.later hb7; have R7 := R2.drew.later hb7; have HB7 := hid hb7; have hs7 : w2.heap.size ≤ w7.heap.size := hb7.size; obtain ⟨x0, x1, x2, x3, x4, x5, x6, x7, x8, x9, x10, x11, x12, x13, l1⟩ := mm_blk R7; obtain ⟨f0, f1, f2, f3, f4, f5, f6, f7, f8, f9, f10, f11, f12, f13⟩ := m_free R7; clear E2 R2 hb7; (try dsimp only))
  refine hK.out _ _ ?_ (fun hHeld => ?_)
  · exact SK.out _ (by repeat (first | with_reducible assumption | with_reducible refine Blk.drew ?_ | with_reducible refine Blk.far ?_ (by dsimp only; omega) _))
  clear hK K
  (try simp only [Act.put, List.setIfInBounds_toArray, List.set_cons_zero, List.set_cons_succ])
  (try simp only [List.getElem_toArray, List.getElem_cons_zero, List.getElem_cons_succ, Act.put, List.setIfInBounds_toArray, List.set_cons_zero, List.set_cons_succ])
  refine wpAnyH_ready (rs := [3]) (by decide +kernel) (by simp) ?_
  refine AllReadyH.cons (o := _) rfl (fun K hK => ?_) AllReadyH.nil
  go_simp
  refine hK.out _ _ ?_ (fun hHeld => ?_)
  · exact SK.out _ (by repeat (first | with_reducible assumption | with_reducible refine Blk.drew ?_ | with_reducible refine Blk.far ?_ (by dsimp only; omega) _))
  clear hK K
  (try simp only [Act.put, List.setIfInBounds_toArray, List.set_cons_zero, List.set_cons_succ])
  refine wpAnyH_take (i := 4) (oi := _) (v := ?_) rfl (by decide +kernel) (by decide +kernel) (by decide +kernel) (fun _ _ _ h => h) (Or.inl ⟨by rfl, ?_⟩) (by assumption) ?_
  rotate_left
  · (intro w hSw; (try dsimp only at hSw); go_simp <;> with_reducible rfl)
  (try simp only [Act.put, List.setIfInBounds_toArray, List.set_cons_zero, List.set_cons_succ])
  (try simp only [List.getElem_toArray, List.getElem_cons_zero, List.getElem_cons_succ, Act.put, List.setIfInBounds_toArray, List.set_cons_zero, List.set_cons_succ])
  refine wpAnyH_done (by kernel_rfl) ?_ _
  go_wp2_with fail
  have hput := msg_put (W := w7) (m := m) (v1 := .slice a1 m.streams.length a1') (v2 := .slice a2 m.links.length a2') (v3 := .slice a3 m.data.length a3') (v4 := .slice a4 m.proj.stripes.length a4') (cs := #[]) R7
  refine post_world (fun W => Blk W w.heap.size 45 (bodCells m (.slice a1 m.streams.length a1') (.slice a2 m.links.length a2') (.slice a3 m.data.length a3') (.slice a4 m.proj.stripes.length a4')) ∧ Tch (· = w.heap.size) w7 W) ⟨hput, tch14⟩ ?_
  intro W5 ⟨q5, ht5⟩
  obtain ⟨n0, n1, n2, n3, n4, n5, n6, n7, n8, n9, n10, n11, n12, n13, ln⟩ := mm_blk q5
  have hb27 : Below w2.heap.size w2 w7 := ((Below.refl _ _).drew : Below w2.heap.size w2 w2.drew).trans HB7.out
  have hbF : Below w.heap.size w2 W5 := (hb27.mono (by omega)).trans (ht5.to_below (by omega) fun b _ e => by omega)
  have hz5 := ht5.size
  refine bodyPost_ret (v := .tuple #[.agg #[.int .i64 m.kind, .int .u64 m.epoch, .int .u64 m.seq, .int .u64 m.pos, .int .i64 m.count, .int .i64 m.state, .slice a1 m.streams.length a1', .slice a2 m.links.length a2', .slice a3 m.data.length a3', .int .u64 m.sea.epoch, .int .u64 m.sea.node, .int .u64 m.sea.tail, .int .u64 m.proj.epoch, .slice a4 m.proj.stripes.length a4'], .bool G]) (by simp [results, Tryz.results116, go_sem, n0, n1, n2, n3, n4, n5, n6, n7, n8, n9, n10, n11, n12, n13]) rfl ⟨a1, a1', a2, a2', a3, a3', a4, a4', rfl, MsgIn.keepS X2.out (fun q hq => (ht5.block q (by have := hq.2; omega) (by have := hq.1; omega)).trans (hb27.block q hq.2)) (fun q hq => ⟨by have := hq.1; omega, by have := hq.2; omega⟩), (HIN2.out.row hbF).to⟩
end Go.Proofs.YtfddhafbhceoaaaGreat
