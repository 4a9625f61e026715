/- Mini: Needed by rpcOnce_walk, part 11: texts put together by shake.py; no condition. -/
import Derived.Test.YtlbffbkbkajciaaGreatZO10
import Derived.Test.YtlbffbkbkajciaaGreatZO9
import Derived.Deep.Cut
import Derived.Deep.CutRange
import Derived.Test.YtlbffbkbkajciaaGreatZO6
import Derived.Test.YtlbffbkbkajciaaGreatZO5
import Derived.Deep.RegionHeld3
import Derived.Test.YtlbffbkbkajciaaGreatZO2
import Derived.Test.YtlbffbkbkajciaaGreatZO4
import Derived.Test.YtlbffbkbkajciaaGreatZO3
import Derived.Test.YtlbffbkbkajciaaGreatZO8
import Derived.Test.YtlbffbkbkajciaaGreatZO7
set_option linter.unusedVariables false
set_option linter.unusedSimpArgs false
set_option maxRecDepth 100000
set_option maxHeartbeats 6400000
namespace Go.Bs
theorem zAi{p:Prop}(h:p:=by simp [results, Tryz.results40, go_sem, n0, n1, n2, n3, n4, n5, n6, n7, n8, n9, n10, n11, n12, n13]):p:=h
theorem zAf{p:Prop}(h:p:=by simp [results, Tryz.results115, go_sem, n0, n1, n2, n3, n4, n5, n6, n7, n8, n9, n10, n11, n12, n13]):p:=h
theorem ZP{p:Prop}(h:p:=by have := hq.2; omega):p:=h
theorem ZB{p:Prop}(h:p:=by first | rfl | trivial):p:=h
theorem zG{p:Prop}(h:p:=by repeat (first | with_reducible assumption | with_reducible refine Blk.drew ?_ | with_reducible refine Blk.far ?_ (by dsimp only; omega) _)):p:=h
theorem Bp:type_of% @Proofs.Tryz.ntmps181:=@Proofs.Tryz.ntmps181
theorem BH:type_of% @Proofs.Tryz.func181:=@Proofs.Tryz.func181
end Go.Bs
namespace Go.Proofs.YtlbffbkbkajciaaGreat
open Go.RowKit Go.Bs Go.Maps
theorem Rs.K5 {B : List UInt8} {s : Rs} {pos : Int} (h : s.k ≠ 0) : s.links B pos = (s, []) := by
 unfold Rs.links;rw [Rs.FA h]
 rfl
theorem Rs.RQ {B : List UInt8} {s : Rs} (h : (s.seal_ B).1.k = 0) : s.k = 0 :=
 AS fun hh => hh (by rw [Rs.Jn hh] at h; exact h)
theorem Rs.Sd {B : List UInt8} {s : Rs} (h : (s.C3 B).1.k = 0) : s.k = 0 :=
 AS fun hh => hh (by rw [Rs.Jt hh] at h; exact h)
theorem Rs.KQ {B : List UInt8} {s : Rs} {k : Int} {blk : Rs → Rs × List UInt8 × Bool} (hs : s.ok B.length) (h : (s.body B blk k).1.k = 0) (hok : ∀ t : Rs, t.ok B.length → (blk t).1.ok B.length) (hbk : ∀ t : Rs, (blk t).1.k = 0 → t.k = 0)
  (hlen : ∀ t, (blk t).2.1.length ≤ 1048576) (hcan : ∀ t : Rs, t.ok B.length → (blk t).1.k = 0 → (blk t).2.2 = true → B.drop t.p = Cu (blk t).2.1 ++ B.drop (blk t).1.p) :
  En (s.body B blk k).2.1 = true ∧ Ut (s.body B blk k).2.1 ∧ (s.body B blk k).2.1.kind = k ∧ (s.body B blk k).2.1.epoch = 0 ∧ (s.body B blk k).2.1.seq = 0 ∧ s.k = 0 ∧ ((s.body B blk k).2.2 = true → B.drop s.p = F0 (s.body B blk k).2.1 ++ B.drop (s.body B blk k).1.p) := by
 unfold Rs.body at h ⊢;by_cases hk : 1 ≤ k ∧ k ≤ 14
 ·rw [Ak hk] at h ⊢
  dsimp only at h ⊢;have hA := Rs.N3 (k := k) hs
  have oA := Rs.N2 (k := k) hs
  generalize s.ahead B k = A at *
  have oF := Rs.Dn (h := Bj k A.2.state) (z := (([], true) : List UInt8 × Bool)) oA (hok _ oA)
  generalize hF : Rs.part (Bj k A.2.state) A.1 blk ([], true) = F at *
  have oG := Rs.Dn (h := Ay k 64) (z := CI) oF (Rs.PN oF)
  generalize hG : Rs.part (Ay k 64) F.1 (Rs.seal_ B) CI = G at *
  generalize hH : Rs.part (Ay k 128) G.1 (Rs.C3 B) CX = H at *
  split at h
  ·rename_i h0
   rw [Ak h0]
   rw [← hH] at h0
   have k3 := Rs.D6 h0 Rs.Sd
   have c3 := Rs.DS (B := B) (Q := fun x => Cc x = true ∧ ∀ z ∈ x.stripes, ∀ y ∈ z.sets, ∀ u ∈ y, 0 ≤ u ∧ u ≤ 18446744073709551615) (b := D4) h0 fun hf => ⟨⟨Rs.Te hf, (Rs.Kp oG hf).1⟩, (Rs.Kp oG hf).2⟩
   rw [hH] at c3
   rw [← hG] at k3
   have k2 := Rs.D6 k3 Rs.RQ
   have c2 := Rs.DS (B := B) (Q := fun x => Dv x = true ∧ 0 ≤ x.node ∧ 0 ≤ x.tail) (b := Ef) k3 fun hf => ⟨⟨(Rs.Gb oF hf).1, (Rs.Gb oF hf).2.1, (Rs.Gb oF hf).2.2.1⟩, (Rs.Gb oF hf).2.2.2⟩
   rw [hG] at c2
   have k2' := k2
   rw [← hF] at k2
   have k1 := Rs.D6 k2 (hbk _)
   obtain ⟨a, ea, a1, a2, a3, a4, a5, a6, a7, a8, a9, a10⟩ := hA k1
   rw [ea] at hF k2 ⊢
   have c1 : (Bj k a.state = true → F = blk A.1) ∧ (Bj k a.state = false → F = (A.1, [], true)) := by
    rw [← hF]
    cases hb : Bj k a.state
    ·exact ⟨fun e => (by cases e), fun _ => rfl⟩
    ·exact ⟨fun _ => rfl, fun e => (by cases e)⟩
   refine ⟨?_, ⟨a6, a7, fun x hx => a8 x hx, ?_, ?_, ?_⟩, rfl, rfl, rfl, a9, fun hw => ?_⟩
   ·unfold En
    dsimp only;rw [Ac hk, a1, a2, a3, a4, a5]
    have e6 : AM (Ay k 64) (Dv G.2) (decide (G.2 = Mp)) = true := by
     cases hh : Ay k 64
     ·rw [c2.2.1 hh]; rfl
     ·exact (c2.1 hh).1
    have e7 : AM (Ay k 128) (Cc H.2) (decide (H.2.epoch = 0) && decide (H.2.stripes.length = 0)) = true := by
     cases hh : Ay k 128
     ·rw [c3.2.1 hh]; rfl
     ·exact (c3.1 hh).1
    have e8 : (decide (F.2.1.length = 0) || (Bj k a.state && decide (F.2.1.length ≤ 1048576))) = true := by
     cases hh : Bj k a.state
     ·rw [c1.2 hh]; rfl
     ·rw [c1.1 hh, Ac (hlen _)]; simp
    rw [e6, e7, e8]
    rfl
   ·cases hh : Ay k 64
    ·rw [c2.2.1 hh]; exact Int.le_refl _
    ·exact (c2.1 hh).2.1
   ·cases hh : Ay k 64
    ·rw [c2.2.1 hh]; exact Int.le_refl _
    ·exact (c2.1 hh).2.2
   ·cases hh : Ay k 128
    ·rw [c3.2.1 hh]
     intro z hz;exact absurd hz (by simp [CX])
    ·exact (c3.1 hh).2
   ·dsimp only at hw
    have e5 : B.drop A.1.p = Bg (Bj k a.state) (Cu F.2.1) ++ B.drop F.1.p := by
     cases hh : Bj k a.state
     ·rw [c1.2 hh]; rfl
     ·have hF1 := c1.1 hh
      rw [hF1] at hw k2' ⊢
      exact hcan _ oA k2' hw
    rw [a10, e5, c2.2.2, c3.2.2]
    unfold F0;simp only [Au]
  ·rename_i h0
   exact absurd h h0
 ·rw [An hk] at h
  exact absurd h (Rs.Be zD)
theorem Ek {α : Type} {h : Bool} {s : Rs} {f : Rs → Rs × α} {z : α} (hn : h = false ∨ s.k ≠ 0) (hb : s.k ≠ 0 → f s = (s, z)) : Rs.part h s f z = (s, z) := by
 cases h
 ·rfl
 ·exact hb (hn.resolve_left zP)
theorem Pw {w : World} {g : Nat} {B : List UInt8} {a : Option Addr} {K : Nat → Prop} {X : World → Bool → Prop} {q : Bool} {M lo : Nat} {k : Int} {m : Msg} {v1 v2 v3 v4 : Value} {s : Rs} {W : World} {fn : Nat} {caps : Array Value} {blk : Rs → Rs × List UInt8 × Bool} (hU : Bm w g B a fn caps blk K X) (h : Ci w g B a K X q M lo k m v1 v2 v3 v4 s W) (P : World → Prop)
  (HC : Ay k 1 = true → s.k = 0 → ∀ W' : World, Below W.heap.size W W' → Calls Tryz.prog 182 #[.int .i64 (s.p : Int), .pointer (some ⟨w.heap.size, 0, none⟩), .pointer (some ⟨M, 0, none⟩)] W' fun r W'' => r = .returned (.tuple #[]) ∧ P W'')
  (HN : (Ay k 1 = false ∨ s.k ≠ 0) → ∀ W' : World, Below W.heap.size W W' → P W') :
  Calls Tryz.prog 181 #[.int .i64 1, .func (Fn.func 182) #[] #[.pointer (some ⟨w.heap.size, 0, none⟩), .pointer (some ⟨M, 0, none⟩)], .pointer (some ⟨w.heap.size + 1, 0, none⟩), .pointer (some ⟨w.heap.size, 0, none⟩)] W fun r W' => r = .returned (.tuple #[]) ∧ P W' := by
 have HH := hid (CF k 1 zT W)
 have HRD := hid h.rd
 have y0 : W.cell? ⟨w.heap.size + 1, 0, none⟩ = some (.int .i64 k) := h.pk.cell 0
 have p0 : W.cell? ⟨w.heap.size, 0, none⟩ = some (.pointer (some ⟨g, 0, none⟩)) := h.pa.cell 0
 have l0 := h.pa.lt
 have HCC := hid HC
 have HNN := hid HN
 clear h HC HN hU;generalize Ay k 1 = H at *
 cases H
 ·go_enter BH, Bp
  go_wp2_with fail;refine HH.out.mono ?_
  rintro r w1 ⟨rfl, hb1⟩;have HP := hid (HNN.out (.inl ZB) w1 hb1)
  clear hb1;go_wp2_with fail;first | go_end0 | refine Ai (Aq rfl _ _ _) rfl ?_
  exact ⟨rfl, HP.out⟩
 ·by_cases hk : s.k = 0
  ·have HG := hid (fun (V : World) (hV : AK V g B a s) => (by have := Ax V hV; rw [Ac hk] at this; exact this : Calls Tryz.prog 44 #[.pointer (some ⟨g, 0, none⟩)] V fun r w' => r = .returned (.bool true) ∧ Below V.heap.size V w'))
   have HC2 := hid (HCC.out ZB hk)
   clear hk;go_enter BH, Bp
   go_wp2_with fail;refine HH.out.mono ?_
   rintro r w1 ⟨rfl, hb1⟩;have p1 := (hb1.cell (p := ⟨w.heap.size, 0, none⟩) l0).trans p0
   have HRD1 := hid (HRD.out.later hb1)
   have HB1 := hid hb1
   have l1 := Ah l0 hb1.size
   clear hb1;go_wp2_with fail;refine (HG.out _ HRD1.out).mono ?_
   rintro r w2 ⟨rfl, hb2⟩;have p2 := (hb2.cell (p := ⟨w.heap.size, 0, none⟩) l1).trans p1
   have HRD2 := hid (HRD1.out.later hb2)
   have HB2 := hid (HB1.out.trans (hb2.mono HB1.out.size))
   clear hb2;go_wp2_with fail;refine (BI _ HRD2.out).mono ?_
   rintro r w2' ⟨rfl, rfl⟩;go_wp2_with fail;refine (HC2.out _ HB2.out).mono ?_
   rintro r w3 ⟨rfl, hp⟩;have HP := hid hp
   clear hp;go_wp2_with fail;first | go_end0 | refine Ai (Aq rfl _ _ _) rfl ?_
   exact ⟨rfl, HP.out⟩
  ·have HG := hid (fun (V : World) (hV : AK V g B a s) => (by have := Ax V hV; rw [Ab hk] at this; exact this : Calls Tryz.prog 44 #[.pointer (some ⟨g, 0, none⟩)] V fun r w' => r = .returned (.bool false) ∧ Below V.heap.size V w'))
   have HN2 := hid (HNN.out (.inr hk))
   clear hk;go_enter BH, Bp
   go_wp2_with fail;refine HH.out.mono ?_
   rintro r w1 ⟨rfl, hb1⟩;have p1 := (hb1.cell (p := ⟨w.heap.size, 0, none⟩) l0).trans p0
   have HRD1 := hid (HRD.out.later hb1)
   have HB1 := hid hb1
   clear hb1;go_wp2_with fail;refine (HG.out _ HRD1.out).mono ?_
   rintro r w2 ⟨rfl, hb2⟩;have HP := hid (HN2.out _ (HB1.out.trans (hb2.mono HB1.out.size)))
   clear hb2;go_wp2_with fail;first | go_end0 | refine Ai (Aq rfl _ _ _) rfl ?_
   exact ⟨rfl, HP.out⟩
theorem SU {w : World} {g : Nat} {B : List UInt8} {a : Option Addr} {K : Nat → Prop} {X : World → Bool → Prop} {q : Bool} {M lo : Nat} {k : Int} {m : Msg} {v1 v2 v3 v4 : Value} {s : Rs} {W : World} {fn : Nat} {caps : Array Value} {blk : Rs → Rs × List UInt8 × Bool} (hU : Bm w g B a fn caps blk K X) (hB : B.length ≤ 1000000000) (h : Ci w g B a K X q M lo k m v1 v2 v3 v4 s W) (hz : m.pos = (0 : Int)) :
  Calls Tryz.prog 181 #[.int .i64 1, .func (Fn.func 182) #[] #[.pointer (some ⟨w.heap.size, 0, none⟩), .pointer (some ⟨M, 0, none⟩)], .pointer (some ⟨w.heap.size + 1, 0, none⟩), .pointer (some ⟨w.heap.size, 0, none⟩)] W fun r W' => r = .returned (.tuple #[]) ∧ Ci w g B a K X q M lo k { m with pos := (Rs.part (Ay k 1) s (Rs.Ed B) 0).2 } v1 v2 v3 v4 (Rs.part (Ay k 1) s (Rs.Ed B) 0).1 W' := by
 refine Pw hU h (fun W' => Ci w g B a K X q M lo k { m with pos := (Rs.part (Ay k 1) s (Rs.Ed B) 0).2 } v1 v2 v3 v4 (Rs.part (Ay k 1) s (Rs.Ed B) 0).1 W') (fun hh hk W' hb => ?_) (fun hn W' hb => ?_)
 ·have := Rg hU hB (h.later hU hb) s.p
  rw [hh]
  exact this
 ·rw [Ek hn fun e => Rs.Kq e]
  have e : { m with pos := (0 : Int) } = m := by
   cases m;dsimp only at hz;subst hz;rfl
  dsimp only;rw [e]
  exact h.later hU hb
theorem Pv {w : World} {g : Nat} {B : List UInt8} {a : Option Addr} {K : Nat → Prop} {X : World → Bool → Prop} {q : Bool} {M lo : Nat} {k : Int} {m : Msg} {v1 v2 v3 v4 : Value} {s : Rs} {W : World} {fn : Nat} {caps : Array Value} {blk : Rs → Rs × List UInt8 × Bool} (hU : Bm w g B a fn caps blk K X) (h : Ci w g B a K X q M lo k m v1 v2 v3 v4 s W) (P : World → Prop)
  (HC : Ay k 2 = true → s.k = 0 → ∀ W' : World, Below W.heap.size W W' → Calls Tryz.prog 184 #[.int .i64 (s.p : Int), .pointer (some ⟨w.heap.size, 0, none⟩), .pointer (some ⟨M, 0, none⟩)] W' fun r W'' => r = .returned (.tuple #[]) ∧ P W'')
  (HN : (Ay k 2 = false ∨ s.k ≠ 0) → ∀ W' : World, Below W.heap.size W W' → P W') :
  Calls Tryz.prog 181 #[.int .i64 2, .func (Fn.func 184) #[] #[.pointer (some ⟨w.heap.size, 0, none⟩), .pointer (some ⟨M, 0, none⟩)], .pointer (some ⟨w.heap.size + 1, 0, none⟩), .pointer (some ⟨w.heap.size, 0, none⟩)] W fun r W' => r = .returned (.tuple #[]) ∧ P W' := by
 have HH := hid (CF k 2 zT W)
 have HRD := hid h.rd
 have y0 : W.cell? ⟨w.heap.size + 1, 0, none⟩ = some (.int .i64 k) := h.pk.cell 0
 have p0 : W.cell? ⟨w.heap.size, 0, none⟩ = some (.pointer (some ⟨g, 0, none⟩)) := h.pa.cell 0
 have l0 := h.pa.lt
 have HCC := hid HC
 have HNN := hid HN
 clear h HC HN hU;generalize Ay k 2 = H at *
 cases H
 ·go_enter BH, Bp
  go_wp2_with fail;refine HH.out.mono ?_
  rintro r w1 ⟨rfl, hb1⟩;have HP := hid (HNN.out (.inl ZB) w1 hb1)
  clear hb1;go_wp2_with fail;first | go_end0 | refine Ai (Aq rfl _ _ _) rfl ?_
  exact ⟨rfl, HP.out⟩
 ·by_cases hk : s.k = 0
  ·have HG := hid (fun (V : World) (hV : AK V g B a s) => (by have := Ax V hV; rw [Ac hk] at this; exact this : Calls Tryz.prog 44 #[.pointer (some ⟨g, 0, none⟩)] V fun r w' => r = .returned (.bool true) ∧ Below V.heap.size V w'))
   have HC2 := hid (HCC.out ZB hk)
   clear hk;go_enter BH, Bp
   go_wp2_with fail;refine HH.out.mono ?_
   rintro r w1 ⟨rfl, hb1⟩;have p1 := (hb1.cell (p := ⟨w.heap.size, 0, none⟩) l0).trans p0
   have HRD1 := hid (HRD.out.later hb1)
   have HB1 := hid hb1
   have l1 := Ah l0 hb1.size
   clear hb1;go_wp2_with fail;refine (HG.out _ HRD1.out).mono ?_
   rintro r w2 ⟨rfl, hb2⟩;have p2 := (hb2.cell (p := ⟨w.heap.size, 0, none⟩) l1).trans p1
   have HRD2 := hid (HRD1.out.later hb2)
   have HB2 := hid (HB1.out.trans (hb2.mono HB1.out.size))
   clear hb2;go_wp2_with fail;refine (BI _ HRD2.out).mono ?_
   rintro r w2' ⟨rfl, rfl⟩;go_wp2_with fail;refine (HC2.out _ HB2.out).mono ?_
   rintro r w3 ⟨rfl, hp⟩;have HP := hid hp
   clear hp;go_wp2_with fail;first | go_end0 | refine Ai (Aq rfl _ _ _) rfl ?_
   exact ⟨rfl, HP.out⟩
  ·have HG := hid (fun (V : World) (hV : AK V g B a s) => (by have := Ax V hV; rw [Ab hk] at this; exact this : Calls Tryz.prog 44 #[.pointer (some ⟨g, 0, none⟩)] V fun r w' => r = .returned (.bool false) ∧ Below V.heap.size V w'))
   have HN2 := hid (HNN.out (.inr hk))
   clear hk;go_enter BH, Bp
   go_wp2_with fail;refine HH.out.mono ?_
   rintro r w1 ⟨rfl, hb1⟩;have p1 := (hb1.cell (p := ⟨w.heap.size, 0, none⟩) l0).trans p0
   have HRD1 := hid (HRD.out.later hb1)
   have HB1 := hid hb1
   clear hb1;go_wp2_with fail;refine (HG.out _ HRD1.out).mono ?_
   rintro r w2 ⟨rfl, hb2⟩;have HP := hid (HN2.out _ (HB1.out.trans (hb2.mono HB1.out.size)))
   clear hb2;go_wp2_with fail;first | go_end0 | refine Ai (Aq rfl _ _ _) rfl ?_
   exact ⟨rfl, HP.out⟩
theorem SR {w : World} {g : Nat} {B : List UInt8} {a : Option Addr} {K : Nat → Prop} {X : World → Bool → Prop} {q : Bool} {M lo : Nat} {k : Int} {m : Msg} {v1 v2 v3 v4 : Value} {s : Rs} {W : World} {fn : Nat} {caps : Array Value} {blk : Rs → Rs × List UInt8 × Bool} (hU : Bm w g B a fn caps blk K X) (hB : B.length ≤ 1000000000) (h : Ci w g B a K X q M lo k m v1 v2 v3 v4 s W) (hz : m.count = (0 : Int)) :
  Calls Tryz.prog 181 #[.int .i64 2, .func (Fn.func 184) #[] #[.pointer (some ⟨w.heap.size, 0, none⟩), .pointer (some ⟨M, 0, none⟩)], .pointer (some ⟨w.heap.size + 1, 0, none⟩), .pointer (some ⟨w.heap.size, 0, none⟩)] W fun r W' => r = .returned (.tuple #[]) ∧ Ci w g B a K X q M lo k { m with count := (Rs.part (Ay k 2) s (Rs.cnt B) 0).2 } v1 v2 v3 v4 (Rs.part (Ay k 2) s (Rs.cnt B) 0).1 W' := by
 refine Pv hU h (fun W' => Ci w g B a K X q M lo k { m with count := (Rs.part (Ay k 2) s (Rs.cnt B) 0).2 } v1 v2 v3 v4 (Rs.part (Ay k 2) s (Rs.cnt B) 0).1 W') (fun hh hk W' hb => ?_) (fun hn W' hb => ?_)
 ·have := NQ hU hB (h.later hU hb) s.p
  rw [hh]
  exact this.mono fun r V ⟨h1, h2⟩ => ⟨h1, h2 rfl⟩
 ·rw [Ek hn fun e => Rs.KK e]
  have e : { m with count := (0 : Int) } = m := by
   cases m;dsimp only at hz;subst hz;rfl
  dsimp only;rw [e]
  exact h.later hU hb
theorem Pu {w : World} {g : Nat} {B : List UInt8} {a : Option Addr} {K : Nat → Prop} {X : World → Bool → Prop} {q : Bool} {M lo : Nat} {k : Int} {m : Msg} {v1 v2 v3 v4 : Value} {s : Rs} {W : World} {fn : Nat} {caps : Array Value} {blk : Rs → Rs × List UInt8 × Bool} (hU : Bm w g B a fn caps blk K X) (h : Ci w g B a K X q M lo k m v1 v2 v3 v4 s W) (P : World → Prop)
  (HC : Ay k 4 = true → s.k = 0 → ∀ W' : World, Below W.heap.size W W' → Calls Tryz.prog 187 #[.int .i64 (s.p : Int), .pointer (some ⟨w.heap.size, 0, none⟩), .pointer (some ⟨M, 0, none⟩), .pointer (some ⟨w.heap.size + 1, 0, none⟩)] W' fun r W'' => r = .returned (.tuple #[]) ∧ P W'')
  (HN : (Ay k 4 = false ∨ s.k ≠ 0) → ∀ W' : World, Below W.heap.size W W' → P W') :
  Calls Tryz.prog 181 #[.int .i64 4, .func (Fn.func 187) #[] #[.pointer (some ⟨w.heap.size, 0, none⟩), .pointer (some ⟨M, 0, none⟩), .pointer (some ⟨w.heap.size + 1, 0, none⟩)], .pointer (some ⟨w.heap.size + 1, 0, none⟩), .pointer (some ⟨w.heap.size, 0, none⟩)] W fun r W' => r = .returned (.tuple #[]) ∧ P W' := by
 have HH := hid (CF k 4 zT W)
 have HRD := hid h.rd
 have y0 : W.cell? ⟨w.heap.size + 1, 0, none⟩ = some (.int .i64 k) := h.pk.cell 0
 have p0 : W.cell? ⟨w.heap.size, 0, none⟩ = some (.pointer (some ⟨g, 0, none⟩)) := h.pa.cell 0
 have l0 := h.pa.lt
 have HCC := hid HC
 have HNN := hid HN
 clear h HC HN hU;generalize Ay k 4 = H at *
 cases H
 ·go_enter BH, Bp
  go_wp2_with fail;refine HH.out.mono ?_
  rintro r w1 ⟨rfl, hb1⟩;have HP := hid (HNN.out (.inl ZB) w1 hb1)
  clear hb1;go_wp2_with fail;first | go_end0 | refine Ai (Aq rfl _ _ _) rfl ?_
  exact ⟨rfl, HP.out⟩
 ·by_cases hk : s.k = 0
  ·have HG := hid (fun (V : World) (hV : AK V g B a s) => (by have := Ax V hV; rw [Ac hk] at this; exact this : Calls Tryz.prog 44 #[.pointer (some ⟨g, 0, none⟩)] V fun r w' => r = .returned (.bool true) ∧ Below V.heap.size V w'))
   have HC2 := hid (HCC.out ZB hk)
   clear hk;go_enter BH, Bp
   go_wp2_with fail;refine HH.out.mono ?_
   rintro r w1 ⟨rfl, hb1⟩;have p1 := (hb1.cell (p := ⟨w.heap.size, 0, none⟩) l0).trans p0
   have HRD1 := hid (HRD.out.later hb1)
   have HB1 := hid hb1
   have l1 := Ah l0 hb1.size
   clear hb1;go_wp2_with fail;refine (HG.out _ HRD1.out).mono ?_
   rintro r w2 ⟨rfl, hb2⟩;have p2 := (hb2.cell (p := ⟨w.heap.size, 0, none⟩) l1).trans p1
   have HRD2 := hid (HRD1.out.later hb2)
   have HB2 := hid (HB1.out.trans (hb2.mono HB1.out.size))
   clear hb2;go_wp2_with fail;refine (BI _ HRD2.out).mono ?_
   rintro r w2' ⟨rfl, rfl⟩;go_wp2_with fail;refine (HC2.out _ HB2.out).mono ?_
   rintro r w3 ⟨rfl, hp⟩;have HP := hid hp
   clear hp;go_wp2_with fail;first | go_end0 | refine Ai (Aq rfl _ _ _) rfl ?_
   exact ⟨rfl, HP.out⟩
  ·have HG := hid (fun (V : World) (hV : AK V g B a s) => (by have := Ax V hV; rw [Ab hk] at this; exact this : Calls Tryz.prog 44 #[.pointer (some ⟨g, 0, none⟩)] V fun r w' => r = .returned (.bool false) ∧ Below V.heap.size V w'))
   have HN2 := hid (HNN.out (.inr hk))
   clear hk;go_enter BH, Bp
   go_wp2_with fail;refine HH.out.mono ?_
   rintro r w1 ⟨rfl, hb1⟩;have p1 := (hb1.cell (p := ⟨w.heap.size, 0, none⟩) l0).trans p0
   have HRD1 := hid (HRD.out.later hb1)
   have HB1 := hid hb1
   clear hb1;go_wp2_with fail;refine (HG.out _ HRD1.out).mono ?_
   rintro r w2 ⟨rfl, hb2⟩;have HP := hid (HN2.out _ (HB1.out.trans (hb2.mono HB1.out.size)))
   clear hb2;go_wp2_with fail;first | go_end0 | refine Ai (Aq rfl _ _ _) rfl ?_
   exact ⟨rfl, HP.out⟩
theorem SQ {w : World} {g : Nat} {B : List UInt8} {a : Option Addr} {K : Nat → Prop} {X : World → Bool → Prop} {q : Bool} {M lo : Nat} {k : Int} {m : Msg} {v1 v2 v3 v4 : Value} {s : Rs} {W : World} {fn : Nat} {caps : Array Value} {blk : Rs → Rs × List UInt8 × Bool} (hU : Bm w g B a fn caps blk K X) (hB : B.length ≤ 1000000000) (h : Ci w g B a K X q M lo k m v1 v2 v3 v4 s W) (hz : m.state = (0 : Int)) :
  Calls Tryz.prog 181 #[.int .i64 4, .func (Fn.func 187) #[] #[.pointer (some ⟨w.heap.size, 0, none⟩), .pointer (some ⟨M, 0, none⟩), .pointer (some ⟨w.heap.size + 1, 0, none⟩)], .pointer (some ⟨w.heap.size + 1, 0, none⟩), .pointer (some ⟨w.heap.size, 0, none⟩)] W fun r W' => r = .returned (.tuple #[]) ∧ Ci w g B a K X q M lo k { m with state := (Rs.part (Ay k 4) s (Rs.stt B k) 0).2 } v1 v2 v3 v4 (Rs.part (Ay k 4) s (Rs.stt B k) 0).1 W' := by
 refine Pu hU h (fun W' => Ci w g B a K X q M lo k { m with state := (Rs.part (Ay k 4) s (Rs.stt B k) 0).2 } v1 v2 v3 v4 (Rs.part (Ay k 4) s (Rs.stt B k) 0).1 W') (fun hh hk W' hb => ?_) (fun hn W' hb => ?_)
 ·have := NM hU hB (h.later hU hb) s.p
  rw [hh]
  exact this.mono fun r V ⟨h1, h2⟩ => ⟨h1, h2 rfl⟩
 ·rw [Ek hn fun e => Rs.J9 e]
  have e : { m with state := (0 : Int) } = m := by
   cases m;dsimp only at hz;subst hz;rfl
  dsimp only;rw [e]
  exact h.later hU hb
theorem Pt {w : World} {g : Nat} {B : List UInt8} {a : Option Addr} {K : Nat → Prop} {X : World → Bool → Prop} {q : Bool} {M lo : Nat} {k : Int} {m : Msg} {v1 v2 v3 v4 : Value} {s : Rs} {W : World} {fn : Nat} {caps : Array Value} {blk : Rs → Rs × List UInt8 × Bool} (hU : Bm w g B a fn caps blk K X) (h : Ci w g B a K X q M lo k m v1 v2 v3 v4 s W) (P : World → Prop)
  (HC : Ay k 8 = true → s.k = 0 → ∀ W' : World, Below W.heap.size W W' → Calls Tryz.prog 189 #[.int .i64 (s.p : Int), .pointer (some ⟨w.heap.size, 0, none⟩), .pointer (some ⟨M, 0, none⟩)] W' fun r W'' => r = .returned (.tuple #[]) ∧ P W'')
  (HN : (Ay k 8 = false ∨ s.k ≠ 0) → ∀ W' : World, Below W.heap.size W W' → P W') :
  Calls Tryz.prog 181 #[.int .i64 8, .func (Fn.func 189) #[] #[.pointer (some ⟨w.heap.size, 0, none⟩), .pointer (some ⟨M, 0, none⟩)], .pointer (some ⟨w.heap.size + 1, 0, none⟩), .pointer (some ⟨w.heap.size, 0, none⟩)] W fun r W' => r = .returned (.tuple #[]) ∧ P W' := by
 have HH := hid (CF k 8 zT W)
 have HRD := hid h.rd
 have y0 : W.cell? ⟨w.heap.size + 1, 0, none⟩ = some (.int .i64 k) := h.pk.cell 0
 have p0 : W.cell? ⟨w.heap.size, 0, none⟩ = some (.pointer (some ⟨g, 0, none⟩)) := h.pa.cell 0
 have l0 := h.pa.lt
 have HCC := hid HC
 have HNN := hid HN
 clear h HC HN hU;generalize Ay k 8 = H at *
 cases H
 ·go_enter BH, Bp
  go_wp2_with fail;refine HH.out.mono ?_
  rintro r w1 ⟨rfl, hb1⟩;have HP := hid (HNN.out (.inl ZB) w1 hb1)
  clear hb1;go_wp2_with fail;first | go_end0 | refine Ai (Aq rfl _ _ _) rfl ?_
  exact ⟨rfl, HP.out⟩
 ·by_cases hk : s.k = 0
  ·have HG := hid (fun (V : World) (hV : AK V g B a s) => (by have := Ax V hV; rw [Ac hk] at this; exact this : Calls Tryz.prog 44 #[.pointer (some ⟨g, 0, none⟩)] V fun r w' => r = .returned (.bool true) ∧ Below V.heap.size V w'))
   have HC2 := hid (HCC.out ZB hk)
   clear hk;go_enter BH, Bp
   go_wp2_with fail;refine HH.out.mono ?_
   rintro r w1 ⟨rfl, hb1⟩;have p1 := (hb1.cell (p := ⟨w.heap.size, 0, none⟩) l0).trans p0
   have HRD1 := hid (HRD.out.later hb1)
   have HB1 := hid hb1
   have l1 := Ah l0 hb1.size
   clear hb1;go_wp2_with fail;refine (HG.out _ HRD1.out).mono ?_
   rintro r w2 ⟨rfl, hb2⟩;have p2 := (hb2.cell (p := ⟨w.heap.size, 0, none⟩) l1).trans p1
   have HRD2 := hid (HRD1.out.later hb2)
   have HB2 := hid (HB1.out.trans (hb2.mono HB1.out.size))
   clear hb2;go_wp2_with fail;refine (BI _ HRD2.out).mono ?_
   rintro r w2' ⟨rfl, rfl⟩;go_wp2_with fail;refine (HC2.out _ HB2.out).mono ?_
   rintro r w3 ⟨rfl, hp⟩;have HP := hid hp
   clear hp;go_wp2_with fail;first | go_end0 | refine Ai (Aq rfl _ _ _) rfl ?_
   exact ⟨rfl, HP.out⟩
  ·have HG := hid (fun (V : World) (hV : AK V g B a s) => (by have := Ax V hV; rw [Ab hk] at this; exact this : Calls Tryz.prog 44 #[.pointer (some ⟨g, 0, none⟩)] V fun r w' => r = .returned (.bool false) ∧ Below V.heap.size V w'))
   have HN2 := hid (HNN.out (.inr hk))
   clear hk;go_enter BH, Bp
   go_wp2_with fail;refine HH.out.mono ?_
   rintro r w1 ⟨rfl, hb1⟩;have p1 := (hb1.cell (p := ⟨w.heap.size, 0, none⟩) l0).trans p0
   have HRD1 := hid (HRD.out.later hb1)
   have HB1 := hid hb1
   clear hb1;go_wp2_with fail;refine (HG.out _ HRD1.out).mono ?_
   rintro r w2 ⟨rfl, hb2⟩;have HP := hid (HN2.out _ (HB1.out.trans (hb2.mono HB1.out.size)))
   clear hb2;go_wp2_with fail;first | go_end0 | refine Ai (Aq rfl _ _ _) rfl ?_
   exact ⟨rfl, HP.out⟩
theorem SP {w : World} {g : Nat} {B : List UInt8} {a : Option Addr} {K : Nat → Prop} {X : World → Bool → Prop} {q : Bool} {M lo : Nat} {k : Int} {m : Msg} {v1 v2 v3 v4 : Value} {s : Rs} {W : World} {fn : Nat} {caps : Array Value} {blk : Rs → Rs × List UInt8 × Bool} (hU : Bm w g B a fn caps blk K X) (hB : B.length ≤ 1000000000) (h : Ci w g B a K X q M lo k m v1 v2 v3 v4 s W) (hz : m.streams = ([] : List Int)) :
  Calls Tryz.prog 181 #[.int .i64 8, .func (Fn.func 189) #[] #[.pointer (some ⟨w.heap.size, 0, none⟩), .pointer (some ⟨M, 0, none⟩)], .pointer (some ⟨w.heap.size + 1, 0, none⟩), .pointer (some ⟨w.heap.size, 0, none⟩)] W fun r W' => r = .returned (.tuple #[]) ∧ ∃ v1', Ci w g B a K X q M lo k { m with streams := (Rs.part (Ay k 8) s (Rs.FH B) []).2 } v1' v2 v3 v4 (Rs.part (Ay k 8) s (Rs.FH B) []).1 W' := by
 refine Pt hU h (fun W' => ∃ v1', Ci w g B a K X q M lo k { m with streams := (Rs.part (Ay k 8) s (Rs.FH B) []).2 } v1' v2 v3 v4 (Rs.part (Ay k 8) s (Rs.FH B) []).1 W') (fun hh hk W' hb => ?_) (fun hn W' hb => ?_)
 ·have := Lc hU hB (h.later hU hb) s.p
  rw [hh]
  exact this
 ·rw [Ek hn fun e => Rs.Jk e]
  have e : { m with streams := ([] : List Int) } = m := by
   cases m;dsimp only at hz;subst hz;rfl
  dsimp only;rw [e]
  exact ⟨_, h.later hU hb⟩
theorem NP {w : World} {g : Nat} {B : List UInt8} {a : Option Addr} {K : Nat → Prop} {X : World → Bool → Prop} {q : Bool} {M lo : Nat} {k : Int} {m : Msg} {v1 v2 v3 v4 : Value} {s : Rs} {W : World} {fn : Nat} {caps : Array Value} {blk : Rs → Rs × List UInt8 × Bool} (hU : Bm w g B a fn caps blk K X) (h : Ci w g B a K X q M lo k m v1 v2 v3 v4 s W) (P : World → Prop)
  (HC : Ay k 16 = true → s.k = 0 → ∀ W' : World, Below W.heap.size W W' → Calls Tryz.prog 191 #[.int .i64 (s.p : Int), .pointer (some ⟨w.heap.size, 0, none⟩), .pointer (some ⟨M, 0, none⟩)] W' fun r W'' => r = .returned (.tuple #[]) ∧ P W'')
  (HN : (Ay k 16 = false ∨ s.k ≠ 0) → ∀ W' : World, Below W.heap.size W W' → P W') :
  Calls Tryz.prog 181 #[.int .i64 16, .func (Fn.func 191) #[] #[.pointer (some ⟨w.heap.size, 0, none⟩), .pointer (some ⟨M, 0, none⟩)], .pointer (some ⟨w.heap.size + 1, 0, none⟩), .pointer (some ⟨w.heap.size, 0, none⟩)] W fun r W' => r = .returned (.tuple #[]) ∧ P W' := by
 have HH := hid (CF k 16 zT W)
 have HRD := hid h.rd
 have y0 : W.cell? ⟨w.heap.size + 1, 0, none⟩ = some (.int .i64 k) := h.pk.cell 0
 have p0 : W.cell? ⟨w.heap.size, 0, none⟩ = some (.pointer (some ⟨g, 0, none⟩)) := h.pa.cell 0
 have l0 := h.pa.lt
 have HCC := hid HC
 have HNN := hid HN
 clear h HC HN hU;generalize Ay k 16 = H at *
 cases H
 ·go_enter BH, Bp
  go_wp2_with fail;refine HH.out.mono ?_
  rintro r w1 ⟨rfl, hb1⟩;have HP := hid (HNN.out (.inl ZB) w1 hb1)
  clear hb1;go_wp2_with fail;first | go_end0 | refine Ai (Aq rfl _ _ _) rfl ?_
  exact ⟨rfl, HP.out⟩
 ·by_cases hk : s.k = 0
  ·have HG := hid (fun (V : World) (hV : AK V g B a s) => (by have := Ax V hV; rw [Ac hk] at this; exact this : Calls Tryz.prog 44 #[.pointer (some ⟨g, 0, none⟩)] V fun r w' => r = .returned (.bool true) ∧ Below V.heap.size V w'))
   have HC2 := hid (HCC.out ZB hk)
   clear hk;go_enter BH, Bp
   go_wp2_with fail;refine HH.out.mono ?_
   rintro r w1 ⟨rfl, hb1⟩;have p1 := (hb1.cell (p := ⟨w.heap.size, 0, none⟩) l0).trans p0
   have HRD1 := hid (HRD.out.later hb1)
   have HB1 := hid hb1
   have l1 := Ah l0 hb1.size
   clear hb1;go_wp2_with fail;refine (HG.out _ HRD1.out).mono ?_
   rintro r w2 ⟨rfl, hb2⟩;have p2 := (hb2.cell (p := ⟨w.heap.size, 0, none⟩) l1).trans p1
   have HRD2 := hid (HRD1.out.later hb2)
   have HB2 := hid (HB1.out.trans (hb2.mono HB1.out.size))
   clear hb2;go_wp2_with fail;refine (BI _ HRD2.out).mono ?_
   rintro r w2' ⟨rfl, rfl⟩;go_wp2_with fail;refine (HC2.out _ HB2.out).mono ?_
   rintro r w3 ⟨rfl, hp⟩;have HP := hid hp
   clear hp;go_wp2_with fail;first | go_end0 | refine Ai (Aq rfl _ _ _) rfl ?_
   exact ⟨rfl, HP.out⟩
  ·have HG := hid (fun (V : World) (hV : AK V g B a s) => (by have := Ax V hV; rw [Ab hk] at this; exact this : Calls Tryz.prog 44 #[.pointer (some ⟨g, 0, none⟩)] V fun r w' => r = .returned (.bool false) ∧ Below V.heap.size V w'))
   have HN2 := hid (HNN.out (.inr hk))
   clear hk;go_enter BH, Bp
   go_wp2_with fail;refine HH.out.mono ?_
   rintro r w1 ⟨rfl, hb1⟩;have p1 := (hb1.cell (p := ⟨w.heap.size, 0, none⟩) l0).trans p0
   have HRD1 := hid (HRD.out.later hb1)
   have HB1 := hid hb1
   clear hb1;go_wp2_with fail;refine (HG.out _ HRD1.out).mono ?_
   rintro r w2 ⟨rfl, hb2⟩;have HP := hid (HN2.out _ (HB1.out.trans (hb2.mono HB1.out.size)))
   clear hb2;go_wp2_with fail;first | go_end0 | refine Ai (Aq rfl _ _ _) rfl ?_
   exact ⟨rfl, HP.out⟩
theorem Ri {w : World} {g : Nat} {B : List UInt8} {a : Option Addr} {K : Nat → Prop} {X : World → Bool → Prop} {q : Bool} {M lo : Nat} {k : Int} {m : Msg} {v1 v2 v3 v4 : Value} {s : Rs} {W : World} {fn : Nat} {caps : Array Value} {blk : Rs → Rs × List UInt8 × Bool} (hU : Bm w g B a fn caps blk K X) (hB : B.length ≤ 1000000000) (h : Ci w g B a K X q M lo k m v1 v2 v3 v4 s W) (hz : m.links = ([] : List BB)) (hpos : 0 ≤ m.pos ∧ m.pos ≤ 18446744073709551615) :
  Calls Tryz.prog 181 #[.int .i64 16, .func (Fn.func 191) #[] #[.pointer (some ⟨w.heap.size, 0, none⟩), .pointer (some ⟨M, 0, none⟩)], .pointer (some ⟨w.heap.size + 1, 0, none⟩), .pointer (some ⟨w.heap.size, 0, none⟩)] W fun r W' => r = .returned (.tuple #[]) ∧ ∃ v2', Ci w g B a K X q M lo k { m with links := (Rs.part (Ay k 16) s (fun t => t.links B m.pos) []).2 } v1 v2' v3 v4 (Rs.part (Ay k 16) s (fun t => t.links B m.pos) []).1 W' := by
 refine NP hU h (fun W' => ∃ v2', Ci w g B a K X q M lo k { m with links := (Rs.part (Ay k 16) s (fun t => t.links B m.pos) []).2 } v1 v2' v3 v4 (Rs.part (Ay k 16) s (fun t => t.links B m.pos) []).1 W') (fun hh hk W' hb => ?_) (fun hn W' hb => ?_)
 ·have := NN hU hB (h.later hU hb) s.p hpos
  rw [hh]
  exact this
 ·rw [Ek hn fun e => Rs.K5 e]
  have e : { m with links := ([] : List BB) } = m := by
   cases m;dsimp only at hz;subst hz;rfl
  dsimp only;rw [e]
  exact ⟨_, h.later hU hb⟩
theorem NO {w : World} {g : Nat} {B : List UInt8} {a : Option Addr} {K : Nat → Prop} {X : World → Bool → Prop} {q : Bool} {M lo : Nat} {k : Int} {m : Msg} {v1 v2 v3 v4 : Value} {s : Rs} {W : World} {fn : Nat} {caps : Array Value} {blk : Rs → Rs × List UInt8 × Bool} (hU : Bm w g B a fn caps blk K X) (h : Ci w g B a K X q M lo k m v1 v2 v3 v4 s W) (P : World → Prop)
  (HC : Ay k 64 = true → s.k = 0 → ∀ W' : World, Below W.heap.size W W' → Calls Tryz.prog 193 #[.int .i64 (s.p : Int), .pointer (some ⟨w.heap.size, 0, none⟩), .pointer (some ⟨M, 0, none⟩)] W' fun r W'' => r = .returned (.tuple #[]) ∧ P W'')
  (HN : (Ay k 64 = false ∨ s.k ≠ 0) → ∀ W' : World, Below W.heap.size W W' → P W') :
  Calls Tryz.prog 181 #[.int .i64 64, .func (Fn.func 193) #[] #[.pointer (some ⟨w.heap.size, 0, none⟩), .pointer (some ⟨M, 0, none⟩)], .pointer (some ⟨w.heap.size + 1, 0, none⟩), .pointer (some ⟨w.heap.size, 0, none⟩)] W fun r W' => r = .returned (.tuple #[]) ∧ P W' := by
 have HH := hid (CF k 64 zT W)
 have HRD := hid h.rd
 have y0 : W.cell? ⟨w.heap.size + 1, 0, none⟩ = some (.int .i64 k) := h.pk.cell 0
 have p0 : W.cell? ⟨w.heap.size, 0, none⟩ = some (.pointer (some ⟨g, 0, none⟩)) := h.pa.cell 0
 have l0 := h.pa.lt
 have HCC := hid HC
 have HNN := hid HN
 clear h HC HN hU;generalize Ay k 64 = H at *
 cases H
 ·go_enter BH, Bp
  go_wp2_with fail;refine HH.out.mono ?_
  rintro r w1 ⟨rfl, hb1⟩;have HP := hid (HNN.out (.inl ZB) w1 hb1)
  clear hb1;go_wp2_with fail;first | go_end0 | refine Ai (Aq rfl _ _ _) rfl ?_
  exact ⟨rfl, HP.out⟩
 ·by_cases hk : s.k = 0
  ·have HG := hid (fun (V : World) (hV : AK V g B a s) => (by have := Ax V hV; rw [Ac hk] at this; exact this : Calls Tryz.prog 44 #[.pointer (some ⟨g, 0, none⟩)] V fun r w' => r = .returned (.bool true) ∧ Below V.heap.size V w'))
   have HC2 := hid (HCC.out ZB hk)
   clear hk;go_enter BH, Bp
   go_wp2_with fail;refine HH.out.mono ?_
   rintro r w1 ⟨rfl, hb1⟩;have p1 := (hb1.cell (p := ⟨w.heap.size, 0, none⟩) l0).trans p0
   have HRD1 := hid (HRD.out.later hb1)
   have HB1 := hid hb1
   have l1 := Ah l0 hb1.size
   clear hb1;go_wp2_with fail;refine (HG.out _ HRD1.out).mono ?_
   rintro r w2 ⟨rfl, hb2⟩;have p2 := (hb2.cell (p := ⟨w.heap.size, 0, none⟩) l1).trans p1
   have HRD2 := hid (HRD1.out.later hb2)
   have HB2 := hid (HB1.out.trans (hb2.mono HB1.out.size))
   clear hb2;go_wp2_with fail;refine (BI _ HRD2.out).mono ?_
   rintro r w2' ⟨rfl, rfl⟩;go_wp2_with fail;refine (HC2.out _ HB2.out).mono ?_
   rintro r w3 ⟨rfl, hp⟩;have HP := hid hp
   clear hp;go_wp2_with fail;first | go_end0 | refine Ai (Aq rfl _ _ _) rfl ?_
   exact ⟨rfl, HP.out⟩
  ·have HG := hid (fun (V : World) (hV : AK V g B a s) => (by have := Ax V hV; rw [Ab hk] at this; exact this : Calls Tryz.prog 44 #[.pointer (some ⟨g, 0, none⟩)] V fun r w' => r = .returned (.bool false) ∧ Below V.heap.size V w'))
   have HN2 := hid (HNN.out (.inr hk))
   clear hk;go_enter BH, Bp
   go_wp2_with fail;refine HH.out.mono ?_
   rintro r w1 ⟨rfl, hb1⟩;have p1 := (hb1.cell (p := ⟨w.heap.size, 0, none⟩) l0).trans p0
   have HRD1 := hid (HRD.out.later hb1)
   have HB1 := hid hb1
   clear hb1;go_wp2_with fail;refine (HG.out _ HRD1.out).mono ?_
   rintro r w2 ⟨rfl, hb2⟩;have HP := hid (HN2.out _ (HB1.out.trans (hb2.mono HB1.out.size)))
   clear hb2;go_wp2_with fail;first | go_end0 | refine Ai (Aq rfl _ _ _) rfl ?_
   exact ⟨rfl, HP.out⟩
theorem Rh {w : World} {g : Nat} {B : List UInt8} {a : Option Addr} {K : Nat → Prop} {X : World → Bool → Prop} {q : Bool} {M lo : Nat} {k : Int} {m : Msg} {v1 v2 v3 v4 : Value} {s : Rs} {W : World} {fn : Nat} {caps : Array Value} {blk : Rs → Rs × List UInt8 × Bool} (hU : Bm w g B a fn caps blk K X) (hB : B.length ≤ 1000000000) (h : Ci w g B a K X q M lo k m v1 v2 v3 v4 s W) (hz : m.sea = CI) :
  Calls Tryz.prog 181 #[.int .i64 64, .func (Fn.func 193) #[] #[.pointer (some ⟨w.heap.size, 0, none⟩), .pointer (some ⟨M, 0, none⟩)], .pointer (some ⟨w.heap.size + 1, 0, none⟩), .pointer (some ⟨w.heap.size, 0, none⟩)] W fun r W' => r = .returned (.tuple #[]) ∧ Ci w g B a K X q M lo k { m with sea := (Rs.part (Ay k 64) s (Rs.seal_ B) CI).2 } v1 v2 v3 v4 (Rs.part (Ay k 64) s (Rs.seal_ B) CI).1 W' := by
 refine NO hU h (fun W' => Ci w g B a K X q M lo k { m with sea := (Rs.part (Ay k 64) s (Rs.seal_ B) CI).2 } v1 v2 v3 v4 (Rs.part (Ay k 64) s (Rs.seal_ B) CI).1 W') (fun hh hk W' hb => ?_) (fun hn W' hb => ?_)
 ·have := Pq hU hB (h.later hU hb) s.p
  rw [hh]
  exact this
 ·rw [Ek hn fun e => Rs.Jn e]
  have e : { m with sea := CI } = m := by
   cases m;dsimp only at hz;subst hz;rfl
  dsimp only;rw [e]
  exact h.later hU hb
theorem MC {w : World} {g : Nat} {B : List UInt8} {a : Option Addr} {K : Nat → Prop} {X : World → Bool → Prop} {q : Bool} {M lo : Nat} {k : Int} {m : Msg} {v1 v2 v3 v4 : Value} {s : Rs} {W : World} {fn : Nat} {caps : Array Value} {blk : Rs → Rs × List UInt8 × Bool} (hU : Bm w g B a fn caps blk K X) (h : Ci w g B a K X q M lo k m v1 v2 v3 v4 s W) (P : World → Prop)
  (HC : Ay k 128 = true → s.k = 0 → ∀ W' : World, Below W.heap.size W W' → Calls Tryz.prog 195 #[.int .i64 (s.p : Int), .pointer (some ⟨w.heap.size, 0, none⟩), .pointer (some ⟨M, 0, none⟩)] W' fun r W'' => r = .returned (.tuple #[]) ∧ P W'')
  (HN : (Ay k 128 = false ∨ s.k ≠ 0) → ∀ W' : World, Below W.heap.size W W' → P W') :
  Calls Tryz.prog 181 #[.int .i64 128, .func (Fn.func 195) #[] #[.pointer (some ⟨w.heap.size, 0, none⟩), .pointer (some ⟨M, 0, none⟩)], .pointer (some ⟨w.heap.size + 1, 0, none⟩), .pointer (some ⟨w.heap.size, 0, none⟩)] W fun r W' => r = .returned (.tuple #[]) ∧ P W' := by
 have HH := hid (CF k 128 zT W)
 have HRD := hid h.rd
 have y0 : W.cell? ⟨w.heap.size + 1, 0, none⟩ = some (.int .i64 k) := h.pk.cell 0
 have p0 : W.cell? ⟨w.heap.size, 0, none⟩ = some (.pointer (some ⟨g, 0, none⟩)) := h.pa.cell 0
 have l0 := h.pa.lt
 have HCC := hid HC
 have HNN := hid HN
 clear h HC HN hU;generalize Ay k 128 = H at *
 cases H
 ·go_enter BH, Bp
  go_wp2_with fail;refine HH.out.mono ?_
  rintro r w1 ⟨rfl, hb1⟩;have HP := hid (HNN.out (.inl ZB) w1 hb1)
  clear hb1;go_wp2_with fail;first | go_end0 | refine Ai (Aq rfl _ _ _) rfl ?_
  exact ⟨rfl, HP.out⟩
 ·by_cases hk : s.k = 0
  ·have HG := hid (fun (V : World) (hV : AK V g B a s) => (by have := Ax V hV; rw [Ac hk] at this; exact this : Calls Tryz.prog 44 #[.pointer (some ⟨g, 0, none⟩)] V fun r w' => r = .returned (.bool true) ∧ Below V.heap.size V w'))
   have HC2 := hid (HCC.out ZB hk)
   clear hk;go_enter BH, Bp
   go_wp2_with fail;refine HH.out.mono ?_
   rintro r w1 ⟨rfl, hb1⟩;have p1 := (hb1.cell (p := ⟨w.heap.size, 0, none⟩) l0).trans p0
   have HRD1 := hid (HRD.out.later hb1)
   have HB1 := hid hb1
   have l1 := Ah l0 hb1.size
   clear hb1;go_wp2_with fail;refine (HG.out _ HRD1.out).mono ?_
   rintro r w2 ⟨rfl, hb2⟩;have p2 := (hb2.cell (p := ⟨w.heap.size, 0, none⟩) l1).trans p1
   have HRD2 := hid (HRD1.out.later hb2)
   have HB2 := hid (HB1.out.trans (hb2.mono HB1.out.size))
   clear hb2;go_wp2_with fail;refine (BI _ HRD2.out).mono ?_
   rintro r w2' ⟨rfl, rfl⟩;go_wp2_with fail;refine (HC2.out _ HB2.out).mono ?_
   rintro r w3 ⟨rfl, hp⟩;have HP := hid hp
   clear hp;go_wp2_with fail;first | go_end0 | refine Ai (Aq rfl _ _ _) rfl ?_
   exact ⟨rfl, HP.out⟩
  ·have HG := hid (fun (V : World) (hV : AK V g B a s) => (by have := Ax V hV; rw [Ab hk] at this; exact this : Calls Tryz.prog 44 #[.pointer (some ⟨g, 0, none⟩)] V fun r w' => r = .returned (.bool false) ∧ Below V.heap.size V w'))
   have HN2 := hid (HNN.out (.inr hk))
   clear hk;go_enter BH, Bp
   go_wp2_with fail;refine HH.out.mono ?_
   rintro r w1 ⟨rfl, hb1⟩;have p1 := (hb1.cell (p := ⟨w.heap.size, 0, none⟩) l0).trans p0
   have HRD1 := hid (HRD.out.later hb1)
   have HB1 := hid hb1
   clear hb1;go_wp2_with fail;refine (HG.out _ HRD1.out).mono ?_
   rintro r w2 ⟨rfl, hb2⟩;have HP := hid (HN2.out _ (HB1.out.trans (hb2.mono HB1.out.size)))
   clear hb2;go_wp2_with fail;first | go_end0 | refine Ai (Aq rfl _ _ _) rfl ?_
   exact ⟨rfl, HP.out⟩
theorem Ps {w : World} {g : Nat} {B : List UInt8} {a : Option Addr} {K : Nat → Prop} {X : World → Bool → Prop} {q : Bool} {M lo : Nat} {k : Int} {m : Msg} {v1 v2 v3 v4 : Value} {s : Rs} {W : World} {fn : Nat} {caps : Array Value} {blk : Rs → Rs × List UInt8 × Bool} (hU : Bm w g B a fn caps blk K X) (hB : B.length ≤ 1000000000) (h : Ci w g B a K X q M lo k m v1 v2 v3 v4 s W) (hz : m.proj = CX) :
  Calls Tryz.prog 181 #[.int .i64 128, .func (Fn.func 195) #[] #[.pointer (some ⟨w.heap.size, 0, none⟩), .pointer (some ⟨M, 0, none⟩)], .pointer (some ⟨w.heap.size + 1, 0, none⟩), .pointer (some ⟨w.heap.size, 0, none⟩)] W fun r W' => r = .returned (.tuple #[]) ∧ ∃ v4', Ci w g B a K X q M lo k { m with proj := (Rs.part (Ay k 128) s (Rs.C3 B) CX).2 } v1 v2 v3 v4' (Rs.part (Ay k 128) s (Rs.C3 B) CX).1 W' := by
 refine MC hU h (fun W' => ∃ v4', Ci w g B a K X q M lo k { m with proj := (Rs.part (Ay k 128) s (Rs.C3 B) CX).2 } v1 v2 v3 v4' (Rs.part (Ay k 128) s (Rs.C3 B) CX).1 W') (fun hh hk W' hb => ?_) (fun hn W' hb => ?_)
 ·have := Pr hU hB (h.later hU hb) s.p
  rw [hh]
  exact this
 ·rw [Ek hn fun e => Rs.Jt e]
  have e : { m with proj := CX } = m := by
   cases m;dsimp only at hz;subst hz;rfl
  dsimp only;rw [e]
  exact ⟨_, h.later hU hb⟩
theorem Rs.TC {B : List UInt8} {s : Rs} : 0 ≤ (s.Ed B).2 ∧ (s.Ed B).2 ≤ 18446744073709551615 := by
 have := Rs.CL (B := B) (s := s)
 unfold Rs.Ed Rs.po;split
 ·split
  ·dsimp only; omega
  ·simp
 ·simp
theorem TR {B : List UInt8} {s : Rs} {h : Bool} : 0 ≤ (Rs.part h s (Rs.Ed B) 0).2 ∧ (Rs.part h s (Rs.Ed B) 0).2 ≤ 18446744073709551615 := by
 cases h
 ·exact ⟨Int.le_refl _, (by decide : (0 : Int) ≤ 18446744073709551615)⟩
 ·exact Rs.TC
theorem Gf {W : World} {R : Nat} {m : Msg} {v1 v2 v3 v4 : Value} {cs : Array Value} (h : Blk W R 32 zeroCells) :
  Blk ((((((((((((((W.setCell ⟨R, 0, none⟩ (.int .i64 m.kind)).setCell ⟨R, 1, none⟩ (.int .u64 m.epoch)).setCell ⟨R, 2, none⟩ (.int .u64 m.seq)).setCell ⟨R, 3, none⟩ (.int .u64 m.pos)).setCell ⟨R, 4, none⟩ (.int .i64 m.count)).setCell ⟨R, 5, none⟩ (.int .i64 m.state)).setCell ⟨R, 6, none⟩ v1).setCell ⟨R, 7, none⟩ v2).setCell ⟨R, 8, none⟩ v3).setCell ⟨R, 9, none⟩ (.int .u64 m.sea.epoch)).setCell ⟨R, 10, none⟩ (.int .u64 m.sea.node)).setCell ⟨R, 11, none⟩ (.int .u64 m.sea.tail)).setCell ⟨R, 12, none⟩ (.int .u64 m.proj.epoch)).setCell ⟨R, 13, none⟩ v4) R 32 (Ce m v1 v2 v3 v4) := by
 have := ((((((((((((((h.set 0 (.int .i64 m.kind)).set 1 (.int .u64 m.epoch)).set 2 (.int .u64 m.seq)).set 3 (.int .u64 m.pos)).set 4 (.int .i64 m.count)).set 5 (.int .i64 m.state)).set 6 v1).set 7 v2).set 8 v3).set 9 (.int .u64 m.sea.epoch)).set 10 (.int .u64 m.sea.node)).set 11 (.int .u64 m.sea.tail)).set 12 (.int .u64 m.proj.epoch)).set 13 v4)
 simp only [Aa, Ad, Ae] at this
 exact this
theorem Jj {W : World} {R : Nat} {u0 u1 u2 u3 u4 u5 u6 u7 u8 u9 u10 u11 u12 u13 : Value} : Tch (· = R) W ((((((((((((((W.setCell ⟨R, 0, none⟩ u0).setCell ⟨R, 1, none⟩ u1).setCell ⟨R, 2, none⟩ u2).setCell ⟨R, 3, none⟩ u3).setCell ⟨R, 4, none⟩ u4).setCell ⟨R, 5, none⟩ u5).setCell ⟨R, 6, none⟩ u6).setCell ⟨R, 7, none⟩ u7).setCell ⟨R, 8, none⟩ u8).setCell ⟨R, 9, none⟩ u9).setCell ⟨R, 10, none⟩ u10).setCell ⟨R, 11, none⟩ u11).setCell ⟨R, 12, none⟩ u12).setCell ⟨R, 13, none⟩ u13) := by
 refine Tch.setCell (F := (· = R)) (p := ⟨R, 13, none⟩) ?_ (fun _ => rfl) u13
 refine Tch.setCell (F := (· = R)) (p := ⟨R, 12, none⟩) ?_ (fun _ => rfl) u12
 refine Tch.setCell (F := (· = R)) (p := ⟨R, 11, none⟩) ?_ (fun _ => rfl) u11
 refine Tch.setCell (F := (· = R)) (p := ⟨R, 10, none⟩) ?_ (fun _ => rfl) u10
 refine Tch.setCell (F := (· = R)) (p := ⟨R, 9, none⟩) ?_ (fun _ => rfl) u9
 refine Tch.setCell (F := (· = R)) (p := ⟨R, 8, none⟩) ?_ (fun _ => rfl) u8
 refine Tch.setCell (F := (· = R)) (p := ⟨R, 7, none⟩) ?_ (fun _ => rfl) u7
 refine Tch.setCell (F := (· = R)) (p := ⟨R, 6, none⟩) ?_ (fun _ => rfl) u6
 refine Tch.setCell (F := (· = R)) (p := ⟨R, 5, none⟩) ?_ (fun _ => rfl) u5
 refine Tch.setCell (F := (· = R)) (p := ⟨R, 4, none⟩) ?_ (fun _ => rfl) u4
 refine Tch.setCell (F := (· = R)) (p := ⟨R, 3, none⟩) ?_ (fun _ => rfl) u3
 refine Tch.setCell (F := (· = R)) (p := ⟨R, 2, none⟩) ?_ (fun _ => rfl) u2
 refine Tch.setCell (F := (· = R)) (p := ⟨R, 1, none⟩) ?_ (fun _ => rfl) u1
 refine Tch.setCell (F := (· = R)) (p := ⟨R, 0, none⟩) ?_ (fun _ => rfl) u0
 exact Tch.refl _ _
theorem Dh {w : World} {g : Nat} {t : TypeId} {cs : Array Value} (h : Blk w g t cs) : w.frozen? ⟨g, 0, none⟩ = false ∧ w.frozen? ⟨g, 1, none⟩ = false ∧ w.frozen? ⟨g, 2, none⟩ = false ∧ w.frozen? ⟨g, 3, none⟩ = false ∧ w.frozen? ⟨g, 4, none⟩ = false ∧ w.frozen? ⟨g, 5, none⟩ = false ∧ w.frozen? ⟨g, 6, none⟩ = false ∧ w.frozen? ⟨g, 7, none⟩ = false ∧ w.frozen? ⟨g, 8, none⟩ = false ∧ w.frozen? ⟨g, 9, none⟩ = false ∧ w.frozen? ⟨g, 10, none⟩ = false ∧ w.frozen? ⟨g, 11, none⟩ = false ∧ w.frozen? ⟨g, 12, none⟩ = false ∧ w.frozen? ⟨g, 13, none⟩ = false :=
 ⟨h.free 0, h.free 1, h.free 2, h.free 3, h.free 4, h.free 5, h.free 6, h.free 7, h.free 8, h.free 9, h.free 10, h.free 11, h.free 12, h.free 13⟩
theorem Hx {S : Nat → Prop} {w : World} : Ag.r S w [.slice none 0 0] [] := A3 (xs := []) rfl (Al _) (Aj _) (.inl rfl)
theorem NS {w : World} {g : Nat} {B : List UInt8} {a : Option Addr} {K : Nat → Prop} {X : World → Bool → Prop} {q : Bool} {k : Int} {m : Msg} {v1 v2 v3 v4 : Value} {s : Rs} {W W' : World} {fn : Nat} {caps : Array Value} {blk : Rs → Rs × List UInt8 × Bool} (hU : Bm w g B a fn caps blk K X)
  (h : Ci w g B a K X q (w.heap.size + 1 + 1 + 1) (w.heap.size + 1 + 1 + 1 + 1) k m v1 v2 v3 v4 s W) (ht : Tch (· = w.heap.size + 1 + 1) W W') :
  (AQ.r (Dq w W') W' [v1] m.streams ∧ BK.r (Dq w W') W' [v2] m.links ∧ Ag.r (Dq w W') W' [v3] m.data ∧ A9.r (Dq w W') W' [v4] m.proj.stripes) ∧ AK W' g B a s ∧ Tch K w W' ∧ X W' q := by
 have hgl := hU.lt g hU.own
 have hw := h.tch.size
 have hlm := h.lm
 have hk : ∀ b, (w.heap.size + 1 + 1 + 1 + 1) ≤ b ∧ b < W.heap.size → W'.heap[b]? = W.heap[b]? := fun b hb => ht.block b hb.2 zD
 have hm : ∀ b, (w.heap.size + 1 + 1 + 1 + 1) ≤ b ∧ b < W.heap.size → w.heap.size ≤ b ∧ b < W'.heap.size := fun b hb => ⟨zD, Ah hb.2 ht.size⟩
 have hT : Tch K w W' := h.tch.trans ht fun b hb e => by omega
 exact ⟨⟨AQ.mono (AQ.keep h.st hk) hm, BK.mono (BK.keep h.ln hk) hm, Ag.mono (Ag.keep h.da hk) hm, A9.mono (A9.keep h.sp hk) hm⟩, ⟨h.rd.blk.tch ht zD, Ag.mono (Ag.keep hU.dat fun b hb => hT.block b hb.1 hb.2) fun b hb => ⟨by have := hT.size; omega, fun e => hb.2 (e ▸ hU.own)⟩, h.rd.ok⟩, hT, hU.st W W' q h.x hw (ht.mono fun b _ e => .inr zD)⟩
theorem Ho (w : World) {g : Nat} {B : List UInt8} {a : Option Addr} {s : Rs} (h : AK w g B a s) (hB : B.length ≤ 1000000000) (k : Int) (fn : Nat) (caps : Array Value) (blk : Rs → Rs × List UInt8 × Bool) (K : Nat → Prop) (X : World → Bool → Prop) (hU : Bm w g B a fn caps blk K X) (hX : X w true) :
  Calls Tryz.prog 115 #[.pointer (some ⟨g, 0, none⟩), .int .i64 k, .func (Fn.func fn) #[] caps] w fun r w' => ∃ v1 v2 v3 v4 q, r = .returned (.agg (Ce (s.body B blk k).2.1 v1 v2 v3 v4)) ∧ (AQ.r (Dq w w') w' [v1] (s.body B blk k).2.1.streams ∧ BK.r (Dq w w') w' [v2] (s.body B blk k).2.1.links ∧ Ag.r (Dq w w') w' [v3] (s.body B blk k).2.1.data ∧ A9.r (Dq w w') w' [v4] (s.body B blk k).2.1.proj.stripes) ∧
   AK w' g B a (s.body B blk k).1 ∧ Tch K w w' ∧ X w' q ∧ ((s.body B blk k).1.k = 0 → q = (s.body B blk k).2.2) := by
 have hgl := hU.lt g hU.own
 have HU := hid hU
 have HKR := hid (fun (W : World) => Gl k W)
 by_cases hkr : 1 ≤ k ∧ k ≤ 14
 ·have dk : decide (1 ≤ k ∧ k ≤ 14) = true := Ac hkr
  rw [dk] at HKR
  unfold Rs.body Rs.ahead;rw [Ak hkr]
  dsimp only;have hpu := TR (B := B) (s := s) (h := Ay k 1)
  generalize hP1 : Rs.part (Ay k 1) s (Rs.Ed B) 0 = P1 at *
  obtain ⟨s1, x1⟩ := P1
  dsimp only at *;generalize hP2 : Rs.part (Ay k 2) s1 (Rs.cnt B) 0 = P2 at *
  obtain ⟨s2, x2⟩ := P2
  dsimp only at *;generalize hP3 : Rs.part (Ay k 4) s2 (Rs.stt B k) 0 = P3 at *
  obtain ⟨s3, x3⟩ := P3
  dsimp only at *;generalize hP4 : Rs.part (Ay k 8) s3 (Rs.FH B) [] = P4 at *
  obtain ⟨s4, L4⟩ := P4
  dsimp only at *;generalize hP5 : Rs.part (Ay k 16) s4 (fun t => t.links B x1) [] = P5 at *
  obtain ⟨s5, L5⟩ := P5
  dsimp only at *;generalize hP6 : Rs.part (Bj k x3) s5 blk ([], true) = P6 at *
  obtain ⟨s6, D, fl⟩ := P6
  dsimp only at *;generalize hP7 : Rs.part (Ay k 64) s6 (Rs.seal_ B) CI = P7 at *
  obtain ⟨s7, z7⟩ := P7
  dsimp only at *;generalize hP8 : Rs.part (Ay k 128) s7 (Rs.C3 B) CX = P8 at *
  obtain ⟨s8, z8⟩ := P8
  dsimp only at *;generalize hRS : (if s8.k = 0 then (s8, (⟨k, 0, 0, x1, x2, x3, L4, L5, D, z7, z8⟩ : Msg), fl) else (s8, CU, false)) = RES
  have HRS := hid hRS
  clear hRS;have HP1 := hid hP1
  have HP2 := hid hP2
  have HP3 := hid hP3
  have HP4 := hid hP4
  have HP5 := hid hP5
  have HP6 := hid hP6
  have HP7 := hid hP7
  have HP8 := hid hP8
  clear hP1 hP2 hP3 hP4 hP5 hP6 hP7 hP8 dk hkr;have hbW : Below w.heap.size w ((((w.alloc (.cells #[.pointer (some ⟨g, 0, none⟩)] 52)).alloc (.cells #[.int .i64 k] 3)).alloc (.cells #[.int .i64 0, .int .u64 0, .int .u64 0, .int .u64 0, .int .i64 0, .int .i64 0, .slice none 0 0, .slice none 0 0, .slice none 0 0, .int .u64 0, .int .u64 0, .int .u64 0, .int .u64 0, .slice none 0 0] 32)).alloc (.cells #[.int .i64 k, .int .u64 0, .int .u64 0, .int .u64 0, .int .i64 0, .int .i64 0, .slice none 0 0, .slice none 0 0, .slice none 0 0, .int .u64 0, .int .u64 0, .int .u64 0, .int .u64 0, .slice none 0 0] 32)) := zA
  have hszW : (((((w.alloc (.cells #[.pointer (some ⟨g, 0, none⟩)] 52)).alloc (.cells #[.int .i64 k] 3)).alloc (.cells #[.int .i64 0, .int .u64 0, .int .u64 0, .int .u64 0, .int .i64 0, .int .i64 0, .slice none 0 0, .slice none 0 0, .slice none 0 0, .int .u64 0, .int .u64 0, .int .u64 0, .int .u64 0, .slice none 0 0] 32)).alloc (.cells #[.int .i64 k, .int .u64 0, .int .u64 0, .int .u64 0, .int .i64 0, .int .i64 0, .slice none 0 0, .slice none 0 0, .slice none 0 0, .int .u64 0, .int .u64 0, .int .u64 0, .int .u64 0, .slice none 0 0] 32))).heap.size = w.heap.size + 1 + 1 + 1 + 1 := zO
  have hI0 : Ci w g B a K X true (w.heap.size + 1 + 1 + 1) (w.heap.size + 1 + 1 + 1 + 1) k ⟨k, 0, 0, 0, 0, 0, [], [], [], CI, CX⟩ (.slice none 0 0) (.slice none 0 0) (.slice none 0 0) (.slice none 0 0) s ((((w.alloc (.cells #[.pointer (some ⟨g, 0, none⟩)] 52)).alloc (.cells #[.int .i64 k] 3)).alloc (.cells #[.int .i64 0, .int .u64 0, .int .u64 0, .int .u64 0, .int .i64 0, .int .i64 0, .slice none 0 0, .slice none 0 0, .slice none 0 0, .int .u64 0, .int .u64 0, .int .u64 0, .int .u64 0, .slice none 0 0] 32)).alloc (.cells #[.int .i64 k, .int .u64 0, .int .u64 0, .int .u64 0, .int .i64 0, .int .i64 0, .slice none 0 0, .slice none 0 0, .slice none 0 0, .int .u64 0, .int .u64 0, .int .u64 0, .int .u64 0, .slice none 0 0] 32)) :=
   ⟨h.later hbW, Ag.keep hU.dat fun b hb => hbW.block b hb.1, zC, zC, zC, zC, ⟨zD, zD⟩, zD, A3 (xs := []) rfl (Al _) (Aj _) (.inl rfl), A3 (xs := []) rfl (Al _) (Aj _) (.inl rfl), Hx, A3 (xs := []) rfl (Al _) (Aj _) (.inl rfl), Tch.BQ hbW, hU.st w _ true hX (Al _) (Tch.BQ hbW)⟩
  have HI0 := hid hI0
  clear hI0 hbW hszW h hX;go_enter Tryz.func115, Tryz.ntmps115
  go_wp2_with fail;refine (HKR.out _).mono ?_
  rintro r w0 ⟨rfl, rfl⟩;go_wp2_with fail;generalize ((((w.alloc (.cells #[.pointer (some ⟨g, 0, none⟩)] 52)).alloc (.cells #[.int .i64 k] 3)).alloc (.cells #[.int .i64 0, .int .u64 0, .int .u64 0, .int .u64 0, .int .i64 0, .int .i64 0, .slice none 0 0, .slice none 0 0, .slice none 0 0, .int .u64 0, .int .u64 0, .int .u64 0, .int .u64 0, .slice none 0 0] 32)).alloc (.cells #[.int .i64 k, .int .u64 0, .int .u64 0, .int .u64 0, .int .i64 0, .int .i64 0, .slice none 0 0, .slice none 0 0, .slice none 0 0, .int .u64 0, .int .u64 0, .int .u64 0, .int .u64 0, .slice none 0 0] 32)) = w1 at *
  have hC1 := SU HU.out hB HI0.out rfl
  rw [HP1.out] at hC1
  dsimp only at hC1;have HC1 := hid hC1
  clear hC1;refine HC1.out.mono ?_
  rintro r w2 ⟨rfl, hI⟩;have HI1 := hid hI
  clear hI HC1;go_wp2_with fail;have hC2 := SR HU.out hB HI1.out rfl
  rw [HP2.out] at hC2
  dsimp only at hC2;have HC2 := hid hC2
  clear hC2;refine HC2.out.mono ?_
  rintro r w3 ⟨rfl, hI⟩;have HI2 := hid hI
  clear hI HC2;go_wp2_with fail;have hC3 := SQ HU.out hB HI2.out rfl
  rw [HP3.out] at hC3
  dsimp only at hC3;have HC3 := hid hC3
  clear hC3;refine HC3.out.mono ?_
  rintro r w4 ⟨rfl, hI⟩;have HI3 := hid hI
  clear hI HC3;go_wp2_with fail;have hC4 := SP HU.out hB HI3.out rfl
  rw [HP4.out] at hC4
  dsimp only at hC4;have HC4 := hid hC4
  clear hC4;refine HC4.out.mono ?_
  rintro r w5 ⟨rfl, v, hI⟩;obtain ⟨b1, d1, e, _, _⟩ := AE hI.st
  cases e;have HI4 := hid hI
  clear hI HC4;go_wp2_with fail;have hC5 := Ri HU.out hB HI4.out rfl hpu
  rw [HP5.out] at hC5
  dsimp only at hC5;have HC5 := hid hC5
  clear hC5;refine HC5.out.mono ?_
  rintro r w6 ⟨rfl, v, hI⟩;obtain ⟨b2, d2, e, _, _⟩ := AE hI.ln
  cases e;have HI5 := hid hI
  clear hI HC5;go_upto_region 11 with (fail)
  obtain ⟨R, hR⟩ : ∃ R, R = (Bj k x3 && decide (s5.k = 0)) := ⟨_, rfl⟩
  have HR := hid hR
  clear hR;go_cut [40] from 35 to 39 (fun v V => v = .bool R ∧ Hid (Below w6.heap.size w6 V))
  case first =>
   have hm := HI5.out.pm
   dsimp only [Ce] at hm;obtain ⟨y0, y1, y2, y3, y4, y5, y6, y7, y8, y9, y10, y11, y12, y13, lm⟩ := AZ hm
   have p0 : w6.cell? ⟨w.heap.size, 0, none⟩ = some (.pointer (some ⟨g, 0, none⟩)) := HI5.out.pa.cell 0
   have HHD := hid (Gt ⟨k, 0, 0, x1, x2, x3, L4, L5, [], CI, CX⟩ b1 d1 b2 d2 none 0 none 0 w6)
   dsimp only at HHD;clear hm;cases hBk : Bj k x3
   ·rw [hBk] at HHD HR
    have HR2 : Hid (R = false) := hid HR.out
    clear hBk;go_wp2_with fail;refine HHD.out.mono ?_
    rintro r w7 ⟨rfl, hb7⟩;have HB7 := hid hb7
    clear hb7;go_wp2_with fail;go_meet
    case rel => exact ⟨IF Value.bool HR2.out.symm, HB7⟩
   ·rw [hBk] at HHD HR
    have HR2 : Hid (R = decide (s5.k = 0)) := hid (by rw [HR.out, BJ])
    have HG := hid (fun (V : World) (hV : AK V g B a s5) => (by have := Ax V hV; rw [← HR2.out] at this; exact this : Calls Tryz.prog 44 #[.pointer (some ⟨g, 0, none⟩)] V fun r w' => r = .returned (.bool R) ∧ Below V.heap.size V w'))
    clear hBk;go_wp2_with fail;refine HHD.out.mono ?_
    rintro r w7 ⟨rfl, hb7⟩;have HI6 := hid (HI5.out.later HU.out hb7)
    have p7 : w7.cell? ⟨w.heap.size, 0, none⟩ = some (.pointer (some ⟨g, 0, none⟩)) := HI6.out.pa.cell 0
    have HB7 := hid hb7
    clear hb7;go_wp2_with fail;refine (HG.out _ HI6.out.rd).mono ?_
    rintro r w8 ⟨rfl, hb8⟩;have HB8 := hid (HB7.out.trans (hb8.mono HB7.out.size))
    clear hb8;go_wp2_with fail;go_meet
    case rel => exact ⟨rfl, HB8⟩
  case rest =>
  obtain ⟨rfl, hBB⟩ := hcut
  obtain ⟨w7, hwn⟩ : ∃ W : World, W = wc := ⟨_, rfl⟩
  subst hwn;have HI5b := hid (HI5.out.later HU.out hBB.out)
  go_upto_if 40 with (fail)
  go_cut [] from 41 to 43 (fun V => ∃ v3 q, Hid (Ci w g B a K X q (w.heap.size + 1 + 1 + 1) (w.heap.size + 1 + 1 + 1 + 1) k ⟨k, 0, 0, x1, x2, x3, L4, L5, D, CI, CX⟩ (.slice b1 L4.length d1) (.slice b2 L5.length d2) v3 (.slice none 0 0) s6 V) ∧ Hid (s6.k = 0 → q = fl))
  case first =>
   have HQ := HP6.out
   have hR := HR.out
   cases R
   ·have HX2 : Hid (Ci w g B a K X true (w.heap.size + 1 + 1 + 1) (w.heap.size + 1 + 1 + 1 + 1) k ⟨k, 0, 0, x1, x2, x3, L4, L5, D, CI, CX⟩ (.slice b1 L4.length d1) (.slice b2 L5.length d2) (.slice none 0 0) (.slice none 0 0) s6 w7 ∧ (s6.k = 0 → true = fl)) := hid (by
     cases hBk : Bj k x3
     ·rw [hBk] at HQ
      have HQ2 : (s5, ([] : List UInt8), true) = (s6, D, fl) := HQ
      cases HQ2;exact ⟨HI5b.out, fun _ => rfl⟩
     ·rw [hBk] at HQ
      have HQ2 : blk s5 = (s6, D, fl) := HQ
      have hk5 : s5.k ≠ 0 := fun e => by
       rw [hBk, Ac e] at hR
       exact absurd hR zP
      obtain ⟨hq1, hq2⟩ := HU.out.bad s5 hk5
      rw [HQ2] at hq1 hq2
      dsimp only at hq1 hq2;subst hq1 hq2;exact ⟨HI5b.out, fun e => absurd e hk5⟩)
    clear HQ hR;go_wp2_with fail;go_meet
    case rel => exact ⟨_, true, hid HX2.out.1, hid HX2.out.2⟩
   ·have hBk : Bj k x3 = true := by
     cases hh : Bj k x3
     ·rw [hh, IH] at hR; exact absurd hR zP
     ·rfl
    have hk5 : s5.k = 0 := by
     rw [hBk] at hR
     exact B6 (by rw [BJ] at hR; exact hR.symm)
    rw [hBk] at HQ
    have HQ2 : blk s5 = (s6, D, fl) := HQ
    have HUC := hid (fun (V : World) (h1 : AK V g B a s5) (h2 : X V true) (h3 : w.heap.size ≤ V.heap.size) (h4 : Tch K w V) => (by have := HU.out.call V s5 true h1 h2 h3 h4; rw [HQ2] at this; exact this : Calls Tryz.prog fn caps V fun r W' => ∃ v, r = .returned v ∧ Ag.r (Dq V W') W' [v] D ∧ AK W' g B a s6 ∧ Tch K V W' ∧ X W' fl))
    clear HQ2 hk5 HQ hR hBk;go_wp2_with fail;rw [HU.out.ent]
    refine (HUC.out _ HI5b.out.rd HI5b.out.x HI5b.out.tch.size HI5b.out.tch).mono ?_
    rintro r w9 ⟨v9, rfl, hD9, hRD9, hT9, hX9⟩;obtain ⟨ad, cd, hfv, hD9', _⟩ := AE hD9
    simp only [Ap, AD] at hfv
    subst hfv;have HI8 := hid (HI5b.out.Tz HU.out hT9 hRD9 hX9)
    have hlow := HI5b.out.low
    have HV := hid (Ag.mono hD9' fun b hb => (⟨Z4, hb.2⟩ : (w.heap.size + 1 + 1 + 1 + 1) ≤ b ∧ b < w9.heap.size))
    have f8 := Fi HI8.out.pm 8
    obtain ⟨y0, y1, y2, y3, y4, y5, y6, y7, y8, y9, y10, y11, y12, y13, l8⟩ := AZ HI8.out.pm
    clear hD9 hRD9 hT9 hX9 hD9';go_wp2_with fail;go_meet
    case rel => exact ⟨_, fl, hid (HI8.out.JI HU.out 8 _ zR HI8.out.st HI8.out.ln HV.out HI8.out.sp), hid fun _ => rfl⟩
  case rest =>
   obtain ⟨v3, q, HI6, HQF⟩ := hcut
   obtain ⟨w70, hwn⟩ : ∃ W : World, W = wc := ⟨_, rfl⟩
   subst hwn;obtain ⟨b3, d3, e, _, _⟩ := AE HI6.out.da
   cases e;clear HI0 HI1 HI2 HI3 HI4 HI5 HI5b;go_wp2_with fail;have hC7 := Rh HU.out hB HI6.out rfl
   rw [HP7.out] at hC7
   dsimp only at hC7;have HC7 := hid hC7
   clear hC7;refine HC7.out.mono ?_
   rintro r w8 ⟨rfl, hI⟩;have HI7 := hid hI
   clear hI HC7;go_wp2_with fail;have hC8 := Ps HU.out hB HI7.out rfl
   rw [HP8.out] at hC8
   dsimp only at hC8;have HC8 := hid hC8
   clear hC8;refine HC8.out.mono ?_
   rintro r w9 ⟨rfl, v, hI⟩;obtain ⟨b4, d4, e, _, _⟩ := AE hI.sp
   cases e;have HI8 := hid hI
   have p9 : w9.cell? ⟨w.heap.size, 0, none⟩ = some (.pointer (some ⟨g, 0, none⟩)) := hI.pa.cell 0
   have HQF8 : Hid (s8.k = 0 → q = fl) := hid fun e => HQF.out (by
    have h7 := Rs.D6 (by rw [HP8.out]; exact e) Rs.Sd
    exact Rs.D6 (by rw [HP7.out]; exact h7) Rs.RQ)
   clear hI HC8;by_cases hk : s8.k = 0
   ·have HG := hid (fun (V : World) (hV : AK V g B a s8) => (by have := Ax V hV; rw [Ac hk] at this; exact this : Calls Tryz.prog 44 #[.pointer (some ⟨g, 0, none⟩)] V fun r w' => r = .returned (.bool true) ∧ Below V.heap.size V w'))
    have HK := hid hk
    clear hk;go_wp2_with fail;refine (HG.out _ HI8.out.rd).mono ?_
    rintro r w10 ⟨rfl, hb10⟩;have HI9 := hid (HI8.out.later HU.out hb10)
    clear hb10;have hm := HI9.out.pm
    dsimp only [Ce] at hm;obtain ⟨y0, y1, y2, y3, y4, y5, y6, y7, y8, y9, y10, y11, y12, y13, lm⟩ := AZ hm
    obtain ⟨r0, r1, r2, r3, r4, r5, r6, r7, r8, r9, r10, r11, r12, r13, lz⟩ := AZ HI9.out.pr
    obtain ⟨f0, f1, f2, f3, f4, f5, f6, f7, f8, f9, f10, f11, f12, f13⟩ := Dh HI9.out.pr
    have hq := HQF8.out HK.out
    clear hm p9;go_wp2_with fail;have hput := Gf (W := w10) (m := ⟨k, 0, 0, x1, x2, x3, L4, L5, D, z7, z8⟩) (v1 := .slice b1 L4.length d1) (v2 := .slice b2 L5.length d2) (v3 := .slice b3 D.length d3) (v4 := .slice b4 z8.stripes.length d4) (cs := #[]) HI9.out.pr
    dsimp only at hput;refine BP (fun W => Blk W (w.heap.size + 1 + 1) 32 (Ce ⟨k, 0, 0, x1, x2, x3, L4, L5, D, z7, z8⟩ (.slice b1 L4.length d1) (.slice b2 L5.length d2) (.slice b3 D.length d3) (.slice b4 z8.stripes.length d4)) ∧ Tch (· = w.heap.size + 1 + 1) w10 W) ⟨hput, ?_⟩ ?_
    ·exact Jj
    intro W5 ⟨q5, ht5⟩;have hFIN := NS HU.out HI9.out ht5
    dsimp only [Ce] at q5;obtain ⟨n0, n1, n2, n3, n4, n5, n6, n7, n8, n9, n10, n11, n12, n13, ln⟩ := AZ q5
    have hRES : RES = (s8, (⟨k, 0, 0, x1, x2, x3, L4, L5, D, z7, z8⟩ : Msg), fl) := by rw [← HRS.out]; exact Ak HK.out
    rw [hRES]
    refine Ai (v := .agg #[.int .i64 k, .int .u64 0, .int .u64 0, .int .u64 x1, .int .i64 x2, .int .i64 x3, .slice b1 L4.length d1, .slice b2 L5.length d2, .slice b3 D.length d3, .int .u64 z7.epoch, .int .u64 z7.node, .int .u64 z7.tail, .int .u64 z8.epoch, .slice b4 z8.stripes.length d4]) zAf rfl ⟨_, _, _, _, q, rfl, hFIN.1, hFIN.2.1, hFIN.2.2.1, hFIN.2.2.2, fun _ => hq⟩
   ·have HG := hid (fun (V : World) (hV : AK V g B a s8) => (by have := Ax V hV; rw [Ab hk] at this; exact this : Calls Tryz.prog 44 #[.pointer (some ⟨g, 0, none⟩)] V fun r w' => r = .returned (.bool false) ∧ Below V.heap.size V w'))
    have HK := hid hk
    clear hk;go_wp2_with fail;refine (HG.out _ HI8.out.rd).mono ?_
    rintro r w10 ⟨rfl, hb10⟩;have HI9 := hid (HI8.out.later HU.out hb10)
    clear hb10 p9;obtain ⟨r0, r1, r2, r3, r4, r5, r6, r7, r8, r9, r10, r11, r12, r13, lz⟩ := AZ HI9.out.pr
    obtain ⟨f0, f1, f2, f3, f4, f5, f6, f7, f8, f9, f10, f11, f12, f13⟩ := Dh HI9.out.pr
    go_wp2_with fail;have hput := Gf (W := w10) (m := CU) (v1 := (.slice none 0 0)) (v2 := (.slice none 0 0)) (v3 := (.slice none 0 0)) (v4 := (.slice none 0 0)) (cs := #[]) HI9.out.pr
    dsimp only [CU, CI, CX] at hput;refine BP (fun W => Blk W (w.heap.size + 1 + 1) 32 zeroCells ∧ Tch (· = w.heap.size + 1 + 1) w10 W) ⟨hput, ?_⟩ ?_
    ·exact Jj
    intro W5 ⟨q5, ht5⟩;have hFIN := NS HU.out HI9.out ht5
    dsimp only [zeroCells] at q5;obtain ⟨n0, n1, n2, n3, n4, n5, n6, n7, n8, n9, n10, n11, n12, n13, ln⟩ := AZ q5
    have hRES : RES = (s8, CU, false) := by rw [← HRS.out]; exact An HK.out
    rw [hRES]
    refine Ai (v := .agg #[.int .i64 0, .int .u64 0, .int .u64 0, .int .u64 0, .int .i64 0, .int .i64 0, .slice none 0 0, .slice none 0 0, .slice none 0 0, .int .u64 0, .int .u64 0, .int .u64 0, .int .u64 0, .slice none 0 0]) zAf rfl ⟨(.slice none 0 0), (.slice none 0 0), (.slice none 0 0), (.slice none 0 0), q, rfl, ⟨A3 (xs := []) rfl (Al _) (Aj _) (.inl rfl), A3 (xs := []) rfl (Al _) (Aj _) (.inl rfl), Hx, A3 (xs := []) rfl (Al _) (Aj _) (.inl rfl)⟩, hFIN.2.1, hFIN.2.2.1, hFIN.2.2.2, fun e => absurd e HK.out⟩
 ·have dk : decide (1 ≤ k ∧ k ≤ 14) = false := Ab hkr
  rw [dk] at HKR
  unfold Rs.body;rw [An hkr]
  clear dk hkr;have HE0 := hid (fun (V : World) (hV : AK V g B a s) => BI V hV)
  have HF0 := hid (fun (V : World) (hV : AK V g B a s) => Bf V hV 7 (s.p : Int) zD)
  have hfk : (s.fail 7 (s.p : Int)).k ≠ 0 := Rs.Be zD
  have HFK := hid hfk
  clear hfk;generalize s.fail 7 (s.p : Int) = s1 at *
  have hbW : Below w.heap.size w (((w.alloc (.cells #[.pointer (some ⟨g, 0, none⟩)] 52)).alloc (.cells #[.int .i64 k] 3)).alloc (.cells #[.int .i64 0, .int .u64 0, .int .u64 0, .int .u64 0, .int .i64 0, .int .i64 0, .slice none 0 0, .slice none 0 0, .slice none 0 0, .int .u64 0, .int .u64 0, .int .u64 0, .int .u64 0, .slice none 0 0] 32)) := zA
  have HR0 := hid (h.later hbW)
  have HBW := hid hbW
  have A0 : Blk (((w.alloc (.cells #[.pointer (some ⟨g, 0, none⟩)] 52)).alloc (.cells #[.int .i64 k] 3)).alloc (.cells #[.int .i64 0, .int .u64 0, .int .u64 0, .int .u64 0, .int .i64 0, .int .i64 0, .slice none 0 0, .slice none 0 0, .slice none 0 0, .int .u64 0, .int .u64 0, .int .u64 0, .int .u64 0, .slice none 0 0] 32)) w.heap.size 52 #[.pointer (some ⟨g, 0, none⟩)] := zC
  have R0 : Blk (((w.alloc (.cells #[.pointer (some ⟨g, 0, none⟩)] 52)).alloc (.cells #[.int .i64 k] 3)).alloc (.cells #[.int .i64 0, .int .u64 0, .int .u64 0, .int .u64 0, .int .i64 0, .int .i64 0, .slice none 0 0, .slice none 0 0, .slice none 0 0, .int .u64 0, .int .u64 0, .int .u64 0, .int .u64 0, .slice none 0 0] 32)) (w.heap.size + 1 + 1) 32 zeroCells := zC
  have HX := hid hX
  go_enter Tryz.func115, Tryz.ntmps115
  go_wp2_with fail;refine (HKR.out _).mono ?_
  rintro r w0 ⟨rfl, rfl⟩;go_wp2_with fail;generalize (((w.alloc (.cells #[.pointer (some ⟨g, 0, none⟩)] 52)).alloc (.cells #[.int .i64 k] 3)).alloc (.cells #[.int .i64 0, .int .u64 0, .int .u64 0, .int .u64 0, .int .i64 0, .int .i64 0, .slice none 0 0, .slice none 0 0, .slice none 0 0, .int .u64 0, .int .u64 0, .int .u64 0, .int .u64 0, .slice none 0 0] 32)) = w1 at *
  have p0 : w1.cell? ⟨w.heap.size, 0, none⟩ = some (.pointer (some ⟨g, 0, none⟩)) := A0.cell 0
  have l0 := A0.lt
  have HR1 := hid (HR0.out.later (show Below w1.heap.size w1 w1.drew from (Below.refl _ _).drew))
  refine Cg (S := fun w' => w'.cell? ⟨w.heap.size, 0, none⟩ = some (.pointer (some ⟨g, 0, none⟩))) zH p0 (fun hHeld => ?_)
  refine At (i := 0) (oi := _) (v := ?_) rfl zF zF zF (fun _ _ _ h => h) (Or.inl ⟨zX, ?_⟩) zN ?_
  rotate_left
  ·(intro w hSw; (try dsimp only at hSw); go_simp <;> with_reducible rfl)
  (try simp only [Act.put, Aa, Ad, Ae])
  refine At (i := 1) (oi := _) (v := ?_) rfl zF zF zF (fun _ _ _ h => h) (Or.inl ⟨zX, ?_⟩) zN ?_
  rotate_left
  ·(intro w hSw; (try dsimp only at hSw); go_simp <;> with_reducible rfl)
  (try simp only [Act.put, Aa, Ad, Ae])
  refine A4 (rs := [2]) zF zO ?_
  refine AR (o := _) rfl (fun K hK => ?_) AllReadyH.nil
  (go_simp; go_at_call 43; refine (HE0.out _ HR1.out).mono ?_; rintro e1 w7 ⟨rfl, rfl⟩; (try dsimp only))
  refine hK.out _ _ ?_ (fun hHeld => ?_)
  ·((try dsimp only); first | assumption | (go_keep; done))
  clear hK K
  (try simp only [Act.put, Aa, Ad, Ae])
  refine A4 (rs := [3]) zF zO ?_
  refine AR (o := _) rfl (fun K hK => ?_) AllReadyH.nil
  (go_simp; go_at_call 180; refine (HF0.out _ HR1.out).mono ?_; rintro e1 w8 ⟨rfl, hst8⟩; have HS8 := hid hst8; have n1 := (hst8.2.cell (p := ⟨w.heap.size, 0, none⟩) (by exact l0) zM).trans p0; have R8 := hid (Blk.tch R0.drew hst8.2 zD); clear hst8; (try dsimp only))
  refine hK.out _ _ ?_ (fun hHeld => ?_)
  ·((try dsimp only); first | assumption | (go_keep; done))
  clear hK K
  (try simp only [Act.put, Aa, Ad, Ae])
  (try simp only [AX, AT, AL, Act.put, Aa, Ad, Ae])
  refine Dj zH ?_ _
  obtain ⟨z0, z1, z2, z3, z4, z5, z6, z7, z8, z9, z10, z11, z12, z13, lz⟩ := AZ R8.out
  obtain ⟨f0, f1, f2, f3, f4, f5, f6, f7, f8, f9, f10, f11, f12, f13⟩ := Dh R8.out
  go_wp2_with fail;have hput := Gf (W := w8) (m := CU) (v1 := (.slice none 0 0)) (v2 := (.slice none 0 0)) (v3 := (.slice none 0 0)) (v4 := (.slice none 0 0)) (cs := #[]) R8.out
  dsimp only [CU, CI, CX] at hput;refine BP (fun W => Blk W (w.heap.size + 1 + 1) 32 zeroCells ∧ Tch (· = w.heap.size + 1 + 1) w8 W) ⟨hput, ?_⟩ ?_
  ·exact Jj
  intro W5 ⟨q5, ht5⟩;dsimp only [zeroCells] at q5;obtain ⟨n0', n1', n2, n3, n4, n5, n6, n7, n8, n9, n10, n11, n12, n13, ln⟩ := AZ q5
  have hTA : Tch (fun b => b = g ∨ w.heap.size ≤ b) w W5 := (((Tch.BQ (F := fun b => b = g ∨ w.heap.size ≤ b) HBW.out).drew.trans HS8.out.2 fun b _ e => .inl e).trans ht5 fun b _ e => .inr zD)
  have hTK : Tch K w W5 := hTA.mono fun b hb e => e.elim (fun e => e ▸ HU.out.own) fun e => by omega
  have hRD : AK W5 g B a s1 := ⟨HS8.out.1.blk.tch ht5 zD, Ag.mono (Ag.keep HU.out.dat fun b hb => hTK.block b hb.1 hb.2) fun b hb => ⟨by have := hTK.size; omega, fun e => hb.2 (e ▸ HU.out.own)⟩, HS8.out.1.ok⟩
  refine Ai (v := .agg #[.int .i64 0, .int .u64 0, .int .u64 0, .int .u64 0, .int .i64 0, .int .i64 0, .slice none 0 0, .slice none 0 0, .slice none 0 0, .int .u64 0, .int .u64 0, .int .u64 0, .int .u64 0, .slice none 0 0]) (by simp [results, Tryz.results115, go_sem, n0', n1', n2, n3, n4, n5, n6, n7, n8, n9, n10, n11, n12, n13]) rfl ⟨(.slice none 0 0), (.slice none 0 0), (.slice none 0 0), (.slice none 0 0), true, rfl, ⟨A3 (xs := []) rfl (Al _) (Aj _) (.inl rfl), A3 (xs := []) rfl (Al _) (Aj _) (.inl rfl), Hx, A3 (xs := []) rfl (Al _) (Aj _) (.inl rfl)⟩, hRD, hTK, HU.out.st w W5 true HX.out (Al _) hTA, fun e => absurd e HFK.out⟩
structure Qf (w : World) (g : Nat) (B : List UInt8) (a : Option Addr) (fn : Nat) (caps : Array Value) (blk : Rs → Rs × List UInt8 × Bool) (K : Nat → Prop) (X : World → Bool → Prop) : Prop where
 lt : ∀ b, K b → b < w.heap.size
 own : K g
 st : ∀ W W' q, X W q → w.heap.size ≤ W.heap.size → Tch (fun b => b = g ∨ w.heap.size ≤ b) W W' → X W' q
 call : ∀ W t, AK W g B a t → X W false → w.heap.size ≤ W.heap.size → Tch K w W → Calls Tryz.prog fn caps W fun r W' => ∃ v, r = .returned v ∧ Ag.r (Dq W W') W' [v] (blk t).2.1 ∧ AK W' g B a (blk t).1 ∧ Tch K W W' ∧ X W' (blk t).2.2
 size : ∀ t, (blk t).2.1.length ≤ 1048576
 dat : Ag.r (fun q => q < w.heap.size ∧ ¬ K q) w [.slice a B.length B.length] B
 ent : ∀ (xs : Array Value) (W : World), (callFunc fn xs).run Tryz.prog W = .ok (.enter fn xs) W
theorem Qf.rd {w W : World} {g : Nat} {B : List UInt8} {a : Option Addr} {fn : Nat} {caps : Array Value} {blk : Rs → Rs × List UInt8 × Bool} {K : Nat → Prop} {X : World → Bool → Prop} (hU : Qf w g B a fn caps blk K X) {s : Rs} (ht : Tch K w W)
  (hb : Blk W g 117 #[.slice a B.length B.length, .int .i64 (s.p : Int), .int .i64 s.k, .int .i64 s.f]) (hs : s.ok B.length) : AK W g B a s :=
 ⟨hb, Ag.mono (Ag.keep hU.dat fun q hq => ht.block q hq.1 hq.2) fun q hq => ⟨Ah hq.1 ht.size, fun e => hq.2 (e ▸ hU.own)⟩, hs⟩
theorem Rs.take_len {B : List UInt8} {s : Rs} {n : Int} : (s.take B n).2.length ≤ n.toNat := by
 unfold Rs.take;split
 ·simp; omega
 ·simp
theorem Rs.IZ {B : List UInt8} {s : Rs} {m : Int} : (s.loose B m).2.1.length ≤ 1048576 := by
 have h1 := Rs.FK (B := B) (s := s) (m := min m 1048576)
 unfold Rs.loose;split
 ·split
  ·split
   ·have := Rs.take_len (B := B) (s := ((s.int B (min m 1048576)).1.byte B).1) (n := ((s.int B (min m 1048576)).2 : Int))
    dsimp only;omega
   ·simp
  ·split
   ·split
    ·have := Rs.PG (B := B) (s := ((s.int B (min m 1048576)).1.byte B).1) (s.int B (min m 1048576)).2
     dsimp only;omega
    ·simp
   ·simp
 ·simp
theorem NW {B : List UInt8} (t : Rs) : (C4 B t).2.1.length ≤ 1048576 := by
 have := Rs.IZ (B := B) (s := t) (m := 1048576)
 unfold C4 Rs.strict;dsimp only;split
 ·split
  ·exact this
  ·simp
 ·simp
theorem Rs.Rj {B : List UInt8} {blk : Rs → Rs × List UInt8 × Bool} {k : Int} {s : Rs} (h : (s.body B blk k).1.k ≠ 0) : (s.body B blk k).2 = (CU, false) := by
 unfold Rs.body at h ⊢;by_cases h1 : 1 ≤ k ∧ k ≤ 14
 ·rw [Ak h1] at h ⊢
  dsimp only at h ⊢;split at h
  ·rename_i h2
   exact absurd h2 h
  ·rename_i h2
   rw [An h2]
 ·rw [An h1]
theorem Rk {B : List UInt8} (t : Rs) (h : t.k ≠ 0) : (C4 B t).1 = t ∧ (C4 B t).2.1 = [] := by
 unfold C4;dsimp only;rw [Rs.EL h]
 unfold Rs.strict;dsimp only;rw [An h]
 exact ⟨rfl, rfl⟩
theorem Rm {B : List UInt8} (t : Rs) (h : t.k ≠ 0) : (CM B t).1 = t ∧ (CM B t).2.1 = [] := by
 unfold CM;rw [Rs.EL h]
 exact ⟨rfl, rfl⟩
theorem Kk {S S' : Nat → Prop} {w w' : World} {m : Msg} {v1 v2 v3 v4 : Value} (hk : ∀ q, S q → w'.heap[q]? = w.heap[q]?) (hs : ∀ q, S q → S' q) (h : AQ.r S w [v1] m.streams ∧ BK.r S w [v2] m.links ∧ Ag.r S w [v3] m.data ∧ A9.r S w [v4] m.proj.stripes) :
  AQ.r S' w' [v1] m.streams ∧ BK.r S' w' [v2] m.links ∧ Ag.r S' w' [v3] m.data ∧ A9.r S' w' [v4] m.proj.stripes :=
 ⟨AQ.mono (AQ.keep h.1 hk) hs, BK.mono (BK.keep h.2.1 hk) hs, Ag.mono (Ag.keep h.2.2.1 hk) hs, A9.mono (A9.keep h.2.2.2 hk) hs⟩
theorem Pz (w : World) {g p : Nat} {B : List UInt8} {a : Option Addr} {s : Rs} (h : AK w g B a s) (hB : B.length ≤ 1000000000) (hp : Blk w p 52 #[.pointer (some ⟨g, 0, none⟩)]) :
  Calls Tryz.prog 116 #[.pointer (some ⟨p, 0, none⟩)] w fun r w' => ∃ v, r = .returned v ∧ Ag.r (Dq w w') w' [v] (C4 B s).2.1 ∧ Av w g B a (C4 B s).1 w' := by
 have HB := hid (PB w h hB 1048576 zD)
 have x0 : w.cell? ⟨p, 0, none⟩ = some (.pointer (some ⟨g, 0, none⟩)) := hp.cell 0
 unfold C4;dsimp only;generalize Rs.strict (s.loose B 1048576) = T at *
 obtain ⟨s1, D⟩ := T
 dsimp only at *;clear h hp;go_enter Tryz.func116, Tryz.ntmps116
 go_wp2_with fail;refine HB.out.mono ?_
 rintro r w1 ⟨v, rfl, hv, hst⟩;obtain ⟨a1, c1, hfv, hv2, _⟩ := AE hv
 simp only [Ap, AD] at hfv
 subst hfv;have HV := hid hv2
 have HS := hid hst
 clear hv hv2 hst;go_wp2;go_ret;exact ⟨_, rfl, HV.out, HS.out⟩
theorem JL (w : World) {g p q : Nat} {B : List UInt8} {a : Option Addr} {s : Rs} (h : AK w g B a s) (hB : B.length ≤ 1000000000) (hp : Blk w p 52 #[.pointer (some ⟨g, 0, none⟩)]) {o : Bool} (hq : Blk w q 4 #[.bool o]) (hne : q ≠ g ∧ p ≠ q ∧ p ≠ g)
  (hd : Ag.r (fun x => x < w.heap.size ∧ ¬ (x = g ∨ x = q)) w [.slice a B.length B.length] B) :
  Calls Tryz.prog 118 #[.pointer (some ⟨p, 0, none⟩), .pointer (some ⟨q, 0, none⟩)] w fun r w' => ∃ v, r = .returned v ∧ Ag.r (Dq w w') w' [v] (CM B s).2.1 ∧ AK w' g B a (CM B s).1 ∧ Tch (fun x => x = g ∨ x = q) w w' ∧ Blk w' p 52 #[.pointer (some ⟨g, 0, none⟩)] ∧ Blk w' q 4 #[.bool (CM B s).2.2] := by
 have HB := hid (JD w h hB 1048576 zD)
 have x0 : w.cell? ⟨p, 0, none⟩ = some (.pointer (some ⟨g, 0, none⟩)) := hp.cell 0
 obtain ⟨n1, n2, n3⟩ := hne
 have HP := hid hp
 have HQ := hid hq
 have HD := hid hd
 have lq := hq.lt
 have lp := hp.lt
 unfold CM;generalize s.loose B 1048576 = T at *
 obtain ⟨s1, D, z⟩ := T
 dsimp only at *;clear h hp hq hd;go_enter Tryz.func118, Tryz.ntmps118
 go_wp2_with fail;refine HB.out.mono ?_
 rintro r w1 ⟨v, rfl, hv, hst⟩;obtain ⟨a1, c1, hfv, hv2, _⟩ := AE hv
 simp only [Ap, AD] at hfv
 subst hfv;have Q1 := HQ.out.tch hst.2 zD
 have P1 := HP.out.tch hst.2 zD
 have q0 : w1.cell? ⟨q, 0, none⟩ = some (.bool o) := Q1.cell 0
 have q1 := Q1.free 0
 have HV := hid hv2
 have HS := hid hst
 clear hv hv2 hst;go_wp2;go_ret;have hT : Tch (fun x => x = g ∨ x = q) w (w1.setCell ⟨q, 0, none⟩ (.bool z)) := (HS.out.2.mono fun b _ e => .inl e).setCell (fun _ => .inr rfl) _
 refine ⟨_, rfl, ?_, ⟨Blk.far HS.out.1.blk zM _, Ag.mono (Ag.keep HD.out fun x hx => hT.block x hx.1 hx.2) fun x hx => ⟨Ah hx.1 hT.size, fun e => hx.2 (.inl e)⟩, HS.out.1.ok⟩, hT, Blk.far P1 zM _, Q1.set 0 _⟩
 refine Ag.mono (Ag.keep HV.out fun x hx => AG _ _ _ _ (by have := hx.1; dsimp only; omega)) fun x hx => ⟨hx.1, by simpa using hx.2⟩
theorem Px (w : World) {g : Nat} {B : List UInt8} {a : Option Addr} {s : Rs} (h : AK w g B a s) (hB : B.length ≤ 1000000000) (k : Int) :
  Calls Tryz.prog 39 #[.pointer (some ⟨g, 0, none⟩), .int .i64 k] w fun r w' => ∃ v1 v2 v3 v4, r = .returned (.agg (Ce (s.body B (C4 B) k).2.1 v1 v2 v3 v4)) ∧ (AQ.r (Dq w w') w' [v1] (s.body B (C4 B) k).2.1.streams ∧ BK.r (Dq w w') w' [v2] (s.body B (C4 B) k).2.1.links ∧ Ag.r (Dq w w') w' [v3] (s.body B (C4 B) k).2.1.data ∧ A9.r (Dq w w') w' [v4] (s.body B (C4 B) k).2.1.proj.stripes) ∧ Av w g B a (s.body B (C4 B) k).1 w' := by
 have hlt := h.blk.lt
 have HIN := hid (Cy.refl h)
 clear h;generalize hZ : s.body B (C4 B) k = Z
 have HZ := hid hZ
 clear hZ;obtain ⟨s1, m, q⟩ := Z
 dsimp only at *;go_enter Tryz.func39, Tryz.ntmps39
 go_wp2_with fail;have hbw : Below w.heap.size w ((w.alloc (.cells #[.pointer (some ⟨g, 0, none⟩)] 52)).alloc (.cells #[.int .i64 0, .int .u64 0, .int .u64 0, .int .u64 0, .int .i64 0, .int .i64 0, .slice none 0 0, .slice none 0 0, .slice none 0 0, .int .u64 0, .int .u64 0, .int .u64 0, .int .u64 0, .slice none 0 0] 32)) := zA
 have R0 : Blk ((w.alloc (.cells #[.pointer (some ⟨g, 0, none⟩)] 52)).alloc (.cells #[.int .i64 0, .int .u64 0, .int .u64 0, .int .u64 0, .int .i64 0, .int .i64 0, .slice none 0 0, .slice none 0 0, .slice none 0 0, .int .u64 0, .int .u64 0, .int .u64 0, .int .u64 0, .slice none 0 0] 32)) (w.heap.size + 1) 32 zeroCells := zC
 have P0 : Blk ((w.alloc (.cells #[.pointer (some ⟨g, 0, none⟩)] 52)).alloc (.cells #[.int .i64 0, .int .u64 0, .int .u64 0, .int .u64 0, .int .i64 0, .int .i64 0, .slice none 0 0, .slice none 0 0, .slice none 0 0, .int .u64 0, .int .u64 0, .int .u64 0, .int .u64 0, .slice none 0 0] 32)) w.heap.size 52 #[.pointer (some ⟨g, 0, none⟩)] := zC
 have HIN0 := hid (HIN.out.row hbw)
 have hsz : (((w.alloc (.cells #[.pointer (some ⟨g, 0, none⟩)] 52)).alloc (.cells #[.int .i64 0, .int .u64 0, .int .u64 0, .int .u64 0, .int .i64 0, .int .i64 0, .slice none 0 0, .slice none 0 0, .slice none 0 0, .int .u64 0, .int .u64 0, .int .u64 0, .int .u64 0, .slice none 0 0] 32))).heap.size = w.heap.size + 2 := zO
 have HBW := hid hbw
 clear hbw;generalize ((w.alloc (.cells #[.pointer (some ⟨g, 0, none⟩)] 52)).alloc (.cells #[.int .i64 0, .int .u64 0, .int .u64 0, .int .u64 0, .int .i64 0, .int .i64 0, .slice none 0 0, .slice none 0 0, .slice none 0 0, .int .u64 0, .int .u64 0, .int .u64 0, .int .u64 0, .slice none 0 0] 32)) = W at *
 have hU : Bm W g B a 116 #[.pointer (some ⟨w.heap.size, 0, none⟩)] (C4 B) (· = g) (fun V _ => Blk V w.heap.size 52 #[.pointer (some ⟨g, 0, none⟩)]) := {
  lt := fun b e => by omega
  own := rfl
  st := fun V V' q hv hs ht => Blk.tch hv ht zD
  call := fun V t q0 hV hX hs ht => (Pz V hV hB hX).mono fun r V' ⟨v, h1, h2, h3⟩ => ⟨v, h1, h2, h3.1, h3.2, Blk.tch hX h3.2 zD⟩
  size := NW
  dat := HIN0.out.rd.dat
  bad := fun t ht => Rk t ht
  ent := fun xs V => by go_simp }
 have hC := Ho W HIN0.out.rd hB k _ _ _ _ _ hU P0
 rw [HZ.out] at hC
 dsimp only [Ce] at hC;have HC := hid hC
 clear hU P0 hC;refine HC.out.mono ?_
 rintro r w1 ⟨v1, v2, v3, v4, q1, rfl, hrows, hrd, ht, _, _⟩;have HRW := hid hrows
 obtain ⟨h1, h2, h3, h4⟩ := hrows
 obtain ⟨a1, c1, hfv, _, _⟩ := AE h1
 simp only [Ap, AD] at hfv
 subst hfv;obtain ⟨a2, c2, hfv, _, _⟩ := AE h2
 simp only [Ap, AD] at hfv
 subst hfv;obtain ⟨a3, c3, hfv, _, _⟩ := AE h3
 simp only [Ap, AD] at hfv
 subst hfv;obtain ⟨a4, c4, hfv, _, _⟩ := AE h4
 simp only [Ap, AD] at hfv
 subst hfv;have R1 := R0.tch ht zD
 have hs1 := ht.size
 have HIN1 := hid (HIN0.out.step ⟨hrd, ht⟩)
 obtain ⟨x0, x1, x2, x3, x4, x5, x6, x7, x8, x9, x10, x11, x12, x13, l1⟩ := AZ R1
 obtain ⟨f0, f1, f2, f3, f4, f5, f6, f7, f8, f9, f10, f11, f12, f13⟩ := Dh R1
 clear h1 h2 h3 h4 hrd ht R0;go_wp2_with fail;have hput := Gf (W := w1) (m := m) (v1 := .slice a1 m.streams.length c1) (v2 := .slice a2 m.links.length c2) (v3 := .slice a3 m.data.length c3) (v4 := .slice a4 m.proj.stripes.length c4) (cs := #[]) R1
 refine BP (fun W => Blk W (w.heap.size + 1) 32 (Ce m (.slice a1 m.streams.length c1) (.slice a2 m.links.length c2) (.slice a3 m.data.length c3) (.slice a4 m.proj.stripes.length c4)) ∧ Tch (· = w.heap.size + 1) w1 W) ⟨hput, Jj⟩ ?_
 intro W5 ⟨q5, ht5⟩;obtain ⟨n0, n1, n2, n3, n4, n5, n6, n7, n8, n9, n10, n11, n12, n13, ln⟩ := AZ q5
 have hz5 := ht5.size
 have hbF : Below w.heap.size w1 W5 := ht5.BE zD fun b _ e => by omega
 refine Ai (v := .agg #[.int .i64 m.kind, .int .u64 m.epoch, .int .u64 m.seq, .int .u64 m.pos, .int .i64 m.count, .int .i64 m.state, .slice a1 m.streams.length c1, .slice a2 m.links.length c2, .slice a3 m.data.length c3, .int .u64 m.sea.epoch, .int .u64 m.sea.node, .int .u64 m.sea.tail, .int .u64 m.proj.epoch, .slice a4 m.proj.stripes.length c4]) (by simp [results, Tryz.results39, go_sem, n0, n1, n2, n3, n4, n5, n6, n7, n8, n9, n10, n11, n12, n13]) rfl ⟨_, _, _, _, rfl, Kk (fun q hq => ht5.block q hq.2 zU) (fun q hq => ⟨zU, ZP⟩) HRW.out, (HIN1.out.row hbF).to⟩
theorem Py (w : World) {g : Nat} {B : List UInt8} {a : Option Addr} {s : Rs} (h : AK w g B a s) (hB : B.length ≤ 1000000000) (k : Int) :
  Calls Tryz.prog 40 #[.pointer (some ⟨g, 0, none⟩), .int .i64 k] w fun r w' => ∃ v1 v2 v3 v4, r = .returned (.tuple #[.agg (Ce (s.body B (CM B) k).2.1 v1 v2 v3 v4), .bool (s.body B (CM B) k).2.2]) ∧ (AQ.r (Dq w w') w' [v1] (s.body B (CM B) k).2.1.streams ∧ BK.r (Dq w w') w' [v2] (s.body B (CM B) k).2.1.links ∧ Ag.r (Dq w w') w' [v3] (s.body B (CM B) k).2.1.data ∧ A9.r (Dq w w') w' [v4] (s.body B (CM B) k).2.1.proj.stripes) ∧ Av w g B a (s.body B (CM B) k).1 w' := by
 have hlt := h.blk.lt
 have HIN := hid (Cy.refl h)
 clear h;have hbad := Rs.Rj (B := B) (blk := CM B) (k := k) (s := s)
 generalize hZ : s.body B (CM B) k = Z at *
 have HZ := hid hZ
 clear hZ;obtain ⟨s1, m, q⟩ := Z
 dsimp only at *;have hq0 : s1.k ≠ 0 → q = false := fun hk => IF Prod.snd (hbad hk)
 clear hbad;go_enter Tryz.func40, Tryz.ntmps40
 go_wp2_with fail;have hbw : Below w.heap.size w (((w.alloc (.cells #[.pointer (some ⟨g, 0, none⟩)] 52)).alloc (.cells #[.int .i64 0, .int .u64 0, .int .u64 0, .int .u64 0, .int .i64 0, .int .i64 0, .slice none 0 0, .slice none 0 0, .slice none 0 0, .int .u64 0, .int .u64 0, .int .u64 0, .int .u64 0, .slice none 0 0] 32)).alloc (.cells #[.bool true] 4)) := zA
 have R0 : Blk (((w.alloc (.cells #[.pointer (some ⟨g, 0, none⟩)] 52)).alloc (.cells #[.int .i64 0, .int .u64 0, .int .u64 0, .int .u64 0, .int .i64 0, .int .i64 0, .slice none 0 0, .slice none 0 0, .slice none 0 0, .int .u64 0, .int .u64 0, .int .u64 0, .int .u64 0, .slice none 0 0] 32)).alloc (.cells #[.bool true] 4)) (w.heap.size + 1) 32 zeroCells := zC
 have P0 : Blk (((w.alloc (.cells #[.pointer (some ⟨g, 0, none⟩)] 52)).alloc (.cells #[.int .i64 0, .int .u64 0, .int .u64 0, .int .u64 0, .int .i64 0, .int .i64 0, .slice none 0 0, .slice none 0 0, .slice none 0 0, .int .u64 0, .int .u64 0, .int .u64 0, .int .u64 0, .slice none 0 0] 32)).alloc (.cells #[.bool true] 4)) w.heap.size 52 #[.pointer (some ⟨g, 0, none⟩)] := zC
 have Q0 : Blk (((w.alloc (.cells #[.pointer (some ⟨g, 0, none⟩)] 52)).alloc (.cells #[.int .i64 0, .int .u64 0, .int .u64 0, .int .u64 0, .int .i64 0, .int .i64 0, .slice none 0 0, .slice none 0 0, .slice none 0 0, .int .u64 0, .int .u64 0, .int .u64 0, .int .u64 0, .slice none 0 0] 32)).alloc (.cells #[.bool true] 4)) (w.heap.size + 1 + 1) 4 #[.bool true] := zC
 have HIN0 := hid (HIN.out.row hbw)
 have hsz : ((((w.alloc (.cells #[.pointer (some ⟨g, 0, none⟩)] 52)).alloc (.cells #[.int .i64 0, .int .u64 0, .int .u64 0, .int .u64 0, .int .i64 0, .int .i64 0, .slice none 0 0, .slice none 0 0, .slice none 0 0, .int .u64 0, .int .u64 0, .int .u64 0, .int .u64 0, .slice none 0 0] 32)).alloc (.cells #[.bool true] 4))).heap.size = w.heap.size + 3 := zO
 have HBW := hid hbw
 clear hbw;generalize (((w.alloc (.cells #[.pointer (some ⟨g, 0, none⟩)] 52)).alloc (.cells #[.int .i64 0, .int .u64 0, .int .u64 0, .int .u64 0, .int .i64 0, .int .i64 0, .slice none 0 0, .slice none 0 0, .slice none 0 0, .int .u64 0, .int .u64 0, .int .u64 0, .int .u64 0, .slice none 0 0] 32)).alloc (.cells #[.bool true] 4)) = W at *
 have hU : Bm W g B a 118 #[.pointer (some ⟨w.heap.size, 0, none⟩), .pointer (some ⟨w.heap.size + 1 + 1, 0, none⟩)] (CM B) (fun x => x = g ∨ x = w.heap.size + 1 + 1) (fun V q => Blk V w.heap.size 52 #[.pointer (some ⟨g, 0, none⟩)] ∧ Blk V (w.heap.size + 1 + 1) 4 #[.bool q]) := by
  have hdat : Ag.r (fun x => x < W.heap.size ∧ ¬ (x = g ∨ x = w.heap.size + 1 + 1)) W [.slice a B.length B.length] B := Ag.mono HIN0.out.dat fun x hx => ⟨zD, fun e => e.elim (fun e => hx.2 e) fun e => zD⟩
  exact {
   lt := fun b e => by omega
   own := .inl rfl
   st := fun V V' q hv hs ht => ⟨Blk.tch hv.1 ht zD, Blk.tch hv.2 ht zD⟩
   call := fun V t q0 hV hX hs ht => (JL V hV hB hX.1 hX.2 zD (Ag.mono (Ag.keep hdat fun x hx => ht.block x hx.1 hx.2) fun x hx => ⟨zD, hx.2⟩)).mono fun r V' ⟨v, h1, h2, h3, h4, h5, h6⟩ => ⟨v, h1, h2, h3, h4, h5, h6⟩
   size := fun t => Rs.IZ
   dat := hdat
   bad := fun t ht => Rm t ht
   ent := fun xs V => by go_simp }
 have hC := Ho W HIN0.out.rd hB k _ _ _ _ _ hU ⟨P0, Q0⟩
 rw [HZ.out] at hC
 dsimp only [Ce] at hC;have HC := hid hC
 clear hU P0 Q0 hC;refine HC.out.mono ?_
 rintro r w1 ⟨v1, v2, v3, v4, q1, rfl, hrows, hrd, ht, ⟨P1, Q1⟩, hq1⟩
 (try dsimp only at hrd hq1 hrows)
 have HRW := hid hrows
 obtain ⟨h1, h2, h3, h4⟩ := hrows
 obtain ⟨a1, c1, hfv, _, _⟩ := AE h1
 simp only [Ap, AD] at hfv
 subst hfv;obtain ⟨a2, c2, hfv, _, _⟩ := AE h2
 simp only [Ap, AD] at hfv
 subst hfv;obtain ⟨a3, c3, hfv, _, _⟩ := AE h3
 simp only [Ap, AD] at hfv
 subst hfv;obtain ⟨a4, c4, hfv, _, _⟩ := AE h4
 simp only [Ap, AD] at hfv
 subst hfv;have R1 := R0.tch ht zD
 have hs1 := ht.size
 have HRD := hid hrd
 have hTw : Tch (· = g) w w1 := (Tch.BQ (F := (· = g)) (HBW.out)).trans ht fun b hb e => by omega
 have HTW := hid hTw
 have lr := R1.lt; have lp := P1.lt; have lq := Q1.lt
 clear h1 h2 h3 h4 hrd ht hTw;have SK := hid (fun (w' : World) (h0 : Blk w' w1.heap.size 32 #[.int .i64 m.kind, .int .u64 m.epoch, .int .u64 m.seq, .int .u64 m.pos, .int .i64 m.count, .int .i64 m.state, .slice a1 m.streams.length c1, .slice a2 m.links.length c2, .slice a3 m.data.length c3, .int .u64 m.sea.epoch, .int .u64 m.sea.node, .int .u64 m.sea.tail, .int .u64 m.proj.epoch, .slice a4 m.proj.stripes.length c4]) (h2 : Blk w' w.heap.size 52 #[.pointer (some ⟨g, 0, none⟩)]) (h3 : Blk w' (w.heap.size + 1 + 1) 4 #[.bool q1]) => (⟨h0.cell 0, h0.cell 1, h0.cell 2, h0.cell 3, h0.cell 4, h0.cell 5, h0.cell 6, h0.cell 7, h0.cell 8, h0.cell 9, h0.cell 10, h0.cell 11, h0.cell 12, h0.cell 13, h2.cell 0, h3.cell 0⟩ : w'.cell? ⟨w1.heap.size, 0, none⟩ = some (.int .i64 m.kind) ∧ w'.cell? ⟨w1.heap.size, 1, none⟩ = some (.int .u64 m.epoch) ∧ w'.cell? ⟨w1.heap.size, 2, none⟩ = some (.int .u64 m.seq) ∧ w'.cell? ⟨w1.heap.size, 3, none⟩ = some (.int .u64 m.pos) ∧ w'.cell? ⟨w1.heap.size, 4, none⟩ = some (.int .i64 m.count) ∧ w'.cell? ⟨w1.heap.size, 5, none⟩ = some (.int .i64 m.state) ∧ w'.cell? ⟨w1.heap.size, 6, none⟩ = some (.slice a1 m.streams.length c1) ∧ w'.cell? ⟨w1.heap.size, 7, none⟩ = some (.slice a2 m.links.length c2) ∧ w'.cell? ⟨w1.heap.size, 8, none⟩ = some (.slice a3 m.data.length c3) ∧ w'.cell? ⟨w1.heap.size, 9, none⟩ = some (.int .u64 m.sea.epoch) ∧ w'.cell? ⟨w1.heap.size, 10, none⟩ = some (.int .u64 m.sea.node) ∧ w'.cell? ⟨w1.heap.size, 11, none⟩ = some (.int .u64 m.sea.tail) ∧ w'.cell? ⟨w1.heap.size, 12, none⟩ = some (.int .u64 m.proj.epoch) ∧ w'.cell? ⟨w1.heap.size, 13, none⟩ = some (.slice a4 m.proj.stripes.length c4) ∧ w'.cell? ⟨w.heap.size, 0, none⟩ = some (.pointer (some ⟨g, 0, none⟩)) ∧ w'.cell? ⟨w.heap.size + 1 + 1, 0, none⟩ = some (.bool q1)))
 have E2 : Blk (w1.alloc (.cells #[.int .i64 m.kind, .int .u64 m.epoch, .int .u64 m.seq, .int .u64 m.pos, .int .i64 m.count, .int .i64 m.state, .slice a1 m.streams.length c1, .slice a2 m.links.length c2, .slice a3 m.data.length c3, .int .u64 m.sea.epoch, .int .u64 m.sea.node, .int .u64 m.sea.tail, .int .u64 m.proj.epoch, .slice a4 m.proj.stripes.length c4] 32)) w1.heap.size 32 #[.int .i64 m.kind, .int .u64 m.epoch, .int .u64 m.seq, .int .u64 m.pos, .int .i64 m.count, .int .i64 m.state, .slice a1 m.streams.length c1, .slice a2 m.links.length c2, .slice a3 m.data.length c3, .int .u64 m.sea.epoch, .int .u64 m.sea.node, .int .u64 m.sea.tail, .int .u64 m.proj.epoch, .slice a4 m.proj.stripes.length c4] := Blk.newAt _ _ _ rfl
 have P2 : Blk (w1.alloc (.cells #[.int .i64 m.kind, .int .u64 m.epoch, .int .u64 m.seq, .int .u64 m.pos, .int .i64 m.count, .int .i64 m.state, .slice a1 m.streams.length c1, .slice a2 m.links.length c2, .slice a3 m.data.length c3, .int .u64 m.sea.epoch, .int .u64 m.sea.node, .int .u64 m.sea.tail, .int .u64 m.proj.epoch, .slice a4 m.proj.stripes.length c4] 32)) w.heap.size 52 #[.pointer (some ⟨g, 0, none⟩)] := P1.alloc _
 have Q2 : Blk (w1.alloc (.cells #[.int .i64 m.kind, .int .u64 m.epoch, .int .u64 m.seq, .int .u64 m.pos, .int .i64 m.count, .int .i64 m.state, .slice a1 m.streams.length c1, .slice a2 m.links.length c2, .slice a3 m.data.length c3, .int .u64 m.sea.epoch, .int .u64 m.sea.node, .int .u64 m.sea.tail, .int .u64 m.proj.epoch, .slice a4 m.proj.stripes.length c4] 32)) (w.heap.size + 1 + 1) 4 #[.bool q1] := Q1.alloc _
 have R2 : Blk (w1.alloc (.cells #[.int .i64 m.kind, .int .u64 m.epoch, .int .u64 m.seq, .int .u64 m.pos, .int .i64 m.count, .int .i64 m.state, .slice a1 m.streams.length c1, .slice a2 m.links.length c2, .slice a3 m.data.length c3, .int .u64 m.sea.epoch, .int .u64 m.sea.node, .int .u64 m.sea.tail, .int .u64 m.proj.epoch, .slice a4 m.proj.stripes.length c4] 32)) (w.heap.size + 1) 32 zeroCells := R1.alloc _
 have hg1 : g < w1.heap.size := zD
 have HRD2 := hid (HRD.out.later (show Below w1.heap.size w1 (w1.alloc (.cells #[.int .i64 m.kind, .int .u64 m.epoch, .int .u64 m.seq, .int .u64 m.pos, .int .i64 m.count, .int .i64 m.state, .slice a1 m.streams.length c1, .slice a2 m.links.length c2, .slice a3 m.data.length c3, .int .u64 m.sea.epoch, .int .u64 m.sea.node, .int .u64 m.sea.tail, .int .u64 m.proj.epoch, .slice a4 m.proj.stripes.length c4] 32)) from zA))
 have HS2 := hid (SK.out (w1.alloc (.cells #[.int .i64 m.kind, .int .u64 m.epoch, .int .u64 m.seq, .int .u64 m.pos, .int .i64 m.count, .int .i64 m.state, .slice a1 m.streams.length c1, .slice a2 m.links.length c2, .slice a3 m.data.length c3, .int .u64 m.sea.epoch, .int .u64 m.sea.node, .int .u64 m.sea.tail, .int .u64 m.proj.epoch, .slice a4 m.proj.stripes.length c4] 32)) E2 P2 Q2)
 have HB12 := hid (show Below w1.heap.size w1 (w1.alloc (.cells #[.int .i64 m.kind, .int .u64 m.epoch, .int .u64 m.seq, .int .u64 m.pos, .int .i64 m.count, .int .i64 m.state, .slice a1 m.streams.length c1, .slice a2 m.links.length c2, .slice a3 m.data.length c3, .int .u64 m.sea.epoch, .int .u64 m.sea.node, .int .u64 m.sea.tail, .int .u64 m.proj.epoch, .slice a4 m.proj.stripes.length c4] 32)) from zA)
 have hz2 : (w1.alloc (.cells #[.int .i64 m.kind, .int .u64 m.epoch, .int .u64 m.seq, .int .u64 m.pos, .int .i64 m.count, .int .i64 m.state, .slice a1 m.streams.length c1, .slice a2 m.links.length c2, .slice a3 m.data.length c3, .int .u64 m.sea.epoch, .int .u64 m.sea.node, .int .u64 m.sea.tail, .int .u64 m.proj.epoch, .slice a4 m.proj.stripes.length c4] 32)).heap.size = w1.heap.size + 1 := zO
 clear P1 Q1 R1 R0;go_wp2_with fail;generalize (w1.alloc (.cells #[.int .i64 m.kind, .int .u64 m.epoch, .int .u64 m.seq, .int .u64 m.pos, .int .i64 m.count, .int .i64 m.state, .slice a1 m.streams.length c1, .slice a2 m.links.length c2, .slice a3 m.data.length c3, .int .u64 m.sea.epoch, .int .u64 m.sea.node, .int .u64 m.sea.tail, .int .u64 m.proj.epoch, .slice a4 m.proj.stripes.length c4] 32)) = w2 at *
 cases q1
 ·have hqf : q = false := by
   by_cases hk : s1.k = 0
   ·exact (hq1 hk).symm
   ·exact hq0 hk
  subst hqf;clear hq1 hq0;refine Cg (S := fun w' => w'.cell? ⟨w1.heap.size, 0, none⟩ = some (.int .i64 m.kind) ∧ w'.cell? ⟨w1.heap.size, 1, none⟩ = some (.int .u64 m.epoch) ∧ w'.cell? ⟨w1.heap.size, 2, none⟩ = some (.int .u64 m.seq) ∧ w'.cell? ⟨w1.heap.size, 3, none⟩ = some (.int .u64 m.pos) ∧ w'.cell? ⟨w1.heap.size, 4, none⟩ = some (.int .i64 m.count) ∧ w'.cell? ⟨w1.heap.size, 5, none⟩ = some (.int .i64 m.state) ∧ w'.cell? ⟨w1.heap.size, 6, none⟩ = some (.slice a1 m.streams.length c1) ∧ w'.cell? ⟨w1.heap.size, 7, none⟩ = some (.slice a2 m.links.length c2) ∧ w'.cell? ⟨w1.heap.size, 8, none⟩ = some (.slice a3 m.data.length c3) ∧ w'.cell? ⟨w1.heap.size, 9, none⟩ = some (.int .u64 m.sea.epoch) ∧ w'.cell? ⟨w1.heap.size, 10, none⟩ = some (.int .u64 m.sea.node) ∧ w'.cell? ⟨w1.heap.size, 11, none⟩ = some (.int .u64 m.sea.tail) ∧ w'.cell? ⟨w1.heap.size, 12, none⟩ = some (.int .u64 m.proj.epoch) ∧ w'.cell? ⟨w1.heap.size, 13, none⟩ = some (.slice a4 m.proj.stripes.length c4) ∧ w'.cell? ⟨w.heap.size, 0, none⟩ = some (.pointer (some ⟨g, 0, none⟩)) ∧ w'.cell? ⟨w.heap.size + 1 + 1, 0, none⟩ = some (.bool false)) zH HS2.out (fun hHeld => ?_)
  refine At (i := 0) (oi := _) (v := ?_) rfl zF zF zF (fun _ _ _ h => h) (Or.inl ⟨zX, ?_⟩) zN ?_
  rotate_left
  ·(intro w hSw; (try dsimp only at hSw); go_simp <;> with_reducible rfl)
  (try simp only [Act.put, Aa, Ad, Ae])
  refine At (i := 1) (oi := _) (v := ?_) rfl zF zF zF (fun _ _ _ h => h) (Or.inl ⟨zX, ?_⟩) zN ?_
  rotate_left
  ·(intro w hSw; (try dsimp only at hSw); go_simp <;> with_reducible rfl)
  (try simp only [Act.put, Aa, Ad, Ae])
  refine At (i := 2) (oi := _) (v := ?_) rfl zF zF zF (fun _ _ _ h => h) (Or.inl ⟨zX, ?_⟩) zN ?_
  rotate_left
  ·(intro w hSw; (try dsimp only at hSw); go_simp <;> with_reducible rfl)
  (try simp only [Act.put, Aa, Ad, Ae])
  refine At (i := 3) (oi := _) (v := undef) rfl zF zF zF (fun _ _ _ h => h) (Or.inr ⟨zH, rfl⟩) zN ?_
  (try simp only [Act.put, Aa, Ad, Ae])
  refine At (i := 4) (oi := _) (v := undef) rfl zF zF zF (fun _ _ _ h => h) (Or.inr ⟨zH, rfl⟩) zN ?_
  (try simp only [Act.put, Aa, Ad, Ae])
  refine At (i := 5) (oi := _) (v := ?_) rfl zF zF zF (fun _ _ _ h => h) (Or.inl ⟨zH, ?_⟩) zN ?_
  rotate_left
  ·(intro w hSw; (try dsimp only at hSw); go_simp <;> with_reducible rfl)
  (try simp only [Act.put, Aa, Ad, Ae])
  simp only [AX, AT, AL, Act.put, Aa, Ad, Ae]
  obtain ⟨x0, x1, x2, x3, x4, x5, x6, x7, x8, x9, x10, x11, x12, x13, l1⟩ := AZ R2
  obtain ⟨f0, f1, f2, f3, f4, f5, f6, f7, f8, f9, f10, f11, f12, f13⟩ := Dh R2
  refine A4 (rs := [6]) zF zO ?_
  refine AR (o := _) rfl (fun K hK => ?_) AllReadyH.nil
  go_simp
  refine hK.out _ _ ?_ (fun hHeld => ?_)
  ·exact SK.out _ zG zG zG
  clear hK K
  (try simp only [Act.put, Aa, Ad, Ae])
  refine At (i := 7) (oi := _) (v := ?_) rfl zF zF zF (fun _ _ _ h => h) (Or.inl ⟨zX, ?_⟩) zN ?_
  rotate_left
  ·(intro w hSw; (try dsimp only at hSw); go_simp <;> with_reducible rfl)
  (try simp only [Act.put, Aa, Ad, Ae])
  simp only [AX, AT, AL, Act.put, Aa, Ad, Ae]
  refine Dj zH ?_ _
  go_wp2_with fail;have hput := Gf (W := w2) (m := m) (v1 := .slice a1 m.streams.length c1) (v2 := .slice a2 m.links.length c2) (v3 := .slice a3 m.data.length c3) (v4 := .slice a4 m.proj.stripes.length c4) (cs := #[]) R2
  refine BP (fun W => Blk W (w.heap.size + 1) 32 (Ce m (.slice a1 m.streams.length c1) (.slice a2 m.links.length c2) (.slice a3 m.data.length c3) (.slice a4 m.proj.stripes.length c4)) ∧ Tch (· = w.heap.size + 1) w2 W) ⟨hput.drew, Jj.drew⟩ ?_
  intro W5 ⟨q5, ht5⟩;obtain ⟨n0, n1, n2, n3, n4, n5, n6, n7, n8, n9, n10, n11, n12, n13, ln⟩ := AZ q5
  have hz5 := ht5.size
  have hb1X : Below w1.heap.size w1 w2 := HB12.out
  have hzX := hb1X.size
  have hbF : Below w.heap.size w1 W5 := (hb1X.mono zD).trans (ht5.BE zD fun b _ e => zD)
  have hdF := hbF.size
  refine Ai (v := .tuple #[.agg #[.int .i64 m.kind, .int .u64 m.epoch, .int .u64 m.seq, .int .u64 m.pos, .int .i64 m.count, .int .i64 m.state, .slice a1 m.streams.length c1, .slice a2 m.links.length c2, .slice a3 m.data.length c3, .int .u64 m.sea.epoch, .int .u64 m.sea.node, .int .u64 m.sea.tail, .int .u64 m.proj.epoch, .slice a4 m.proj.stripes.length c4], .bool false]) zAi rfl ⟨_, _, _, _, rfl, Kk (fun q hq => (ht5.block q (Ah hq.2 hzX) zU).trans (hb1X.block q hq.2)) (fun q hq => ⟨zU, ZP⟩) HRW.out, ⟨HRD.out.blk.below hbF hlt, Ag.mono (Ag.keep HIN0.out.dat fun x hx => (hbF.block x hx.1).trans ((HTW.out.block x hx.1 hx.2).trans (HBW.out.block x hx.1).symm)) fun x hx => ⟨zD, hx.2⟩, HRD.out.ok⟩, HTW.out.trans (Tch.Ff hbF) fun b hb hle => zD⟩
 ·have hqf : decide (s1.k = 0) = q := by
   by_cases hk : s1.k = 0
   ·rw [Ac hk]; exact hq1 hk
   ·rw [Ab hk]; exact (hq0 hk).symm
  have HG := hid (fun (V : World) (hV : AK V g B a s1) => (by have := Ax V hV; rw [hqf] at this; exact this : Calls Tryz.prog 44 #[.pointer (some ⟨g, 0, none⟩)] V fun r w' => r = .returned (.bool q) ∧ Below V.heap.size V w'))
  have HRD3 := hid (HRD2.out.later (show Below _ w2 w2.drew from (Below.refl _ _).drew))
  clear hq1 hq0 hqf;refine Cg (S := fun w' => w'.cell? ⟨w1.heap.size, 0, none⟩ = some (.int .i64 m.kind) ∧ w'.cell? ⟨w1.heap.size, 1, none⟩ = some (.int .u64 m.epoch) ∧ w'.cell? ⟨w1.heap.size, 2, none⟩ = some (.int .u64 m.seq) ∧ w'.cell? ⟨w1.heap.size, 3, none⟩ = some (.int .u64 m.pos) ∧ w'.cell? ⟨w1.heap.size, 4, none⟩ = some (.int .i64 m.count) ∧ w'.cell? ⟨w1.heap.size, 5, none⟩ = some (.int .i64 m.state) ∧ w'.cell? ⟨w1.heap.size, 6, none⟩ = some (.slice a1 m.streams.length c1) ∧ w'.cell? ⟨w1.heap.size, 7, none⟩ = some (.slice a2 m.links.length c2) ∧ w'.cell? ⟨w1.heap.size, 8, none⟩ = some (.slice a3 m.data.length c3) ∧ w'.cell? ⟨w1.heap.size, 9, none⟩ = some (.int .u64 m.sea.epoch) ∧ w'.cell? ⟨w1.heap.size, 10, none⟩ = some (.int .u64 m.sea.node) ∧ w'.cell? ⟨w1.heap.size, 11, none⟩ = some (.int .u64 m.sea.tail) ∧ w'.cell? ⟨w1.heap.size, 12, none⟩ = some (.int .u64 m.proj.epoch) ∧ w'.cell? ⟨w1.heap.size, 13, none⟩ = some (.slice a4 m.proj.stripes.length c4) ∧ w'.cell? ⟨w.heap.size, 0, none⟩ = some (.pointer (some ⟨g, 0, none⟩)) ∧ w'.cell? ⟨w.heap.size + 1 + 1, 0, none⟩ = some (.bool true)) zH HS2.out (fun hHeld => ?_)
  refine At (i := 0) (oi := _) (v := ?_) rfl zF zF zF (fun _ _ _ h => h) (Or.inl ⟨zX, ?_⟩) zN ?_
  rotate_left
  ·(intro w hSw; (try dsimp only at hSw); go_simp <;> with_reducible rfl)
  (try simp only [Act.put, Aa, Ad, Ae])
  refine At (i := 1) (oi := _) (v := ?_) rfl zF zF zF (fun _ _ _ h => h) (Or.inl ⟨zX, ?_⟩) zN ?_
  rotate_left
  ·(intro w hSw; (try dsimp only at hSw); go_simp <;> with_reducible rfl)
  (try simp only [Act.put, Aa, Ad, Ae])
  refine At (i := 2) (oi := _) (v := ?_) rfl zF zF zF (fun _ _ _ h => h) (Or.inl ⟨zX, ?_⟩) zN ?_
  rotate_left
  ·(intro w hSw; (try dsimp only at hSw); go_simp <;> with_reducible rfl)
  (try simp only [Act.put, Aa, Ad, Ae])
  refine At (i := 3) (oi := _) (v := ?_) rfl zF zF zF (fun _ _ _ h => h) (Or.inl ⟨zH, ?_⟩) zN ?_
  rotate_left
  ·(intro w hSw; (try dsimp only at hSw); go_simp <;> with_reducible rfl)
  (try simp only [Act.put, Aa, Ad, Ae])
  simp only [AX, AT, AL, Act.put, Aa, Ad, Ae]
  refine A4 (rs := [4]) zF zO ?_
  refine AR (o := _) rfl (fun K hK => ?_) AllReadyH.nil
  (go_simp; go_at_call 44; refine (HG.out _ HRD3.out).mono ?_; rintro e1 w7 ⟨rfl, hb7⟩; have E7 := E2.drew.later hb7; have P7 := P2.drew.later hb7; have Q7 := Q2.drew.later hb7; have R7 := R2.drew.later hb7; have HB7 := hid hb7; have hs7 : w1.heap.size + 1 ≤ w7.heap.size := (by have := hb7.size; simp at this; omega); obtain ⟨x0, x1, x2, x3, x4, x5, x6, x7, x8, x9, x10, x11, x12, x13, l1⟩ := AZ R7; obtain ⟨f0, f1, f2, f3, f4, f5, f6, f7, f8, f9, f10, f11, f12, f13⟩ := Dh R7; clear E2 P2 Q2 R2 hb7; (try dsimp only))
  refine hK.out _ _ ?_ (fun hHeld => ?_)
  ·exact SK.out _ zG zG zG
  clear hK K
  (try simp only [Act.put, Aa, Ad, Ae])
  refine At (i := 5) (oi := _) (v := ?_) rfl zF zF zF (fun _ _ _ h => h) (Or.inl ⟨zH, ?_⟩) zN ?_
  rotate_left
  ·(intro w hSw; (try dsimp only at hSw); go_simp <;> with_reducible rfl)
  (try simp only [Act.put, Aa, Ad, Ae])
  simp only [AX, AT, AL, Act.put, Aa, Ad, Ae]
  refine A4 (rs := [6]) zF zO ?_
  refine AR (o := _) rfl (fun K hK => ?_) AllReadyH.nil
  go_simp
  refine hK.out _ _ ?_ (fun hHeld => ?_)
  ·exact SK.out _ zG zG zG
  clear hK K
  (try simp only [Act.put, Aa, Ad, Ae])
  refine At (i := 7) (oi := _) (v := ?_) rfl zF zF zF (fun _ _ _ h => h) (Or.inl ⟨zX, ?_⟩) zN ?_
  rotate_left
  ·(intro w hSw; (try dsimp only at hSw); go_simp <;> with_reducible rfl)
  (try simp only [Act.put, Aa, Ad, Ae])
  simp only [AX, AT, AL, Act.put, Aa, Ad, Ae]
  refine Dj zH ?_ _
  go_wp2_with fail;have hput := Gf (W := w7) (m := m) (v1 := .slice a1 m.streams.length c1) (v2 := .slice a2 m.links.length c2) (v3 := .slice a3 m.data.length c3) (v4 := .slice a4 m.proj.stripes.length c4) (cs := #[]) R7
  refine BP (fun W => Blk W (w.heap.size + 1) 32 (Ce m (.slice a1 m.streams.length c1) (.slice a2 m.links.length c2) (.slice a3 m.data.length c3) (.slice a4 m.proj.stripes.length c4)) ∧ Tch (· = w.heap.size + 1) w7 W) ⟨hput, Jj⟩ ?_
  intro W5 ⟨q5, ht5⟩;obtain ⟨n0, n1, n2, n3, n4, n5, n6, n7, n8, n9, n10, n11, n12, n13, ln⟩ := AZ q5
  have hz5 := ht5.size
  have hb1X : Below w1.heap.size w1 w7 := (HB12.out.drew).trans (HB7.out.mono zL)
  have hzX := hb1X.size
  have hbF : Below w.heap.size w1 W5 := (hb1X.mono zD).trans (ht5.BE zD fun b _ e => zD)
  have hdF := hbF.size
  refine Ai (v := .tuple #[.agg #[.int .i64 m.kind, .int .u64 m.epoch, .int .u64 m.seq, .int .u64 m.pos, .int .i64 m.count, .int .i64 m.state, .slice a1 m.streams.length c1, .slice a2 m.links.length c2, .slice a3 m.data.length c3, .int .u64 m.sea.epoch, .int .u64 m.sea.node, .int .u64 m.sea.tail, .int .u64 m.proj.epoch, .slice a4 m.proj.stripes.length c4], .bool q]) zAi rfl ⟨_, _, _, _, rfl, Kk (fun q hq => (ht5.block q (Ah hq.2 hzX) zU).trans (hb1X.block q hq.2)) (fun q hq => ⟨zU, ZP⟩) HRW.out, ⟨HRD.out.blk.below hbF hlt, Ag.mono (Ag.keep HIN0.out.dat fun x hx => (hbF.block x hx.1).trans ((HTW.out.block x hx.1 hx.2).trans (HBW.out.block x hx.1).symm)) fun x hx => ⟨zD, hx.2⟩, HRD.out.ok⟩, HTW.out.trans (Tch.Ff hbF) fun b hb hle => zD⟩
structure MN (w W : World) (B : List UInt8) (a : Option Addr) (c : Nat) (s sf : Rs) (ge : Nat) (D : List UInt8) (aD : Option Addr) (cD : Nat) : Prop where
 b0 : Blk W w.heap.size 60 #[.slice a B.length c, .int .i64 (s.p : Int), .int .i64 s.k, .int .i64 s.f]
 b1 : Blk W (w.heap.size + 1) 60 #[.slice none 0 0, .int .i64 0, .int .i64 0, .int .i64 0]
 be : Blk W ge 60 #[.slice a B.length c, .int .i64 (sf.p : Int), .int .i64 sf.k, .int .i64 sf.f]
 lo : w.heap.size + 1 < ge
 dat : Ag.r (fun q => ge < q ∧ q < W.heap.size) W [.slice aD D.length cD] D
 bel : Below w.heap.size w W
theorem MN.later {w V V' : World} {B : List UInt8} {a : Option Addr} {c : Nat} {s sf : Rs} {ge : Nat} {D : List UInt8} {aD : Option Addr} {cD : Nat} (h : MN w V B a c s sf ge D aD cD) (hb : Below V.heap.size V V') : MN w V' B a c s sf ge D aD cD :=
 ⟨h.b0.later hb, h.b1.later hb, h.be.later hb, h.lo, Ag.mono (Ag.keep h.dat fun q hq => hb.block q hq.2) fun q hq => ⟨hq.1, Ah hq.2 hb.size⟩, Af hb h.bel⟩
theorem MN.data {w V : World} {B : List UInt8} {a : Option Addr} {c : Nat} {s sf : Rs} {ge : Nat} {D D' : List UInt8} {aD aD' : Option Addr} {cD cD' : Nat} (h : MN w V B a c s sf ge D aD cD) (hd : Ag.r (fun q => ge < q ∧ q < V.heap.size) V [.slice aD' D'.length cD'] D') : MN w V B a c s sf ge D' aD' cD' :=
 ⟨h.b0, h.b1, h.be, h.lo, hd, h.bel⟩
theorem MN.set {w V : World} {B : List UInt8} {a : Option Addr} {c : Nat} {s sf : Rs} {ge : Nat} {D : List UInt8} {aD : Option Addr} {cD : Nat} (h : MN w V B a c s sf ge D aD cD) (t : Rs) :
  MN w ((((V.setCell ⟨ge, 0, none⟩ (.slice a B.length c)).setCell ⟨ge, 1, none⟩ (.int .i64 (t.p : Int))).setCell ⟨ge, 2, none⟩ (.int .i64 t.k)).setCell ⟨ge, 3, none⟩ (.int .i64 t.f)) B a c s t ge D aD cD := by
 have hlo := h.lo
 refine ⟨?_, ?_, ?_, hlo, ?_, ?_⟩
 ·exact Blk.far (Blk.far (Blk.far (Blk.far h.b0 zM _) zM _) zM _) zM _
 ·exact Blk.far (Blk.far (Blk.far (Blk.far h.b1 zM _) zM _) zM _) zM _
 ·exact Blk.set (Blk.set (Blk.set (Blk.set h.be 0 _) 1 _) 2 _) 3 _
 ·refine Ag.mono (Ag.keep h.dat fun q hq => ?_) fun q hq => ⟨hq.1, by have := hq.2; simp [World.setCell]; omega⟩
  have hq1 := hq.1
  repeat (rw [AG _ _ _ _ zM])
 ·have hb := h.bel
  (repeat (first | with_reducible exact Below.refl _ _ | with_reducible assumption | (with_reducible refine Az ?_ _) | (with_reducible refine Below.setCell ?_ zE _) | (with_reducible refine Below.drew ?_) | (with_reducible refine below_drewN ?_ _) | (refine Af zJ ?_)))
structure Rq (w : World) (B : List UInt8) (a : Option Addr) (c : Nat) (m : Msg) (v1 v2 v3 v4 : Value) (s : Rs) (W : World) : Prop where
 d : Blk W w.heap.size 60 #[.slice a B.length c, .int .i64 (s.p : Int), .int .i64 s.k, .int .i64 s.f]
 r6 : Blk W (w.heap.size + 1) 60 #[.slice none 0 0, .int .i64 0, .int .i64 0, .int .i64 0]
 r7 : Blk W (w.heap.size + 1 + 1) 32 zeroCells
 pm : Blk W (w.heap.size + 1 + 1 + 1) 32 (Ce m v1 v2 v3 v4)
 ok : s.ok B.length
 bel : Below w.heap.size w W
 low : w.heap.size + 1 + 1 + 1 + 1 ≤ W.heap.size
 st : AQ.r (fun b => w.heap.size + 1 + 1 + 1 + 1 ≤ b ∧ b < W.heap.size) W [v1] m.streams
 ln : BK.r (fun b => w.heap.size + 1 + 1 + 1 + 1 ≤ b ∧ b < W.heap.size) W [v2] m.links
 da : Ag.r (fun b => w.heap.size + 1 + 1 + 1 + 1 ≤ b ∧ b < W.heap.size) W [v3] m.data
 sp : A9.r (fun b => w.heap.size + 1 + 1 + 1 + 1 ≤ b ∧ b < W.heap.size) W [v4] m.proj.stripes
theorem Rq.later {w : World} {B : List UInt8} {a : Option Addr} {c : Nat} {m : Msg} {v1 v2 v3 v4 : Value} {s : Rs} {W : World} (h : Rq w B a c m v1 v2 v3 v4 s W) {W' : World} (hb : Below W.heap.size W W') : Rq w B a c m v1 v2 v3 v4 s W' := by
 have hk : ∀ b, w.heap.size + 1 + 1 + 1 + 1 ≤ b ∧ b < W.heap.size → W'.heap[b]? = W.heap[b]? := fun b hb' => hb.block b hb'.2
 have hm : ∀ b, w.heap.size + 1 + 1 + 1 + 1 ≤ b ∧ b < W.heap.size → w.heap.size + 1 + 1 + 1 + 1 ≤ b ∧ b < W'.heap.size := fun b hb' => ⟨hb'.1, Ah hb'.2 hb.size⟩
 exact ⟨h.d.later hb, h.r6.later hb, h.r7.later hb, h.pm.later hb, h.ok, Af hb h.bel, A5 h.low hb.size, AQ.mono (AQ.keep h.st hk) hm, BK.mono (BK.keep h.ln hk) hm, Ag.mono (Ag.keep h.da hk) hm, A9.mono (A9.keep h.sp hk) hm⟩
theorem Rq.JI {w : World} {B : List UInt8} {a : Option Addr} {c : Nat} {m : Msg} {v1 v2 v3 v4 : Value} {s : Rs} {W : World} (h : Rq w B a c m v1 v2 v3 v4 s W) (i : Nat) (u : Value) {m' : Msg} {v1' v2' v3' v4' : Value} (hc : (Ce m v1 v2 v3 v4).setIfInBounds i u = Ce m' v1' v2' v3' v4')
  (h1 : AQ.r (fun b => w.heap.size + 1 + 1 + 1 + 1 ≤ b ∧ b < W.heap.size) W [v1'] m'.streams) (h2 : BK.r (fun b => w.heap.size + 1 + 1 + 1 + 1 ≤ b ∧ b < W.heap.size) W [v2'] m'.links) (h3 : Ag.r (fun b => w.heap.size + 1 + 1 + 1 + 1 ≤ b ∧ b < W.heap.size) W [v3'] m'.data) (h4 : A9.r (fun b => w.heap.size + 1 + 1 + 1 + 1 ≤ b ∧ b < W.heap.size) W [v4'] m'.proj.stripes) : Rq w B a c m' v1' v2' v3' v4' s (W.setCell ⟨w.heap.size + 1 + 1 + 1, i, none⟩ u) := by
 have hz : (W.setCell ⟨w.heap.size + 1 + 1 + 1, i, none⟩ u).heap.size = W.heap.size := size_set _ _ _
 have hk : ∀ b, w.heap.size + 1 + 1 + 1 + 1 ≤ b ∧ b < W.heap.size → (W.setCell ⟨w.heap.size + 1 + 1 + 1, i, none⟩ u).heap[b]? = W.heap[b]? := fun b hb => AG _ _ _ _ zA9
 have hm : ∀ b, w.heap.size + 1 + 1 + 1 + 1 ≤ b ∧ b < W.heap.size → w.heap.size + 1 + 1 + 1 + 1 ≤ b ∧ b < (W.setCell ⟨w.heap.size + 1 + 1 + 1, i, none⟩ u).heap.size := fun b hb => ⟨hb.1, by rw [hz]; exact hb.2⟩
 refine ⟨Blk.far h.d zM _, Blk.far h.r6 zM _, Blk.far h.r7 zM _, ?_, h.ok, h.bel.setCell zM _, by rw [hz]; exact h.low, AQ.mono (AQ.keep h1 hk) hm, BK.mono (BK.keep h2 hk) hm, Ag.mono (Ag.keep h3 hk) hm, A9.mono (A9.keep h4 hk) hm⟩
 rw [← hc]
 exact h.pm.set i u
def Rs.fin (L : Nat) (s : Rs) : Rs := if s.p < L then s.fail 9 s.p else s
theorem TN (w : World) {g : Nat} {B : List UInt8} {a : Option Addr} {s : Rs} (h : AK w g B a s) : Calls Tryz.prog 211 #[.pointer (some ⟨g, 0, none⟩)] w fun r w' => r = .returned (.tuple #[]) ∧ Av w g B a (s.fin B.length) w' := by
 have HLF := hid (JQ w h)
 have HH := hid h
 have hln := h.len
 have hle := h.ok.le
 unfold Rs.fin;clear h;by_cases hp : s.p < B.length
 ·rw [Ak hp]
  have d1 : decide ((0 : Int) < (B.length : Int) - (s.p : Int)) = true := Ac zD
  have d2 : decide (s.p < B.length) = true := Ac hp
  clear hp;go_enter Tryz.func211, Tryz.ntmps211
  go_wp2_with fail;refine HLF.out.mono ?_
  rintro r w1 ⟨rfl, hb1⟩;have HH1 := hid (HH.out.later hb1)
  have x1 := HH1.out.blk.cell 1
  simp at x1
  go_wp2_with fail;refine (Bf w1 HH1.out 9 (s.p : Int) zD).mono ?_
  rintro r w2 ⟨rfl, hst⟩;have HST := hid (Av.trans (s' := s.fail 9 s.p) (Tch.BQ (F := (· = g)) hb1) hst)
  clear hst x1;go_wp2;first | go_end0 | refine Ai (Aq rfl _ _ _) rfl ?_
  exact ⟨rfl, HST.out⟩
 ·rw [An hp]
  have d1 : decide ((0 : Int) < (B.length : Int) - (s.p : Int)) = false := Ab zD
  have d2 : decide (s.p < B.length) = false := Ab hp
  clear hp;go_enter Tryz.func211, Tryz.ntmps211
  go_wp2_with fail;refine HLF.out.mono ?_
  rintro r w1 ⟨rfl, hb1⟩;have HST := hid (Av.later HH.out hb1)
  go_wp2;first | go_end0 | refine Ai (Aq rfl _ _ _) rfl ?_
  exact ⟨rfl, HST.out⟩
end Go.Proofs.YtlbffbkbkajciaaGreat
