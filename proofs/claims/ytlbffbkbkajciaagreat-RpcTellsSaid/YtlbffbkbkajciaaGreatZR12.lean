/- Mini: Needed by rpcTells_walk, part 12: texts put together by shake.py; no condition. -/
import Derived.Test.YtlbffbkbkajciaaGreatZR8
import Derived.Test.YtlbffbkbkajciaaGreatZR5
import Derived.Test.YtlbffbkbkajciaaGreatZR4
import Derived.Test.YtlbffbkbkajciaaGreatZR3
import Derived.Test.YtlbffbkbkajciaaGreatZR2
import Derived.Test.YtlbffbkbkajciaaGreatZR1
import Derived.Test.YtlbffbkbkajciaaGreatZR11
import Derived.Test.YtlbffbkbkajciaaGreatZR9
import Derived.Test.YtlbffbkbkajciaaGreatZR7
import Derived.Test.YtlbffbkbkajciaaGreatZR6
import Derived.Test.YtlbffbkbkajciaaGreatZR10
import Derived.Deep.Cut
import Derived.Deep.CutRange
set_option linter.unusedVariables false
set_option linter.unusedSimpArgs false
set_option maxRecDepth 100000
set_option maxHeartbeats 6400000
namespace Go.Bs
theorem zBu{p:Prop}(h:p:=by have := hb.1; dsimp only; omega):p:=h
theorem zBq{p:Prop}(h:p:=by have := HUU.out.lt g HUU.out.own; have := HI2.out.lm; dsimp only; omega):p:=h
theorem zAs{p:Prop}(h:p:=by simp [results, Tryz.results115, go_sem, n0, n1, n2, n3, n4, n5, n6, n7, n8, n9, n10, n11, n12, n13]):p:=h
theorem zAf{p:Prop}(h:p:=by have := hq.2; omega):p:=h
theorem ZL{p:Prop}(h:p:=by have := HUU.out.lt g HUU.out.own; dsimp only; omega):p:=h
theorem ZD{p:Prop}(h:p:=by first | rfl | trivial):p:=h
theorem zX{p:Prop}(h:p:=by simp only [Db, Aa, Ab, Ac]):p:=h
theorem zR{p:Prop}(h:p:=by first | (simp only [Db, Aa, Ab, Ac]; done) | (simp only [Db, Aa, Ab, Ac]; rfl)):p:=h
theorem BP:type_of% @Proofs.Tryz.ntmps181:=@Proofs.Tryz.ntmps181
theorem Cb:type_of% @Proofs.Tryz.func181:=@Proofs.Tryz.func181
end Go.Bs
namespace Go.Proofs.YtlbffbkbkajciaaGreat
open Go.RowKit Go.Bs Go.Maps
structure BQ (w : World) (g : Nat) (B : List UInt8) (a : Option Addr) (fn : Nat) (caps : Array Value) (blk : Rs → Rs × List UInt8 × Bool) (K : Nat → Prop) (X : World → Bool → Prop) : Prop where
 lt : ∀ b, K b → b < w.heap.size
 own : K g
 st : ∀ W W' q, X W q → w.heap.size ≤ W.heap.size → Tch (fun b => b = g ∨ w.heap.size ≤ b) W W' → X W' q
 call : ∀ W t q0, AZ W g B a t → X W q0 → w.heap.size ≤ W.heap.size → Tch K w W → Calls Tryz.prog fn caps W fun r W' => ∃ v, r = .returned v ∧ Ah.r (EX W W') W' [v] (blk t).2.1 ∧ AZ W' g B a (blk t).1 ∧ Tch K W W' ∧ X W' (blk t).2.2
 size : ∀ t, (blk t).2.1.length ≤ 1048576
 dat : Ah.r (fun q => q < w.heap.size ∧ ¬ K q) w [.slice a B.length B.length] B
 bad : ∀ t : Rs, t.k ≠ 0 → (blk t).1 = t ∧ (blk t).2.1 = []
 ent : ∀ (xs : Array Value) (W : World), (callFunc fn xs).run Tryz.prog W = .ok (.enter fn xs) W
abbrev Db (m : Msg) (v1 v2 v3 v4 : Value) : Array Value := #[.int .i64 m.kind, .int .u64 m.epoch, .int .u64 m.seq, .int .u64 m.pos, .int .i64 m.count, .int .i64 m.state, v1, v2, v3, .int .u64 m.sea.epoch, .int .u64 m.sea.node, .int .u64 m.sea.tail, .int .u64 m.proj.epoch, v4]
abbrev zeroCells : Array Value := #[.int .i64 0, .int .u64 0, .int .u64 0, .int .u64 0, .int .i64 0, .int .i64 0, .slice none 0 0, .slice none 0 0, .slice none 0 0, .int .u64 0, .int .u64 0, .int .u64 0, .int .u64 0, .slice none 0 0]
structure CI (w : World) (g : Nat) (B : List UInt8) (a : Option Addr) (K : Nat → Prop) (X : World → Bool → Prop) (q : Bool) (M lo : Nat) (k : Int) (m : Msg) (v1 v2 v3 v4 : Value) (s : Rs) (W : World) : Prop where
 rd : AZ W g B a s
 dat : Ah.r (fun b => b < w.heap.size ∧ ¬ K b) W [.slice a B.length B.length] B
 pa : Blk W w.heap.size 52 #[.pointer (some ⟨g, 0, none⟩)]
 pk : Blk W (w.heap.size + 1) 3 #[.int .i64 k]
 pr : Blk W (w.heap.size + 1 + 1) 32 zeroCells
 pm : Blk W M 32 (Db m v1 v2 v3 v4)
 lm : w.heap.size + 1 + 1 < M ∧ M < lo
 low : lo ≤ W.heap.size
 st : AY.r (fun b => lo ≤ b ∧ b < W.heap.size) W [v1] m.streams
 ln : BU.r (fun b => lo ≤ b ∧ b < W.heap.size) W [v2] m.links
 da : Ah.r (fun b => lo ≤ b ∧ b < W.heap.size) W [v3] m.data
 sp : Bg.r (fun b => lo ≤ b ∧ b < W.heap.size) W [v4] m.proj.stripes
 tch : Tch K w W
 x : X W q
section
variable {w : World} {g : Nat} {B : List UInt8} {a : Option Addr} {K : Nat → Prop} {X : World → Bool → Prop} {q : Bool} {M lo : Nat} {k : Int} {m : Msg} {v1 v2 v3 v4 : Value} {s : Rs} {W : World} {fn : Nat} {caps : Array Value} {blk : Rs → Rs × List UInt8 × Bool}
theorem CI.Ve {q' : Bool} {s' : Rs} {W' : World} (hU : BQ w g B a fn caps blk K X) (h : CI w g B a K X q M lo k m v1 v2 v3 v4 s W) (kt : Tch K W W') (kr : AZ W' g B a s') (kx : X W' q') : CI w g B a K X q' M lo k m v1 v2 v3 v4 s' W' := by
 have hw := h.tch.size
 have hlm := h.lm
 have hK : ∀ b, w.heap.size ≤ b → ¬ K b := fun b hb e => absurd (hU.lt b e) zC
 have hk : ∀ b, lo ≤ b ∧ b < W.heap.size → W'.heap[b]? = W.heap[b]? := fun b hb => kt.block b hb.2 (hK b zC)
 have hm : ∀ b, lo ≤ b ∧ b < W.heap.size → lo ≤ b ∧ b < W'.heap.size := fun b hb => ⟨hb.1, Ai hb.2 kt.size⟩
 exact ⟨kr, Ah.keep h.dat fun b hb => kt.block b (Ai hb.1 hw) hb.2, h.pa.tch kt (hK _ (Ak _)), h.pk.tch kt (hK _ zC), h.pr.tch kt (hK _ zC), h.pm.tch kt (hK _ zC), hlm, A4 h.low kt.size,
  AY.mono (AY.keep h.st hk) hm, BU.mono (BU.keep h.ln hk) hm, Ah.mono (Ah.keep h.da hk) hm, Bg.mono (Bg.keep h.sp hk) hm, h.tch.trans kt fun b _ e => e, kx⟩
theorem CI.step {s' : Rs} {W' : World} (hU : BQ w g B a fn caps blk K X) (h : CI w g B a K X q M lo k m v1 v2 v3 v4 s W) (kk : AE W g B a s' W') : CI w g B a K X q M lo k m v1 v2 v3 v4 s' W' :=
 h.Ve hU (kk.2.mono fun b _ e => e ▸ hU.own) kk.1 (hU.st W W' q h.x h.tch.size (kk.2.mono fun b _ e => .inl e))
theorem CI.later {W' : World} (hU : BQ w g B a fn caps blk K X) (h : CI w g B a K X q M lo k m v1 v2 v3 v4 s W) (hb : Below W.heap.size W W') : CI w g B a K X q M lo k m v1 v2 v3 v4 s W' := h.step hU (AE.later h.rd hb)
theorem CI.KY (hU : BQ w g B a fn caps blk K X) (h : CI w g B a K X q M lo k m v1 v2 v3 v4 s W) (i : Nat) (u : Value) {m' : Msg} {v1' v2' v3' v4' : Value} (hc : (Db m v1 v2 v3 v4).setIfInBounds i u = Db m' v1' v2' v3' v4')
  (h1 : AY.r (fun b => lo ≤ b ∧ b < W.heap.size) W [v1'] m'.streams) (h2 : BU.r (fun b => lo ≤ b ∧ b < W.heap.size) W [v2'] m'.links) (h3 : Ah.r (fun b => lo ≤ b ∧ b < W.heap.size) W [v3'] m'.data) (h4 : Bg.r (fun b => lo ≤ b ∧ b < W.heap.size) W [v4'] m'.proj.stripes) : CI w g B a K X q M lo k m' v1' v2' v3' v4' s (W.setCell ⟨M, i, none⟩ u) := by
 have hw := h.tch.size
 have hlm := h.lm
 have hlow := h.low
 have hgw : g < w.heap.size := hU.lt g hU.own
 have hz : (W.setCell ⟨M, i, none⟩ u).heap.size = W.heap.size := size_set _ _ _
 have hT : Tch (fun b => b = g ∨ w.heap.size ≤ b) W (W.setCell ⟨M, i, none⟩ u) := (Tch.refl _ _).setCell (fun _ => .inr zN) _
 have hk : ∀ b, lo ≤ b ∧ b < W.heap.size → (W.setCell ⟨M, i, none⟩ u).heap[b]? = W.heap[b]? := fun b hb => AM _ _ _ _ zBu
 have hm : ∀ b, lo ≤ b ∧ b < W.heap.size → lo ≤ b ∧ b < (W.setCell ⟨M, i, none⟩ u).heap.size := fun b hb => ⟨hb.1, zC⟩
 have hd : Ah.r (fun b => b < w.heap.size ∧ ¬ K b) (W.setCell ⟨M, i, none⟩ u) [.slice a B.length B.length] B := Ah.keep h.dat fun b hb => AM _ _ _ _ zBu
 refine ⟨⟨Blk.far h.rd.blk zN _, Ah.mono hd fun b hb => ⟨zAg, fun e => hb.2 (e ▸ hU.own)⟩, h.rd.ok⟩, hd, Blk.far h.pa zN _, Blk.far h.pk zN _, Blk.far h.pr zN _, ?_, hlm, zC,
  AY.mono (AY.keep h1 hk) hm, BU.mono (BU.keep h2 hk) hm, Ah.mono (Ah.keep h3 hk) hm, Bg.mono (Bg.keep h4 hk) hm, h.tch.setCell (fun e => absurd e zN) _, hU.st W _ q h.x hw hT⟩
 rw [← hc]
 exact h.pm.set i u
theorem CI.grow {W' : World} (h : CI w g B a K X q M lo k m v1 v2 v3 v4 s W) : AY.r (fun b => lo ≤ b ∧ b < W.heap.size) W [v1] m.streams ∧ BU.r (fun b => lo ≤ b ∧ b < W.heap.size) W [v2] m.links ∧ Ah.r (fun b => lo ≤ b ∧ b < W.heap.size) W [v3] m.data ∧ Bg.r (fun b => lo ≤ b ∧ b < W.heap.size) W [v4] m.proj.stripes := ⟨h.st, h.ln, h.da, h.sp⟩
end
theorem Bt {w : World} {g : Nat} {t : TypeId} {v0 v1 v2 v3 v4 v5 v6 v7 v8 v9 v10 v11 v12 v13 : Value} (h : Blk w g t #[v0, v1, v2, v3, v4, v5, v6, v7, v8, v9, v10, v11, v12, v13]) :
  w.cell? ⟨g, 0, none⟩ = some v0 ∧ w.cell? ⟨g, 1, none⟩ = some v1 ∧ w.cell? ⟨g, 2, none⟩ = some v2 ∧ w.cell? ⟨g, 3, none⟩ = some v3 ∧ w.cell? ⟨g, 4, none⟩ = some v4 ∧ w.cell? ⟨g, 5, none⟩ = some v5 ∧ w.cell? ⟨g, 6, none⟩ = some v6 ∧ w.cell? ⟨g, 7, none⟩ = some v7 ∧ w.cell? ⟨g, 8, none⟩ = some v8 ∧ w.cell? ⟨g, 9, none⟩ = some v9 ∧ w.cell? ⟨g, 10, none⟩ = some v10 ∧ w.cell? ⟨g, 11, none⟩ = some v11 ∧ w.cell? ⟨g, 12, none⟩ = some v12 ∧ w.cell? ⟨g, 13, none⟩ = some v13 ∧ g < w.heap.size :=
 ⟨h.cell 0, h.cell 1, h.cell 2, h.cell 3, h.cell 4, h.cell 5, h.cell 6, h.cell 7, h.cell 8, h.cell 9, h.cell 10, h.cell 11, h.cell 12, h.cell 13, h.lt⟩
theorem Gs {w : World} {g : Nat} {t : TypeId} {cs : Array Value} (h : Blk w g t cs) (i : Nat) : w.frozen? ⟨g, i, none⟩ = false := h.free i
theorem JE {w : World} {g : Nat} {B : List UInt8} {a : Option Addr} {s : Rs} (h : AZ w g B a s) (p : Int) (R : Bool) :
  Calls Tryz.prog 186 #[.pointer (some ⟨g, 0, none⟩), .int .i64 p, .bool R] w fun r w' => r = .returned (.tuple #[]) ∧ AE w g B a (if R = true then s else s.fail 3 p) w' := by
 have HF := hid (BB w h 3 p zC)
 have HR := hid (AE.refl h)
 clear h;cases R
 ·go_enter Tryz.func186, Tryz.ntmps186
  go_wp2_with fail;refine HF.out.mono ?_
  rintro r w1 ⟨rfl, hst⟩;have HST := hid hst
  clear hst;go_wp2_with fail;first | go_end0 | refine Al (Aw rfl _ _ _) rfl ?_
  exact ⟨rfl, HST.out⟩
 ·go_enter Tryz.func186, Tryz.ntmps186
  go_wp2_with fail;first | go_end0 | refine Al (Aw rfl _ _ _) rfl ?_
  exact ⟨rfl, HR.out⟩
theorem SO {w : World} {g : Nat} {B : List UInt8} {a : Option Addr} {K : Nat → Prop} {X : World → Bool → Prop} {q : Bool} {M lo : Nat} {k : Int} {m : Msg} {v1 v2 v3 v4 : Value} {s : Rs} {W : World} {fn : Nat} {caps : Array Value} {blk : Rs → Rs × List UInt8 × Bool} (hU : BQ w g B a fn caps blk K X) (hB : B.length ≤ 1000000000) (h : CI w g B a K X q M lo k m v1 v2 v3 v4 s W) (p : Int) :
  Calls Tryz.prog 182 #[.int .i64 p, .pointer (some ⟨w.heap.size, 0, none⟩), .pointer (some ⟨M, 0, none⟩)] W fun r W' => r = .returned (.tuple #[]) ∧ CI w g B a K X q M lo k { m with pos := (s.Ht B).2 } v1 v2 v3 v4 (s.Ht B).1 W' := by
 have p0 : W.cell? ⟨w.heap.size, 0, none⟩ = some (.pointer (some ⟨g, 0, none⟩)) := h.pa.cell 0
 have HI := hid h
 have HUU := hid hU
 have HR := hid (Mt W h.rd hB)
 clear h hU;go_enter Tryz.func182, Tryz.ntmps182
 go_wp2_with fail;refine HR.out.mono ?_
 rintro r w1 ⟨rfl, hst⟩;have HI1 := hid (HI.out.step HUU.out hst)
 have f3 := Gs HI1.out.pm 3
 obtain ⟨y0, y1, y2, y3, y4, y5, y6, y7, y8, y9, y10, y11, y12, y13, lm3⟩ := Bt HI1.out.pm
 clear hst;go_wp2_with fail;first | go_end0 | refine Al (Aw rfl _ _ _) rfl ?_
 exact ⟨rfl, HI1.out.KY HUU.out 3 _ zR HI1.out.st HI1.out.ln HI1.out.da HI1.out.sp⟩
theorem Pu {w : World} {g : Nat} {B : List UInt8} {a : Option Addr} {K : Nat → Prop} {X : World → Bool → Prop} {q : Bool} {M lo : Nat} {k : Int} {m : Msg} {v1 v2 v3 v4 : Value} {s : Rs} {W : World} {fn : Nat} {caps : Array Value} {blk : Rs → Rs × List UInt8 × Bool} (hU : BQ w g B a fn caps blk K X) (hB : B.length ≤ 1000000000) (h : CI w g B a K X q M lo k m v1 v2 v3 v4 s W) (p : Int) :
  Calls Tryz.prog 184 #[.int .i64 p, .pointer (some ⟨w.heap.size, 0, none⟩), .pointer (some ⟨M, 0, none⟩)] W fun r W' => r = .returned (.tuple #[]) ∧ (p = s.p → CI w g B a K X q M lo k { m with count := (s.cnt B).2 } v1 v2 v3 v4 (s.cnt B).1 W') := by
 have p0 : W.cell? ⟨w.heap.size, 0, none⟩ = some (.pointer (some ⟨g, 0, none⟩)) := h.pa.cell 0
 have HI := hid h
 have HUU := hid hU
 have HR := hid (Ef W h.rd zC 65536 zC)
 unfold Rs.cnt Rs.many;generalize s.int B 65536 = I at *
 obtain ⟨s1, n⟩ := I
 dsimp only at *;generalize hFF : (if n = 0 then s1.fail 3 (s.p : Int) else s1) = sF
 have HFF := hid hFF
 clear hFF;clear h hU;go_enter Tryz.func184, Tryz.ntmps184
 go_wp2_with fail;refine HR.out.mono ?_
 rintro r w1 ⟨rfl, hst⟩;have HI1 := hid (HI.out.step HUU.out hst)
 have f4 := Gs HI1.out.pm 4
 obtain ⟨y0, y1, y2, y3, y4, y5, y6, y7, y8, y9, y10, y11, y12, y13, lm4⟩ := Bt HI1.out.pm
 have HI2 := hid (HI1.out.KY HUU.out 4 (.int .i64 (n : Int)) (m' := { m with count := (n : Int) }) (v1' := v1) (v2' := v2) (v3' := v3) (v4' := v4) zX HI1.out.st HI1.out.ln HI1.out.da HI1.out.sp)
 have p1 : w1.cell? ⟨w.heap.size, 0, none⟩ = some (.pointer (some ⟨g, 0, none⟩)) := HI1.out.pa.cell 0
 have p2 : (w1.setCell ⟨M, 4, none⟩ (.int .i64 (n : Int))).cell? ⟨w.heap.size, 0, none⟩ = some (.pointer (some ⟨g, 0, none⟩)) := HI2.out.pa.cell 0
 have HC := hid (fun R => JE HI2.out.rd p R)
 by_cases hn : n = 0
 ·have d1 : decide ((0 : Int) < (n : Int)) = false := Ad zC
  have HN := hid hn
  clear hst hn;go_wp2_with fail;refine (HC.out _).mono ?_
  rintro r w3 ⟨rfl, hst⟩;have HI3 := hid (HI2.out.step HUU.out hst)
  clear hst;go_wp2_with fail;first | go_end0 | refine Al (Aw rfl _ _ _) rfl ?_
  refine ⟨rfl, fun e => ?_⟩
  subst e;have h3 := HI3.out
  rw [Ad (show ¬ 0 < n by have := HN.out; omega)] at h3
  rw [← HFF.out, Am HN.out]
  exact h3
 ·have d1 : decide ((0 : Int) < (n : Int)) = true := Ae zC
  have HN := hid hn
  clear hst hn;go_wp2_with fail;refine (HC.out _).mono ?_
  rintro r w3 ⟨rfl, hst⟩;have HI3 := hid (HI2.out.step HUU.out hst)
  clear hst;go_wp2_with fail;first | go_end0 | refine Al (Aw rfl _ _ _) rfl ?_
  refine ⟨rfl, fun e => ?_⟩
  have h3 := HI3.out
  rw [Ae (show 0 < n by have := HN.out; omega)] at h3
  rw [← HFF.out, An HN.out]
  exact h3
theorem AE.QH {w w' : World} {g : Nat} {B : List UInt8} {a : Option Addr} {s s' : Rs} (h : AZ w g B a s) (k : AE w.drew g B a s' w') : AE w g B a s' w' := ⟨k.1, (Tch.refl (· = g) w).drew.trans k.2 fun _ _ e => e⟩
theorem Pq {w : World} {g : Nat} {B : List UInt8} {a : Option Addr} {K : Nat → Prop} {X : World → Bool → Prop} {q : Bool} {M lo : Nat} {k : Int} {m : Msg} {v1 v2 v3 v4 : Value} {s : Rs} {W : World} {fn : Nat} {caps : Array Value} {blk : Rs → Rs × List UInt8 × Bool} (hU : BQ w g B a fn caps blk K X) (hB : B.length ≤ 1000000000) (h : CI w g B a K X q M lo k m v1 v2 v3 v4 s W) (p : Int) :
  Calls Tryz.prog 187 #[.int .i64 p, .pointer (some ⟨w.heap.size, 0, none⟩), .pointer (some ⟨M, 0, none⟩), .pointer (some ⟨w.heap.size + 1, 0, none⟩)] W fun r W' => r = .returned (.tuple #[]) ∧ (p = s.p → CI w g B a K X q M lo k { m with state := (s.stt B k).2 } v1 v2 v3 v4 (s.stt B k).1 W') := by
 have p0 : W.cell? ⟨w.heap.size, 0, none⟩ = some (.pointer (some ⟨g, 0, none⟩)) := h.pa.cell 0
 have HI := hid h
 have HUU := hid hU
 have HR := hid (K7 W h.rd)
 have k0 : W.cell? ⟨w.heap.size + 1, 0, none⟩ = some (.int .i64 k) := h.pk.cell 0
 have hb8 : (s.byte B).2.toNat < 256 := (s.byte B).2.toNat_lt
 unfold Rs.stt;generalize s.byte B = I at *
 obtain ⟨s1, c⟩ := I
 dsimp only at *;generalize c.toNat = n at *
 generalize hFF : (if 1 ≤ (n : Int) ∧ (n : Int) ≤ Dn k then s1 else s1.fail 3 (s.p : Int)) = sF
 have HFF := hid hFF
 clear hFF;have hI64 : (-9223372036854775808 : Int) ≤ (n : Int) := zC
 have hI65 : (n : Int) ≤ 9223372036854775807 := zC
 clear h hU;go_enter Tryz.func187, Tryz.ntmps187
 go_wp2_with fail;refine HR.out.mono ?_
 rintro r w1 ⟨rfl, hst⟩;have HI1 := hid (HI.out.step HUU.out hst)
 have f5 := Gs HI1.out.pm 5
 obtain ⟨y0, y1, y2, y3, y4, y5, y6, y7, y8, y9, y10, y11, y12, y13, lm5⟩ := Bt HI1.out.pm
 have HI2 := hid (HI1.out.KY HUU.out 5 (.int .i64 (n : Int)) (m' := { m with state := (n : Int) }) (v1' := v1) (v2' := v2) (v3' := v3) (v4' := v4) zX HI1.out.st HI1.out.ln HI1.out.da HI1.out.sp)
 clear hst;go_wp2_with fail;generalize w1.setCell ⟨M, 5, none⟩ (.int .i64 (n : Int)) = w2 at *
 have p2 : w2.cell? ⟨w.heap.size, 0, none⟩ = some (.pointer (some ⟨g, 0, none⟩)) := HI2.out.pa.cell 0
 have k2 : w2.cell? ⟨w.heap.size + 1, 0, none⟩ = some (.int .i64 k) := HI2.out.pk.cell 0
 have m2 : w2.cell? ⟨M, 5, none⟩ = some (.int .i64 (n : Int)) := HI2.out.pm.cell 5
 have l1 := HI2.out.pa.lt
 have l2 := HI2.out.pk.lt
 have l3 := HI2.out.pm.lt
 have HRD := hid (HI2.out.rd.later (show Below w2.heap.size w2 w2.drew from (Below.refl _ _).drew))
 have HC := hid (fun R => JE HRD.out p R)
 have HMO := hid (fun (V : World) => Ng k V)
 by_cases h1 : 1 ≤ (n : Int)
 ·have d1 : decide (1 ≤ (n : Int)) = true := Ae h1
  obtain ⟨R, hR⟩ : ∃ R, R = decide ((n : Int) ≤ Dn k) := ⟨_, rfl⟩
  have HRR := hid hR
  clear hR;generalize hmk : Dn k = mk at *
  have HMK := hid hmk
  clear hmk;refine Cd (S := fun w' => w'.cell? ⟨w.heap.size, 0, none⟩ = some (.pointer (some ⟨g, 0, none⟩)) ∧ w'.cell? ⟨M, 5, none⟩ = some (.int .i64 (n : Int)) ∧ w'.cell? ⟨w.heap.size + 1, 0, none⟩ = some (.int .i64 k)) zG ⟨p2, m2, k2⟩ (fun hHeld => ?_)
  refine Ap (i := 0) (oi := _) (v := ?_) rfl zE zE zE (fun _ _ _ h => h) (Or.inl ⟨zT, ?_⟩) zM ?_
  rotate_left
  ·(intro w hSw; (try dsimp only at hSw); go_simp <;> with_reducible rfl)
  (try simp only [Act.put, Aa, Ab, Ac])
  refine Ap (i := 1) (oi := _) (v := ?_) rfl zE zE zE (fun _ _ _ h => h) (Or.inl ⟨zT, ?_⟩) zM ?_
  rotate_left
  ·(intro w hSw; (try dsimp only at hSw); go_simp <;> with_reducible rfl)
  (try simp only [Act.put, Aa, Ab, Ac])
  refine Ap (i := 2) (oi := _) (v := ?_) rfl zE zE zE (fun _ _ _ h => h) (Or.inl ⟨zT, ?_⟩) zM ?_
  rotate_left
  ·(intro w hSw; (try dsimp only at hSw); go_simp <;> with_reducible rfl)
  (try simp only [Act.put, Aa, Ab, Ac])
  refine Ap (i := 3) (oi := _) (v := ?_) rfl zE zE zE (fun _ _ _ h => h) (Or.inl ⟨zT, ?_⟩) zM ?_
  rotate_left
  ·(intro w hSw; (try dsimp only at hSw); go_simp <;> with_reducible rfl)
  (try simp only [Act.put, Aa, Ab, Ac])
  refine Ap (i := 4) (oi := _) (v := ?_) rfl zE zE zE (fun _ _ _ h => h) (Or.inl ⟨zT, ?_⟩) zM ?_
  rotate_left
  ·(intro w hSw; (try dsimp only at hSw); go_simp <;> with_reducible rfl)
  (try simp only [Act.put, Aa, Ab, Ac])
  refine Ap (i := 5) (oi := _) (v := ?_) rfl zE zE zE (fun _ _ _ h => h) (Or.inl ⟨zT, ?_⟩) zM ?_
  rotate_left
  ·(intro w hSw; (try dsimp only at hSw); go_simp <;> with_reducible rfl)
  (try simp only [Act.put, Aa, Ab, Ac])
  refine Ap (i := 6) (oi := _) (v := ?_) rfl zE zE zE (fun _ _ _ h => h) (Or.inl ⟨zG, ?_⟩) zM ?_
  rotate_left
  ·(intro w hSw; (try dsimp only at hSw); go_simp <;> with_reducible rfl)
  (try simp only [Act.put, Aa, Ab, Ac])
  refine Ap (i := 7) (oi := _) (v := ?_) rfl zE zE zE (fun _ _ _ h => h) (Or.inl ⟨zG, ?_⟩) zM ?_
  rotate_left
  ·(intro w hSw; (try dsimp only at hSw); go_simp <;> with_reducible rfl)
  (try simp only [Act.put, Aa, Ab, Ac])
  refine Ap (i := 8) (oi := _) (v := ?_) rfl zE zE zE (fun _ _ _ h => h) (Or.inl ⟨zG, ?_⟩) zM ?_
  rotate_left
  ·(intro w hSw; (try dsimp only at hSw); go_simp <;> with_reducible rfl)
  (try simp only [Act.put, Aa, Ab, Ac])
  (try simp only [AJ, AB, Az, Act.put, Aa, Ab, Ac])
  refine AP (rs := [9]) zE zO ?_
  refine AG (o := _) rfl (fun K hK => ?_) AllReadyH.nil
  (go_simp; go_at_call 83; refine (HMO.out _).mono ?_; rintro e1 w7 ⟨rfl, rfl⟩; (try dsimp only))
  refine hK.out _ _ ?_ (fun hHeld => ?_)
  ·((try dsimp only); first | (refine ⟨?_, ?_, ?_⟩ <;> (first | assumption | (go_keep; done))) | (refine ⟨?_, ?_⟩ <;> (first | assumption | (go_keep; done))) | assumption | (go_keep; done))
  clear hK K
  (try simp only [Act.put, Aa, Ab, Ac])
  refine Ap (i := 10) (oi := _) (v := ?_) rfl zE zE zE (fun _ _ _ h => h) (Or.inl ⟨zG, ?_⟩) zM ?_
  rotate_left
  ·(intro w hSw; (try dsimp only at hSw); go_simp <;> with_reducible rfl)
  (try simp only [Act.put, Aa, Ab, Ac])
  refine Ap (i := 11) (oi := _) (v := ?_) rfl zE zE zE (fun _ _ _ h => h) (Or.inl ⟨zT, ?_⟩) zM ?_
  rotate_left
  ·(intro w hSw; (try dsimp only at hSw); go_simp <;> with_reducible rfl)
  (try simp only [Act.put, Aa, Ab, Ac])
  (try simp only [AJ, AB, Az, Act.put, Aa, Ab, Ac])
  rw [← HRR.out]
  refine AP (rs := [12]) zE zO ?_
  refine AG (o := _) rfl (fun K hK => ?_) AllReadyH.nil
  (go_simp; go_at_call 186; refine (HC.out _).mono ?_; rintro e1 w8 ⟨rfl, hst8⟩; have HS8 := hid hst8; have n1 := (hst8.2.cell (p := ⟨w.heap.size, 0, none⟩) (by exact l1) ZL).trans p2; have n2 := (hst8.2.cell (p := ⟨M, 5, none⟩) (by exact l3) zBq).trans m2; have n3 := (hst8.2.cell (p := ⟨w.heap.size + 1, 0, none⟩) (by exact l2) ZL).trans k2; clear hst8; (try dsimp only))
  refine hK.out _ _ ?_ (fun hHeld => ?_)
  ·((try dsimp only); first | (refine ⟨?_, ?_, ?_⟩ <;> (first | assumption | (go_keep; done))) | (refine ⟨?_, ?_⟩ <;> (first | assumption | (go_keep; done))) | assumption | (go_keep; done))
  clear hK K
  (try simp only [Act.put, Aa, Ab, Ac])
  (try simp only [AJ, AB, Az, Act.put, Aa, Ab, Ac])
  refine CG zG ?_ _
  go_wp2_with fail;first | go_end0 | refine Al (Aw rfl _ _ _) rfl ?_
  refine ⟨rfl, fun e => ?_⟩
  subst e;have hI3 := HI2.out.step HUU.out (AE.QH HI2.out.rd HS8.out)
  have hEQ : (if R = true then s1 else s1.fail 3 (s.p : Int)) = sF := by
   rw [← HFF.out, HRR.out]
   by_cases hx : (n : Int) ≤ mk
   ·rw [Am (Ae hx), Am ⟨zC, hx⟩]
   ·rw [An (fun e => hx (A9 e)), An (fun e => hx e.2)]
  rw [hEQ] at hI3
  exact hI3
 ·have d1 : decide (1 ≤ (n : Int)) = false := Ad h1
  refine Cd (S := fun w' => w'.cell? ⟨w.heap.size, 0, none⟩ = some (.pointer (some ⟨g, 0, none⟩)) ∧ w'.cell? ⟨M, 5, none⟩ = some (.int .i64 (n : Int)) ∧ w'.cell? ⟨w.heap.size + 1, 0, none⟩ = some (.int .i64 k)) zG ⟨p2, m2, k2⟩ (fun hHeld => ?_)
  refine Ap (i := 0) (oi := _) (v := ?_) rfl zE zE zE (fun _ _ _ h => h) (Or.inl ⟨zT, ?_⟩) zM ?_
  rotate_left
  ·(intro w hSw; (try dsimp only at hSw); go_simp <;> with_reducible rfl)
  (try simp only [Act.put, Aa, Ab, Ac])
  refine Ap (i := 1) (oi := _) (v := ?_) rfl zE zE zE (fun _ _ _ h => h) (Or.inl ⟨zT, ?_⟩) zM ?_
  rotate_left
  ·(intro w hSw; (try dsimp only at hSw); go_simp <;> with_reducible rfl)
  (try simp only [Act.put, Aa, Ab, Ac])
  refine Ap (i := 2) (oi := _) (v := ?_) rfl zE zE zE (fun _ _ _ h => h) (Or.inl ⟨zT, ?_⟩) zM ?_
  rotate_left
  ·(intro w hSw; (try dsimp only at hSw); go_simp <;> with_reducible rfl)
  (try simp only [Act.put, Aa, Ab, Ac])
  refine Ap (i := 3) (oi := _) (v := ?_) rfl zE zE zE (fun _ _ _ h => h) (Or.inl ⟨zT, ?_⟩) zM ?_
  rotate_left
  ·(intro w hSw; (try dsimp only at hSw); go_simp <;> with_reducible rfl)
  (try simp only [Act.put, Aa, Ab, Ac])
  refine Ap (i := 4) (oi := _) (v := ?_) rfl zE zE zE (fun _ _ _ h => h) (Or.inl ⟨zT, ?_⟩) zM ?_
  rotate_left
  ·(intro w hSw; (try dsimp only at hSw); go_simp <;> with_reducible rfl)
  (try simp only [Act.put, Aa, Ab, Ac])
  refine Ap (i := 5) (oi := _) (v := ?_) rfl zE zE zE (fun _ _ _ h => h) (Or.inl ⟨zT, ?_⟩) zM ?_
  rotate_left
  ·(intro w hSw; (try dsimp only at hSw); go_simp <;> with_reducible rfl)
  (try simp only [Act.put, Aa, Ab, Ac])
  refine Ap (i := 6) (oi := _) (v := undef) rfl zE zE zE (fun _ _ _ h => h) (Or.inr ⟨zG, rfl⟩) zM ?_
  (try simp only [Act.put, Aa, Ab, Ac])
  refine Ap (i := 7) (oi := _) (v := undef) rfl zE zE zE (fun _ _ _ h => h) (Or.inr ⟨zG, rfl⟩) zM ?_
  (try simp only [Act.put, Aa, Ab, Ac])
  refine Ap (i := 8) (oi := _) (v := undef) rfl zE zE zE (fun _ _ _ h => h) (Or.inr ⟨zG, rfl⟩) zM ?_
  (try simp only [Act.put, Aa, Ab, Ac])
  refine Ap (i := 9) (oi := _) (v := undef) rfl zE zE zE (fun _ _ _ h => h) (Or.inr ⟨zG, rfl⟩) zM ?_
  (try simp only [Act.put, Aa, Ab, Ac])
  refine Ap (i := 10) (oi := _) (v := undef) rfl zE zE zE (fun _ _ _ h => h) (Or.inr ⟨zG, rfl⟩) zM ?_
  (try simp only [Act.put, Aa, Ab, Ac])
  refine Ap (i := 11) (oi := _) (v := ?_) rfl zE zE zE (fun _ _ _ h => h) (Or.inl ⟨zT, ?_⟩) zM ?_
  rotate_left
  ·(intro w hSw; (try dsimp only at hSw); go_simp <;> with_reducible rfl)
  (try simp only [Act.put, Aa, Ab, Ac])
  (try simp only [AJ, AB, Az, Act.put, Aa, Ab, Ac])
  refine AP (rs := [12]) zE zO ?_
  refine AG (o := _) rfl (fun K hK => ?_) AllReadyH.nil
  (go_simp; go_at_call 186; refine (HC.out _).mono ?_; rintro e1 w8 ⟨rfl, hst8⟩; have HS8 := hid hst8; have n1 := (hst8.2.cell (p := ⟨w.heap.size, 0, none⟩) (by exact l1) ZL).trans p2; have n2 := (hst8.2.cell (p := ⟨M, 5, none⟩) (by exact l3) zBq).trans m2; have n3 := (hst8.2.cell (p := ⟨w.heap.size + 1, 0, none⟩) (by exact l2) ZL).trans k2; clear hst8; (try dsimp only))
  refine hK.out _ _ ?_ (fun hHeld => ?_)
  ·((try dsimp only); first | (refine ⟨?_, ?_, ?_⟩ <;> (first | assumption | (go_keep; done))) | (refine ⟨?_, ?_⟩ <;> (first | assumption | (go_keep; done))) | assumption | (go_keep; done))
  clear hK K
  (try simp only [Act.put, Aa, Ab, Ac])
  (try simp only [AJ, AB, Az, Act.put, Aa, Ab, Ac])
  refine CG zG ?_ _
  go_wp2_with fail;first | go_end0 | refine Al (Aw rfl _ _ _) rfl ?_
  refine ⟨rfl, fun e => ?_⟩
  subst e;have hI3 := HI2.out.step HUU.out (AE.QH HI2.out.rd HS8.out)
  rw [← HFF.out, An (fun e => by have := e.1; omega)]
  exact hI3
theorem Mx {w : World} {g : Nat} {B : List UInt8} {a : Option Addr} {K : Nat → Prop} {X : World → Bool → Prop} {q : Bool} {M lo : Nat} {k : Int} {m : Msg} {v1 v2 v3 v4 : Value} {s : Rs} {W : World} {fn : Nat} {caps : Array Value} {blk : Rs → Rs × List UInt8 × Bool} (hU : BQ w g B a fn caps blk K X) (hB : B.length ≤ 1000000000) (h : CI w g B a K X q M lo k m v1 v2 v3 v4 s W) (p : Int) :
  Calls Tryz.prog 189 #[.int .i64 p, .pointer (some ⟨w.heap.size, 0, none⟩), .pointer (some ⟨M, 0, none⟩)] W fun r W' => r = .returned (.tuple #[]) ∧ ∃ v1', CI w g B a K X q M lo k { m with streams := (s.Jd B).2 } v1' v2 v3 v4 (s.Jd B).1 W' := by
 have p0 : W.cell? ⟨w.heap.size, 0, none⟩ = some (.pointer (some ⟨g, 0, none⟩)) := h.pa.cell 0
 have HI := hid h
 have HUU := hid hU
 have hwz := h.low
 have hrd2 := h.rd.later (show Below W.heap.size W W.drew from (Below.refl _ _).drew)
 have HR := hid (Ef W.drew hrd2 zC 16 zC)
 have hnm := Rs.GP (B := B) (s := s) (m := 16)
 unfold Rs.Jd;generalize s.int B 16 = I at *
 obtain ⟨s1, n⟩ := I
 dsimp only at *;have HZ := hid (fun (V : World) (hV : AZ V g B a s1) => Oa V hV hB n zC)
 generalize Rs.EZ B n s1 [] = R at *
 obtain ⟨s2, L⟩ := R
 dsimp only at *;have l1 := h.pa.lt
 clear h hU hrd2;go_enter Tryz.func189, Tryz.ntmps189
 go_wp2_with fail;refine DC (fun w' => w'.cell? ⟨w.heap.size, 0, none⟩ = some (.pointer (some ⟨g, 0, none⟩))) _ zG rfl zG p0 (fun hHeld => ?_)
 simp only [Cm, GO]
 refine Ap (i := 0) (oi := _) (v := ?_) rfl zE zE zE (fun _ _ _ h => h) (Or.inl ⟨zT, ?_⟩) zM ?_
 rotate_left
 ·(intro w hSw; (try dsimp only at hSw); go_simp <;> with_reducible rfl)
 (try simp only [Act.put, Aa, Ab, Ac])
 refine Ap (i := 1) (oi := _) (v := ?_) rfl zE zE zE (fun _ _ _ h => h) (Or.inl ⟨zT, ?_⟩) zM ?_
 rotate_left
 ·(intro w hSw; (try dsimp only at hSw); go_simp <;> with_reducible rfl)
 (try simp only [Act.put, Aa, Ab, Ac])
 refine AP (rs := [2]) zE zO ?_
 refine AG (o := _) rfl (fun K hK => ?_) AllReadyH.nil
 (go_simp; go_at_call 185; refine HR.out.mono ?_; rintro e1 w7 ⟨rfl, hst7⟩; have HS7 := hid (AE.QH HI.out.rd hst7); have n1 := (HS7.out.2.cell (p := ⟨w.heap.size, 0, none⟩) (by exact l1) ZL).trans p0; clear hst7; (try dsimp only))
 refine hK.out _ _ ?_ (fun hHeld => ?_)
 ·((try dsimp only); first | (refine ⟨?_, ?_, ?_⟩ <;> (first | assumption | (go_keep; done))) | (refine ⟨?_, ?_⟩ <;> (first | assumption | (go_keep; done))) | assumption | (go_keep; done))
 clear hK K
 (try simp only [Act.put, Aa, Ab, Ac])
 refine AP (rs := [3]) zE zO ?_
 refine AG (o := _) rfl (fun K hK => ?_) AllReadyH.nil
 (go_simp; go_at_call 190; refine (HZ.out w7 HS7.out.1).mono ?_; rintro e1 w8 ⟨v8, rfl, hv8, hst8⟩; obtain ⟨a8, c8, hfv, _, _⟩ := AN hv8; simp only [Au, AO] at hfv; subst hfv; have HI8 := hid ((HI.out.step HUU.out HS7.out).step HUU.out hst8); have HV8 := hid (AY.mono hv8 fun b hb => (⟨by have := HS7.out.2.size; have := hb.1; omega, hb.2⟩ : lo ≤ b ∧ b < w8.heap.size)); have n2 : w8.cell? ⟨w.heap.size, 0, none⟩ = some (.pointer (some ⟨g, 0, none⟩)) := HI8.out.pa.cell 0; have f6 := Gs HI8.out.pm 6; obtain ⟨y0, y1, y2, y3, y4, y5, y6, y7, y8, y9, y10, y11, y12, y13, l8⟩ := Bt HI8.out.pm; clear hst8 hv8; (try dsimp only))
 refine hK.out _ _ ?_ (fun hHeld => ?_)
 ·((try dsimp only); first | (refine ⟨?_, ?_, ?_⟩ <;> (first | assumption | (go_keep; done))) | (refine ⟨?_, ?_⟩ <;> (first | assumption | (go_keep; done))) | assumption | (go_keep; done))
 clear hK K
 (try simp only [Act.put, Aa, Ab, Ac])
 refine Ap (i := 4) (oi := _) (v := ?_) rfl zE zE zE (fun _ _ _ h => h) (Or.inl ⟨zT, ?_⟩) zM ?_
 rotate_left
 ·(intro w hSw; (try dsimp only at hSw); go_simp <;> with_reducible rfl)
 (try simp only [Act.put, Aa, Ab, Ac])
 refine Ap (i := 5) (oi := _) (v := ?_) rfl zE zE zE (fun _ _ _ h => h) (Or.inl ⟨zT, ?_⟩) zM ?_
 rotate_left
 ·(intro w hSw; (try dsimp only at hSw); go_simp <;> with_reducible rfl)
 (try simp only [Act.put, Aa, Ab, Ac])
 refine CG zG ?_ _
 show wpList _ _ _ _ _ _
 go_wp2_with fail;first | go_end0 | refine Al (Aw rfl _ _ _) rfl ?_
 exact ⟨rfl, _, HI8.out.KY HUU.out 6 _ zR HV8.out HI8.out.ln HI8.out.da HI8.out.sp⟩
theorem Pr {w : World} {g : Nat} {B : List UInt8} {a : Option Addr} {K : Nat → Prop} {X : World → Bool → Prop} {q : Bool} {M lo : Nat} {k : Int} {m : Msg} {v1 v2 v3 v4 : Value} {s : Rs} {W : World} {fn : Nat} {caps : Array Value} {blk : Rs → Rs × List UInt8 × Bool} (hU : BQ w g B a fn caps blk K X) (hB : B.length ≤ 1000000000) (h : CI w g B a K X q M lo k m v1 v2 v3 v4 s W) (p : Int) (hpos : 0 ≤ m.pos ∧ m.pos ≤ 18446744073709551615) :
  Calls Tryz.prog 191 #[.int .i64 p, .pointer (some ⟨w.heap.size, 0, none⟩), .pointer (some ⟨M, 0, none⟩)] W fun r W' => r = .returned (.tuple #[]) ∧ ∃ v2', CI w g B a K X q M lo k { m with links := (s.links B m.pos).2 } v1 v2' v3 v4 (s.links B m.pos).1 W' := by
 have p0 : W.cell? ⟨w.heap.size, 0, none⟩ = some (.pointer (some ⟨g, 0, none⟩)) := h.pa.cell 0
 have HI := hid h
 have HUU := hid hU
 have hwz := h.low
 have HR := hid (Sz W h.rd hB m.pos hpos)
 have m3 : W.cell? ⟨M, 3, none⟩ = some (.int .u64 m.pos) := h.pm.cell 3
 generalize s.links B m.pos = I at *
 obtain ⟨s1, L⟩ := I
 dsimp only at *;clear h hU;go_enter Tryz.func191, Tryz.ntmps191
 go_wp2_with fail;refine HR.out.mono ?_
 rintro r w1 ⟨v, rfl, hv, hst⟩;have hv' := NL hv
 obtain ⟨a8, c8, hfv, _, _⟩ := AN hv'
 simp only [Au, AO] at hfv
 subst hfv;have HI1 := hid (HI.out.step HUU.out hst)
 have HV := hid (BU.mono hv' fun b hb => (⟨zAg, hb.2⟩ : lo ≤ b ∧ b < w1.heap.size))
 have f7 := Gs HI1.out.pm 7
 obtain ⟨y0, y1, y2, y3, y4, y5, y6, y7, y8, y9, y10, y11, y12, y13, lm7⟩ := Bt HI1.out.pm
 clear hst hv hv';go_wp2_with fail;first | go_end0 | refine Al (Aw rfl _ _ _) rfl ?_
 exact ⟨rfl, _, HI1.out.KY HUU.out 7 _ zR HI1.out.st HV.out HI1.out.da HI1.out.sp⟩
theorem Rb {w : World} {g : Nat} {B : List UInt8} {a : Option Addr} {K : Nat → Prop} {X : World → Bool → Prop} {q : Bool} {M lo : Nat} {k : Int} {m : Msg} {v1 v2 v3 v4 : Value} {s : Rs} {W : World} {fn : Nat} {caps : Array Value} {blk : Rs → Rs × List UInt8 × Bool} (hU : BQ w g B a fn caps blk K X) (hB : B.length ≤ 1000000000) (h : CI w g B a K X q M lo k m v1 v2 v3 v4 s W) (p : Int) :
  Calls Tryz.prog 193 #[.int .i64 p, .pointer (some ⟨w.heap.size, 0, none⟩), .pointer (some ⟨M, 0, none⟩)] W fun r W' => r = .returned (.tuple #[]) ∧ CI w g B a K X q M lo k { m with sea := (s.seal_ B).2 } v1 v2 v3 v4 (s.seal_ B).1 W' := by
 have p0 : W.cell? ⟨w.heap.size, 0, none⟩ = some (.pointer (some ⟨g, 0, none⟩)) := h.pa.cell 0
 have HI := hid h
 have HUU := hid hU
 have HR := hid (Sc W h.rd hB)
 generalize s.seal_ B = I at *
 obtain ⟨s1, e0, e1, e2⟩ := I
 dsimp only at *;unfold Tm at HR;clear h hU;go_enter Tryz.func193, Tryz.ntmps193
 go_wp2_with fail;refine HR.out.mono ?_
 rintro r w1 ⟨rfl, hst⟩;have HI1 := hid (HI.out.step HUU.out hst)
 have f9 := Gs HI1.out.pm 9
 have f10 := Gs HI1.out.pm 10
 have f11 := Gs HI1.out.pm 11
 obtain ⟨y0, y1, y2, y3, y4, y5, y6, y7, y8, y9, y10, y11, y12, y13, l1⟩ := Bt HI1.out.pm
 have HI2 := hid (HI1.out.KY HUU.out 9 (.int .u64 e0) (m' := { m with sea := ⟨e0, m.sea.node, m.sea.tail⟩ }) (v1' := v1) (v2' := v2) (v3' := v3) (v4' := v4) zX HI1.out.st HI1.out.ln HI1.out.da HI1.out.sp)
 have HI3 := hid (HI2.out.KY HUU.out 10 (.int .u64 e1) (m' := { m with sea := ⟨e0, e1, m.sea.tail⟩ }) (v1' := v1) (v2' := v2) (v3' := v3) (v4' := v4) zX HI2.out.st HI2.out.ln HI2.out.da HI2.out.sp)
 have HI4 := hid (HI3.out.KY HUU.out 11 (.int .u64 e2) (m' := { m with sea := ⟨e0, e1, e2⟩ }) (v1' := v1) (v2' := v2) (v3' := v3) (v4' := v4) zX HI3.out.st HI3.out.ln HI3.out.da HI3.out.sp)
 clear hst;go_wp2_with fail;first | go_end0 | refine Al (Aw rfl _ _ _) rfl ?_
 exact ⟨rfl, HI4.out⟩
theorem Rc {w : World} {g : Nat} {B : List UInt8} {a : Option Addr} {K : Nat → Prop} {X : World → Bool → Prop} {q : Bool} {M lo : Nat} {k : Int} {m : Msg} {v1 v2 v3 v4 : Value} {s : Rs} {W : World} {fn : Nat} {caps : Array Value} {blk : Rs → Rs × List UInt8 × Bool} (hU : BQ w g B a fn caps blk K X) (hB : B.length ≤ 1000000000) (h : CI w g B a K X q M lo k m v1 v2 v3 v4 s W) (p : Int) :
  Calls Tryz.prog 195 #[.int .i64 p, .pointer (some ⟨w.heap.size, 0, none⟩), .pointer (some ⟨M, 0, none⟩)] W fun r W' => r = .returned (.tuple #[]) ∧ ∃ v4', CI w g B a K X q M lo k { m with proj := (s.Ew B).2 } v1 v2 v3 v4' (s.Ew B).1 W' := by
 have p0 : W.cell? ⟨w.heap.size, 0, none⟩ = some (.pointer (some ⟨g, 0, none⟩)) := h.pa.cell 0
 have HI := hid h
 have HUU := hid hU
 have hwz := h.low
 have HR := hid (Sp W h.rd hB)
 generalize s.Ew B = I at *
 obtain ⟨s1, e0, L⟩ := I
 dsimp only at *;clear h hU;go_enter Tryz.func195, Tryz.ntmps195
 go_wp2_with fail;refine HR.out.mono ?_
 rintro r w1 ⟨v, rfl, hv, hst⟩;obtain ⟨a8, c8, hfv, _, _⟩ := AN hv
 simp only [Au, AO] at hfv
 subst hfv;have HI1 := hid (HI.out.step HUU.out hst)
 have HV := hid (Bg.mono hv fun b hb => (⟨zAg, hb.2⟩ : lo ≤ b ∧ b < w1.heap.size))
 have f12 := Gs HI1.out.pm 12
 have f13 := Gs HI1.out.pm 13
 obtain ⟨y0, y1, y2, y3, y4, y5, y6, y7, y8, y9, y10, y11, y12, y13, l1⟩ := Bt HI1.out.pm
 have HI2 := hid (HI1.out.KY HUU.out 12 (.int .u64 e0) (m' := { m with proj := ⟨e0, m.proj.stripes⟩ }) (v1' := v1) (v2' := v2) (v3' := v3) (v4' := v4) zX HI1.out.st HI1.out.ln HI1.out.da HI1.out.sp)
 have HV2 := hid (show Bg.r (fun b => lo ≤ b ∧ b < (w1.setCell ⟨M, 12, none⟩ (.int .u64 e0)).heap.size) (w1.setCell ⟨M, 12, none⟩ (.int .u64 e0)) [.slice a8 L.length c8] L from Bg.mono (Bg.keep HV.out fun b hb => AM _ _ _ _ (by have := hb.1; have := HI1.out.lm; dsimp only; omega)) fun b hb => ⟨hb.1, by rw [size_set]; exact hb.2⟩)
 clear hst hv;go_wp2_with fail;first | go_end0 | refine Al (Aw rfl _ _ _) rfl ?_
 exact ⟨rfl, _, HI2.out.KY HUU.out 13 _ zR HI2.out.st HI2.out.ln HI2.out.da HV2.out⟩
theorem Rs.Mr {B : List UInt8} {s : Rs} {pos : Int} (h : s.k ≠ 0) : s.links B pos = (s, []) := by
 unfold Rs.links;rw [Rs.Io h]
 rfl
theorem Rs.Vr {B : List UInt8} {s : Rs} (h : (s.seal_ B).1.k = 0) : s.k = 0 :=
 DF fun hh => hh (by rw [Rs.Kw hh] at h; exact h)
theorem Rs.Vv {B : List UInt8} {s : Rs} (h : (s.Ew B).1.k = 0) : s.k = 0 :=
 DF fun hh => hh (by rw [Rs.KJ hh] at h; exact h)
theorem Fh {α : Type} {h : Bool} {s : Rs} {f : Rs → Rs × α} {z : α} (hn : h = false ∨ s.k ≠ 0) (hb : s.k ≠ 0 → f s = (s, z)) : Rs.part h s f z = (s, z) := by
 cases h
 ·rfl
 ·exact hb (hn.resolve_left zP)
theorem Rh {w : World} {g : Nat} {B : List UInt8} {a : Option Addr} {K : Nat → Prop} {X : World → Bool → Prop} {q : Bool} {M lo : Nat} {k : Int} {m : Msg} {v1 v2 v3 v4 : Value} {s : Rs} {W : World} {fn : Nat} {caps : Array Value} {blk : Rs → Rs × List UInt8 × Bool} (hU : BQ w g B a fn caps blk K X) (h : CI w g B a K X q M lo k m v1 v2 v3 v4 s W) (P : World → Prop)
  (HC : AK k 1 = true → s.k = 0 → ∀ W' : World, Below W.heap.size W W' → Calls Tryz.prog 182 #[.int .i64 (s.p : Int), .pointer (some ⟨w.heap.size, 0, none⟩), .pointer (some ⟨M, 0, none⟩)] W' fun r W'' => r = .returned (.tuple #[]) ∧ P W'')
  (HN : (AK k 1 = false ∨ s.k ≠ 0) → ∀ W' : World, Below W.heap.size W W' → P W') :
  Calls Tryz.prog 181 #[.int .i64 1, .func (Fn.func 182) #[] #[.pointer (some ⟨w.heap.size, 0, none⟩), .pointer (some ⟨M, 0, none⟩)], .pointer (some ⟨w.heap.size + 1, 0, none⟩), .pointer (some ⟨w.heap.size, 0, none⟩)] W fun r W' => r = .returned (.tuple #[]) ∧ P W' := by
 have HH := hid (Da k 1 zS W)
 have HRD := hid h.rd
 have y0 : W.cell? ⟨w.heap.size + 1, 0, none⟩ = some (.int .i64 k) := h.pk.cell 0
 have p0 : W.cell? ⟨w.heap.size, 0, none⟩ = some (.pointer (some ⟨g, 0, none⟩)) := h.pa.cell 0
 have l0 := h.pa.lt
 have HCC := hid HC
 have HNN := hid HN
 clear h HC HN hU;generalize AK k 1 = H at *
 cases H
 ·go_enter Cb, BP
  go_wp2_with fail;refine HH.out.mono ?_
  rintro r w1 ⟨rfl, hb1⟩;have HP := hid (HNN.out (.inl ZD) w1 hb1)
  clear hb1;go_wp2_with fail;first | go_end0 | refine Al (Aw rfl _ _ _) rfl ?_
  exact ⟨rfl, HP.out⟩
 ·by_cases hk : s.k = 0
  ·have HG := hid (fun (V : World) (hV : AZ V g B a s) => (by have := AH V hV; rw [Ae hk] at this; exact this : Calls Tryz.prog 44 #[.pointer (some ⟨g, 0, none⟩)] V fun r w' => r = .returned (.bool true) ∧ Below V.heap.size V w'))
   have HC2 := hid (HCC.out ZD hk)
   clear hk;go_enter Cb, BP
   go_wp2_with fail;refine HH.out.mono ?_
   rintro r w1 ⟨rfl, hb1⟩;have p1 := (hb1.cell (p := ⟨w.heap.size, 0, none⟩) l0).trans p0
   have HRD1 := hid (HRD.out.later hb1)
   have HB1 := hid hb1
   have l1 := Ai l0 hb1.size
   clear hb1;go_wp2_with fail;refine (HG.out _ HRD1.out).mono ?_
   rintro r w2 ⟨rfl, hb2⟩;have p2 := (hb2.cell (p := ⟨w.heap.size, 0, none⟩) l1).trans p1
   have HRD2 := hid (HRD1.out.later hb2)
   have HB2 := hid (HB1.out.trans (hb2.mono HB1.out.size))
   clear hb2;go_wp2_with fail;refine (Cc _ HRD2.out).mono ?_
   rintro r w2' ⟨rfl, rfl⟩;go_wp2_with fail;refine (HC2.out _ HB2.out).mono ?_
   rintro r w3 ⟨rfl, hp⟩;have HP := hid hp
   clear hp;go_wp2_with fail;first | go_end0 | refine Al (Aw rfl _ _ _) rfl ?_
   exact ⟨rfl, HP.out⟩
  ·have HG := hid (fun (V : World) (hV : AZ V g B a s) => (by have := AH V hV; rw [Ad hk] at this; exact this : Calls Tryz.prog 44 #[.pointer (some ⟨g, 0, none⟩)] V fun r w' => r = .returned (.bool false) ∧ Below V.heap.size V w'))
   have HN2 := hid (HNN.out (.inr hk))
   clear hk;go_enter Cb, BP
   go_wp2_with fail;refine HH.out.mono ?_
   rintro r w1 ⟨rfl, hb1⟩;have p1 := (hb1.cell (p := ⟨w.heap.size, 0, none⟩) l0).trans p0
   have HRD1 := hid (HRD.out.later hb1)
   have HB1 := hid hb1
   clear hb1;go_wp2_with fail;refine (HG.out _ HRD1.out).mono ?_
   rintro r w2 ⟨rfl, hb2⟩;have HP := hid (HN2.out _ (HB1.out.trans (hb2.mono HB1.out.size)))
   clear hb2;go_wp2_with fail;first | go_end0 | refine Al (Aw rfl _ _ _) rfl ?_
   exact ⟨rfl, HP.out⟩
theorem Un {w : World} {g : Nat} {B : List UInt8} {a : Option Addr} {K : Nat → Prop} {X : World → Bool → Prop} {q : Bool} {M lo : Nat} {k : Int} {m : Msg} {v1 v2 v3 v4 : Value} {s : Rs} {W : World} {fn : Nat} {caps : Array Value} {blk : Rs → Rs × List UInt8 × Bool} (hU : BQ w g B a fn caps blk K X) (hB : B.length ≤ 1000000000) (h : CI w g B a K X q M lo k m v1 v2 v3 v4 s W) (hz : m.pos = (0 : Int)) :
  Calls Tryz.prog 181 #[.int .i64 1, .func (Fn.func 182) #[] #[.pointer (some ⟨w.heap.size, 0, none⟩), .pointer (some ⟨M, 0, none⟩)], .pointer (some ⟨w.heap.size + 1, 0, none⟩), .pointer (some ⟨w.heap.size, 0, none⟩)] W fun r W' => r = .returned (.tuple #[]) ∧ CI w g B a K X q M lo k { m with pos := (Rs.part (AK k 1) s (Rs.Ht B) 0).2 } v1 v2 v3 v4 (Rs.part (AK k 1) s (Rs.Ht B) 0).1 W' := by
 refine Rh hU h (fun W' => CI w g B a K X q M lo k { m with pos := (Rs.part (AK k 1) s (Rs.Ht B) 0).2 } v1 v2 v3 v4 (Rs.part (AK k 1) s (Rs.Ht B) 0).1 W') (fun hh hk W' hb => ?_) (fun hn W' hb => ?_)
 ·have := SO hU hB (h.later hU hb) s.p
  rw [hh]
  exact this
 ·rw [Fh hn fun e => Rs.Qm e]
  have e : { m with pos := (0 : Int) } = m := by
   cases m;dsimp only at hz;subst hz;rfl
  dsimp only;rw [e]
  exact h.later hU hb
theorem Rg {w : World} {g : Nat} {B : List UInt8} {a : Option Addr} {K : Nat → Prop} {X : World → Bool → Prop} {q : Bool} {M lo : Nat} {k : Int} {m : Msg} {v1 v2 v3 v4 : Value} {s : Rs} {W : World} {fn : Nat} {caps : Array Value} {blk : Rs → Rs × List UInt8 × Bool} (hU : BQ w g B a fn caps blk K X) (h : CI w g B a K X q M lo k m v1 v2 v3 v4 s W) (P : World → Prop)
  (HC : AK k 2 = true → s.k = 0 → ∀ W' : World, Below W.heap.size W W' → Calls Tryz.prog 184 #[.int .i64 (s.p : Int), .pointer (some ⟨w.heap.size, 0, none⟩), .pointer (some ⟨M, 0, none⟩)] W' fun r W'' => r = .returned (.tuple #[]) ∧ P W'')
  (HN : (AK k 2 = false ∨ s.k ≠ 0) → ∀ W' : World, Below W.heap.size W W' → P W') :
  Calls Tryz.prog 181 #[.int .i64 2, .func (Fn.func 184) #[] #[.pointer (some ⟨w.heap.size, 0, none⟩), .pointer (some ⟨M, 0, none⟩)], .pointer (some ⟨w.heap.size + 1, 0, none⟩), .pointer (some ⟨w.heap.size, 0, none⟩)] W fun r W' => r = .returned (.tuple #[]) ∧ P W' := by
 have HH := hid (Da k 2 zS W)
 have HRD := hid h.rd
 have y0 : W.cell? ⟨w.heap.size + 1, 0, none⟩ = some (.int .i64 k) := h.pk.cell 0
 have p0 : W.cell? ⟨w.heap.size, 0, none⟩ = some (.pointer (some ⟨g, 0, none⟩)) := h.pa.cell 0
 have l0 := h.pa.lt
 have HCC := hid HC
 have HNN := hid HN
 clear h HC HN hU;generalize AK k 2 = H at *
 cases H
 ·go_enter Cb, BP
  go_wp2_with fail;refine HH.out.mono ?_
  rintro r w1 ⟨rfl, hb1⟩;have HP := hid (HNN.out (.inl ZD) w1 hb1)
  clear hb1;go_wp2_with fail;first | go_end0 | refine Al (Aw rfl _ _ _) rfl ?_
  exact ⟨rfl, HP.out⟩
 ·by_cases hk : s.k = 0
  ·have HG := hid (fun (V : World) (hV : AZ V g B a s) => (by have := AH V hV; rw [Ae hk] at this; exact this : Calls Tryz.prog 44 #[.pointer (some ⟨g, 0, none⟩)] V fun r w' => r = .returned (.bool true) ∧ Below V.heap.size V w'))
   have HC2 := hid (HCC.out ZD hk)
   clear hk;go_enter Cb, BP
   go_wp2_with fail;refine HH.out.mono ?_
   rintro r w1 ⟨rfl, hb1⟩;have p1 := (hb1.cell (p := ⟨w.heap.size, 0, none⟩) l0).trans p0
   have HRD1 := hid (HRD.out.later hb1)
   have HB1 := hid hb1
   have l1 := Ai l0 hb1.size
   clear hb1;go_wp2_with fail;refine (HG.out _ HRD1.out).mono ?_
   rintro r w2 ⟨rfl, hb2⟩;have p2 := (hb2.cell (p := ⟨w.heap.size, 0, none⟩) l1).trans p1
   have HRD2 := hid (HRD1.out.later hb2)
   have HB2 := hid (HB1.out.trans (hb2.mono HB1.out.size))
   clear hb2;go_wp2_with fail;refine (Cc _ HRD2.out).mono ?_
   rintro r w2' ⟨rfl, rfl⟩;go_wp2_with fail;refine (HC2.out _ HB2.out).mono ?_
   rintro r w3 ⟨rfl, hp⟩;have HP := hid hp
   clear hp;go_wp2_with fail;first | go_end0 | refine Al (Aw rfl _ _ _) rfl ?_
   exact ⟨rfl, HP.out⟩
  ·have HG := hid (fun (V : World) (hV : AZ V g B a s) => (by have := AH V hV; rw [Ad hk] at this; exact this : Calls Tryz.prog 44 #[.pointer (some ⟨g, 0, none⟩)] V fun r w' => r = .returned (.bool false) ∧ Below V.heap.size V w'))
   have HN2 := hid (HNN.out (.inr hk))
   clear hk;go_enter Cb, BP
   go_wp2_with fail;refine HH.out.mono ?_
   rintro r w1 ⟨rfl, hb1⟩;have p1 := (hb1.cell (p := ⟨w.heap.size, 0, none⟩) l0).trans p0
   have HRD1 := hid (HRD.out.later hb1)
   have HB1 := hid hb1
   clear hb1;go_wp2_with fail;refine (HG.out _ HRD1.out).mono ?_
   rintro r w2 ⟨rfl, hb2⟩;have HP := hid (HN2.out _ (HB1.out.trans (hb2.mono HB1.out.size)))
   clear hb2;go_wp2_with fail;first | go_end0 | refine Al (Aw rfl _ _ _) rfl ?_
   exact ⟨rfl, HP.out⟩
theorem Um {w : World} {g : Nat} {B : List UInt8} {a : Option Addr} {K : Nat → Prop} {X : World → Bool → Prop} {q : Bool} {M lo : Nat} {k : Int} {m : Msg} {v1 v2 v3 v4 : Value} {s : Rs} {W : World} {fn : Nat} {caps : Array Value} {blk : Rs → Rs × List UInt8 × Bool} (hU : BQ w g B a fn caps blk K X) (hB : B.length ≤ 1000000000) (h : CI w g B a K X q M lo k m v1 v2 v3 v4 s W) (hz : m.count = (0 : Int)) :
  Calls Tryz.prog 181 #[.int .i64 2, .func (Fn.func 184) #[] #[.pointer (some ⟨w.heap.size, 0, none⟩), .pointer (some ⟨M, 0, none⟩)], .pointer (some ⟨w.heap.size + 1, 0, none⟩), .pointer (some ⟨w.heap.size, 0, none⟩)] W fun r W' => r = .returned (.tuple #[]) ∧ CI w g B a K X q M lo k { m with count := (Rs.part (AK k 2) s (Rs.cnt B) 0).2 } v1 v2 v3 v4 (Rs.part (AK k 2) s (Rs.cnt B) 0).1 W' := by
 refine Rg hU h (fun W' => CI w g B a K X q M lo k { m with count := (Rs.part (AK k 2) s (Rs.cnt B) 0).2 } v1 v2 v3 v4 (Rs.part (AK k 2) s (Rs.cnt B) 0).1 W') (fun hh hk W' hb => ?_) (fun hn W' hb => ?_)
 ·have := Pu hU hB (h.later hU hb) s.p
  rw [hh]
  exact this.mono fun r V ⟨h1, h2⟩ => ⟨h1, h2 rfl⟩
 ·rw [Fh hn fun e => Rs.Q5 e]
  have e : { m with count := (0 : Int) } = m := by
   cases m;dsimp only at hz;subst hz;rfl
  dsimp only;rw [e]
  exact h.later hU hb
theorem Rf {w : World} {g : Nat} {B : List UInt8} {a : Option Addr} {K : Nat → Prop} {X : World → Bool → Prop} {q : Bool} {M lo : Nat} {k : Int} {m : Msg} {v1 v2 v3 v4 : Value} {s : Rs} {W : World} {fn : Nat} {caps : Array Value} {blk : Rs → Rs × List UInt8 × Bool} (hU : BQ w g B a fn caps blk K X) (h : CI w g B a K X q M lo k m v1 v2 v3 v4 s W) (P : World → Prop)
  (HC : AK k 4 = true → s.k = 0 → ∀ W' : World, Below W.heap.size W W' → Calls Tryz.prog 187 #[.int .i64 (s.p : Int), .pointer (some ⟨w.heap.size, 0, none⟩), .pointer (some ⟨M, 0, none⟩), .pointer (some ⟨w.heap.size + 1, 0, none⟩)] W' fun r W'' => r = .returned (.tuple #[]) ∧ P W'')
  (HN : (AK k 4 = false ∨ s.k ≠ 0) → ∀ W' : World, Below W.heap.size W W' → P W') :
  Calls Tryz.prog 181 #[.int .i64 4, .func (Fn.func 187) #[] #[.pointer (some ⟨w.heap.size, 0, none⟩), .pointer (some ⟨M, 0, none⟩), .pointer (some ⟨w.heap.size + 1, 0, none⟩)], .pointer (some ⟨w.heap.size + 1, 0, none⟩), .pointer (some ⟨w.heap.size, 0, none⟩)] W fun r W' => r = .returned (.tuple #[]) ∧ P W' := by
 have HH := hid (Da k 4 zS W)
 have HRD := hid h.rd
 have y0 : W.cell? ⟨w.heap.size + 1, 0, none⟩ = some (.int .i64 k) := h.pk.cell 0
 have p0 : W.cell? ⟨w.heap.size, 0, none⟩ = some (.pointer (some ⟨g, 0, none⟩)) := h.pa.cell 0
 have l0 := h.pa.lt
 have HCC := hid HC
 have HNN := hid HN
 clear h HC HN hU;generalize AK k 4 = H at *
 cases H
 ·go_enter Cb, BP
  go_wp2_with fail;refine HH.out.mono ?_
  rintro r w1 ⟨rfl, hb1⟩;have HP := hid (HNN.out (.inl ZD) w1 hb1)
  clear hb1;go_wp2_with fail;first | go_end0 | refine Al (Aw rfl _ _ _) rfl ?_
  exact ⟨rfl, HP.out⟩
 ·by_cases hk : s.k = 0
  ·have HG := hid (fun (V : World) (hV : AZ V g B a s) => (by have := AH V hV; rw [Ae hk] at this; exact this : Calls Tryz.prog 44 #[.pointer (some ⟨g, 0, none⟩)] V fun r w' => r = .returned (.bool true) ∧ Below V.heap.size V w'))
   have HC2 := hid (HCC.out ZD hk)
   clear hk;go_enter Cb, BP
   go_wp2_with fail;refine HH.out.mono ?_
   rintro r w1 ⟨rfl, hb1⟩;have p1 := (hb1.cell (p := ⟨w.heap.size, 0, none⟩) l0).trans p0
   have HRD1 := hid (HRD.out.later hb1)
   have HB1 := hid hb1
   have l1 := Ai l0 hb1.size
   clear hb1;go_wp2_with fail;refine (HG.out _ HRD1.out).mono ?_
   rintro r w2 ⟨rfl, hb2⟩;have p2 := (hb2.cell (p := ⟨w.heap.size, 0, none⟩) l1).trans p1
   have HRD2 := hid (HRD1.out.later hb2)
   have HB2 := hid (HB1.out.trans (hb2.mono HB1.out.size))
   clear hb2;go_wp2_with fail;refine (Cc _ HRD2.out).mono ?_
   rintro r w2' ⟨rfl, rfl⟩;go_wp2_with fail;refine (HC2.out _ HB2.out).mono ?_
   rintro r w3 ⟨rfl, hp⟩;have HP := hid hp
   clear hp;go_wp2_with fail;first | go_end0 | refine Al (Aw rfl _ _ _) rfl ?_
   exact ⟨rfl, HP.out⟩
  ·have HG := hid (fun (V : World) (hV : AZ V g B a s) => (by have := AH V hV; rw [Ad hk] at this; exact this : Calls Tryz.prog 44 #[.pointer (some ⟨g, 0, none⟩)] V fun r w' => r = .returned (.bool false) ∧ Below V.heap.size V w'))
   have HN2 := hid (HNN.out (.inr hk))
   clear hk;go_enter Cb, BP
   go_wp2_with fail;refine HH.out.mono ?_
   rintro r w1 ⟨rfl, hb1⟩;have p1 := (hb1.cell (p := ⟨w.heap.size, 0, none⟩) l0).trans p0
   have HRD1 := hid (HRD.out.later hb1)
   have HB1 := hid hb1
   clear hb1;go_wp2_with fail;refine (HG.out _ HRD1.out).mono ?_
   rintro r w2 ⟨rfl, hb2⟩;have HP := hid (HN2.out _ (HB1.out.trans (hb2.mono HB1.out.size)))
   clear hb2;go_wp2_with fail;first | go_end0 | refine Al (Aw rfl _ _ _) rfl ?_
   exact ⟨rfl, HP.out⟩
theorem Ul {w : World} {g : Nat} {B : List UInt8} {a : Option Addr} {K : Nat → Prop} {X : World → Bool → Prop} {q : Bool} {M lo : Nat} {k : Int} {m : Msg} {v1 v2 v3 v4 : Value} {s : Rs} {W : World} {fn : Nat} {caps : Array Value} {blk : Rs → Rs × List UInt8 × Bool} (hU : BQ w g B a fn caps blk K X) (hB : B.length ≤ 1000000000) (h : CI w g B a K X q M lo k m v1 v2 v3 v4 s W) (hz : m.state = (0 : Int)) :
  Calls Tryz.prog 181 #[.int .i64 4, .func (Fn.func 187) #[] #[.pointer (some ⟨w.heap.size, 0, none⟩), .pointer (some ⟨M, 0, none⟩), .pointer (some ⟨w.heap.size + 1, 0, none⟩)], .pointer (some ⟨w.heap.size + 1, 0, none⟩), .pointer (some ⟨w.heap.size, 0, none⟩)] W fun r W' => r = .returned (.tuple #[]) ∧ CI w g B a K X q M lo k { m with state := (Rs.part (AK k 4) s (Rs.stt B k) 0).2 } v1 v2 v3 v4 (Rs.part (AK k 4) s (Rs.stt B k) 0).1 W' := by
 refine Rf hU h (fun W' => CI w g B a K X q M lo k { m with state := (Rs.part (AK k 4) s (Rs.stt B k) 0).2 } v1 v2 v3 v4 (Rs.part (AK k 4) s (Rs.stt B k) 0).1 W') (fun hh hk W' hb => ?_) (fun hn W' hb => ?_)
 ·have := Pq hU hB (h.later hU hb) s.p
  rw [hh]
  exact this.mono fun r V ⟨h1, h2⟩ => ⟨h1, h2 rfl⟩
 ·rw [Fh hn fun e => Rs.PN e]
  have e : { m with state := (0 : Int) } = m := by
   cases m;dsimp only at hz;subst hz;rfl
  dsimp only;rw [e]
  exact h.later hU hb
theorem Re {w : World} {g : Nat} {B : List UInt8} {a : Option Addr} {K : Nat → Prop} {X : World → Bool → Prop} {q : Bool} {M lo : Nat} {k : Int} {m : Msg} {v1 v2 v3 v4 : Value} {s : Rs} {W : World} {fn : Nat} {caps : Array Value} {blk : Rs → Rs × List UInt8 × Bool} (hU : BQ w g B a fn caps blk K X) (h : CI w g B a K X q M lo k m v1 v2 v3 v4 s W) (P : World → Prop)
  (HC : AK k 8 = true → s.k = 0 → ∀ W' : World, Below W.heap.size W W' → Calls Tryz.prog 189 #[.int .i64 (s.p : Int), .pointer (some ⟨w.heap.size, 0, none⟩), .pointer (some ⟨M, 0, none⟩)] W' fun r W'' => r = .returned (.tuple #[]) ∧ P W'')
  (HN : (AK k 8 = false ∨ s.k ≠ 0) → ∀ W' : World, Below W.heap.size W W' → P W') :
  Calls Tryz.prog 181 #[.int .i64 8, .func (Fn.func 189) #[] #[.pointer (some ⟨w.heap.size, 0, none⟩), .pointer (some ⟨M, 0, none⟩)], .pointer (some ⟨w.heap.size + 1, 0, none⟩), .pointer (some ⟨w.heap.size, 0, none⟩)] W fun r W' => r = .returned (.tuple #[]) ∧ P W' := by
 have HH := hid (Da k 8 zS W)
 have HRD := hid h.rd
 have y0 : W.cell? ⟨w.heap.size + 1, 0, none⟩ = some (.int .i64 k) := h.pk.cell 0
 have p0 : W.cell? ⟨w.heap.size, 0, none⟩ = some (.pointer (some ⟨g, 0, none⟩)) := h.pa.cell 0
 have l0 := h.pa.lt
 have HCC := hid HC
 have HNN := hid HN
 clear h HC HN hU;generalize AK k 8 = H at *
 cases H
 ·go_enter Cb, BP
  go_wp2_with fail;refine HH.out.mono ?_
  rintro r w1 ⟨rfl, hb1⟩;have HP := hid (HNN.out (.inl ZD) w1 hb1)
  clear hb1;go_wp2_with fail;first | go_end0 | refine Al (Aw rfl _ _ _) rfl ?_
  exact ⟨rfl, HP.out⟩
 ·by_cases hk : s.k = 0
  ·have HG := hid (fun (V : World) (hV : AZ V g B a s) => (by have := AH V hV; rw [Ae hk] at this; exact this : Calls Tryz.prog 44 #[.pointer (some ⟨g, 0, none⟩)] V fun r w' => r = .returned (.bool true) ∧ Below V.heap.size V w'))
   have HC2 := hid (HCC.out ZD hk)
   clear hk;go_enter Cb, BP
   go_wp2_with fail;refine HH.out.mono ?_
   rintro r w1 ⟨rfl, hb1⟩;have p1 := (hb1.cell (p := ⟨w.heap.size, 0, none⟩) l0).trans p0
   have HRD1 := hid (HRD.out.later hb1)
   have HB1 := hid hb1
   have l1 := Ai l0 hb1.size
   clear hb1;go_wp2_with fail;refine (HG.out _ HRD1.out).mono ?_
   rintro r w2 ⟨rfl, hb2⟩;have p2 := (hb2.cell (p := ⟨w.heap.size, 0, none⟩) l1).trans p1
   have HRD2 := hid (HRD1.out.later hb2)
   have HB2 := hid (HB1.out.trans (hb2.mono HB1.out.size))
   clear hb2;go_wp2_with fail;refine (Cc _ HRD2.out).mono ?_
   rintro r w2' ⟨rfl, rfl⟩;go_wp2_with fail;refine (HC2.out _ HB2.out).mono ?_
   rintro r w3 ⟨rfl, hp⟩;have HP := hid hp
   clear hp;go_wp2_with fail;first | go_end0 | refine Al (Aw rfl _ _ _) rfl ?_
   exact ⟨rfl, HP.out⟩
  ·have HG := hid (fun (V : World) (hV : AZ V g B a s) => (by have := AH V hV; rw [Ad hk] at this; exact this : Calls Tryz.prog 44 #[.pointer (some ⟨g, 0, none⟩)] V fun r w' => r = .returned (.bool false) ∧ Below V.heap.size V w'))
   have HN2 := hid (HNN.out (.inr hk))
   clear hk;go_enter Cb, BP
   go_wp2_with fail;refine HH.out.mono ?_
   rintro r w1 ⟨rfl, hb1⟩;have p1 := (hb1.cell (p := ⟨w.heap.size, 0, none⟩) l0).trans p0
   have HRD1 := hid (HRD.out.later hb1)
   have HB1 := hid hb1
   clear hb1;go_wp2_with fail;refine (HG.out _ HRD1.out).mono ?_
   rintro r w2 ⟨rfl, hb2⟩;have HP := hid (HN2.out _ (HB1.out.trans (hb2.mono HB1.out.size)))
   clear hb2;go_wp2_with fail;first | go_end0 | refine Al (Aw rfl _ _ _) rfl ?_
   exact ⟨rfl, HP.out⟩
theorem Uk {w : World} {g : Nat} {B : List UInt8} {a : Option Addr} {K : Nat → Prop} {X : World → Bool → Prop} {q : Bool} {M lo : Nat} {k : Int} {m : Msg} {v1 v2 v3 v4 : Value} {s : Rs} {W : World} {fn : Nat} {caps : Array Value} {blk : Rs → Rs × List UInt8 × Bool} (hU : BQ w g B a fn caps blk K X) (hB : B.length ≤ 1000000000) (h : CI w g B a K X q M lo k m v1 v2 v3 v4 s W) (hz : m.streams = ([] : List Int)) :
  Calls Tryz.prog 181 #[.int .i64 8, .func (Fn.func 189) #[] #[.pointer (some ⟨w.heap.size, 0, none⟩), .pointer (some ⟨M, 0, none⟩)], .pointer (some ⟨w.heap.size + 1, 0, none⟩), .pointer (some ⟨w.heap.size, 0, none⟩)] W fun r W' => r = .returned (.tuple #[]) ∧ ∃ v1', CI w g B a K X q M lo k { m with streams := (Rs.part (AK k 8) s (Rs.Jd B) []).2 } v1' v2 v3 v4 (Rs.part (AK k 8) s (Rs.Jd B) []).1 W' := by
 refine Re hU h (fun W' => ∃ v1', CI w g B a K X q M lo k { m with streams := (Rs.part (AK k 8) s (Rs.Jd B) []).2 } v1' v2 v3 v4 (Rs.part (AK k 8) s (Rs.Jd B) []).1 W') (fun hh hk W' hb => ?_) (fun hn W' hb => ?_)
 ·have := Mx hU hB (h.later hU hb) s.p
  rw [hh]
  exact this
 ·rw [Fh hn fun e => Rs.Od e]
  have e : { m with streams := ([] : List Int) } = m := by
   cases m;dsimp only at hz;subst hz;rfl
  dsimp only;rw [e]
  exact ⟨_, h.later hU hb⟩
theorem Pt {w : World} {g : Nat} {B : List UInt8} {a : Option Addr} {K : Nat → Prop} {X : World → Bool → Prop} {q : Bool} {M lo : Nat} {k : Int} {m : Msg} {v1 v2 v3 v4 : Value} {s : Rs} {W : World} {fn : Nat} {caps : Array Value} {blk : Rs → Rs × List UInt8 × Bool} (hU : BQ w g B a fn caps blk K X) (h : CI w g B a K X q M lo k m v1 v2 v3 v4 s W) (P : World → Prop)
  (HC : AK k 16 = true → s.k = 0 → ∀ W' : World, Below W.heap.size W W' → Calls Tryz.prog 191 #[.int .i64 (s.p : Int), .pointer (some ⟨w.heap.size, 0, none⟩), .pointer (some ⟨M, 0, none⟩)] W' fun r W'' => r = .returned (.tuple #[]) ∧ P W'')
  (HN : (AK k 16 = false ∨ s.k ≠ 0) → ∀ W' : World, Below W.heap.size W W' → P W') :
  Calls Tryz.prog 181 #[.int .i64 16, .func (Fn.func 191) #[] #[.pointer (some ⟨w.heap.size, 0, none⟩), .pointer (some ⟨M, 0, none⟩)], .pointer (some ⟨w.heap.size + 1, 0, none⟩), .pointer (some ⟨w.heap.size, 0, none⟩)] W fun r W' => r = .returned (.tuple #[]) ∧ P W' := by
 have HH := hid (Da k 16 zS W)
 have HRD := hid h.rd
 have y0 : W.cell? ⟨w.heap.size + 1, 0, none⟩ = some (.int .i64 k) := h.pk.cell 0
 have p0 : W.cell? ⟨w.heap.size, 0, none⟩ = some (.pointer (some ⟨g, 0, none⟩)) := h.pa.cell 0
 have l0 := h.pa.lt
 have HCC := hid HC
 have HNN := hid HN
 clear h HC HN hU;generalize AK k 16 = H at *
 cases H
 ·go_enter Cb, BP
  go_wp2_with fail;refine HH.out.mono ?_
  rintro r w1 ⟨rfl, hb1⟩;have HP := hid (HNN.out (.inl ZD) w1 hb1)
  clear hb1;go_wp2_with fail;first | go_end0 | refine Al (Aw rfl _ _ _) rfl ?_
  exact ⟨rfl, HP.out⟩
 ·by_cases hk : s.k = 0
  ·have HG := hid (fun (V : World) (hV : AZ V g B a s) => (by have := AH V hV; rw [Ae hk] at this; exact this : Calls Tryz.prog 44 #[.pointer (some ⟨g, 0, none⟩)] V fun r w' => r = .returned (.bool true) ∧ Below V.heap.size V w'))
   have HC2 := hid (HCC.out ZD hk)
   clear hk;go_enter Cb, BP
   go_wp2_with fail;refine HH.out.mono ?_
   rintro r w1 ⟨rfl, hb1⟩;have p1 := (hb1.cell (p := ⟨w.heap.size, 0, none⟩) l0).trans p0
   have HRD1 := hid (HRD.out.later hb1)
   have HB1 := hid hb1
   have l1 := Ai l0 hb1.size
   clear hb1;go_wp2_with fail;refine (HG.out _ HRD1.out).mono ?_
   rintro r w2 ⟨rfl, hb2⟩;have p2 := (hb2.cell (p := ⟨w.heap.size, 0, none⟩) l1).trans p1
   have HRD2 := hid (HRD1.out.later hb2)
   have HB2 := hid (HB1.out.trans (hb2.mono HB1.out.size))
   clear hb2;go_wp2_with fail;refine (Cc _ HRD2.out).mono ?_
   rintro r w2' ⟨rfl, rfl⟩;go_wp2_with fail;refine (HC2.out _ HB2.out).mono ?_
   rintro r w3 ⟨rfl, hp⟩;have HP := hid hp
   clear hp;go_wp2_with fail;first | go_end0 | refine Al (Aw rfl _ _ _) rfl ?_
   exact ⟨rfl, HP.out⟩
  ·have HG := hid (fun (V : World) (hV : AZ V g B a s) => (by have := AH V hV; rw [Ad hk] at this; exact this : Calls Tryz.prog 44 #[.pointer (some ⟨g, 0, none⟩)] V fun r w' => r = .returned (.bool false) ∧ Below V.heap.size V w'))
   have HN2 := hid (HNN.out (.inr hk))
   clear hk;go_enter Cb, BP
   go_wp2_with fail;refine HH.out.mono ?_
   rintro r w1 ⟨rfl, hb1⟩;have p1 := (hb1.cell (p := ⟨w.heap.size, 0, none⟩) l0).trans p0
   have HRD1 := hid (HRD.out.later hb1)
   have HB1 := hid hb1
   clear hb1;go_wp2_with fail;refine (HG.out _ HRD1.out).mono ?_
   rintro r w2 ⟨rfl, hb2⟩;have HP := hid (HN2.out _ (HB1.out.trans (hb2.mono HB1.out.size)))
   clear hb2;go_wp2_with fail;first | go_end0 | refine Al (Aw rfl _ _ _) rfl ?_
   exact ⟨rfl, HP.out⟩
theorem SQ {w : World} {g : Nat} {B : List UInt8} {a : Option Addr} {K : Nat → Prop} {X : World → Bool → Prop} {q : Bool} {M lo : Nat} {k : Int} {m : Msg} {v1 v2 v3 v4 : Value} {s : Rs} {W : World} {fn : Nat} {caps : Array Value} {blk : Rs → Rs × List UInt8 × Bool} (hU : BQ w g B a fn caps blk K X) (hB : B.length ≤ 1000000000) (h : CI w g B a K X q M lo k m v1 v2 v3 v4 s W) (hz : m.links = ([] : List BM)) (hpos : 0 ≤ m.pos ∧ m.pos ≤ 18446744073709551615) :
  Calls Tryz.prog 181 #[.int .i64 16, .func (Fn.func 191) #[] #[.pointer (some ⟨w.heap.size, 0, none⟩), .pointer (some ⟨M, 0, none⟩)], .pointer (some ⟨w.heap.size + 1, 0, none⟩), .pointer (some ⟨w.heap.size, 0, none⟩)] W fun r W' => r = .returned (.tuple #[]) ∧ ∃ v2', CI w g B a K X q M lo k { m with links := (Rs.part (AK k 16) s (fun t => t.links B m.pos) []).2 } v1 v2' v3 v4 (Rs.part (AK k 16) s (fun t => t.links B m.pos) []).1 W' := by
 refine Pt hU h (fun W' => ∃ v2', CI w g B a K X q M lo k { m with links := (Rs.part (AK k 16) s (fun t => t.links B m.pos) []).2 } v1 v2' v3 v4 (Rs.part (AK k 16) s (fun t => t.links B m.pos) []).1 W') (fun hh hk W' hb => ?_) (fun hn W' hb => ?_)
 ·have := Pr hU hB (h.later hU hb) s.p hpos
  rw [hh]
  exact this
 ·rw [Fh hn fun e => Rs.Mr e]
  have e : { m with links := ([] : List BM) } = m := by
   cases m;dsimp only at hz;subst hz;rfl
  dsimp only;rw [e]
  exact ⟨_, h.later hU hb⟩
theorem Ps {w : World} {g : Nat} {B : List UInt8} {a : Option Addr} {K : Nat → Prop} {X : World → Bool → Prop} {q : Bool} {M lo : Nat} {k : Int} {m : Msg} {v1 v2 v3 v4 : Value} {s : Rs} {W : World} {fn : Nat} {caps : Array Value} {blk : Rs → Rs × List UInt8 × Bool} (hU : BQ w g B a fn caps blk K X) (h : CI w g B a K X q M lo k m v1 v2 v3 v4 s W) (P : World → Prop)
  (HC : AK k 64 = true → s.k = 0 → ∀ W' : World, Below W.heap.size W W' → Calls Tryz.prog 193 #[.int .i64 (s.p : Int), .pointer (some ⟨w.heap.size, 0, none⟩), .pointer (some ⟨M, 0, none⟩)] W' fun r W'' => r = .returned (.tuple #[]) ∧ P W'')
  (HN : (AK k 64 = false ∨ s.k ≠ 0) → ∀ W' : World, Below W.heap.size W W' → P W') :
  Calls Tryz.prog 181 #[.int .i64 64, .func (Fn.func 193) #[] #[.pointer (some ⟨w.heap.size, 0, none⟩), .pointer (some ⟨M, 0, none⟩)], .pointer (some ⟨w.heap.size + 1, 0, none⟩), .pointer (some ⟨w.heap.size, 0, none⟩)] W fun r W' => r = .returned (.tuple #[]) ∧ P W' := by
 have HH := hid (Da k 64 zS W)
 have HRD := hid h.rd
 have y0 : W.cell? ⟨w.heap.size + 1, 0, none⟩ = some (.int .i64 k) := h.pk.cell 0
 have p0 : W.cell? ⟨w.heap.size, 0, none⟩ = some (.pointer (some ⟨g, 0, none⟩)) := h.pa.cell 0
 have l0 := h.pa.lt
 have HCC := hid HC
 have HNN := hid HN
 clear h HC HN hU;generalize AK k 64 = H at *
 cases H
 ·go_enter Cb, BP
  go_wp2_with fail;refine HH.out.mono ?_
  rintro r w1 ⟨rfl, hb1⟩;have HP := hid (HNN.out (.inl ZD) w1 hb1)
  clear hb1;go_wp2_with fail;first | go_end0 | refine Al (Aw rfl _ _ _) rfl ?_
  exact ⟨rfl, HP.out⟩
 ·by_cases hk : s.k = 0
  ·have HG := hid (fun (V : World) (hV : AZ V g B a s) => (by have := AH V hV; rw [Ae hk] at this; exact this : Calls Tryz.prog 44 #[.pointer (some ⟨g, 0, none⟩)] V fun r w' => r = .returned (.bool true) ∧ Below V.heap.size V w'))
   have HC2 := hid (HCC.out ZD hk)
   clear hk;go_enter Cb, BP
   go_wp2_with fail;refine HH.out.mono ?_
   rintro r w1 ⟨rfl, hb1⟩;have p1 := (hb1.cell (p := ⟨w.heap.size, 0, none⟩) l0).trans p0
   have HRD1 := hid (HRD.out.later hb1)
   have HB1 := hid hb1
   have l1 := Ai l0 hb1.size
   clear hb1;go_wp2_with fail;refine (HG.out _ HRD1.out).mono ?_
   rintro r w2 ⟨rfl, hb2⟩;have p2 := (hb2.cell (p := ⟨w.heap.size, 0, none⟩) l1).trans p1
   have HRD2 := hid (HRD1.out.later hb2)
   have HB2 := hid (HB1.out.trans (hb2.mono HB1.out.size))
   clear hb2;go_wp2_with fail;refine (Cc _ HRD2.out).mono ?_
   rintro r w2' ⟨rfl, rfl⟩;go_wp2_with fail;refine (HC2.out _ HB2.out).mono ?_
   rintro r w3 ⟨rfl, hp⟩;have HP := hid hp
   clear hp;go_wp2_with fail;first | go_end0 | refine Al (Aw rfl _ _ _) rfl ?_
   exact ⟨rfl, HP.out⟩
  ·have HG := hid (fun (V : World) (hV : AZ V g B a s) => (by have := AH V hV; rw [Ad hk] at this; exact this : Calls Tryz.prog 44 #[.pointer (some ⟨g, 0, none⟩)] V fun r w' => r = .returned (.bool false) ∧ Below V.heap.size V w'))
   have HN2 := hid (HNN.out (.inr hk))
   clear hk;go_enter Cb, BP
   go_wp2_with fail;refine HH.out.mono ?_
   rintro r w1 ⟨rfl, hb1⟩;have p1 := (hb1.cell (p := ⟨w.heap.size, 0, none⟩) l0).trans p0
   have HRD1 := hid (HRD.out.later hb1)
   have HB1 := hid hb1
   clear hb1;go_wp2_with fail;refine (HG.out _ HRD1.out).mono ?_
   rintro r w2 ⟨rfl, hb2⟩;have HP := hid (HN2.out _ (HB1.out.trans (hb2.mono HB1.out.size)))
   clear hb2;go_wp2_with fail;first | go_end0 | refine Al (Aw rfl _ _ _) rfl ?_
   exact ⟨rfl, HP.out⟩
theorem SP {w : World} {g : Nat} {B : List UInt8} {a : Option Addr} {K : Nat → Prop} {X : World → Bool → Prop} {q : Bool} {M lo : Nat} {k : Int} {m : Msg} {v1 v2 v3 v4 : Value} {s : Rs} {W : World} {fn : Nat} {caps : Array Value} {blk : Rs → Rs × List UInt8 × Bool} (hU : BQ w g B a fn caps blk K X) (hB : B.length ≤ 1000000000) (h : CI w g B a K X q M lo k m v1 v2 v3 v4 s W) (hz : m.sea = Dw) :
  Calls Tryz.prog 181 #[.int .i64 64, .func (Fn.func 193) #[] #[.pointer (some ⟨w.heap.size, 0, none⟩), .pointer (some ⟨M, 0, none⟩)], .pointer (some ⟨w.heap.size + 1, 0, none⟩), .pointer (some ⟨w.heap.size, 0, none⟩)] W fun r W' => r = .returned (.tuple #[]) ∧ CI w g B a K X q M lo k { m with sea := (Rs.part (AK k 64) s (Rs.seal_ B) Dw).2 } v1 v2 v3 v4 (Rs.part (AK k 64) s (Rs.seal_ B) Dw).1 W' := by
 refine Ps hU h (fun W' => CI w g B a K X q M lo k { m with sea := (Rs.part (AK k 64) s (Rs.seal_ B) Dw).2 } v1 v2 v3 v4 (Rs.part (AK k 64) s (Rs.seal_ B) Dw).1 W') (fun hh hk W' hb => ?_) (fun hn W' hb => ?_)
 ·have := Rb hU hB (h.later hU hb) s.p
  rw [hh]
  exact this
 ·rw [Fh hn fun e => Rs.Kw e]
  have e : { m with sea := Dw } = m := by
   cases m;dsimp only at hz;subst hz;rfl
  dsimp only;rw [e]
  exact h.later hU hb
theorem NX {w : World} {g : Nat} {B : List UInt8} {a : Option Addr} {K : Nat → Prop} {X : World → Bool → Prop} {q : Bool} {M lo : Nat} {k : Int} {m : Msg} {v1 v2 v3 v4 : Value} {s : Rs} {W : World} {fn : Nat} {caps : Array Value} {blk : Rs → Rs × List UInt8 × Bool} (hU : BQ w g B a fn caps blk K X) (h : CI w g B a K X q M lo k m v1 v2 v3 v4 s W) (P : World → Prop)
  (HC : AK k 128 = true → s.k = 0 → ∀ W' : World, Below W.heap.size W W' → Calls Tryz.prog 195 #[.int .i64 (s.p : Int), .pointer (some ⟨w.heap.size, 0, none⟩), .pointer (some ⟨M, 0, none⟩)] W' fun r W'' => r = .returned (.tuple #[]) ∧ P W'')
  (HN : (AK k 128 = false ∨ s.k ≠ 0) → ∀ W' : World, Below W.heap.size W W' → P W') :
  Calls Tryz.prog 181 #[.int .i64 128, .func (Fn.func 195) #[] #[.pointer (some ⟨w.heap.size, 0, none⟩), .pointer (some ⟨M, 0, none⟩)], .pointer (some ⟨w.heap.size + 1, 0, none⟩), .pointer (some ⟨w.heap.size, 0, none⟩)] W fun r W' => r = .returned (.tuple #[]) ∧ P W' := by
 have HH := hid (Da k 128 zS W)
 have HRD := hid h.rd
 have y0 : W.cell? ⟨w.heap.size + 1, 0, none⟩ = some (.int .i64 k) := h.pk.cell 0
 have p0 : W.cell? ⟨w.heap.size, 0, none⟩ = some (.pointer (some ⟨g, 0, none⟩)) := h.pa.cell 0
 have l0 := h.pa.lt
 have HCC := hid HC
 have HNN := hid HN
 clear h HC HN hU;generalize AK k 128 = H at *
 cases H
 ·go_enter Cb, BP
  go_wp2_with fail;refine HH.out.mono ?_
  rintro r w1 ⟨rfl, hb1⟩;have HP := hid (HNN.out (.inl ZD) w1 hb1)
  clear hb1;go_wp2_with fail;first | go_end0 | refine Al (Aw rfl _ _ _) rfl ?_
  exact ⟨rfl, HP.out⟩
 ·by_cases hk : s.k = 0
  ·have HG := hid (fun (V : World) (hV : AZ V g B a s) => (by have := AH V hV; rw [Ae hk] at this; exact this : Calls Tryz.prog 44 #[.pointer (some ⟨g, 0, none⟩)] V fun r w' => r = .returned (.bool true) ∧ Below V.heap.size V w'))
   have HC2 := hid (HCC.out ZD hk)
   clear hk;go_enter Cb, BP
   go_wp2_with fail;refine HH.out.mono ?_
   rintro r w1 ⟨rfl, hb1⟩;have p1 := (hb1.cell (p := ⟨w.heap.size, 0, none⟩) l0).trans p0
   have HRD1 := hid (HRD.out.later hb1)
   have HB1 := hid hb1
   have l1 := Ai l0 hb1.size
   clear hb1;go_wp2_with fail;refine (HG.out _ HRD1.out).mono ?_
   rintro r w2 ⟨rfl, hb2⟩;have p2 := (hb2.cell (p := ⟨w.heap.size, 0, none⟩) l1).trans p1
   have HRD2 := hid (HRD1.out.later hb2)
   have HB2 := hid (HB1.out.trans (hb2.mono HB1.out.size))
   clear hb2;go_wp2_with fail;refine (Cc _ HRD2.out).mono ?_
   rintro r w2' ⟨rfl, rfl⟩;go_wp2_with fail;refine (HC2.out _ HB2.out).mono ?_
   rintro r w3 ⟨rfl, hp⟩;have HP := hid hp
   clear hp;go_wp2_with fail;first | go_end0 | refine Al (Aw rfl _ _ _) rfl ?_
   exact ⟨rfl, HP.out⟩
  ·have HG := hid (fun (V : World) (hV : AZ V g B a s) => (by have := AH V hV; rw [Ad hk] at this; exact this : Calls Tryz.prog 44 #[.pointer (some ⟨g, 0, none⟩)] V fun r w' => r = .returned (.bool false) ∧ Below V.heap.size V w'))
   have HN2 := hid (HNN.out (.inr hk))
   clear hk;go_enter Cb, BP
   go_wp2_with fail;refine HH.out.mono ?_
   rintro r w1 ⟨rfl, hb1⟩;have p1 := (hb1.cell (p := ⟨w.heap.size, 0, none⟩) l0).trans p0
   have HRD1 := hid (HRD.out.later hb1)
   have HB1 := hid hb1
   clear hb1;go_wp2_with fail;refine (HG.out _ HRD1.out).mono ?_
   rintro r w2 ⟨rfl, hb2⟩;have HP := hid (HN2.out _ (HB1.out.trans (hb2.mono HB1.out.size)))
   clear hb2;go_wp2_with fail;first | go_end0 | refine Al (Aw rfl _ _ _) rfl ?_
   exact ⟨rfl, HP.out⟩
theorem Rd {w : World} {g : Nat} {B : List UInt8} {a : Option Addr} {K : Nat → Prop} {X : World → Bool → Prop} {q : Bool} {M lo : Nat} {k : Int} {m : Msg} {v1 v2 v3 v4 : Value} {s : Rs} {W : World} {fn : Nat} {caps : Array Value} {blk : Rs → Rs × List UInt8 × Bool} (hU : BQ w g B a fn caps blk K X) (hB : B.length ≤ 1000000000) (h : CI w g B a K X q M lo k m v1 v2 v3 v4 s W) (hz : m.proj = DL) :
  Calls Tryz.prog 181 #[.int .i64 128, .func (Fn.func 195) #[] #[.pointer (some ⟨w.heap.size, 0, none⟩), .pointer (some ⟨M, 0, none⟩)], .pointer (some ⟨w.heap.size + 1, 0, none⟩), .pointer (some ⟨w.heap.size, 0, none⟩)] W fun r W' => r = .returned (.tuple #[]) ∧ ∃ v4', CI w g B a K X q M lo k { m with proj := (Rs.part (AK k 128) s (Rs.Ew B) DL).2 } v1 v2 v3 v4' (Rs.part (AK k 128) s (Rs.Ew B) DL).1 W' := by
 refine NX hU h (fun W' => ∃ v4', CI w g B a K X q M lo k { m with proj := (Rs.part (AK k 128) s (Rs.Ew B) DL).2 } v1 v2 v3 v4' (Rs.part (AK k 128) s (Rs.Ew B) DL).1 W') (fun hh hk W' hb => ?_) (fun hn W' hb => ?_)
 ·have := Rc hU hB (h.later hU hb) s.p
  rw [hh]
  exact this
 ·rw [Fh hn fun e => Rs.KJ e]
  have e : { m with proj := DL } = m := by
   cases m;dsimp only at hz;subst hz;rfl
  dsimp only;rw [e]
  exact ⟨_, h.later hU hb⟩
theorem Rs.Vg {B : List UInt8} {s : Rs} : 0 ≤ (s.Ht B).2 ∧ (s.Ht B).2 ≤ 18446744073709551615 := by
 have := Rs.DJ (B := B) (s := s)
 unfold Rs.Ht Rs.po;split
 ·split
  ·dsimp only; omega
  ·simp
 ·simp
theorem Vw {B : List UInt8} {s : Rs} {h : Bool} : 0 ≤ (Rs.part h s (Rs.Ht B) 0).2 ∧ (Rs.part h s (Rs.Ht B) 0).2 ≤ 18446744073709551615 := by
 cases h
 ·exact ⟨Int.le_refl _, (by decide : (0 : Int) ≤ 18446744073709551615)⟩
 ·exact Rs.Vg
theorem Jn {W : World} {R : Nat} {m : Msg} {v1 v2 v3 v4 : Value} {cs : Array Value} (h : Blk W R 32 zeroCells) :
  Blk ((((((((((((((W.setCell ⟨R, 0, none⟩ (.int .i64 m.kind)).setCell ⟨R, 1, none⟩ (.int .u64 m.epoch)).setCell ⟨R, 2, none⟩ (.int .u64 m.seq)).setCell ⟨R, 3, none⟩ (.int .u64 m.pos)).setCell ⟨R, 4, none⟩ (.int .i64 m.count)).setCell ⟨R, 5, none⟩ (.int .i64 m.state)).setCell ⟨R, 6, none⟩ v1).setCell ⟨R, 7, none⟩ v2).setCell ⟨R, 8, none⟩ v3).setCell ⟨R, 9, none⟩ (.int .u64 m.sea.epoch)).setCell ⟨R, 10, none⟩ (.int .u64 m.sea.node)).setCell ⟨R, 11, none⟩ (.int .u64 m.sea.tail)).setCell ⟨R, 12, none⟩ (.int .u64 m.proj.epoch)).setCell ⟨R, 13, none⟩ v4) R 32 (Db m v1 v2 v3 v4) := by
 have := ((((((((((((((h.set 0 (.int .i64 m.kind)).set 1 (.int .u64 m.epoch)).set 2 (.int .u64 m.seq)).set 3 (.int .u64 m.pos)).set 4 (.int .i64 m.count)).set 5 (.int .i64 m.state)).set 6 v1).set 7 v2).set 8 v3).set 9 (.int .u64 m.sea.epoch)).set 10 (.int .u64 m.sea.node)).set 11 (.int .u64 m.sea.tail)).set 12 (.int .u64 m.proj.epoch)).set 13 v4)
 simp only [Aa, Ab, Ac] at this
 exact this
theorem MC {W : World} {R : Nat} {u0 u1 u2 u3 u4 u5 u6 u7 u8 u9 u10 u11 u12 u13 : Value} : Tch (· = R) W ((((((((((((((W.setCell ⟨R, 0, none⟩ u0).setCell ⟨R, 1, none⟩ u1).setCell ⟨R, 2, none⟩ u2).setCell ⟨R, 3, none⟩ u3).setCell ⟨R, 4, none⟩ u4).setCell ⟨R, 5, none⟩ u5).setCell ⟨R, 6, none⟩ u6).setCell ⟨R, 7, none⟩ u7).setCell ⟨R, 8, none⟩ u8).setCell ⟨R, 9, none⟩ u9).setCell ⟨R, 10, none⟩ u10).setCell ⟨R, 11, none⟩ u11).setCell ⟨R, 12, none⟩ u12).setCell ⟨R, 13, none⟩ u13) := by
 refine Tch.setCell (F := (· = R)) (p := ⟨R, 13, none⟩) ?_ (fun _ => rfl) u13
 refine Tch.setCell (F := (· = R)) (p := ⟨R, 12, none⟩) ?_ (fun _ => rfl) u12
 refine Tch.setCell (F := (· = R)) (p := ⟨R, 11, none⟩) ?_ (fun _ => rfl) u11
 refine Tch.setCell (F := (· = R)) (p := ⟨R, 10, none⟩) ?_ (fun _ => rfl) u10
 refine Tch.setCell (F := (· = R)) (p := ⟨R, 9, none⟩) ?_ (fun _ => rfl) u9
 refine Tch.setCell (F := (· = R)) (p := ⟨R, 8, none⟩) ?_ (fun _ => rfl) u8
 refine Tch.setCell (F := (· = R)) (p := ⟨R, 7, none⟩) ?_ (fun _ => rfl) u7
 refine Tch.setCell (F := (· = R)) (p := ⟨R, 6, none⟩) ?_ (fun _ => rfl) u6
 refine Tch.setCell (F := (· = R)) (p := ⟨R, 5, none⟩) ?_ (fun _ => rfl) u5
 refine Tch.setCell (F := (· = R)) (p := ⟨R, 4, none⟩) ?_ (fun _ => rfl) u4
 refine Tch.setCell (F := (· = R)) (p := ⟨R, 3, none⟩) ?_ (fun _ => rfl) u3
 refine Tch.setCell (F := (· = R)) (p := ⟨R, 2, none⟩) ?_ (fun _ => rfl) u2
 refine Tch.setCell (F := (· = R)) (p := ⟨R, 1, none⟩) ?_ (fun _ => rfl) u1
 refine Tch.setCell (F := (· = R)) (p := ⟨R, 0, none⟩) ?_ (fun _ => rfl) u0
 exact Tch.refl _ _
theorem Ep {w : World} {g : Nat} {t : TypeId} {cs : Array Value} (h : Blk w g t cs) : w.frozen? ⟨g, 0, none⟩ = false ∧ w.frozen? ⟨g, 1, none⟩ = false ∧ w.frozen? ⟨g, 2, none⟩ = false ∧ w.frozen? ⟨g, 3, none⟩ = false ∧ w.frozen? ⟨g, 4, none⟩ = false ∧ w.frozen? ⟨g, 5, none⟩ = false ∧ w.frozen? ⟨g, 6, none⟩ = false ∧ w.frozen? ⟨g, 7, none⟩ = false ∧ w.frozen? ⟨g, 8, none⟩ = false ∧ w.frozen? ⟨g, 9, none⟩ = false ∧ w.frozen? ⟨g, 10, none⟩ = false ∧ w.frozen? ⟨g, 11, none⟩ = false ∧ w.frozen? ⟨g, 12, none⟩ = false ∧ w.frozen? ⟨g, 13, none⟩ = false :=
 ⟨h.free 0, h.free 1, h.free 2, h.free 3, h.free 4, h.free 5, h.free 6, h.free 7, h.free 8, h.free 9, h.free 10, h.free 11, h.free 12, h.free 13⟩
theorem IX {S : Nat → Prop} {w : World} : Ah.r S w [.slice none 0 0] [] := Bh (xs := []) rfl (Ak _) (Aj _) (.inl rfl)
theorem Pv {w : World} {g : Nat} {B : List UInt8} {a : Option Addr} {K : Nat → Prop} {X : World → Bool → Prop} {q : Bool} {k : Int} {m : Msg} {v1 v2 v3 v4 : Value} {s : Rs} {W W' : World} {fn : Nat} {caps : Array Value} {blk : Rs → Rs × List UInt8 × Bool} (hU : BQ w g B a fn caps blk K X)
  (h : CI w g B a K X q (w.heap.size + 1 + 1 + 1) (w.heap.size + 1 + 1 + 1 + 1) k m v1 v2 v3 v4 s W) (ht : Tch (· = w.heap.size + 1 + 1) W W') :
  (AY.r (EX w W') W' [v1] m.streams ∧ BU.r (EX w W') W' [v2] m.links ∧ Ah.r (EX w W') W' [v3] m.data ∧ Bg.r (EX w W') W' [v4] m.proj.stripes) ∧ AZ W' g B a s ∧ Tch K w W' ∧ X W' q := by
 have hgl := hU.lt g hU.own
 have hw := h.tch.size
 have hlm := h.lm
 have hk : ∀ b, (w.heap.size + 1 + 1 + 1 + 1) ≤ b ∧ b < W.heap.size → W'.heap[b]? = W.heap[b]? := fun b hb => ht.block b hb.2 zC
 have hm : ∀ b, (w.heap.size + 1 + 1 + 1 + 1) ≤ b ∧ b < W.heap.size → w.heap.size ≤ b ∧ b < W'.heap.size := fun b hb => ⟨zC, Ai hb.2 ht.size⟩
 have hT : Tch K w W' := h.tch.trans ht fun b hb e => by omega
 exact ⟨⟨AY.mono (AY.keep h.st hk) hm, BU.mono (BU.keep h.ln hk) hm, Ah.mono (Ah.keep h.da hk) hm, Bg.mono (Bg.keep h.sp hk) hm⟩, ⟨h.rd.blk.tch ht zC, Ah.mono (Ah.keep hU.dat fun b hb => hT.block b hb.1 hb.2) fun b hb => ⟨by have := hT.size; omega, fun e => hb.2 (e ▸ hU.own)⟩, h.rd.ok⟩, hT, hU.st W W' q h.x hw (ht.mono fun b _ e => .inr zC)⟩
theorem My (w : World) {g : Nat} {B : List UInt8} {a : Option Addr} {s : Rs} (h : AZ w g B a s) (hB : B.length ≤ 1000000000) (k : Int) (fn : Nat) (caps : Array Value) (blk : Rs → Rs × List UInt8 × Bool) (K : Nat → Prop) (X : World → Bool → Prop) (hU : BQ w g B a fn caps blk K X) (hX : X w true) :
  Calls Tryz.prog 115 #[.pointer (some ⟨g, 0, none⟩), .int .i64 k, .func (Fn.func fn) #[] caps] w fun r w' => ∃ v1 v2 v3 v4 q, r = .returned (.agg (Db (s.body B blk k).2.1 v1 v2 v3 v4)) ∧ (AY.r (EX w w') w' [v1] (s.body B blk k).2.1.streams ∧ BU.r (EX w w') w' [v2] (s.body B blk k).2.1.links ∧ Ah.r (EX w w') w' [v3] (s.body B blk k).2.1.data ∧ Bg.r (EX w w') w' [v4] (s.body B blk k).2.1.proj.stripes) ∧
   AZ w' g B a (s.body B blk k).1 ∧ Tch K w w' ∧ X w' q ∧ ((s.body B blk k).1.k = 0 → q = (s.body B blk k).2.2) := by
 have hgl := hU.lt g hU.own
 have HU := hid hU
 have HKR := hid (fun (W : World) => Hh k W)
 by_cases hkr : 1 ≤ k ∧ k ≤ 14
 ·have dk : decide (1 ≤ k ∧ k ≤ 14) = true := Ae hkr
  rw [dk] at HKR
  unfold Rs.body Rs.ahead;rw [Am hkr]
  dsimp only;have hpu := Vw (B := B) (s := s) (h := AK k 1)
  generalize hP1 : Rs.part (AK k 1) s (Rs.Ht B) 0 = P1 at *
  obtain ⟨s1, x1⟩ := P1
  dsimp only at *;generalize hP2 : Rs.part (AK k 2) s1 (Rs.cnt B) 0 = P2 at *
  obtain ⟨s2, x2⟩ := P2
  dsimp only at *;generalize hP3 : Rs.part (AK k 4) s2 (Rs.stt B k) 0 = P3 at *
  obtain ⟨s3, x3⟩ := P3
  dsimp only at *;generalize hP4 : Rs.part (AK k 8) s3 (Rs.Jd B) [] = P4 at *
  obtain ⟨s4, L4⟩ := P4
  dsimp only at *;generalize hP5 : Rs.part (AK k 16) s4 (fun t => t.links B x1) [] = P5 at *
  obtain ⟨s5, L5⟩ := P5
  dsimp only at *;generalize hP6 : Rs.part (Ca k x3) s5 blk ([], true) = P6 at *
  obtain ⟨s6, D, fl⟩ := P6
  dsimp only at *;generalize hP7 : Rs.part (AK k 64) s6 (Rs.seal_ B) Dw = P7 at *
  obtain ⟨s7, z7⟩ := P7
  dsimp only at *;generalize hP8 : Rs.part (AK k 128) s7 (Rs.Ew B) DL = P8 at *
  obtain ⟨s8, z8⟩ := P8
  dsimp only at *;generalize hRS : (if s8.k = 0 then (s8, (⟨k, 0, 0, x1, x2, x3, L4, L5, D, z7, z8⟩ : Msg), fl) else (s8, Bc, false)) = RES
  have HRS := hid hRS
  clear hRS;have HP1 := hid hP1
  have HP2 := hid hP2
  have HP3 := hid hP3
  have HP4 := hid hP4
  have HP5 := hid hP5
  have HP6 := hid hP6
  have HP7 := hid hP7
  have HP8 := hid hP8
  clear hP1 hP2 hP3 hP4 hP5 hP6 hP7 hP8 dk hkr;have hbW : Below w.heap.size w ((((w.alloc (.cells #[.pointer (some ⟨g, 0, none⟩)] 52)).alloc (.cells #[.int .i64 k] 3)).alloc (.cells #[.int .i64 0, .int .u64 0, .int .u64 0, .int .u64 0, .int .i64 0, .int .i64 0, .slice none 0 0, .slice none 0 0, .slice none 0 0, .int .u64 0, .int .u64 0, .int .u64 0, .int .u64 0, .slice none 0 0] 32)).alloc (.cells #[.int .i64 k, .int .u64 0, .int .u64 0, .int .u64 0, .int .i64 0, .int .i64 0, .slice none 0 0, .slice none 0 0, .slice none 0 0, .int .u64 0, .int .u64 0, .int .u64 0, .int .u64 0, .slice none 0 0] 32)) := zA
  have hszW : (((((w.alloc (.cells #[.pointer (some ⟨g, 0, none⟩)] 52)).alloc (.cells #[.int .i64 k] 3)).alloc (.cells #[.int .i64 0, .int .u64 0, .int .u64 0, .int .u64 0, .int .i64 0, .int .i64 0, .slice none 0 0, .slice none 0 0, .slice none 0 0, .int .u64 0, .int .u64 0, .int .u64 0, .int .u64 0, .slice none 0 0] 32)).alloc (.cells #[.int .i64 k, .int .u64 0, .int .u64 0, .int .u64 0, .int .i64 0, .int .i64 0, .slice none 0 0, .slice none 0 0, .slice none 0 0, .int .u64 0, .int .u64 0, .int .u64 0, .int .u64 0, .slice none 0 0] 32))).heap.size = w.heap.size + 1 + 1 + 1 + 1 := zO
  have hI0 : CI w g B a K X true (w.heap.size + 1 + 1 + 1) (w.heap.size + 1 + 1 + 1 + 1) k ⟨k, 0, 0, 0, 0, 0, [], [], [], Dw, DL⟩ (.slice none 0 0) (.slice none 0 0) (.slice none 0 0) (.slice none 0 0) s ((((w.alloc (.cells #[.pointer (some ⟨g, 0, none⟩)] 52)).alloc (.cells #[.int .i64 k] 3)).alloc (.cells #[.int .i64 0, .int .u64 0, .int .u64 0, .int .u64 0, .int .i64 0, .int .i64 0, .slice none 0 0, .slice none 0 0, .slice none 0 0, .int .u64 0, .int .u64 0, .int .u64 0, .int .u64 0, .slice none 0 0] 32)).alloc (.cells #[.int .i64 k, .int .u64 0, .int .u64 0, .int .u64 0, .int .i64 0, .int .i64 0, .slice none 0 0, .slice none 0 0, .slice none 0 0, .int .u64 0, .int .u64 0, .int .u64 0, .int .u64 0, .slice none 0 0] 32)) :=
   ⟨h.later hbW, Ah.keep hU.dat fun b hb => hbW.block b hb.1, zD, zD, zD, zD, ⟨zC, zC⟩, zC, Bh (xs := []) rfl (Ak _) (Aj _) (.inl rfl), Bh (xs := []) rfl (Ak _) (Aj _) (.inl rfl), IX, Bh (xs := []) rfl (Ak _) (Aj _) (.inl rfl), Tch.Cl hbW, hU.st w _ true hX (Ak _) (Tch.Cl hbW)⟩
  have HI0 := hid hI0
  clear hI0 hbW hszW h hX;go_enter Tryz.func115, Tryz.ntmps115
  go_wp2_with fail;refine (HKR.out _).mono ?_
  rintro r w0 ⟨rfl, rfl⟩;go_wp2_with fail;generalize ((((w.alloc (.cells #[.pointer (some ⟨g, 0, none⟩)] 52)).alloc (.cells #[.int .i64 k] 3)).alloc (.cells #[.int .i64 0, .int .u64 0, .int .u64 0, .int .u64 0, .int .i64 0, .int .i64 0, .slice none 0 0, .slice none 0 0, .slice none 0 0, .int .u64 0, .int .u64 0, .int .u64 0, .int .u64 0, .slice none 0 0] 32)).alloc (.cells #[.int .i64 k, .int .u64 0, .int .u64 0, .int .u64 0, .int .i64 0, .int .i64 0, .slice none 0 0, .slice none 0 0, .slice none 0 0, .int .u64 0, .int .u64 0, .int .u64 0, .int .u64 0, .slice none 0 0] 32)) = w1 at *
  have hC1 := Un HU.out hB HI0.out rfl
  rw [HP1.out] at hC1
  dsimp only at hC1;have HC1 := hid hC1
  clear hC1;refine HC1.out.mono ?_
  rintro r w2 ⟨rfl, hI⟩;have HI1 := hid hI
  clear hI HC1;go_wp2_with fail;have hC2 := Um HU.out hB HI1.out rfl
  rw [HP2.out] at hC2
  dsimp only at hC2;have HC2 := hid hC2
  clear hC2;refine HC2.out.mono ?_
  rintro r w3 ⟨rfl, hI⟩;have HI2 := hid hI
  clear hI HC2;go_wp2_with fail;have hC3 := Ul HU.out hB HI2.out rfl
  rw [HP3.out] at hC3
  dsimp only at hC3;have HC3 := hid hC3
  clear hC3;refine HC3.out.mono ?_
  rintro r w4 ⟨rfl, hI⟩;have HI3 := hid hI
  clear hI HC3;go_wp2_with fail;have hC4 := Uk HU.out hB HI3.out rfl
  rw [HP4.out] at hC4
  dsimp only at hC4;have HC4 := hid hC4
  clear hC4;refine HC4.out.mono ?_
  rintro r w5 ⟨rfl, v, hI⟩;obtain ⟨b1, d1, e, _, _⟩ := AN hI.st
  cases e;have HI4 := hid hI
  clear hI HC4;go_wp2_with fail;have hC5 := SQ HU.out hB HI4.out rfl hpu
  rw [HP5.out] at hC5
  dsimp only at hC5;have HC5 := hid hC5
  clear hC5;refine HC5.out.mono ?_
  rintro r w6 ⟨rfl, v, hI⟩;obtain ⟨b2, d2, e, _, _⟩ := AN hI.ln
  cases e;have HI5 := hid hI
  clear hI HC5;go_upto_region 11 with (fail)
  obtain ⟨R, hR⟩ : ∃ R, R = (Ca k x3 && decide (s5.k = 0)) := ⟨_, rfl⟩
  have HR := hid hR
  clear hR;go_cut [40] from 35 to 39 (fun v V => v = .bool R ∧ Hid (Below w6.heap.size w6 V))
  case first =>
   have hm := HI5.out.pm
   dsimp only [Db] at hm;obtain ⟨y0, y1, y2, y3, y4, y5, y6, y7, y8, y9, y10, y11, y12, y13, lm⟩ := Bt hm
   have p0 : w6.cell? ⟨w.heap.size, 0, none⟩ = some (.pointer (some ⟨g, 0, none⟩)) := HI5.out.pa.cell 0
   have HHD := hid (Hm ⟨k, 0, 0, x1, x2, x3, L4, L5, [], Dw, DL⟩ b1 d1 b2 d2 none 0 none 0 w6)
   dsimp only at HHD;clear hm;cases hBk : Ca k x3
   ·rw [hBk] at HHD HR
    have HR2 : Hid (R = false) := hid HR.out
    clear hBk;go_wp2_with fail;refine HHD.out.mono ?_
    rintro r w7 ⟨rfl, hb7⟩;have HB7 := hid hb7
    clear hb7;go_wp2_with fail;go_meet
    case rel => exact ⟨D8 Value.bool HR2.out.symm, HB7⟩
   ·rw [hBk] at HHD HR
    have HR2 : Hid (R = decide (s5.k = 0)) := hid (by rw [HR.out, Ce])
    have HG := hid (fun (V : World) (hV : AZ V g B a s5) => (by have := AH V hV; rw [← HR2.out] at this; exact this : Calls Tryz.prog 44 #[.pointer (some ⟨g, 0, none⟩)] V fun r w' => r = .returned (.bool R) ∧ Below V.heap.size V w'))
    clear hBk;go_wp2_with fail;refine HHD.out.mono ?_
    rintro r w7 ⟨rfl, hb7⟩;have HI6 := hid (HI5.out.later HU.out hb7)
    have p7 : w7.cell? ⟨w.heap.size, 0, none⟩ = some (.pointer (some ⟨g, 0, none⟩)) := HI6.out.pa.cell 0
    have HB7 := hid hb7
    clear hb7;go_wp2_with fail;refine (HG.out _ HI6.out.rd).mono ?_
    rintro r w8 ⟨rfl, hb8⟩;have HB8 := hid (HB7.out.trans (hb8.mono HB7.out.size))
    clear hb8;go_wp2_with fail;go_meet
    case rel => exact ⟨rfl, HB8⟩
  case rest =>
  obtain ⟨rfl, hBB⟩ := hcut
  obtain ⟨w7, hwn⟩ : ∃ W : World, W = wc := ⟨_, rfl⟩
  subst hwn;have HI5b := hid (HI5.out.later HU.out hBB.out)
  go_upto_if 40 with (fail)
  go_cut [] from 41 to 43 (fun V => ∃ v3 q, Hid (CI w g B a K X q (w.heap.size + 1 + 1 + 1) (w.heap.size + 1 + 1 + 1 + 1) k ⟨k, 0, 0, x1, x2, x3, L4, L5, D, Dw, DL⟩ (.slice b1 L4.length d1) (.slice b2 L5.length d2) v3 (.slice none 0 0) s6 V) ∧ Hid (s6.k = 0 → q = fl))
  case first =>
   have HQ := HP6.out
   have hR := HR.out
   cases R
   ·have HX2 : Hid (CI w g B a K X true (w.heap.size + 1 + 1 + 1) (w.heap.size + 1 + 1 + 1 + 1) k ⟨k, 0, 0, x1, x2, x3, L4, L5, D, Dw, DL⟩ (.slice b1 L4.length d1) (.slice b2 L5.length d2) (.slice none 0 0) (.slice none 0 0) s6 w7 ∧ (s6.k = 0 → true = fl)) := hid (by
     cases hBk : Ca k x3
     ·rw [hBk] at HQ
      have HQ2 : (s5, ([] : List UInt8), true) = (s6, D, fl) := HQ
      cases HQ2;exact ⟨HI5b.out, fun _ => rfl⟩
     ·rw [hBk] at HQ
      have HQ2 : blk s5 = (s6, D, fl) := HQ
      have hk5 : s5.k ≠ 0 := fun e => by
       rw [hBk, Ae e] at hR
       exact absurd hR zP
      obtain ⟨hq1, hq2⟩ := HU.out.bad s5 hk5
      rw [HQ2] at hq1 hq2
      dsimp only at hq1 hq2;subst hq1 hq2;exact ⟨HI5b.out, fun e => absurd e hk5⟩)
    clear HQ hR;go_wp2_with fail;go_meet
    case rel => exact ⟨_, true, hid HX2.out.1, hid HX2.out.2⟩
   ·have hBk : Ca k x3 = true := by
     cases hh : Ca k x3
     ·rw [hh, JM] at hR; exact absurd hR zP
     ·rfl
    have hk5 : s5.k = 0 := by
     rw [hBk] at hR
     exact A9 (by rw [Ce] at hR; exact hR.symm)
    rw [hBk] at HQ
    have HQ2 : blk s5 = (s6, D, fl) := HQ
    have HUC := hid (fun (V : World) (h1 : AZ V g B a s5) (h2 : X V true) (h3 : w.heap.size ≤ V.heap.size) (h4 : Tch K w V) => (by have := HU.out.call V s5 true h1 h2 h3 h4; rw [HQ2] at this; exact this : Calls Tryz.prog fn caps V fun r W' => ∃ v, r = .returned v ∧ Ah.r (EX V W') W' [v] D ∧ AZ W' g B a s6 ∧ Tch K V W' ∧ X W' fl))
    clear HQ2 hk5 HQ hR hBk;go_wp2_with fail;rw [HU.out.ent]
    refine (HUC.out _ HI5b.out.rd HI5b.out.x HI5b.out.tch.size HI5b.out.tch).mono ?_
    rintro r w9 ⟨v9, rfl, hD9, hRD9, hT9, hX9⟩;obtain ⟨ad, cd, hfv, hD9', _⟩ := AN hD9
    simp only [Au, AO] at hfv
    subst hfv;have HI8 := hid (HI5b.out.Ve HU.out hT9 hRD9 hX9)
    have hlow := HI5b.out.low
    have HV := hid (Ah.mono hD9' fun b hb => (⟨zAg, hb.2⟩ : (w.heap.size + 1 + 1 + 1 + 1) ≤ b ∧ b < w9.heap.size))
    have f8 := Gs HI8.out.pm 8
    obtain ⟨y0, y1, y2, y3, y4, y5, y6, y7, y8, y9, y10, y11, y12, y13, l8⟩ := Bt HI8.out.pm
    clear hD9 hRD9 hT9 hX9 hD9';go_wp2_with fail;go_meet
    case rel => exact ⟨_, fl, hid (HI8.out.KY HU.out 8 _ zR HI8.out.st HI8.out.ln HV.out HI8.out.sp), hid fun _ => rfl⟩
  case rest =>
   obtain ⟨v3, q, HI6, HQF⟩ := hcut
   obtain ⟨w70, hwn⟩ : ∃ W : World, W = wc := ⟨_, rfl⟩
   subst hwn;obtain ⟨b3, d3, e, _, _⟩ := AN HI6.out.da
   cases e;clear HI0 HI1 HI2 HI3 HI4 HI5 HI5b;go_wp2_with fail;have hC7 := SP HU.out hB HI6.out rfl
   rw [HP7.out] at hC7
   dsimp only at hC7;have HC7 := hid hC7
   clear hC7;refine HC7.out.mono ?_
   rintro r w8 ⟨rfl, hI⟩;have HI7 := hid hI
   clear hI HC7;go_wp2_with fail;have hC8 := Rd HU.out hB HI7.out rfl
   rw [HP8.out] at hC8
   dsimp only at hC8;have HC8 := hid hC8
   clear hC8;refine HC8.out.mono ?_
   rintro r w9 ⟨rfl, v, hI⟩;obtain ⟨b4, d4, e, _, _⟩ := AN hI.sp
   cases e;have HI8 := hid hI
   have p9 : w9.cell? ⟨w.heap.size, 0, none⟩ = some (.pointer (some ⟨g, 0, none⟩)) := hI.pa.cell 0
   have HQF8 : Hid (s8.k = 0 → q = fl) := hid fun e => HQF.out (by
    have h7 := Rs.TH (by rw [HP8.out]; exact e) Rs.Vv
    exact Rs.TH (by rw [HP7.out]; exact h7) Rs.Vr)
   clear hI HC8;by_cases hk : s8.k = 0
   ·have HG := hid (fun (V : World) (hV : AZ V g B a s8) => (by have := AH V hV; rw [Ae hk] at this; exact this : Calls Tryz.prog 44 #[.pointer (some ⟨g, 0, none⟩)] V fun r w' => r = .returned (.bool true) ∧ Below V.heap.size V w'))
    have HK := hid hk
    clear hk;go_wp2_with fail;refine (HG.out _ HI8.out.rd).mono ?_
    rintro r w10 ⟨rfl, hb10⟩;have HI9 := hid (HI8.out.later HU.out hb10)
    clear hb10;have hm := HI9.out.pm
    dsimp only [Db] at hm;obtain ⟨y0, y1, y2, y3, y4, y5, y6, y7, y8, y9, y10, y11, y12, y13, lm⟩ := Bt hm
    obtain ⟨r0, r1, r2, r3, r4, r5, r6, r7, r8, r9, r10, r11, r12, r13, lz⟩ := Bt HI9.out.pr
    obtain ⟨f0, f1, f2, f3, f4, f5, f6, f7, f8, f9, f10, f11, f12, f13⟩ := Ep HI9.out.pr
    have hq := HQF8.out HK.out
    clear hm p9;go_wp2_with fail;have hput := Jn (W := w10) (m := ⟨k, 0, 0, x1, x2, x3, L4, L5, D, z7, z8⟩) (v1 := .slice b1 L4.length d1) (v2 := .slice b2 L5.length d2) (v3 := .slice b3 D.length d3) (v4 := .slice b4 z8.stripes.length d4) (cs := #[]) HI9.out.pr
    dsimp only at hput;refine CC (fun W => Blk W (w.heap.size + 1 + 1) 32 (Db ⟨k, 0, 0, x1, x2, x3, L4, L5, D, z7, z8⟩ (.slice b1 L4.length d1) (.slice b2 L5.length d2) (.slice b3 D.length d3) (.slice b4 z8.stripes.length d4)) ∧ Tch (· = w.heap.size + 1 + 1) w10 W) ⟨hput, ?_⟩ ?_
    ·exact MC
    intro W5 ⟨q5, ht5⟩;have hFIN := Pv HU.out HI9.out ht5
    dsimp only [Db] at q5;obtain ⟨n0, n1, n2, n3, n4, n5, n6, n7, n8, n9, n10, n11, n12, n13, ln⟩ := Bt q5
    have hRES : RES = (s8, (⟨k, 0, 0, x1, x2, x3, L4, L5, D, z7, z8⟩ : Msg), fl) := by rw [← HRS.out]; exact Am HK.out
    rw [hRES]
    refine Al (v := .agg #[.int .i64 k, .int .u64 0, .int .u64 0, .int .u64 x1, .int .i64 x2, .int .i64 x3, .slice b1 L4.length d1, .slice b2 L5.length d2, .slice b3 D.length d3, .int .u64 z7.epoch, .int .u64 z7.node, .int .u64 z7.tail, .int .u64 z8.epoch, .slice b4 z8.stripes.length d4]) zAs rfl ⟨_, _, _, _, q, rfl, hFIN.1, hFIN.2.1, hFIN.2.2.1, hFIN.2.2.2, fun _ => hq⟩
   ·have HG := hid (fun (V : World) (hV : AZ V g B a s8) => (by have := AH V hV; rw [Ad hk] at this; exact this : Calls Tryz.prog 44 #[.pointer (some ⟨g, 0, none⟩)] V fun r w' => r = .returned (.bool false) ∧ Below V.heap.size V w'))
    have HK := hid hk
    clear hk;go_wp2_with fail;refine (HG.out _ HI8.out.rd).mono ?_
    rintro r w10 ⟨rfl, hb10⟩;have HI9 := hid (HI8.out.later HU.out hb10)
    clear hb10 p9;obtain ⟨r0, r1, r2, r3, r4, r5, r6, r7, r8, r9, r10, r11, r12, r13, lz⟩ := Bt HI9.out.pr
    obtain ⟨f0, f1, f2, f3, f4, f5, f6, f7, f8, f9, f10, f11, f12, f13⟩ := Ep HI9.out.pr
    go_wp2_with fail;have hput := Jn (W := w10) (m := Bc) (v1 := (.slice none 0 0)) (v2 := (.slice none 0 0)) (v3 := (.slice none 0 0)) (v4 := (.slice none 0 0)) (cs := #[]) HI9.out.pr
    dsimp only [Bc, Dw, DL] at hput;refine CC (fun W => Blk W (w.heap.size + 1 + 1) 32 zeroCells ∧ Tch (· = w.heap.size + 1 + 1) w10 W) ⟨hput, ?_⟩ ?_
    ·exact MC
    intro W5 ⟨q5, ht5⟩;have hFIN := Pv HU.out HI9.out ht5
    dsimp only [zeroCells] at q5;obtain ⟨n0, n1, n2, n3, n4, n5, n6, n7, n8, n9, n10, n11, n12, n13, ln⟩ := Bt q5
    have hRES : RES = (s8, Bc, false) := by rw [← HRS.out]; exact An HK.out
    rw [hRES]
    refine Al (v := .agg #[.int .i64 0, .int .u64 0, .int .u64 0, .int .u64 0, .int .i64 0, .int .i64 0, .slice none 0 0, .slice none 0 0, .slice none 0 0, .int .u64 0, .int .u64 0, .int .u64 0, .int .u64 0, .slice none 0 0]) zAs rfl ⟨(.slice none 0 0), (.slice none 0 0), (.slice none 0 0), (.slice none 0 0), q, rfl, ⟨Bh (xs := []) rfl (Ak _) (Aj _) (.inl rfl), Bh (xs := []) rfl (Ak _) (Aj _) (.inl rfl), IX, Bh (xs := []) rfl (Ak _) (Aj _) (.inl rfl)⟩, hFIN.2.1, hFIN.2.2.1, hFIN.2.2.2, fun e => absurd e HK.out⟩
 ·have dk : decide (1 ≤ k ∧ k ≤ 14) = false := Ad hkr
  rw [dk] at HKR
  unfold Rs.body;rw [An hkr]
  clear dk hkr;have HE0 := hid (fun (V : World) (hV : AZ V g B a s) => Cc V hV)
  have HF0 := hid (fun (V : World) (hV : AZ V g B a s) => BB V hV 7 (s.p : Int) zC)
  have hfk : (s.fail 7 (s.p : Int)).k ≠ 0 := Rs.CU zC
  have HFK := hid hfk
  clear hfk;generalize s.fail 7 (s.p : Int) = s1 at *
  have hbW : Below w.heap.size w (((w.alloc (.cells #[.pointer (some ⟨g, 0, none⟩)] 52)).alloc (.cells #[.int .i64 k] 3)).alloc (.cells #[.int .i64 0, .int .u64 0, .int .u64 0, .int .u64 0, .int .i64 0, .int .i64 0, .slice none 0 0, .slice none 0 0, .slice none 0 0, .int .u64 0, .int .u64 0, .int .u64 0, .int .u64 0, .slice none 0 0] 32)) := zA
  have HR0 := hid (h.later hbW)
  have HBW := hid hbW
  have A0 : Blk (((w.alloc (.cells #[.pointer (some ⟨g, 0, none⟩)] 52)).alloc (.cells #[.int .i64 k] 3)).alloc (.cells #[.int .i64 0, .int .u64 0, .int .u64 0, .int .u64 0, .int .i64 0, .int .i64 0, .slice none 0 0, .slice none 0 0, .slice none 0 0, .int .u64 0, .int .u64 0, .int .u64 0, .int .u64 0, .slice none 0 0] 32)) w.heap.size 52 #[.pointer (some ⟨g, 0, none⟩)] := zD
  have R0 : Blk (((w.alloc (.cells #[.pointer (some ⟨g, 0, none⟩)] 52)).alloc (.cells #[.int .i64 k] 3)).alloc (.cells #[.int .i64 0, .int .u64 0, .int .u64 0, .int .u64 0, .int .i64 0, .int .i64 0, .slice none 0 0, .slice none 0 0, .slice none 0 0, .int .u64 0, .int .u64 0, .int .u64 0, .int .u64 0, .slice none 0 0] 32)) (w.heap.size + 1 + 1) 32 zeroCells := zD
  have HX := hid hX
  go_enter Tryz.func115, Tryz.ntmps115
  go_wp2_with fail;refine (HKR.out _).mono ?_
  rintro r w0 ⟨rfl, rfl⟩;go_wp2_with fail;generalize (((w.alloc (.cells #[.pointer (some ⟨g, 0, none⟩)] 52)).alloc (.cells #[.int .i64 k] 3)).alloc (.cells #[.int .i64 0, .int .u64 0, .int .u64 0, .int .u64 0, .int .i64 0, .int .i64 0, .slice none 0 0, .slice none 0 0, .slice none 0 0, .int .u64 0, .int .u64 0, .int .u64 0, .int .u64 0, .slice none 0 0] 32)) = w1 at *
  have p0 : w1.cell? ⟨w.heap.size, 0, none⟩ = some (.pointer (some ⟨g, 0, none⟩)) := A0.cell 0
  have l0 := A0.lt
  have HR1 := hid (HR0.out.later (show Below w1.heap.size w1 w1.drew from (Below.refl _ _).drew))
  refine Cd (S := fun w' => w'.cell? ⟨w.heap.size, 0, none⟩ = some (.pointer (some ⟨g, 0, none⟩))) zG p0 (fun hHeld => ?_)
  refine Ap (i := 0) (oi := _) (v := ?_) rfl zE zE zE (fun _ _ _ h => h) (Or.inl ⟨zT, ?_⟩) zM ?_
  rotate_left
  ·(intro w hSw; (try dsimp only at hSw); go_simp <;> with_reducible rfl)
  (try simp only [Act.put, Aa, Ab, Ac])
  refine Ap (i := 1) (oi := _) (v := ?_) rfl zE zE zE (fun _ _ _ h => h) (Or.inl ⟨zT, ?_⟩) zM ?_
  rotate_left
  ·(intro w hSw; (try dsimp only at hSw); go_simp <;> with_reducible rfl)
  (try simp only [Act.put, Aa, Ab, Ac])
  refine AP (rs := [2]) zE zO ?_
  refine AG (o := _) rfl (fun K hK => ?_) AllReadyH.nil
  (go_simp; go_at_call 43; refine (HE0.out _ HR1.out).mono ?_; rintro e1 w7 ⟨rfl, rfl⟩; (try dsimp only))
  refine hK.out _ _ ?_ (fun hHeld => ?_)
  ·((try dsimp only); first | assumption | (go_keep; done))
  clear hK K
  (try simp only [Act.put, Aa, Ab, Ac])
  refine AP (rs := [3]) zE zO ?_
  refine AG (o := _) rfl (fun K hK => ?_) AllReadyH.nil
  (go_simp; go_at_call 180; refine (HF0.out _ HR1.out).mono ?_; rintro e1 w8 ⟨rfl, hst8⟩; have HS8 := hid hst8; have n1 := (hst8.2.cell (p := ⟨w.heap.size, 0, none⟩) (by exact l0) zN).trans p0; have R8 := hid (Blk.tch R0.drew hst8.2 zC); clear hst8; (try dsimp only))
  refine hK.out _ _ ?_ (fun hHeld => ?_)
  ·((try dsimp only); first | assumption | (go_keep; done))
  clear hK K
  (try simp only [Act.put, Aa, Ab, Ac])
  (try simp only [AJ, AB, Az, Act.put, Aa, Ab, Ac])
  refine CG zG ?_ _
  obtain ⟨z0, z1, z2, z3, z4, z5, z6, z7, z8, z9, z10, z11, z12, z13, lz⟩ := Bt R8.out
  obtain ⟨f0, f1, f2, f3, f4, f5, f6, f7, f8, f9, f10, f11, f12, f13⟩ := Ep R8.out
  go_wp2_with fail;have hput := Jn (W := w8) (m := Bc) (v1 := (.slice none 0 0)) (v2 := (.slice none 0 0)) (v3 := (.slice none 0 0)) (v4 := (.slice none 0 0)) (cs := #[]) R8.out
  dsimp only [Bc, Dw, DL] at hput;refine CC (fun W => Blk W (w.heap.size + 1 + 1) 32 zeroCells ∧ Tch (· = w.heap.size + 1 + 1) w8 W) ⟨hput, ?_⟩ ?_
  ·exact MC
  intro W5 ⟨q5, ht5⟩;dsimp only [zeroCells] at q5;obtain ⟨n0', n1', n2, n3, n4, n5, n6, n7, n8, n9, n10, n11, n12, n13, ln⟩ := Bt q5
  have hTA : Tch (fun b => b = g ∨ w.heap.size ≤ b) w W5 := (((Tch.Cl (F := fun b => b = g ∨ w.heap.size ≤ b) HBW.out).drew.trans HS8.out.2 fun b _ e => .inl e).trans ht5 fun b _ e => .inr zC)
  have hTK : Tch K w W5 := hTA.mono fun b hb e => e.elim (fun e => e ▸ HU.out.own) fun e => by omega
  have hRD : AZ W5 g B a s1 := ⟨HS8.out.1.blk.tch ht5 zC, Ah.mono (Ah.keep HU.out.dat fun b hb => hTK.block b hb.1 hb.2) fun b hb => ⟨by have := hTK.size; omega, fun e => hb.2 (e ▸ HU.out.own)⟩, HS8.out.1.ok⟩
  refine Al (v := .agg #[.int .i64 0, .int .u64 0, .int .u64 0, .int .u64 0, .int .i64 0, .int .i64 0, .slice none 0 0, .slice none 0 0, .slice none 0 0, .int .u64 0, .int .u64 0, .int .u64 0, .int .u64 0, .slice none 0 0]) (by simp [results, Tryz.results115, go_sem, n0', n1', n2, n3, n4, n5, n6, n7, n8, n9, n10, n11, n12, n13]) rfl ⟨(.slice none 0 0), (.slice none 0 0), (.slice none 0 0), (.slice none 0 0), true, rfl, ⟨Bh (xs := []) rfl (Ak _) (Aj _) (.inl rfl), Bh (xs := []) rfl (Ak _) (Aj _) (.inl rfl), IX, Bh (xs := []) rfl (Ak _) (Aj _) (.inl rfl)⟩, hRD, hTK, HU.out.st w W5 true HX.out (Ak _) hTA, fun e => absurd e HFK.out⟩
theorem QP {n : Int} (h : (Lit.int .i64 n).wf = true) : -9223372036854775808 ≤ n ∧ n ≤ 9223372036854775807 := by
 simp [Lit.wf, IntKind.min, IntKind.max, IntKind.signed, IntKind.bits] at h; omega
structure RN (w : World) (g : Nat) (B : List UInt8) (a : Option Addr) (fn : Nat) (caps : Array Value) (blk : Rs → Rs × List UInt8 × Bool) (K : Nat → Prop) (X : World → Bool → Prop) : Prop where
 lt : ∀ b, K b → b < w.heap.size
 own : K g
 st : ∀ W W' q, X W q → w.heap.size ≤ W.heap.size → Tch (fun b => b = g ∨ w.heap.size ≤ b) W W' → X W' q
 call : ∀ W t, AZ W g B a t → X W false → w.heap.size ≤ W.heap.size → Tch K w W → Calls Tryz.prog fn caps W fun r W' => ∃ v, r = .returned v ∧ Ah.r (EX W W') W' [v] (blk t).2.1 ∧ AZ W' g B a (blk t).1 ∧ Tch K W W' ∧ X W' (blk t).2.2
 size : ∀ t, (blk t).2.1.length ≤ 1048576
 dat : Ah.r (fun q => q < w.heap.size ∧ ¬ K q) w [.slice a B.length B.length] B
 ent : ∀ (xs : Array Value) (W : World), (callFunc fn xs).run Tryz.prog W = .ok (.enter fn xs) W
theorem RN.rd {w W : World} {g : Nat} {B : List UInt8} {a : Option Addr} {fn : Nat} {caps : Array Value} {blk : Rs → Rs × List UInt8 × Bool} {K : Nat → Prop} {X : World → Bool → Prop} (hU : RN w g B a fn caps blk K X) {s : Rs} (ht : Tch K w W)
  (hb : Blk W g 117 #[.slice a B.length B.length, .int .i64 (s.p : Int), .int .i64 s.k, .int .i64 s.f]) (hs : s.ok B.length) : AZ W g B a s :=
 ⟨hb, Ah.mono (Ah.keep hU.dat fun q hq => ht.block q hq.1 hq.2) fun q hq => ⟨Ai hq.1 ht.size, fun e => hq.2 (e ▸ hU.own)⟩, hs⟩
theorem Rs.take_len {B : List UInt8} {s : Rs} {n : Int} : (s.take B n).2.length ≤ n.toNat := by
 unfold Rs.take;split
 ·simp; omega
 ·simp
theorem Rs.Sv {B : List UInt8} {s : Rs} {m : Int} : (s.loose B m).2.1.length ≤ 1048576 := by
 have h1 := Rs.GP (B := B) (s := s) (m := min m 1048576)
 unfold Rs.loose;split
 ·split
  ·split
   ·have := Rs.take_len (B := B) (s := ((s.int B (min m 1048576)).1.byte B).1) (n := ((s.int B (min m 1048576)).2 : Int))
    dsimp only;omega
   ·simp
  ·split
   ·split
    ·have := Rs.Ru (B := B) (s := ((s.int B (min m 1048576)).1.byte B).1) (s.int B (min m 1048576)).2
     dsimp only;omega
    ·simp
   ·simp
 ·simp
theorem Uo {B : List UInt8} (t : Rs) : (FJ B t).2.1.length ≤ 1048576 := by
 have := Rs.Sv (B := B) (s := t) (m := 1048576)
 unfold FJ Rs.strict;dsimp only;split
 ·split
  ·exact this
  ·simp
 ·simp
theorem SV {B : List UInt8} (t : Rs) (h : t.k ≠ 0) : (FJ B t).1 = t ∧ (FJ B t).2.1 = [] := by
 unfold FJ;dsimp only;rw [Rs.NJ h]
 unfold Rs.strict;dsimp only;rw [An h]
 exact ⟨rfl, rfl⟩
theorem To {S S' : Nat → Prop} {w w' : World} {m : Msg} {v1 v2 v3 v4 : Value} (hk : ∀ q, S q → w'.heap[q]? = w.heap[q]?) (hs : ∀ q, S q → S' q) (h : AY.r S w [v1] m.streams ∧ BU.r S w [v2] m.links ∧ Ah.r S w [v3] m.data ∧ Bg.r S w [v4] m.proj.stripes) :
  AY.r S' w' [v1] m.streams ∧ BU.r S' w' [v2] m.links ∧ Ah.r S' w' [v3] m.data ∧ Bg.r S' w' [v4] m.proj.stripes :=
 ⟨AY.mono (AY.keep h.1 hk) hs, BU.mono (BU.keep h.2.1 hk) hs, Ah.mono (Ah.keep h.2.2.1 hk) hs, Bg.mono (Bg.keep h.2.2.2 hk) hs⟩
theorem Rj (w : World) {g p : Nat} {B : List UInt8} {a : Option Addr} {s : Rs} (h : AZ w g B a s) (hB : B.length ≤ 1000000000) (hp : Blk w p 52 #[.pointer (some ⟨g, 0, none⟩)]) :
  Calls Tryz.prog 116 #[.pointer (some ⟨p, 0, none⟩)] w fun r w' => ∃ v, r = .returned v ∧ Ah.r (EX w w') w' [v] (FJ B s).2.1 ∧ AE w g B a (FJ B s).1 w' := by
 have HB := hid (Rl w h hB 1048576 zC)
 have x0 : w.cell? ⟨p, 0, none⟩ = some (.pointer (some ⟨g, 0, none⟩)) := hp.cell 0
 unfold FJ;dsimp only;generalize Rs.strict (s.loose B 1048576) = T at *
 obtain ⟨s1, D⟩ := T
 dsimp only at *;clear h hp;go_enter Tryz.func116, Tryz.ntmps116
 go_wp2_with fail;refine HB.out.mono ?_
 rintro r w1 ⟨v, rfl, hv, hst⟩;obtain ⟨a1, c1, hfv, hv2, _⟩ := AN hv
 simp only [Au, AO] at hfv
 subst hfv;have HV := hid hv2
 have HS := hid hst
 clear hv hv2 hst;go_wp2;go_ret;exact ⟨_, rfl, HV.out, HS.out⟩
theorem Ri (w : World) {g : Nat} {B : List UInt8} {a : Option Addr} {s : Rs} (h : AZ w g B a s) (hB : B.length ≤ 1000000000) (k : Int) :
  Calls Tryz.prog 39 #[.pointer (some ⟨g, 0, none⟩), .int .i64 k] w fun r w' => ∃ v1 v2 v3 v4, r = .returned (.agg (Db (s.body B (FJ B) k).2.1 v1 v2 v3 v4)) ∧ (AY.r (EX w w') w' [v1] (s.body B (FJ B) k).2.1.streams ∧ BU.r (EX w w') w' [v2] (s.body B (FJ B) k).2.1.links ∧ Ah.r (EX w w') w' [v3] (s.body B (FJ B) k).2.1.data ∧ Bg.r (EX w w') w' [v4] (s.body B (FJ B) k).2.1.proj.stripes) ∧ AE w g B a (s.body B (FJ B) k).1 w' := by
 have hlt := h.blk.lt
 have HIN := hid (Dc.refl h)
 clear h;generalize hZ : s.body B (FJ B) k = Z
 have HZ := hid hZ
 clear hZ;obtain ⟨s1, m, q⟩ := Z
 dsimp only at *;go_enter Tryz.func39, Tryz.ntmps39
 go_wp2_with fail;have hbw : Below w.heap.size w ((w.alloc (.cells #[.pointer (some ⟨g, 0, none⟩)] 52)).alloc (.cells #[.int .i64 0, .int .u64 0, .int .u64 0, .int .u64 0, .int .i64 0, .int .i64 0, .slice none 0 0, .slice none 0 0, .slice none 0 0, .int .u64 0, .int .u64 0, .int .u64 0, .int .u64 0, .slice none 0 0] 32)) := zA
 have R0 : Blk ((w.alloc (.cells #[.pointer (some ⟨g, 0, none⟩)] 52)).alloc (.cells #[.int .i64 0, .int .u64 0, .int .u64 0, .int .u64 0, .int .i64 0, .int .i64 0, .slice none 0 0, .slice none 0 0, .slice none 0 0, .int .u64 0, .int .u64 0, .int .u64 0, .int .u64 0, .slice none 0 0] 32)) (w.heap.size + 1) 32 zeroCells := zD
 have P0 : Blk ((w.alloc (.cells #[.pointer (some ⟨g, 0, none⟩)] 52)).alloc (.cells #[.int .i64 0, .int .u64 0, .int .u64 0, .int .u64 0, .int .i64 0, .int .i64 0, .slice none 0 0, .slice none 0 0, .slice none 0 0, .int .u64 0, .int .u64 0, .int .u64 0, .int .u64 0, .slice none 0 0] 32)) w.heap.size 52 #[.pointer (some ⟨g, 0, none⟩)] := zD
 have HIN0 := hid (HIN.out.row hbw)
 have hsz : (((w.alloc (.cells #[.pointer (some ⟨g, 0, none⟩)] 52)).alloc (.cells #[.int .i64 0, .int .u64 0, .int .u64 0, .int .u64 0, .int .i64 0, .int .i64 0, .slice none 0 0, .slice none 0 0, .slice none 0 0, .int .u64 0, .int .u64 0, .int .u64 0, .int .u64 0, .slice none 0 0] 32))).heap.size = w.heap.size + 2 := zO
 have HBW := hid hbw
 clear hbw;generalize ((w.alloc (.cells #[.pointer (some ⟨g, 0, none⟩)] 52)).alloc (.cells #[.int .i64 0, .int .u64 0, .int .u64 0, .int .u64 0, .int .i64 0, .int .i64 0, .slice none 0 0, .slice none 0 0, .slice none 0 0, .int .u64 0, .int .u64 0, .int .u64 0, .int .u64 0, .slice none 0 0] 32)) = W at *
 have hU : BQ W g B a 116 #[.pointer (some ⟨w.heap.size, 0, none⟩)] (FJ B) (· = g) (fun V _ => Blk V w.heap.size 52 #[.pointer (some ⟨g, 0, none⟩)]) := {
  lt := fun b e => by omega
  own := rfl
  st := fun V V' q hv hs ht => Blk.tch hv ht zC
  call := fun V t q0 hV hX hs ht => (Rj V hV hB hX).mono fun r V' ⟨v, h1, h2, h3⟩ => ⟨v, h1, h2, h3.1, h3.2, Blk.tch hX h3.2 zC⟩
  size := Uo
  dat := HIN0.out.rd.dat
  bad := fun t ht => SV t ht
  ent := fun xs V => by go_simp }
 have hC := My W HIN0.out.rd hB k _ _ _ _ _ hU P0
 rw [HZ.out] at hC
 dsimp only [Db] at hC;have HC := hid hC
 clear hU P0 hC;refine HC.out.mono ?_
 rintro r w1 ⟨v1, v2, v3, v4, q1, rfl, hrows, hrd, ht, _, _⟩;have HRW := hid hrows
 obtain ⟨h1, h2, h3, h4⟩ := hrows
 obtain ⟨a1, c1, hfv, _, _⟩ := AN h1
 simp only [Au, AO] at hfv
 subst hfv;obtain ⟨a2, c2, hfv, _, _⟩ := AN h2
 simp only [Au, AO] at hfv
 subst hfv;obtain ⟨a3, c3, hfv, _, _⟩ := AN h3
 simp only [Au, AO] at hfv
 subst hfv;obtain ⟨a4, c4, hfv, _, _⟩ := AN h4
 simp only [Au, AO] at hfv
 subst hfv;have R1 := R0.tch ht zC
 have hs1 := ht.size
 have HIN1 := hid (HIN0.out.step ⟨hrd, ht⟩)
 obtain ⟨x0, x1, x2, x3, x4, x5, x6, x7, x8, x9, x10, x11, x12, x13, l1⟩ := Bt R1
 obtain ⟨f0, f1, f2, f3, f4, f5, f6, f7, f8, f9, f10, f11, f12, f13⟩ := Ep R1
 clear h1 h2 h3 h4 hrd ht R0;go_wp2_with fail;have hput := Jn (W := w1) (m := m) (v1 := .slice a1 m.streams.length c1) (v2 := .slice a2 m.links.length c2) (v3 := .slice a3 m.data.length c3) (v4 := .slice a4 m.proj.stripes.length c4) (cs := #[]) R1
 refine CC (fun W => Blk W (w.heap.size + 1) 32 (Db m (.slice a1 m.streams.length c1) (.slice a2 m.links.length c2) (.slice a3 m.data.length c3) (.slice a4 m.proj.stripes.length c4)) ∧ Tch (· = w.heap.size + 1) w1 W) ⟨hput, MC⟩ ?_
 intro W5 ⟨q5, ht5⟩;obtain ⟨n0, n1, n2, n3, n4, n5, n6, n7, n8, n9, n10, n11, n12, n13, ln⟩ := Bt q5
 have hz5 := ht5.size
 have hbF : Below w.heap.size w1 W5 := ht5.Cj zC fun b _ e => by omega
 refine Al (v := .agg #[.int .i64 m.kind, .int .u64 m.epoch, .int .u64 m.seq, .int .u64 m.pos, .int .i64 m.count, .int .i64 m.state, .slice a1 m.streams.length c1, .slice a2 m.links.length c2, .slice a3 m.data.length c3, .int .u64 m.sea.epoch, .int .u64 m.sea.node, .int .u64 m.sea.tail, .int .u64 m.proj.epoch, .slice a4 m.proj.stripes.length c4]) (by simp [results, Tryz.results39, go_sem, n0, n1, n2, n3, n4, n5, n6, n7, n8, n9, n10, n11, n12, n13]) rfl ⟨_, _, _, _, rfl, To (fun q hq => ht5.block q hq.2 zY) (fun q hq => ⟨zY, zAf⟩) HRW.out, (HIN1.out.row hbF).to⟩
end Go.Proofs.YtlbffbkbkajciaaGreat
