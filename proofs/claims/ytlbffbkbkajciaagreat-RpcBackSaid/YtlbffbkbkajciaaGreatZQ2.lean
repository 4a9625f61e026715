/- Mini: Needed by rpcBack_walk, part 2: texts put together by shake.py; no condition. -/
import Derived.Test.YtlbffbkbkajciaaGreatZO14
import Derived.Test.YtlbffbkbkajciaaGreatZQ1
import Derived.Deep.Cut
import Derived.Deep.CutRange
set_option linter.unusedVariables false
set_option linter.unusedSimpArgs false
set_option maxRecDepth 100000
set_option maxHeartbeats 6400000
namespace Go.Bs
theorem Z6{p:Prop}(h:p:=by simp [results, Tryz.results55, go_sem, p0, p1, p4]):p:=h
end Go.Bs
namespace Go.Proofs.YtlbffbkbkajciaaGreat
open Go.RowKit Go.Bs Go.Maps
theorem WO : (Tryz.prog.info? 32).map (fun i => (i.zero, i.size, i.bytes)) = some (some (.agg #[.int .i64 0, .int .u64 0, .int .u64 0, .int .u64 0, .int .i64 0, .int .i64 0, .slice none 0 0, .slice none 0 0, .slice none 0 0, .int .u64 0, .int .u64 0, .int .u64 0, .int .u64 0, .slice none 0 0]), 14, 176) := zH
theorem W9 {S : Nat → Prop} {w : World} {m : Msg} {a1 : Option Addr} {c1 : Nat} {a2 : Option Addr} {c2 : Nat} {a3 : Option Addr} {c3 : Nat} {a4 : Option Addr} {c4 : Nat} (h : AF S w m a1 c1 a2 c2 a3 c3 a4 c4) : Vt.r S w (UM m a1 c1 a2 c2 a3 c3 a4 c4) m :=
 ⟨[_], _, rfl, ⟨rfl, Pb h.kind⟩, [_], _, rfl, ⟨rfl, IL h.epoch⟩, [_], _, rfl, ⟨rfl, IL h.seq⟩, [_], _, rfl, ⟨rfl, IL h.pos⟩, [_], _, rfl, ⟨rfl, Pb h.count⟩, [_], _, rfl, ⟨rfl, Pb h.state⟩, [_], _, rfl, h.streams, [_], _, rfl, h.links, [_], _, rfl, h.data, [_, _, _], _, rfl,
  ⟨[_], _, rfl, ⟨rfl, IL h.sealE⟩, [_], _, rfl, ⟨rfl, IL h.sealN⟩, rfl, IL h.sealT⟩, [_], _, rfl, ⟨rfl, IL h.projE⟩, h.stripes⟩
theorem Wu {m : Msg} {a1 : Option Addr} {c1 : Nat} {a2 : Option Addr} {c2 : Nat} {a3 : Option Addr} {c3 : Nat} {a4 : Option Addr} {c4 : Nat} : ∀ u ∈ UM m a1 c1 a2 c2 a3 c3 a4 c4, u.oneCell' = true := by
 intro u hu;simp [UM] at hu
 rcases hu with rfl | rfl | rfl | rfl | rfl | rfl | rfl | rfl | rfl | rfl | rfl | rfl | rfl | rfl <;> rfl
theorem VW (w : World) (B : List UInt8) (a : Option Addr) (c0 c : Nat) (hl : Ag.r (· < w.heap.size) w [.slice a c0 c] B) (hB : B.length ≤ 1000000) {L : List Msg} {K F : Int} (hZ : VR B = (L, K, F)) :
  Calls Tryz.prog 55 #[.slice a c0 c] w fun r w' => ∃ v, r = .returned (.tuple #[v, .agg #[.int .i64 K, .int .i64 F]]) ∧ UL.r (fun q => w.heap.size ≤ q ∧ q < w'.heap.size) w' [v] L ∧ Below w.heap.size w w' := by
 obtain ⟨rfl, hmx, hcc, hcm⟩ := AP hl
 obtain ⟨i0, hi, hz0, hz1, hz2⟩ := Bq WO
 have HL := hid hl
 have hsp0 : UJ [] (Uw B (B.length + 1) 0) = (L, K, F) := by rw [Wf (VV B _ _) (Vz B _ _)]; exact hZ
 have HS0 := hid hsp0
 clear hl hZ hsp0;go_enter Tryz.func55, Tryz.ntmps55
 go_wp2_with fail;go_loopw [4, 5] (fun v i wr => ∃ (p fu : Nat) (J : List Msg), p ≤ B.length ∧ i = .int .i64 p ∧ AY (w.heap.size + 1) Vt (w.heap.size + 1) 32 14 wr v J ∧ Hid (UJ J (Uw B (fu + 1) p) = (L, K, F)) ∧ B.length ≤ p + fu ∧ J.length ≤ p ∧ Blk wr w.heap.size 58 #[.int .i64 0, .int .i64 0] ∧ Below w.heap.size w wr) (fun _ i _ => B.length - (intOf i).toNat)
 case atStart => exact ⟨0, B.length, [], Aj _, rfl, AY.nil, HS0, zD, Aj _, zC, zA⟩
 case round =>
  obtain ⟨p, fu, J, hp, rfl, hown, hsp, hfu, hJp, hfb, hb⟩ := hrel
  obtain ⟨cells0, hca⟩ := hown
  obtain ⟨aJ, cJ, rfl⟩ := Bh hca.1
  have HO := hid (show AY (w.heap.size + 1) Vt (w.heap.size + 1) 32 14 wr (.slice aJ J.length cJ) J from ⟨cells0, hca⟩)
  have hwr := hfb.lt
  clear hca;by_cases hlt : p < B.length
  ·have i1 : (p : Int) < (B.length : Int) := by omega
   have d1 : decide ((p : Int) < (B.length : Int)) = true := Ac i1
   obtain ⟨A', c', hcut, hrd⟩ := Xc (lift HL.out hb) (lo := p) hp
   generalize hg : UE (B.drop p) = G at *
   have hpos : G.2.2.2.1 = 0 → 0 < G.2.2.1 ∧ p + G.2.2.1 ≤ B.length := fun h => by
    have := VN (B := B.drop p) (blk := fun P => C4 P) (fl := flS) (by unfold UE at hg; rw [hg]; exact h)
    unfold UE at hg;rw [hg, List.length_drop] at this
    omega
   have hstep : G.2.2.2.1 = 0 → 1 ≤ fu → UJ J (Uw B (fu + 1) p) = UJ (J ++ [G.1]) (Uw B (fu - 1 + 1) (p + G.2.2.1)) := fun h h1 => by
    have := VL B fu p J hlt (by rw [hg]; exact h)
    rw [hg] at this
    rw [this, Nat.sub_add_cancel h1]
   have hstop : G.2.2.2.1 ≠ 0 → UJ J (Uw B (fu + 1) p) = ([], G.2.2.2.1, wrap64 (G.2.2.2.2 + (p : Int))) := fun h => by
    have := VK B fu p J hlt (by rw [hg]; exact h)
    rw [hg] at this
    exact this
   obtain ⟨m, q, n, k, f⟩ := G
   dsimp only at hpos hstep hstop;have HG := hid (Vs wr (B.drop p) A' _ c' hrd zL hg)
   have HGD := hid (fun (W : World) => CA W k f)
   have HB := hid hb
   have HFB := hid hfb
   clear hrd hg hb hfb;go_wp2_with fail;refine HG.out.mono ?_
   rintro r w1 ⟨a1, a1', a2, a2', a3, a3', a4, a4', rfl, hm1, hb1⟩;have hlow1 : w.heap.size < w1.heap.size := Ah hwr hb1.size
   have E2 : Blk ((w1.alloc (.cells #[.int .i64 m.kind, .int .u64 m.epoch, .int .u64 m.seq, .int .u64 m.pos, .int .i64 m.count, .int .i64 m.state, .slice a1 m.streams.length a1', .slice a2 m.links.length a2', .slice a3 m.data.length a3', .int .u64 m.sea.epoch, .int .u64 m.sea.node, .int .u64 m.sea.tail, .int .u64 m.proj.epoch, .slice a4 m.proj.stripes.length a4'] 32)).alloc (.cells #[.int .i64 k, .int .i64 f] 58)) w1.heap.size 32 #[.int .i64 m.kind, .int .u64 m.epoch, .int .u64 m.seq, .int .u64 m.pos, .int .i64 m.count, .int .i64 m.state, .slice a1 m.streams.length a1', .slice a2 m.links.length a2', .slice a3 m.data.length a3', .int .u64 m.sea.epoch, .int .u64 m.sea.node, .int .u64 m.sea.tail, .int .u64 m.proj.epoch, .slice a4 m.proj.stripes.length a4'] := zC
   have F2 : Blk ((w1.alloc (.cells #[.int .i64 m.kind, .int .u64 m.epoch, .int .u64 m.seq, .int .u64 m.pos, .int .i64 m.count, .int .i64 m.state, .slice a1 m.streams.length a1', .slice a2 m.links.length a2', .slice a3 m.data.length a3', .int .u64 m.sea.epoch, .int .u64 m.sea.node, .int .u64 m.sea.tail, .int .u64 m.proj.epoch, .slice a4 m.proj.stripes.length a4'] 32)).alloc (.cells #[.int .i64 k, .int .i64 f] 58)) (w1.heap.size + 1) 58 #[.int .i64 k, .int .i64 f] := zC
   have hb2 : Below w1.heap.size w1 ((w1.alloc (.cells #[.int .i64 m.kind, .int .u64 m.epoch, .int .u64 m.seq, .int .u64 m.pos, .int .i64 m.count, .int .i64 m.state, .slice a1 m.streams.length a1', .slice a2 m.links.length a2', .slice a3 m.data.length a3', .int .u64 m.sea.epoch, .int .u64 m.sea.node, .int .u64 m.sea.tail, .int .u64 m.proj.epoch, .slice a4 m.proj.stripes.length a4'] 32)).alloc (.cells #[.int .i64 k, .int .i64 f] 58)) := zA
   have X2 := hid (AF.C6 (S' := fun q => wr.heap.size ≤ q ∧ q < w1.heap.size) hm1 (fun q hq => hb2.block q hq.2) (fun q hq => hq))
   have HO2 := hid ((HO.out.below hb1).below hb2)
   have HB2 := hid (Af hb2 (Af hb1 HB.out))
   have HFB2 := hid ((HFB.out.later hb1).later hb2)
   have l2 : w1.heap.size + 1 < (((w1.alloc (.cells #[.int .i64 m.kind, .int .u64 m.epoch, .int .u64 m.seq, .int .u64 m.pos, .int .i64 m.count, .int .i64 m.state, .slice a1 m.streams.length a1', .slice a2 m.links.length a2', .slice a3 m.data.length a3', .int .u64 m.sea.epoch, .int .u64 m.sea.node, .int .u64 m.sea.tail, .int .u64 m.proj.epoch, .slice a4 m.proj.stripes.length a4'] 32)).alloc (.cells #[.int .i64 k, .int .i64 f] 58))).heap.size := zO
   have hwr1 := hb1.size
   obtain ⟨y0, y1, y2, y3, y4, y5, y6, y7, y8, y9, y10, y11, y12, y13, ly⟩ := AZ E2
   obtain ⟨f0, f1, f2, f3, f4⟩ := Bu F2
   clear hm1 hb1 hb2;go_wp2_with fail;generalize ((w1.alloc (.cells #[.int .i64 m.kind, .int .u64 m.epoch, .int .u64 m.seq, .int .u64 m.pos, .int .i64 m.count, .int .i64 m.state, .slice a1 m.streams.length a1', .slice a2 m.links.length a2', .slice a3 m.data.length a3', .int .u64 m.sea.epoch, .int .u64 m.sea.node, .int .u64 m.sea.tail, .int .u64 m.proj.epoch, .slice a4 m.proj.stripes.length a4'] 32)).alloc (.cells #[.int .i64 k, .int .i64 f] 58)) = w2 at *
   by_cases hk : k = 0
   ·rw [Ac hk] at HGD
    obtain ⟨hn0, hn1⟩ := hpos hk
    have hst := hsp.out
    rw [hstep hk zD] at hst
    have HST := hid hst
    clear hk hst hstep hstop hpos;refine (HGD.out _).mono ?_
    rintro r w3 ⟨rfl, hb3⟩;have E3 := E2.later hb3
    have X3 := hid (AF.C6 X2.out (fun q hq => hb3.block q zD) (fun q hq => hq))
    have HO3 := hid (HO2.out.below hb3)
    have HB3 := hid (Af hb3 HB2.out)
    have HFB3 := hid (HFB2.out.later hb3)
    have l3 := Ah l2 hb3.size
    clear hb3 E2 F2 X2 HO2 HB2 HFB2 y0 y1 y2 y3 y4 y5 y6 y7 y8 y9 y10 y11 y12 y13 ly f0 f1 f2 f3 f4;obtain ⟨y0, y1, y2, y3, y4, y5, y6, y7, y8, y9, y10, y11, y12, y13, ly⟩ := AZ E3
    have hb4 : Below w3.heap.size w3 (w3.alloc (.cells #[.int .i64 m.kind, .int .u64 m.epoch, .int .u64 m.seq, .int .u64 m.pos, .int .i64 m.count, .int .i64 m.state, .slice a1 m.streams.length a1', .slice a2 m.links.length a2', .slice a3 m.data.length a3', .int .u64 m.sea.epoch, .int .u64 m.sea.node, .int .u64 m.sea.tail, .int .u64 m.proj.epoch, .slice a4 m.proj.stripes.length a4'] 32)) := zA
    have X4 := hid (AF.C6 (w' := w3.alloc (.cells #[.int .i64 m.kind, .int .u64 m.epoch, .int .u64 m.seq, .int .u64 m.pos, .int .i64 m.count, .int .i64 m.state, .slice a1 m.streams.length a1', .slice a2 m.links.length a2', .slice a3 m.data.length a3', .int .u64 m.sea.epoch, .int .u64 m.sea.node, .int .u64 m.sea.tail, .int .u64 m.proj.epoch, .slice a4 m.proj.stripes.length a4'] 32)) X3.out (fun q hq => hb4.block q zD) (fun q hq => hq))
    obtain ⟨cells3, hc3⟩ := HO3.out.below hb4
    have hlt0 : ∀ g', (Value.slice aJ J.length cJ).ownBlock = some g' → g' < wr.heap.size := fun g' e => by
     obtain ⟨_, h⟩ := HO.out
     exact (h.1.lt g' e).2
    have hx4 : Vt.r (fun q => w.heap.size + 1 ≤ q ∧ q < (w3.alloc (.cells #[.int .i64 m.kind, .int .u64 m.epoch, .int .u64 m.seq, .int .u64 m.pos, .int .i64 m.count, .int .i64 m.state, .slice a1 m.streams.length a1', .slice a2 m.links.length a2', .slice a3 m.data.length a3', .int .u64 m.sea.epoch, .int .u64 m.sea.node, .int .u64 m.sea.tail, .int .u64 m.proj.epoch, .slice a4 m.proj.stripes.length a4'] 32)).heap.size ∧ (Value.slice aJ J.length cJ).ownBlock ≠ some q) (w3.alloc (.cells #[.int .i64 m.kind, .int .u64 m.epoch, .int .u64 m.seq, .int .u64 m.pos, .int .i64 m.count, .int .i64 m.state, .slice a1 m.streams.length a1', .slice a2 m.links.length a2', .slice a3 m.data.length a3', .int .u64 m.sea.epoch, .int .u64 m.sea.node, .int .u64 m.sea.tail, .int .u64 m.proj.epoch, .slice a4 m.proj.stripes.length a4'] 32)) (UM m a1 a1' a2 a2' a3 a3' a4 a4') m :=
     Vt.mono (W9 X4.out) fun q hq => ⟨zD, zL, fun e => by have := hlt0 q e; omega⟩
    have HX := hid hx4
    have HC3 := hid hc3
    clear hx4 hc3 hlt0 hb4;unfold UM at HX;go_wp2_with (at_builtin; go_loud (refine AB rfl _ _ _ rfl (w.heap.size + 1) 32 i0 (.agg #[.int .i64 0, .int .u64 0, .int .u64 0, .int .u64 0, .int .i64 0, .int .i64 0, .slice none 0 0, .slice none 0 0, .slice none 0 0, .int .u64 0, .int .u64 0, .int .u64 0, .int .u64 0, .slice none 0 0]) 14 176 Tryz.underlying46 hi hz0 hz1 hz2 rfl zP (.slice aJ J.length cJ) J.length cells3.flatten rfl HC3.out.1 (some ⟨w3.heap.size, 0, none⟩) 1 1 [.int .i64 m.kind, .int .u64 m.epoch, .int .u64 m.seq, .int .u64 m.pos, .int .i64 m.count, .int .i64 m.state, .slice a1 m.streams.length a1', .slice a2 m.links.length a2', .slice a3 m.data.length a3', .int .u64 m.sea.epoch, .int .u64 m.sea.node, .int .u64 m.sea.tail, .int .u64 m.proj.epoch, .slice a4 m.proj.stripes.length a4'] rfl (B9 w3 32 _ rfl rfl rfl) Wu zQ zD zL ?_; intro v5 w5 hown5 hgrow5 hat5; have HO5 := hid (AY.push HC3.out rfl HX.out hown5 hgrow5 hat5 hgrow5.size); have HB5 := hid (Below.grown (HB3.out.alloc HB3.out.size (.cells #[.int .i64 m.kind, .int .u64 m.epoch, .int .u64 m.seq, .int .u64 m.pos, .int .i64 m.count, .int .i64 m.state, .slice a1 m.streams.length a1', .slice a2 m.links.length a2', .slice a3 m.data.length a3', .int .u64 m.sea.epoch, .int .u64 m.sea.node, .int .u64 m.sea.tail, .int .u64 m.proj.epoch, .slice a4 m.proj.stripes.length a4'] 32)) hgrow5 zL (fun g e => by have := (HC3.out.1.lt g e).1; omega)); have HFB5 := hid ((HFB3.out.alloc (.cells #[.int .i64 m.kind, .int .u64 m.epoch, .int .u64 m.seq, .int .u64 m.pos, .int .i64 m.count, .int .i64 m.state, .slice a1 m.streams.length a1', .slice a2 m.links.length a2', .slice a3 m.data.length a3', .int .u64 m.sea.epoch, .int .u64 m.sea.node, .int .u64 m.sea.tail, .int .u64 m.proj.epoch, .slice a4 m.proj.stripes.length a4'] 32)).grown hgrow5 (fun e => by have := (HC3.out.1.lt _ e.symm).1; omega)); clear hown5 hgrow5 hat5))
    go_roundw
    case rel => exact ⟨p + n, fu - 1, J ++ [m], hn1, zW, HO5.out, HST, zD, by rw [Am]; simp; omega, HFB5.out, HB5.out⟩
    case measure => (simp [intOf]; try omega)
   ·rw [Ab hk] at HGD
    have hst := hsp.out
    rw [hstop hk] at hst
    have hsh := fun (W : World) => Mx W k f (p : Int) hk
    generalize wrap64 (f + (p : Int)) = FV at hsh hst
    simp only [CG] at hst
    obtain ⟨rfl, rfl, rfl⟩ := hst
    have HSH := hid hsh
    clear hsh hk hstep hstop hpos hsp HS0;refine (HGD.out _).mono ?_
    rintro r w3 ⟨rfl, hb3⟩;have F3 := F2.later hb3
    have HB3 := hid (Af hb3 HB2.out)
    have HFB3 := hid (HFB2.out.later hb3)
    clear hb3 E2 F2 X2 HO2 HB2 HFB2 y0 y1 y2 y3 y4 y5 y6 y7 y8 y9 y10 y11 y12 y13 ly f0 f1 f2 f3 f4;obtain ⟨f0, f1, f2, f3, f4⟩ := Bu F3
    go_wp2_with fail;refine (HSH.out _).mono ?_
    rintro r w4 ⟨rfl, hb4⟩;have hbe := Af hb4 HB3.out
    have hfe := HFB3.out.later hb4
    obtain ⟨p0, p1, p2, p3, p4⟩ := Bu hfe
    clear hb4 f0 f1 f2 f3 f4;go_wp2_with fail;refine Ai (v := .tuple #[.slice none 0 0, .agg #[.int .i64 k, .int .i64 FV]]) Z6 rfl ⟨_, rfl, A3 (xs := []) rfl (Al _) (Aj _) (.inl rfl), zA⟩
  ·obtain rfl : p = B.length := by omega
   have d1 : decide ((B.length : Int) < (B.length : Int)) = false := Ab zD
   have hst := hsp.out
   rw [Wg B fu B.length J zD] at hst
   simp only [CG] at hst
   obtain ⟨rfl, rfl, rfl⟩ := hst
   have HV := hid (HO.out.slice (Al _))
   clear hsp HS0;obtain ⟨p0, p1, p2, p3, p4⟩ := Bu hfb
   go_wp2_with fail;refine Ai (v := .tuple #[.slice aJ J.length cJ, .agg #[.int .i64 0, .int .i64 0]]) Z6 rfl ⟨_, rfl, ?_, zA⟩
   refine UL.mono (UL.keep HV.out fun q hq => ?_) fun q hq => ⟨zU, by simp [World.setCell]; exact hq.2⟩
   have := hq.1
   repeat (rw [AG _ _ _ _ zM])
theorem W4 : Qh Tryz.prog 46 UL := Nk (sz := 14) Tryz.underlying46 zH zP Xf
theorem Wt {H : Type} (enc : TypeId × Value → H) (W : World) (base : Nat) (v0 : Value) (d0 : DataW H) (p0 : List MemPlace)
  (k0 : DataW.Trod enc Tryz.prog W 0 (fun _ => true) true 46 v0 d0 p0) (o0 : Value.okWide Tryz.prog W .any base 46 v0) :
  ∃ (l : List Msg) (a : Option Addr) (n c : Nat), v0 = .slice a n c ∧ UL.r (· < W.heap.size) W [.slice a n c] l := by
 obtain ⟨fuel, hf⟩ := k0
 obtain ⟨a, n, c, rfl⟩ := Go.WideShapes.okWide_slice Tryz.underlying46 o0
 obtain ⟨u, hu⟩ := W4 enc W fuel _ _ hf
 exact ⟨u, a, n, c, rfl, hu⟩
theorem Wn {l : List Msg} (h : ∀ m ∈ l, FV m = true ∧ m.data.length ≤ 300) : (UF l).length ≤ l.length * 49335 := by
 induction l with
 | nil => simp [UF]
 | cons m l ih =>
  obtain ⟨h1, h2⟩ := h m (List.mem_cons_self ..)
  have h3 := UG h1
  have h4 := ih fun x hx => h x (List.mem_cons_of_mem _ hx)
  have e : UF (m :: l) = BU (IT m) ++ UF l := by simp [UF]
  rw [e, Am, A7, Nat.succ_mul]
  omega
theorem Wa {S : Nat → Prop} {w : World} {l : List Msg} {a : Option Addr} {n c : Nat} (h : UL.r S w [.slice a n c] l) : ∀ m ∈ l, Ut m ∧ inU m.seq := fun m hm => by
 obtain ⟨i, hi, rfl⟩ := List.getElem_of_mem hm
 obtain ⟨b, o, hA, hbb, a1, c1, a2, c2, a3, c3, a4, c4, uu, xl⟩ := Va h hi
 exact ⟨Wv xl, xl.seq⟩
set_option maxHeartbeats 12800000 in
theorem VX (l : List Msg) (a : Option Addr) (n c : Nat) (cut : Int) (w : World) (hl : UL.r (· < w.heap.size) w [.slice a n c] l) (hcut : -9223372036854775808 ≤ cut ∧ cut ≤ 9223372036854775807) :
  Calls Tryz.prog 11 #[.slice a n c, .int .i64 cut] w fun r w' => r = .returned (.bool true) ∧ Below w.heap.size w w' := by
 obtain ⟨rfl, hm, _, _⟩ := AP hl
 have HL := hid hl
 have HMN := hid (VF l a _ c w hl)
 cases hmn : UW l
 ·rw [hmn] at HMN
  obtain ⟨hlen, hsh0⟩ := UY hmn
  have hsh : ∀ m ∈ l, WG m := fun m hm => Wc (hsh0 m hm)
  have HALL := hid (fun (W : World) (hW : Below w.heap.size w W) => WJ l a _ c W (lift hl hW) hsh hlen)
  have HSH := hid (fun (k : Nat) (h : k < l.length) => hsh l[k] (BZ h))
  have hnum := Wa hl
  cases hR : VP l
  ·have hab : UB l = ([], 3) := by unfold UB; rw [hR]; rfl
   rw [hab] at HALL
   clear hl hmn hsh hsh0 hnum hR hab HSH;go_enter Tryz.func11, Tryz.ntmps11
   go_wp2_with fail;refine HMN.out.mono ?_
   rintro r w0 ⟨rfl, hbw0⟩;go_wp2_with fail;refine (HALL.out _ hbw0).mono ?_
   rintro r w1 ⟨v1, rfl, hr1, hb1⟩;obtain ⟨aF, cF, hfv, hr1', _⟩ := AE hr1
   simp only [Ap, AD] at hfv
   subst hfv;have hbw1 := Af hb1 hbw0
   clear hr1 hr1' hb1 hbw0;go_wp2_with fail;refine (H3 _).mono ?_
   rintro r w99 ⟨rfl, hb99⟩;have hbe := Af hb99 hbw1
   go_wp2;go_ret;exact ⟨rfl, hbe⟩
  ·have hab : UB l = (UF l, 0) := by unfold UB; rw [Ak hR]
   rw [hab] at HALL
   have hfacts : ∀ m ∈ l, Ut m ∧ FV m = true ∧ inU m.seq := fun m hm => ⟨(hnum m hm).1, List.all_eq_true.1 hR m hm, (hnum m hm).2⟩
   have hsp := VU hfacts
   have hlenA : (UF l).length ≤ 1000000 := by
    have := Wn (l := l) fun m hm => ⟨(hfacts m hm).2.1, (hsh m hm).data⟩
    omega
   have HNX := hid (fun (k : Nat) (h : k < l.length) => hfacts l[k] (BZ h))
   generalize UF l = A at *
   have HSP := hid (fun (V : World) (a' : Option Addr) (c' : Nat) (h : Ag.r (· < V.heap.size) V [.slice a' A.length c'] A) => VW V A a' _ c' h hlenA hsp)
   clear hl hmn hsh hsh0 hnum hR hab hfacts hsp;go_enter Tryz.func11, Tryz.ntmps11
   go_wp2_with fail;refine HMN.out.mono ?_
   rintro r w0 ⟨rfl, hbw0⟩;go_wp2_with fail;refine (HALL.out _ hbw0).mono ?_
   rintro r w1 ⟨v1, rfl, hr1, hb1⟩;obtain ⟨aA, cA, hfv, hr1', _⟩ := AE hr1
   simp only [Ap, AD] at hfv
   subst hfv;have hbw1 := Af hb1 hbw0
   have HA1 := hid (Ag.mono hr1' (S' := (· < w1.heap.size)) fun q hq => hq.2)
   clear hr1 hr1' hb1 hbw0;go_wp2_with fail;refine (HSP.out _ _ _ HA1.out).mono ?_
   rintro r w2 ⟨v2, rfl, hr2, hb2⟩;obtain ⟨aB, cB, hfv, hr2', _⟩ := AE hr2
   simp only [Ap, AD] at hfv
   subst hfv;have hbw2 := Af hb2 hbw1
   have hbw3 : Below w.heap.size w (w2.alloc (.cells #[.int .i64 0, .int .i64 0] 58)) := Az hbw2 _
   have HB3 := hid (lift (UL.mono hr2' (S' := (· < w2.heap.size)) fun q hq => hq.2) (show Below w2.heap.size w2 (w2.alloc (.cells #[.int .i64 0, .int .i64 0] 58)) by (repeat (first | with_reducible exact Below.refl _ _ | with_reducible assumption | (with_reducible refine Az ?_ _) | (with_reducible refine Below.setCell ?_ zE _) | (with_reducible refine Below.drew ?_) | (with_reducible refine below_drewN ?_ _) | (refine Af zJ ?_)))))
   have HSM := hid (VB l aB a _ cB _ c _ HB3.out (lift HL.out hbw3))
   clear hr2 hr2' hb2 hbw1 hbw2 HA1 HSP;go_wp2_with fail;refine HSM.out.mono ?_
   rintro r w4 ⟨rfl, hb4⟩;have hbw4 := Af hb4 hbw3
   clear hb4 hbw3 HB3 HSM;go_wp2_with fail;go_loopw [9] (fun i wr => ∃ k : Nat, k ≤ l.length ∧ i = .int .i64 k ∧ Below w.heap.size w wr) (fun i _ => l.length - (intOf i).toNat)
   case atStart => exact ⟨0, Aj _, rfl, hbw4⟩
   case round =>
    obtain ⟨k, hk, rfl, hb⟩ := hrel
    by_cases hlt : k < l.length
    ·skip
     have i1 : (k : Int) < (l.length : Int) := zD
     have i0 : (0 : Int) ≤ (k : Int) := zD
     have e1 : decide ((k : Int) < (l.length : Int)) = true := Ac i1
     obtain ⟨b, o, hA, hbb, a1, c1, a2, c2, a3, c3, a4, c4, uu, xl⟩ := Va (lift HL.out hb) hlt
     subst hA;have hs := HSH.out k hlt
     obtain ⟨hN, hr, hsq⟩ := HNX.out k hlt
     have hbl : b < wr.heap.size := Ck _ _ uu.1
     have hdl := hs.data
     have HB := hid hb
     generalize l[k] = m at *
     have hBy := Lq wr m a1 c1 a2 c2 a3 c3 a4 c4 xl (fun x hx => by have := hs.backs x hx; omega) zD
     rw [show E6 m = (BU (IT m), 0) by unfold E6; rw [Ak hr]] at hBy
     obtain ⟨hdS, hdL⟩ := WA hN hr hsq
     have hP := US hr
     have hFl : (BU (IT m)).length ≤ 49335 := by have := UG hr; omega
     have hF5 := UX (IT m)
     have hsht : ∀ cc : Nat, cc < (BU (IT m)).length → UE ((BU (IT m)).take cc) = (CU, false, 0, 1, (cc : Int)) := fun cc h => by
      have := Xb (VY h) hP
      rwa [List.length_take, Nat.min_eq_left (Nat.le_of_lt h)] at this
     generalize BU (IT m) = F at *
     have HBY := hid hBy
     have HD := hid (fun (V : World) (a' : Option Addr) (c' : Nat) (h : Ag.r (· < V.heap.size) V [.slice a' F.length c'] F) => Ow V F a' _ c' h zD hdS)
     have HDL := hid (fun (V : World) (a' : Option Addr) (c' : Nat) (h : Ag.r (· < V.heap.size) V [.slice a' F.length c'] F) => JJ V F a' _ c' h zD hdL)
     have HGT := hid (fun (V : World) (cc : Nat) (hc : cc < F.length) (a' : Option Addr) (c' : Nat) (h : Ag.r (· < V.heap.size) V [.slice a' cc c'] (F.take cc)) => Vs V (F.take cc) a' _ c' h zL (hsht cc hc))
     have HXE := hid xl
     have HUU := hid uu
     obtain ⟨u0, u1, u2, u3, u4, u5, u6, u7, u8, u9, u10, u11, u12, u13⟩ := uu
     clear hs hN hr hsq hBy hdS hdL hP hsht xl hb hdl;go_wp2_with fail;refine HBY.out.mono ?_
     rintro r w1 ⟨v1, rfl, hr1, hb1⟩;obtain ⟨aF, cF, hfv, hr1', _⟩ := AE hr1
     simp only [Ap, AD] at hfv
     subst hfv;have HO1 := hid (Ag.mono hr1' (S' := (· < w1.heap.size)) fun q hq => hq.2)
     have hbe1 := hb1
     clear hr1 hr1' hb1 u0 u1 u2 u3 u4 u5 u6 u7 u8 u9 u10 u11 u12 u13;go_wp2_with fail;refine (HD.out w1 _ _ HO1.out).mono ?_
     rintro r w2 ⟨x1, x1', x2, x2', x3, x3', x4, x4', rfl, hm2, hb2⟩;have X12 := hid (AF.C6 hm2 (fun q hq => rfl) (fun q hq => (hq.2 : q < w2.heap.size)))
     have E2 : Blk ((w2.alloc (.cells #[.int .i64 m.kind, .int .u64 m.epoch, .int .u64 m.seq, .int .u64 m.pos, .int .i64 m.count, .int .i64 m.state, .slice x1 m.streams.length x1', .slice x2 m.links.length x2', .slice x3 m.data.length x3', .int .u64 m.sea.epoch, .int .u64 m.sea.node, .int .u64 m.sea.tail, .int .u64 m.proj.epoch, .slice x4 m.proj.stripes.length x4'] 32)).alloc (.cells #[.int .i64 0, .int .i64 0] 58)) w2.heap.size 32 #[.int .i64 m.kind, .int .u64 m.epoch, .int .u64 m.seq, .int .u64 m.pos, .int .i64 m.count, .int .i64 m.state, .slice x1 m.streams.length x1', .slice x2 m.links.length x2', .slice x3 m.data.length x3', .int .u64 m.sea.epoch, .int .u64 m.sea.node, .int .u64 m.sea.tail, .int .u64 m.proj.epoch, .slice x4 m.proj.stripes.length x4'] := zC
     have F2 : Blk ((w2.alloc (.cells #[.int .i64 m.kind, .int .u64 m.epoch, .int .u64 m.seq, .int .u64 m.pos, .int .i64 m.count, .int .i64 m.state, .slice x1 m.streams.length x1', .slice x2 m.links.length x2', .slice x3 m.data.length x3', .int .u64 m.sea.epoch, .int .u64 m.sea.node, .int .u64 m.sea.tail, .int .u64 m.proj.epoch, .slice x4 m.proj.stripes.length x4'] 32)).alloc (.cells #[.int .i64 0, .int .i64 0] 58)) (w2.heap.size + 1) 58 #[.int .i64 0, .int .i64 0] := zC
     have hbA : Below w2.heap.size w2 ((w2.alloc (.cells #[.int .i64 m.kind, .int .u64 m.epoch, .int .u64 m.seq, .int .u64 m.pos, .int .i64 m.count, .int .i64 m.state, .slice x1 m.streams.length x1', .slice x2 m.links.length x2', .slice x3 m.data.length x3', .int .u64 m.sea.epoch, .int .u64 m.sea.node, .int .u64 m.sea.tail, .int .u64 m.proj.epoch, .slice x4 m.proj.stripes.length x4'] 32)).alloc (.cells #[.int .i64 0, .int .i64 0] 58)) := zA
     have T43 := hid E2
     have T53 := hid F2
     have X13 := hid (AF.lift X12.out hbA)
     have O3 := hid (lift (lift HO1.out hb2) hbA)
     have hbe3 := Af hbA (Af hb2 hbe1)
     clear HO1 hm2 hb2 X12 E2 F2 hbA hbe1;go_wp2_with fail;generalize ((w2.alloc (.cells #[.int .i64 m.kind, .int .u64 m.epoch, .int .u64 m.seq, .int .u64 m.pos, .int .i64 m.count, .int .i64 m.state, .slice x1 m.streams.length x1', .slice x2 m.links.length x2', .slice x3 m.data.length x3', .int .u64 m.sea.epoch, .int .u64 m.sea.node, .int .u64 m.sea.tail, .int .u64 m.proj.epoch, .slice x4 m.proj.stripes.length x4'] 32)).alloc (.cells #[.int .i64 0, .int .i64 0] 58)) = w3 at *
     refine (HDL.out w3 _ _ O3.out).mono ?_
     rintro r w4 ⟨y1, y1', y2, y2', y3, y3', y4, y4', rfl, hm4, hb4⟩;have X24 := hid (AF.C6 hm4 (fun q hq => rfl) (fun q hq => (hq.2 : q < w4.heap.size)))
     have E4 : Blk ((w4.alloc (.cells #[.int .i64 m.kind, .int .u64 m.epoch, .int .u64 m.seq, .int .u64 m.pos, .int .i64 m.count, .int .i64 m.state, .slice y1 m.streams.length y1', .slice y2 m.links.length y2', .slice y3 m.data.length y3', .int .u64 m.sea.epoch, .int .u64 m.sea.node, .int .u64 m.sea.tail, .int .u64 m.proj.epoch, .slice y4 m.proj.stripes.length y4'] 32)).alloc (.cells #[.int .i64 0, .int .i64 0] 58)) w4.heap.size 32 #[.int .i64 m.kind, .int .u64 m.epoch, .int .u64 m.seq, .int .u64 m.pos, .int .i64 m.count, .int .i64 m.state, .slice y1 m.streams.length y1', .slice y2 m.links.length y2', .slice y3 m.data.length y3', .int .u64 m.sea.epoch, .int .u64 m.sea.node, .int .u64 m.sea.tail, .int .u64 m.proj.epoch, .slice y4 m.proj.stripes.length y4'] := zC
     have F4 : Blk ((w4.alloc (.cells #[.int .i64 m.kind, .int .u64 m.epoch, .int .u64 m.seq, .int .u64 m.pos, .int .i64 m.count, .int .i64 m.state, .slice y1 m.streams.length y1', .slice y2 m.links.length y2', .slice y3 m.data.length y3', .int .u64 m.sea.epoch, .int .u64 m.sea.node, .int .u64 m.sea.tail, .int .u64 m.proj.epoch, .slice y4 m.proj.stripes.length y4'] 32)).alloc (.cells #[.int .i64 0, .int .i64 0] 58)) (w4.heap.size + 1) 58 #[.int .i64 0, .int .i64 0] := zC
     have hbA : Below w4.heap.size w4 ((w4.alloc (.cells #[.int .i64 m.kind, .int .u64 m.epoch, .int .u64 m.seq, .int .u64 m.pos, .int .i64 m.count, .int .i64 m.state, .slice y1 m.streams.length y1', .slice y2 m.links.length y2', .slice y3 m.data.length y3', .int .u64 m.sea.epoch, .int .u64 m.sea.node, .int .u64 m.sea.tail, .int .u64 m.proj.epoch, .slice y4 m.proj.stripes.length y4'] 32)).alloc (.cells #[.int .i64 0, .int .i64 0] 58)) := zA
     have T6d := hid E4
     have T8d := hid F4
     have T4d := hid ((T43.out.later hb4).later hbA)
     have T5d := hid ((T53.out.later hb4).later hbA)
     have X1d := hid (AF.lift (AF.lift X13.out hb4) hbA)
     have X2d := hid (AF.lift X24.out hbA)
     have Od := hid (lift (lift O3.out hb4) hbA)
     have hbe5 := Af hbA (Af hb4 hbe3)
     clear T43 T53 X13 O3 hbe3 hm4 hb4 X24 E4 F4 hbA;go_upto_region 15 with (fail)
     generalize ((w4.alloc (.cells #[.int .i64 m.kind, .int .u64 m.epoch, .int .u64 m.seq, .int .u64 m.pos, .int .i64 m.count, .int .i64 m.state, .slice y1 m.streams.length y1', .slice y2 m.links.length y2', .slice y3 m.data.length y3', .int .u64 m.sea.epoch, .int .u64 m.sea.node, .int .u64 m.sea.tail, .int .u64 m.proj.epoch, .slice y4 m.proj.stripes.length y4'] 32)).alloc (.cells #[.int .i64 0, .int .i64 0] 58)) = w5 at *
     have HQ1 := hid (fun s : AN w5 => Fh m s.at_ x1 x2 x3 x4 a1 a2 a3 a4 x1' x2' x3' x4' c1 c2 c3 c4 (AF.lift X1d.out s.below) (AF.lift HXE.out (hbe5.trans (s.below.mono hbe5.size))))
     have HQ2 := hid (fun s : AN w5 => Fh m s.at_ y1 y2 y3 y4 a1 a2 a3 a4 y1' y2' y3' y4' c1 c2 c3 c4 (AF.lift X2d.out s.below) (AF.lift HXE.out (hbe5.trans (s.below.mono hbe5.size))))
     obtain ⟨u0, u1, u2, u3, u4, u5, u6, u7, u8, u9, u10, u11, u12, u13⟩ := HUU.out
     have U0 := fun s : AN w5 => s.cell ((hbe5.cell (p := ⟨b, o + k * 14, none⟩) hbl).trans u0)
     have U1 := fun s : AN w5 => s.cell ((hbe5.cell (p := ⟨b, o + k * 14 + 1, none⟩) hbl).trans u1)
     have U2 := fun s : AN w5 => s.cell ((hbe5.cell (p := ⟨b, o + k * 14 + 2, none⟩) hbl).trans u2)
     have U3 := fun s : AN w5 => s.cell ((hbe5.cell (p := ⟨b, o + k * 14 + 3, none⟩) hbl).trans u3)
     have U4 := fun s : AN w5 => s.cell ((hbe5.cell (p := ⟨b, o + k * 14 + 4, none⟩) hbl).trans u4)
     have U5 := fun s : AN w5 => s.cell ((hbe5.cell (p := ⟨b, o + k * 14 + 5, none⟩) hbl).trans u5)
     have U6 := fun s : AN w5 => s.cell ((hbe5.cell (p := ⟨b, o + k * 14 + 6, none⟩) hbl).trans u6)
     have U7 := fun s : AN w5 => s.cell ((hbe5.cell (p := ⟨b, o + k * 14 + 7, none⟩) hbl).trans u7)
     have U8 := fun s : AN w5 => s.cell ((hbe5.cell (p := ⟨b, o + k * 14 + 8, none⟩) hbl).trans u8)
     have U9 := fun s : AN w5 => s.cell ((hbe5.cell (p := ⟨b, o + k * 14 + 9, none⟩) hbl).trans u9)
     have U10 := fun s : AN w5 => s.cell ((hbe5.cell (p := ⟨b, o + k * 14 + 10, none⟩) hbl).trans u10)
     have U11 := fun s : AN w5 => s.cell ((hbe5.cell (p := ⟨b, o + k * 14 + 11, none⟩) hbl).trans u11)
     have U12 := fun s : AN w5 => s.cell ((hbe5.cell (p := ⟨b, o + k * 14 + 12, none⟩) hbl).trans u12)
     have U13 := fun s : AN w5 => s.cell ((hbe5.cell (p := ⟨b, o + k * 14 + 13, none⟩) hbl).trans u13)
     have R0 := fun s : AN w5 => s.cell (T4d.out.cell 0 : w5.cell? ⟨w2.heap.size, 0, none⟩ = some (.int .i64 m.kind))
     have R1 := fun s : AN w5 => s.cell (T4d.out.cell 1 : w5.cell? ⟨w2.heap.size, 1, none⟩ = some (.int .u64 m.epoch))
     have R2 := fun s : AN w5 => s.cell (T4d.out.cell 2 : w5.cell? ⟨w2.heap.size, 2, none⟩ = some (.int .u64 m.seq))
     have R3 := fun s : AN w5 => s.cell (T4d.out.cell 3 : w5.cell? ⟨w2.heap.size, 3, none⟩ = some (.int .u64 m.pos))
     have R4 := fun s : AN w5 => s.cell (T4d.out.cell 4 : w5.cell? ⟨w2.heap.size, 4, none⟩ = some (.int .i64 m.count))
     have R5 := fun s : AN w5 => s.cell (T4d.out.cell 5 : w5.cell? ⟨w2.heap.size, 5, none⟩ = some (.int .i64 m.state))
     have R6 := fun s : AN w5 => s.cell (T4d.out.cell 6 : w5.cell? ⟨w2.heap.size, 6, none⟩ = some (.slice x1 m.streams.length x1'))
     have R7 := fun s : AN w5 => s.cell (T4d.out.cell 7 : w5.cell? ⟨w2.heap.size, 7, none⟩ = some (.slice x2 m.links.length x2'))
     have R8 := fun s : AN w5 => s.cell (T4d.out.cell 8 : w5.cell? ⟨w2.heap.size, 8, none⟩ = some (.slice x3 m.data.length x3'))
     have R9 := fun s : AN w5 => s.cell (T4d.out.cell 9 : w5.cell? ⟨w2.heap.size, 9, none⟩ = some (.int .u64 m.sea.epoch))
     have R10 := fun s : AN w5 => s.cell (T4d.out.cell 10 : w5.cell? ⟨w2.heap.size, 10, none⟩ = some (.int .u64 m.sea.node))
     have R11 := fun s : AN w5 => s.cell (T4d.out.cell 11 : w5.cell? ⟨w2.heap.size, 11, none⟩ = some (.int .u64 m.sea.tail))
     have R12 := fun s : AN w5 => s.cell (T4d.out.cell 12 : w5.cell? ⟨w2.heap.size, 12, none⟩ = some (.int .u64 m.proj.epoch))
     have R13 := fun s : AN w5 => s.cell (T4d.out.cell 13 : w5.cell? ⟨w2.heap.size, 13, none⟩ = some (.slice x4 m.proj.stripes.length x4'))
     have V0 := fun s : AN w5 => s.cell (T6d.out.cell 0 : w5.cell? ⟨w4.heap.size, 0, none⟩ = some (.int .i64 m.kind))
     have V1 := fun s : AN w5 => s.cell (T6d.out.cell 1 : w5.cell? ⟨w4.heap.size, 1, none⟩ = some (.int .u64 m.epoch))
     have V2 := fun s : AN w5 => s.cell (T6d.out.cell 2 : w5.cell? ⟨w4.heap.size, 2, none⟩ = some (.int .u64 m.seq))
     have V3 := fun s : AN w5 => s.cell (T6d.out.cell 3 : w5.cell? ⟨w4.heap.size, 3, none⟩ = some (.int .u64 m.pos))
     have V4 := fun s : AN w5 => s.cell (T6d.out.cell 4 : w5.cell? ⟨w4.heap.size, 4, none⟩ = some (.int .i64 m.count))
     have V5 := fun s : AN w5 => s.cell (T6d.out.cell 5 : w5.cell? ⟨w4.heap.size, 5, none⟩ = some (.int .i64 m.state))
     have V6 := fun s : AN w5 => s.cell (T6d.out.cell 6 : w5.cell? ⟨w4.heap.size, 6, none⟩ = some (.slice y1 m.streams.length y1'))
     have V7 := fun s : AN w5 => s.cell (T6d.out.cell 7 : w5.cell? ⟨w4.heap.size, 7, none⟩ = some (.slice y2 m.links.length y2'))
     have V8 := fun s : AN w5 => s.cell (T6d.out.cell 8 : w5.cell? ⟨w4.heap.size, 8, none⟩ = some (.slice y3 m.data.length y3'))
     have V9 := fun s : AN w5 => s.cell (T6d.out.cell 9 : w5.cell? ⟨w4.heap.size, 9, none⟩ = some (.int .u64 m.sea.epoch))
     have V10 := fun s : AN w5 => s.cell (T6d.out.cell 10 : w5.cell? ⟨w4.heap.size, 10, none⟩ = some (.int .u64 m.sea.node))
     have V11 := fun s : AN w5 => s.cell (T6d.out.cell 11 : w5.cell? ⟨w4.heap.size, 11, none⟩ = some (.int .u64 m.sea.tail))
     have V12 := fun s : AN w5 => s.cell (T6d.out.cell 12 : w5.cell? ⟨w4.heap.size, 12, none⟩ = some (.int .u64 m.proj.epoch))
     have V13 := fun s : AN w5 => s.cell (T6d.out.cell 13 : w5.cell? ⟨w4.heap.size, 13, none⟩ = some (.slice y4 m.proj.stripes.length y4'))
     have G0 := fun s : AN w5 => s.cell (T5d.out.cell 0 : w5.cell? ⟨w2.heap.size + 1, 0, none⟩ = some (.int .i64 0))
     have G1 := fun s : AN w5 => s.cell (T8d.out.cell 0 : w5.cell? ⟨w4.heap.size + 1, 0, none⟩ = some (.int .i64 0))
     have d5 : decide ((F.length : Int) < 5) = false := Ab zD
     clear u0 u1 u2 u3 u4 u5 u6 u7 u8 u9 u10 u11 u12 u13;go_wp2_with fail;refine Ar zH zH ?_
     repeat (go_big_quiet_step (((go_at_call 22; first | with_reducible exact AW (HQ1.out _) | with_reducible exact AW (HQ2.out _)))))
     refine AA ?_
     rintro W5 ⟨⟨W5', hb55⟩, rfl⟩;clear U0 R0 V0 U1 R1 V1 U2 R2 V2 U3 R3 V3 U4 R4 V4 U5 R5 V5 U6 R6 V6 U7 R7 V7 U8 R8 V8 U9 R9 V9 U10 R10 V10 U11 R11 V11 U12 R12 V12 U13 R13 V13 G0 G1 d5;have O5 := hid (lift Od.out hb55)
     have hbw5 := Af hb55 (Af hbe5 HB.out)
     clear Od hb55 hbe5 X1d X2d T4d T5d T6d T8d HQ1 HQ2 HXE HUU;go_upto_region 17 with (fail)
     go_cut [17] from 46 to 127 (fun v V => (∃ cc : Nat, cc < F.length ∧ v = .int .i64 cc) ∧ Hid (V = W5))
     case first =>
      by_cases g1 : 0 ≤ cut
      ·have d1 : decide (0 ≤ cut) = true := Ac g1
       by_cases g2 : (F.length : Int) - 1 < cut
       ·have d2 : decide ((F.length : Int) - 1 < cut) = true := Ac g2
        go_wp2_with fail;go_meet
        case rel => exact ⟨⟨F.length - 1, zD, IF _ zD⟩, hid rfl⟩
       ·have d2 : decide ((F.length : Int) - 1 < cut) = false := Ab g2
        go_wp2_with fail;go_meet
        case rel => exact ⟨⟨cut.toNat, zD, IF _ zD⟩, hid rfl⟩
      ·have d1 : decide (0 ≤ cut) = false := Ab g1
       go_wp2_with fail;go_meet
       case rel => exact ⟨⟨0, zD, rfl⟩, hid rfl⟩
     case rest =>
      obtain ⟨⟨cc, hcc, rfl⟩, hV⟩ := hcut
      have hV' := hV.out.symm
      subst hV';clear hV;obtain ⟨hsl, hrd⟩ := WB O5.out (n := cc) zD
      have HG := hid (HGT.out W5 cc hcc _ _ hrd)
      clear hrd;go_wp2_with fail;refine HG.out.mono ?_
      rintro r w6 ⟨z1, z1', z2, z2', z3, z3', z4, z4', rfl, hm6, hb6⟩;have hbw6 := Af hb6 hbw5
      clear hm6 hb6;go_wp2_with fail;go_roundw
      case rel => exact ⟨k + 1, zD, zW, zA⟩
      case measure => (simp [intOf]; try omega)
    ·obtain rfl : k = l.length := by omega
     have e1 : decide ((l.length : Int) < (l.length : Int)) = false := Ab zD
     go_wp2_with fail;refine (H3 _).mono ?_
     rintro r w99 ⟨rfl, hb99⟩;have hbe := Af hb99 hb
     go_wp2;go_ret;exact ⟨rfl, hbe⟩
 ·rw [hmn] at HMN
  clear hl hmn;go_enter Tryz.func11, Tryz.ntmps11
  go_wp2_with fail;refine HMN.out.mono ?_
  rintro r w0 ⟨rfl, hbw0⟩;go_wp2_with fail;refine (H3 _).mono ?_
  rintro r w99 ⟨rfl, hb99⟩;have hbe := Af hb99 hbw0
  go_wp2;go_ret;exact ⟨rfl, hbe⟩
theorem rpcBack_walk {H : Type} (enc : TypeId × Value → H) (W : World) (base : Nat) (v0 v1 : Value) (d0 d1 : DataW H) (p0 p1 : List MemPlace)
  (k0 : DataW.Trod enc Tryz.prog W 0 (fun _ => true) true 46 v0 d0 p0) (k1 : DataW.Trod enc Tryz.prog W 0 (fun _ => true) true 3 v1 d1 p1) (o0 : Value.okWide Tryz.prog W .any base 46 v0) (o1 : Value.okWide Tryz.prog W .any base 3 v1) :
  Calls Tryz.prog 11 #[v0, v1] W fun e w' => e = .returned (.bool true) ∧ Below W.heap.size W w' := by
 obtain ⟨l, a, n, c, rfl, hl⟩ := Wt enc W base v0 d0 p0 k0 o0
 obtain ⟨fuel2, hf2⟩ := k1
 obtain ⟨cut, rfl⟩ := Go.WideShapes.okWide_int Tryz.underlying3 o1
 obtain ⟨m', hm', hw⟩ := VT enc W fuel2 _ _ hf2
 simp [Value.cells] at hm'
 subst hm';have hcut := VM hw
 exact VX l a n c cut W hl hcut
end Go.Proofs.YtlbffbkbkajciaaGreat
