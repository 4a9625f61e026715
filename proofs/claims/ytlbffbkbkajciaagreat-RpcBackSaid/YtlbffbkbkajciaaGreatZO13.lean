/- Mini: Needed by rpcOnce_walk, part 13: texts put together by shake.py; no condition. -/
import Derived.Test.YtlbffbkbkajciaaGreatZO12
import Derived.Test.YtlbffbkbkajciaaGreatZO11
import Derived.Test.YtlbffbkbkajciaaGreatZO10
import Derived.Test.YtlbffbkbkajciaaGreatZO9
import Derived.Deep.Cut
import Derived.Deep.CutRange
import Derived.Deep.RegionHeld3
import Derived.Test.YtlbffbkbkajciaaGreatZO5
import Derived.Test.YtlbffbkbkajciaaGreatZO4
import Derived.Test.YtlbffbkbkajciaaGreatZO2
import Derived.Test.YtlbffbkbkajciaaGreatZO1
import Derived.Test.YtlbffbkbkajciaaGreatZO6
set_option linter.unusedVariables false
set_option linter.unusedSimpArgs false
set_option maxRecDepth 100000
set_option maxHeartbeats 6400000
namespace Go.Bs
theorem ZR{p:Prop}(h:p:=by simp; simp only [epR, Aw] at hep; have := Un hep; omega):p:=h
theorem ZG{p:Prop}(h:p:=by simp [results, Tryz.results132, go_sem, n0, n1, n2, n3, n4, n5, n6, n7, n8, n9, n10, n11, n12, n13, p0, p1]):p:=h
end Go.Bs
namespace Go.Proofs.YtlbffbkbkajciaaGreat
open Go.RowKit Go.Bs Go.Maps
def FP (B : List UInt8) (blk : List UInt8 → Rs → Rs × List UInt8 × Bool) (fl : Rs → Bool → Bool) : Msg × Bool × Int × Int :=
 let g := I4 B blk fl
 if g.2.2.2.1 = 0 then (if g.2.2.1 < B.length then (CU, false, 9, (g.2.2.1 : Int)) else (g.1, g.2.1, g.2.2.2.1, g.2.2.2.2)) else (CU, false, g.2.2.2.1, g.2.2.2.2)
abbrev flS : Rs → Bool → Bool := fun s _ => decide (s.k = 0)
abbrev flL : Rs → Bool → Bool := fun _ q => q
def P9 (B : List UInt8) := FP B (fun P => C4 P) flS
def Qa (B : List UInt8) := FP B (fun P => CM P) flL
theorem Lp (w : World) (B : List UInt8) (a : Option Addr) (c0 c : Nat) (hl : Ag.r (· < w.heap.size) w [.slice a c0 c] B) (hB : B.length ≤ 1000000000) (fn : Nat) (blk : List UInt8 → Rs → Rs × List UInt8 × Bool) (fl : Rs → Bool → Bool) (hR : ∀ P : List UInt8, P.length ≤ 1000000000 → S4 P fn (blk P) fl) {x : Msg} {qx : Bool} {kx fx : Int} (hZ : FP B blk fl = (x, qx, kx, fx)) :
  Calls Tryz.prog 132 #[.slice a c0 c, .func (Fn.func fn) #[] #[]] w fun r w' => ∃ a1 a1' a2 a2' a3 a3' a4 a4', r = .returned (.tuple #[.agg #[.int .i64 x.kind, .int .u64 x.epoch, .int .u64 x.seq, .int .u64 x.pos, .int .i64 x.count, .int .i64 x.state, .slice a1 x.streams.length a1', .slice a2 x.links.length a2', .slice a3 x.data.length a3', .int .u64 x.sea.epoch, .int .u64 x.sea.node, .int .u64 x.sea.tail, .int .u64 x.proj.epoch, .slice a4 x.proj.stripes.length a4'], .bool qx, .agg #[.int .i64 kx, .int .i64 fx]]) ∧ AF (fun q => w.heap.size ≤ q ∧ q < w'.heap.size) w' x a1 a1' a2 a2' a3 a3' a4 a4' ∧ Below w.heap.size w w' := by
 obtain ⟨rfl, hmx, hcc, hcm⟩ := AP hl
 unfold FP at hZ;generalize hG : I4 B blk fl = G at *
 obtain ⟨m, q, n, k, f⟩ := G
 dsimp only at hZ;have HGT := hid (Tb ((w.alloc (.cells #[.int .i64 0, .int .u64 0, .int .u64 0, .int .u64 0, .int .i64 0, .int .i64 0, .slice none 0 0, .slice none 0 0, .slice none 0 0, .int .u64 0, .int .u64 0, .int .u64 0, .int .u64 0, .slice none 0 0] 32)).alloc (.cells #[.int .i64 0, .int .i64 0] 58)) B a _ c (lift hl zA) hB fn blk fl hR hG)
 have HGD := hid (fun (W : World) => CA W k f)
 have HAT := hid (fun (W : World) => IC W 9 (n : Int) zD)
 have hz00 : w.heap.size + 1 < (((w.alloc (.cells #[.int .i64 0, .int .u64 0, .int .u64 0, .int .u64 0, .int .i64 0, .int .i64 0, .slice none 0 0, .slice none 0 0, .slice none 0 0, .int .u64 0, .int .u64 0, .int .u64 0, .int .u64 0, .slice none 0 0] 32)).alloc (.cells #[.int .i64 0, .int .i64 0] 58))).heap.size := zO
 clear hl hR hG;go_enter Tryz.func132, Tryz.ntmps132
 go_wp2_with fail;refine HGT.out.mono ?_
 rintro r w1 ⟨a1, a1', a2, a2', a3, a3', a4, a4', rfl, hm1, hb1⟩;have I1 : Ld w w1 := ⟨Blk.later zC hb1, Blk.later zC hb1, zA⟩
 have hlow1 : w.heap.size + 1 < w1.heap.size := I1.fb.lt
 have E2 : Blk ((w1.alloc (.cells #[.int .i64 m.kind, .int .u64 m.epoch, .int .u64 m.seq, .int .u64 m.pos, .int .i64 m.count, .int .i64 m.state, .slice a1 m.streams.length a1', .slice a2 m.links.length a2', .slice a3 m.data.length a3', .int .u64 m.sea.epoch, .int .u64 m.sea.node, .int .u64 m.sea.tail, .int .u64 m.proj.epoch, .slice a4 m.proj.stripes.length a4'] 32)).alloc (.cells #[.int .i64 k, .int .i64 f] 58)) w1.heap.size 32 #[.int .i64 m.kind, .int .u64 m.epoch, .int .u64 m.seq, .int .u64 m.pos, .int .i64 m.count, .int .i64 m.state, .slice a1 m.streams.length a1', .slice a2 m.links.length a2', .slice a3 m.data.length a3', .int .u64 m.sea.epoch, .int .u64 m.sea.node, .int .u64 m.sea.tail, .int .u64 m.proj.epoch, .slice a4 m.proj.stripes.length a4'] := zC
 have F2 : Blk ((w1.alloc (.cells #[.int .i64 m.kind, .int .u64 m.epoch, .int .u64 m.seq, .int .u64 m.pos, .int .i64 m.count, .int .i64 m.state, .slice a1 m.streams.length a1', .slice a2 m.links.length a2', .slice a3 m.data.length a3', .int .u64 m.sea.epoch, .int .u64 m.sea.node, .int .u64 m.sea.tail, .int .u64 m.proj.epoch, .slice a4 m.proj.stripes.length a4'] 32)).alloc (.cells #[.int .i64 k, .int .i64 f] 58)) (w1.heap.size + 1) 58 #[.int .i64 k, .int .i64 f] := zC
 have hb2 : Below w1.heap.size w1 ((w1.alloc (.cells #[.int .i64 m.kind, .int .u64 m.epoch, .int .u64 m.seq, .int .u64 m.pos, .int .i64 m.count, .int .i64 m.state, .slice a1 m.streams.length a1', .slice a2 m.links.length a2', .slice a3 m.data.length a3', .int .u64 m.sea.epoch, .int .u64 m.sea.node, .int .u64 m.sea.tail, .int .u64 m.proj.epoch, .slice a4 m.proj.stripes.length a4'] 32)).alloc (.cells #[.int .i64 k, .int .i64 f] 58)) := zA
 have HI2 := hid (I1.row hb2)
 have X2 := hid (AF.C6 (S' := fun q => w.heap.size + 1 < q ∧ q < w1.heap.size) hm1 (fun q hq => hb2.block q hq.2) (fun q hq => ⟨zD, hq.2⟩))
 have l2 : w1.heap.size + 1 < (((w1.alloc (.cells #[.int .i64 m.kind, .int .u64 m.epoch, .int .u64 m.seq, .int .u64 m.pos, .int .i64 m.count, .int .i64 m.state, .slice a1 m.streams.length a1', .slice a2 m.links.length a2', .slice a3 m.data.length a3', .int .u64 m.sea.epoch, .int .u64 m.sea.node, .int .u64 m.sea.tail, .int .u64 m.proj.epoch, .slice a4 m.proj.stripes.length a4'] 32)).alloc (.cells #[.int .i64 k, .int .i64 f] 58))).heap.size := zO
 obtain ⟨y0, y1, y2, y3, y4, y5, y6, y7, y8, y9, y10, y11, y12, y13, ly⟩ := AZ E2
 obtain ⟨f0, f1, f2, f3, f4⟩ := Bu F2
 clear hm1 hb1 hb2 I1;go_wp2_with fail;generalize ((w1.alloc (.cells #[.int .i64 m.kind, .int .u64 m.epoch, .int .u64 m.seq, .int .u64 m.pos, .int .i64 m.count, .int .i64 m.state, .slice a1 m.streams.length a1', .slice a2 m.links.length a2', .slice a3 m.data.length a3', .int .u64 m.sea.epoch, .int .u64 m.sea.node, .int .u64 m.sea.tail, .int .u64 m.proj.epoch, .slice a4 m.proj.stripes.length a4'] 32)).alloc (.cells #[.int .i64 k, .int .i64 f] 58)) = w2 at *
 by_cases hk : k = 0
 ·rw [Ak hk] at hZ
  rw [Ac hk] at HGD
  clear hk;refine (HGD.out _).mono ?_
  rintro r w3 ⟨rfl, hb3⟩;have HI3 := hid (HI2.out.row hb3)
  have hE3 := E2.later hb3
  have hF3 := F2.later hb3
  have l3 := Ah l2 hb3.size
  have X3 := hid (AF.C6 X2.out (fun q hq => hb3.block q zD) (fun q hq => hq))
  clear hb3 HI2 X2 E2 F2 y0 y1 y2 y3 y4 y5 y6 y7 y8 y9 y10 y11 y12 y13 ly f0 f1 f2 f3 f4;by_cases hn : n < B.length
  ·rw [Ak hn] at hZ
   simp only [CG] at hZ
   obtain ⟨rfl, rfl, rfl, rfl⟩ := hZ
   have d1 : decide ((n : Int) < (B.length : Int)) = true := Ac zD
   have d2 : decide (n < B.length) = true := Ac hn
   clear hn;go_wp2_with fail;refine (HAT.out _).mono ?_
   rintro r w4 ⟨rfl, hb4⟩;have HI4 := hid (HI3.out.row hb4)
   have hM := HI4.out.mb
   have hF := HI4.out.fb
   have hbl := HI4.out.bl
   obtain ⟨r0, r1, r2, r3, r4, r5, r6, r7, r8, r9, r10, r11, r12, r13, lr⟩ := AZ hM
   obtain ⟨g0, g1, g2, g3, g4, g5, g6, g7, g8, g9, g10, g11, g12, g13⟩ := Dh hM
   obtain ⟨z0, z1, z2, z3, z4⟩ := Bu hF
   clear hb4 HI3;go_wp2_with fail;have hput := D5 (k := .int .i64 9) (f := .int .i64 (n : Int)) (v0 := .int .i64 0) (v1 := .int .u64 0) (v2 := .int .u64 0) (v3 := .int .u64 0) (v4 := .int .i64 0) (v5 := .int .i64 0) (v6 := .slice none 0 0) (v7 := .slice none 0 0) (v8 := .slice none 0 0) (v9 := .int .u64 0) (v10 := .int .u64 0) (v11 := .int .u64 0) (v12 := .int .u64 0) (v13 := .slice none 0 0) hM hF zD
   refine BP (fun W => Blk W w.heap.size 32 #[.int .i64 0, .int .u64 0, .int .u64 0, .int .u64 0, .int .i64 0, .int .i64 0, .slice none 0 0, .slice none 0 0, .slice none 0 0, .int .u64 0, .int .u64 0, .int .u64 0, .int .u64 0, .slice none 0 0] ∧ Blk W (w.heap.size + 1) 58 #[.int .i64 9, .int .i64 (n : Int)] ∧ Tch (fun b => b = w.heap.size ∨ b = w.heap.size + 1) w4 W) hput ?_
   intro W5 ⟨q5, p5, ht5⟩;obtain ⟨n0, n1, n2, n3, n4, n5, n6, n7, n8, n9, n10, n11, n12, n13, ln⟩ := AZ q5
   obtain ⟨p0, p1, p2, p3, p4⟩ := Bu p5
   have hz5 := ht5.size
   refine Ai (v := .tuple #[.agg #[.int .i64 0, .int .u64 0, .int .u64 0, .int .u64 0, .int .i64 0, .int .i64 0, .slice none 0 0, .slice none 0 0, .slice none 0 0, .int .u64 0, .int .u64 0, .int .u64 0, .int .u64 0, .slice none 0 0], .bool false, .agg #[.int .i64 9, .int .i64 (n : Int)]]) ZG rfl ⟨none, 0, none, 0, none, 0, none, 0, rfl, FZ, hbl.trans (ht5.BE hbl.size fun b hb e => zD)⟩
  ·rw [An hn] at hZ
   simp only [CG] at hZ
   obtain ⟨rfl, rfl, rfl, rfl⟩ := hZ
   have d1 : decide ((n : Int) < (B.length : Int)) = false := Ab zD
   have d2 : decide (n < B.length) = false := Ab hn
   clear hn;have hM := HI3.out.mb.drew
   have hF := HI3.out.fb.drew
   have hbl := HI3.out.bl.drew
   have hEd := (hE3).drew
   have hFd := (hF3).drew
   have XD := hid (AF.C6 (w' := w3.drew) X3.out (fun q hq => rfl) (fun q hq => hq))
   have ld : w1.heap.size + 1 < w3.drew.heap.size := l3
   have SK := hid (fun (w' : World) (h1 : Blk w' w1.heap.size 32 #[.int .i64 m.kind, .int .u64 m.epoch, .int .u64 m.seq, .int .u64 m.pos, .int .i64 m.count, .int .i64 m.state, .slice a1 m.streams.length a1', .slice a2 m.links.length a2', .slice a3 m.data.length a3', .int .u64 m.sea.epoch, .int .u64 m.sea.node, .int .u64 m.sea.tail, .int .u64 m.proj.epoch, .slice a4 m.proj.stripes.length a4']) (h2 : Blk w' (w1.heap.size + 1) 58 #[.int .i64 k, .int .i64 f]) => (⟨h1.cell 0, h1.cell 1, h1.cell 2, h1.cell 3, h1.cell 4, h1.cell 5, h1.cell 6, h1.cell 7, h1.cell 8, h1.cell 9, h1.cell 10, h1.cell 11, h1.cell 12, h1.cell 13, h2.cell 0, h2.cell 1⟩ : w'.cell? ⟨w1.heap.size, 0, none⟩ = some (.int .i64 m.kind) ∧ w'.cell? ⟨w1.heap.size, 1, none⟩ = some (.int .u64 m.epoch) ∧ w'.cell? ⟨w1.heap.size, 2, none⟩ = some (.int .u64 m.seq) ∧ w'.cell? ⟨w1.heap.size, 3, none⟩ = some (.int .u64 m.pos) ∧ w'.cell? ⟨w1.heap.size, 4, none⟩ = some (.int .i64 m.count) ∧ w'.cell? ⟨w1.heap.size, 5, none⟩ = some (.int .i64 m.state) ∧ w'.cell? ⟨w1.heap.size, 6, none⟩ = some (.slice a1 m.streams.length a1') ∧ w'.cell? ⟨w1.heap.size, 7, none⟩ = some (.slice a2 m.links.length a2') ∧ w'.cell? ⟨w1.heap.size, 8, none⟩ = some (.slice a3 m.data.length a3') ∧ w'.cell? ⟨w1.heap.size, 9, none⟩ = some (.int .u64 m.sea.epoch) ∧ w'.cell? ⟨w1.heap.size, 10, none⟩ = some (.int .u64 m.sea.node) ∧ w'.cell? ⟨w1.heap.size, 11, none⟩ = some (.int .u64 m.sea.tail) ∧ w'.cell? ⟨w1.heap.size, 12, none⟩ = some (.int .u64 m.proj.epoch) ∧ w'.cell? ⟨w1.heap.size, 13, none⟩ = some (.slice a4 m.proj.stripes.length a4') ∧ w'.cell? ⟨(w1.heap.size + 1), 0, none⟩ = some (.int .i64 k) ∧ w'.cell? ⟨(w1.heap.size + 1), 1, none⟩ = some (.int .i64 f)))
   have HS := hid (SK.out w3 hE3 hF3)
   obtain ⟨r0, r1, r2, r3, r4, r5, r6, r7, r8, r9, r10, r11, r12, r13, lr⟩ := AZ hM
   obtain ⟨g0, g1, g2, g3, g4, g5, g6, g7, g8, g9, g10, g11, g12, g13⟩ := Dh hM
   obtain ⟨z0, z1, z2, z3, z4⟩ := Bu hF
   (try clear y0 y1 y2 y3 y4 y5 y6 y7 y8 y9 y10 y11 y12 y13 ly)
   (try clear f0 f1 f2 f3 f4)
   go_wp2_with fail;refine Cg (S := fun w' => w'.cell? ⟨w1.heap.size, 0, none⟩ = some (.int .i64 m.kind) ∧ w'.cell? ⟨w1.heap.size, 1, none⟩ = some (.int .u64 m.epoch) ∧ w'.cell? ⟨w1.heap.size, 2, none⟩ = some (.int .u64 m.seq) ∧ w'.cell? ⟨w1.heap.size, 3, none⟩ = some (.int .u64 m.pos) ∧ w'.cell? ⟨w1.heap.size, 4, none⟩ = some (.int .i64 m.count) ∧ w'.cell? ⟨w1.heap.size, 5, none⟩ = some (.int .i64 m.state) ∧ w'.cell? ⟨w1.heap.size, 6, none⟩ = some (.slice a1 m.streams.length a1') ∧ w'.cell? ⟨w1.heap.size, 7, none⟩ = some (.slice a2 m.links.length a2') ∧ w'.cell? ⟨w1.heap.size, 8, none⟩ = some (.slice a3 m.data.length a3') ∧ w'.cell? ⟨w1.heap.size, 9, none⟩ = some (.int .u64 m.sea.epoch) ∧ w'.cell? ⟨w1.heap.size, 10, none⟩ = some (.int .u64 m.sea.node) ∧ w'.cell? ⟨w1.heap.size, 11, none⟩ = some (.int .u64 m.sea.tail) ∧ w'.cell? ⟨w1.heap.size, 12, none⟩ = some (.int .u64 m.proj.epoch) ∧ w'.cell? ⟨w1.heap.size, 13, none⟩ = some (.slice a4 m.proj.stripes.length a4') ∧ w'.cell? ⟨(w1.heap.size + 1), 0, none⟩ = some (.int .i64 k) ∧ w'.cell? ⟨(w1.heap.size + 1), 1, none⟩ = some (.int .i64 f)) zH HS.out (fun hHeld => ?_)
   refine At (i := 0) (oi := _) (v := ?_) rfl zF zF zF (fun _ _ _ h => h) (Or.inl ⟨zX, ?_⟩) zN ?_
   rotate_left
   ·(intro w hSw; (try dsimp only at hSw); go_simp <;> with_reducible rfl)
   (try simp only [Act.put, Aa, Ad, Ae])
   refine At (i := 1) (oi := _) (v := ?_) rfl zF zF zF (fun _ _ _ h => h) (Or.inl ⟨zX, ?_⟩) zN ?_
   rotate_left
   ·(intro w hSw; (try dsimp only at hSw); go_simp <;> with_reducible rfl)
   (try simp only [Act.put, Aa, Ad, Ae])
   refine At (i := 2) (oi := _) (v := ?_) rfl zF zF zF (fun _ _ _ h => h) (Or.inl ⟨zX, ?_⟩) zN ?_
   rotate_left
   ·(intro w hSw; (try dsimp only at hSw); go_simp <;> with_reducible rfl)
   (try simp only [Act.put, Aa, Ad, Ae])
   generalize w3.drew = wd at *
   refine A4 (rs := [3]) zF zO ?_
   refine AR (o := _) rfl (fun K hK => ?_) AllReadyH.nil
   go_simp
   refine hK.out _ _ ?_ (fun hHeld => ?_)
   ·exact SK.out _ zG zG
   clear hK K
   (try simp only [Act.put, Aa, Ad, Ae])
   refine At (i := 4) (oi := _) (v := ?_) rfl zF zF zF (fun _ _ _ h => h) (Or.inl ⟨zX, ?_⟩) zN ?_
   rotate_left
   ·(intro w hSw; (try dsimp only at hSw); go_simp <;> with_reducible rfl)
   (try simp only [Act.put, Aa, Ad, Ae])
   refine A4 (rs := [5]) zF zO ?_
   refine AR (o := _) rfl (fun K hK => ?_) AllReadyH.nil
   go_simp
   refine hK.out _ _ ?_ (fun hHeld => ?_)
   ·exact SK.out _ zG zG
   clear hK K
   (try simp only [Act.put, Aa, Ad, Ae])
   (try simp only [AX, AT, AL, Act.put, Aa, Ad, Ae])
   refine Dj zH ?_ _
   go_wp2_with fail;have hput := D5 (k := .int .i64 k) (f := .int .i64 f) (v0 := .int .i64 m.kind) (v1 := .int .u64 m.epoch) (v2 := .int .u64 m.seq) (v3 := .int .u64 m.pos) (v4 := .int .i64 m.count) (v5 := .int .i64 m.state) (v6 := .slice a1 m.streams.length a1') (v7 := .slice a2 m.links.length a2') (v8 := .slice a3 m.data.length a3') (v9 := .int .u64 m.sea.epoch) (v10 := .int .u64 m.sea.node) (v11 := .int .u64 m.sea.tail) (v12 := .int .u64 m.proj.epoch) (v13 := .slice a4 m.proj.stripes.length a4') hM hF zD
   refine BP (fun W => Blk W w.heap.size 32 #[.int .i64 m.kind, .int .u64 m.epoch, .int .u64 m.seq, .int .u64 m.pos, .int .i64 m.count, .int .i64 m.state, .slice a1 m.streams.length a1', .slice a2 m.links.length a2', .slice a3 m.data.length a3', .int .u64 m.sea.epoch, .int .u64 m.sea.node, .int .u64 m.sea.tail, .int .u64 m.proj.epoch, .slice a4 m.proj.stripes.length a4'] ∧ Blk W (w.heap.size + 1) 58 #[.int .i64 k, .int .i64 f] ∧ Tch (fun b => b = w.heap.size ∨ b = w.heap.size + 1) wd W) hput ?_
   intro W5 ⟨q5, p5, ht5⟩;obtain ⟨n0, n1, n2, n3, n4, n5, n6, n7, n8, n9, n10, n11, n12, n13, ln⟩ := AZ q5
   obtain ⟨p0, p1, p2, p3, p4⟩ := Bu p5
   have hz5 := ht5.size
   refine Ai (v := .tuple #[.agg #[.int .i64 m.kind, .int .u64 m.epoch, .int .u64 m.seq, .int .u64 m.pos, .int .i64 m.count, .int .i64 m.state, .slice a1 m.streams.length a1', .slice a2 m.links.length a2', .slice a3 m.data.length a3', .int .u64 m.sea.epoch, .int .u64 m.sea.node, .int .u64 m.sea.tail, .int .u64 m.proj.epoch, .slice a4 m.proj.stripes.length a4'], .bool q, .agg #[.int .i64 k, .int .i64 f]]) ZG rfl ⟨a1, a1', a2, a2', a3, a3', a4, a4', rfl, AF.C6 XD.out (fun q hq => ht5.block q zD zD) (fun q hq => ⟨zD, zD⟩), hbl.trans (ht5.BE hbl.size fun b hb e => zD)⟩
 ·rw [An hk] at hZ
  rw [Ab hk] at HGD
  simp only [CG] at hZ
  obtain ⟨rfl, rfl, rfl, rfl⟩ := hZ
  clear hk;refine (HGD.out _).mono ?_
  rintro r w3 ⟨rfl, hb3⟩;have HI3 := hid (HI2.out.row hb3)
  have hE3 := E2.later hb3
  have hF3 := F2.later hb3
  have l3 := Ah l2 hb3.size
  have X3 := hid (AF.C6 X2.out (fun q hq => hb3.block q zD) (fun q hq => hq))
  clear hb3 HI2 X2 E2 F2;have hM := HI3.out.mb.drew
  have hF := HI3.out.fb.drew
  have hbl := HI3.out.bl.drew
  have hEd := (hE3).drew
  have hFd := (hF3).drew
  have XD := hid (AF.C6 (w' := w3.drew) X3.out (fun q hq => rfl) (fun q hq => hq))
  have ld : w1.heap.size + 1 < w3.drew.heap.size := l3
  have SK := hid (fun (w' : World) (h1 : Blk w' w1.heap.size 32 #[.int .i64 m.kind, .int .u64 m.epoch, .int .u64 m.seq, .int .u64 m.pos, .int .i64 m.count, .int .i64 m.state, .slice a1 m.streams.length a1', .slice a2 m.links.length a2', .slice a3 m.data.length a3', .int .u64 m.sea.epoch, .int .u64 m.sea.node, .int .u64 m.sea.tail, .int .u64 m.proj.epoch, .slice a4 m.proj.stripes.length a4']) (h2 : Blk w' (w1.heap.size + 1) 58 #[.int .i64 k, .int .i64 f]) => (⟨h1.cell 0, h1.cell 1, h1.cell 2, h1.cell 3, h1.cell 4, h1.cell 5, h1.cell 6, h1.cell 7, h1.cell 8, h1.cell 9, h1.cell 10, h1.cell 11, h1.cell 12, h1.cell 13, h2.cell 0, h2.cell 1⟩ : w'.cell? ⟨w1.heap.size, 0, none⟩ = some (.int .i64 m.kind) ∧ w'.cell? ⟨w1.heap.size, 1, none⟩ = some (.int .u64 m.epoch) ∧ w'.cell? ⟨w1.heap.size, 2, none⟩ = some (.int .u64 m.seq) ∧ w'.cell? ⟨w1.heap.size, 3, none⟩ = some (.int .u64 m.pos) ∧ w'.cell? ⟨w1.heap.size, 4, none⟩ = some (.int .i64 m.count) ∧ w'.cell? ⟨w1.heap.size, 5, none⟩ = some (.int .i64 m.state) ∧ w'.cell? ⟨w1.heap.size, 6, none⟩ = some (.slice a1 m.streams.length a1') ∧ w'.cell? ⟨w1.heap.size, 7, none⟩ = some (.slice a2 m.links.length a2') ∧ w'.cell? ⟨w1.heap.size, 8, none⟩ = some (.slice a3 m.data.length a3') ∧ w'.cell? ⟨w1.heap.size, 9, none⟩ = some (.int .u64 m.sea.epoch) ∧ w'.cell? ⟨w1.heap.size, 10, none⟩ = some (.int .u64 m.sea.node) ∧ w'.cell? ⟨w1.heap.size, 11, none⟩ = some (.int .u64 m.sea.tail) ∧ w'.cell? ⟨w1.heap.size, 12, none⟩ = some (.int .u64 m.proj.epoch) ∧ w'.cell? ⟨w1.heap.size, 13, none⟩ = some (.slice a4 m.proj.stripes.length a4') ∧ w'.cell? ⟨(w1.heap.size + 1), 0, none⟩ = some (.int .i64 k) ∧ w'.cell? ⟨(w1.heap.size + 1), 1, none⟩ = some (.int .i64 f)))
  have HS := hid (SK.out w3 hE3 hF3)
  obtain ⟨r0, r1, r2, r3, r4, r5, r6, r7, r8, r9, r10, r11, r12, r13, lr⟩ := AZ hM
  obtain ⟨g0, g1, g2, g3, g4, g5, g6, g7, g8, g9, g10, g11, g12, g13⟩ := Dh hM
  obtain ⟨z0, z1, z2, z3, z4⟩ := Bu hF
  (try clear y0 y1 y2 y3 y4 y5 y6 y7 y8 y9 y10 y11 y12 y13 ly)
  (try clear f0 f1 f2 f3 f4)
  go_wp2_with fail;refine Cg (S := fun w' => w'.cell? ⟨w1.heap.size, 0, none⟩ = some (.int .i64 m.kind) ∧ w'.cell? ⟨w1.heap.size, 1, none⟩ = some (.int .u64 m.epoch) ∧ w'.cell? ⟨w1.heap.size, 2, none⟩ = some (.int .u64 m.seq) ∧ w'.cell? ⟨w1.heap.size, 3, none⟩ = some (.int .u64 m.pos) ∧ w'.cell? ⟨w1.heap.size, 4, none⟩ = some (.int .i64 m.count) ∧ w'.cell? ⟨w1.heap.size, 5, none⟩ = some (.int .i64 m.state) ∧ w'.cell? ⟨w1.heap.size, 6, none⟩ = some (.slice a1 m.streams.length a1') ∧ w'.cell? ⟨w1.heap.size, 7, none⟩ = some (.slice a2 m.links.length a2') ∧ w'.cell? ⟨w1.heap.size, 8, none⟩ = some (.slice a3 m.data.length a3') ∧ w'.cell? ⟨w1.heap.size, 9, none⟩ = some (.int .u64 m.sea.epoch) ∧ w'.cell? ⟨w1.heap.size, 10, none⟩ = some (.int .u64 m.sea.node) ∧ w'.cell? ⟨w1.heap.size, 11, none⟩ = some (.int .u64 m.sea.tail) ∧ w'.cell? ⟨w1.heap.size, 12, none⟩ = some (.int .u64 m.proj.epoch) ∧ w'.cell? ⟨w1.heap.size, 13, none⟩ = some (.slice a4 m.proj.stripes.length a4') ∧ w'.cell? ⟨(w1.heap.size + 1), 0, none⟩ = some (.int .i64 k) ∧ w'.cell? ⟨(w1.heap.size + 1), 1, none⟩ = some (.int .i64 f)) zH HS.out (fun hHeld => ?_)
  refine At (i := 0) (oi := _) (v := ?_) rfl zF zF zF (fun _ _ _ h => h) (Or.inl ⟨zX, ?_⟩) zN ?_
  rotate_left
  ·(intro w hSw; (try dsimp only at hSw); go_simp <;> with_reducible rfl)
  (try simp only [Act.put, Aa, Ad, Ae])
  refine At (i := 1) (oi := _) (v := ?_) rfl zF zF zF (fun _ _ _ h => h) (Or.inl ⟨zX, ?_⟩) zN ?_
  rotate_left
  ·(intro w hSw; (try dsimp only at hSw); go_simp <;> with_reducible rfl)
  (try simp only [Act.put, Aa, Ad, Ae])
  generalize w3.drew = wd at *
  refine A4 (rs := [2]) zF zO ?_
  refine AR (o := _) rfl (fun K hK => ?_) AllReadyH.nil
  go_simp
  refine hK.out _ _ ?_ (fun hHeld => ?_)
  ·exact SK.out _ zG zG
  clear hK K
  (try simp only [Act.put, Aa, Ad, Ae])
  refine At (i := 3) (oi := _) (v := ?_) rfl zF zF zF (fun _ _ _ h => h) (Or.inl ⟨zX, ?_⟩) zN ?_
  rotate_left
  ·(intro w hSw; (try dsimp only at hSw); go_simp <;> with_reducible rfl)
  (try simp only [Act.put, Aa, Ad, Ae])
  refine A4 (rs := [4]) zF zO ?_
  refine AR (o := _) rfl (fun K hK => ?_) AllReadyH.nil
  go_simp
  refine hK.out _ _ ?_ (fun hHeld => ?_)
  ·exact SK.out _ zG zG
  clear hK K
  (try simp only [Act.put, Aa, Ad, Ae])
  (try simp only [AX, AT, AL, Act.put, Aa, Ad, Ae])
  refine Dj zH ?_ _
  go_wp2_with fail;have hput := D5 (k := .int .i64 k) (f := .int .i64 f) (v0 := .int .i64 0) (v1 := .int .u64 0) (v2 := .int .u64 0) (v3 := .int .u64 0) (v4 := .int .i64 0) (v5 := .int .i64 0) (v6 := .slice none 0 0) (v7 := .slice none 0 0) (v8 := .slice none 0 0) (v9 := .int .u64 0) (v10 := .int .u64 0) (v11 := .int .u64 0) (v12 := .int .u64 0) (v13 := .slice none 0 0) hM hF zD
  refine BP (fun W => Blk W w.heap.size 32 #[.int .i64 0, .int .u64 0, .int .u64 0, .int .u64 0, .int .i64 0, .int .i64 0, .slice none 0 0, .slice none 0 0, .slice none 0 0, .int .u64 0, .int .u64 0, .int .u64 0, .int .u64 0, .slice none 0 0] ∧ Blk W (w.heap.size + 1) 58 #[.int .i64 k, .int .i64 f] ∧ Tch (fun b => b = w.heap.size ∨ b = w.heap.size + 1) wd W) hput ?_
  intro W5 ⟨q5, p5, ht5⟩;obtain ⟨n0, n1, n2, n3, n4, n5, n6, n7, n8, n9, n10, n11, n12, n13, ln⟩ := AZ q5
  obtain ⟨p0, p1, p2, p3, p4⟩ := Bu p5
  have hz5 := ht5.size
  refine Ai (v := .tuple #[.agg #[.int .i64 0, .int .u64 0, .int .u64 0, .int .u64 0, .int .i64 0, .int .i64 0, .slice none 0 0, .slice none 0 0, .slice none 0 0, .int .u64 0, .int .u64 0, .int .u64 0, .int .u64 0, .slice none 0 0], .bool false, .agg #[.int .i64 k, .int .i64 f]]) ZG rfl ⟨none, 0, none, 0, none, 0, none, 0, rfl, FZ, hbl.trans (ht5.BE hbl.size fun b hb e => zD)⟩
theorem Ow (w : World) (B : List UInt8) (a : Option Addr) (c0 c : Nat) (hl : Ag.r (· < w.heap.size) w [.slice a c0 c] B) (hB : B.length ≤ 1000000000) {m : Msg} {q : Bool} {k f : Int} (hZ : P9 B = (m, q, k, f)) :
  Calls Tryz.prog 46 #[.slice a c0 c] w fun r w' => ∃ a1 a1' a2 a2' a3 a3' a4 a4', r = .returned (.tuple #[.agg #[.int .i64 m.kind, .int .u64 m.epoch, .int .u64 m.seq, .int .u64 m.pos, .int .i64 m.count, .int .i64 m.state, .slice a1 m.streams.length a1', .slice a2 m.links.length a2', .slice a3 m.data.length a3', .int .u64 m.sea.epoch, .int .u64 m.sea.node, .int .u64 m.sea.tail, .int .u64 m.proj.epoch, .slice a4 m.proj.stripes.length a4'], .agg #[.int .i64 k, .int .i64 f]]) ∧ AF (fun q => w.heap.size ≤ q ∧ q < w'.heap.size) w' m a1 a1' a2 a2' a3 a3' a4 a4' ∧ Below w.heap.size w w' := by
 obtain ⟨rfl, hmx, hcc, hcm⟩ := AP hl
 have HGT := hid (Lp ((w.alloc (.cells #[.int .i64 0, .int .u64 0, .int .u64 0, .int .u64 0, .int .i64 0, .int .i64 0, .slice none 0 0, .slice none 0 0, .slice none 0 0, .int .u64 0, .int .u64 0, .int .u64 0, .int .u64 0, .slice none 0 0] 32)).alloc (.cells #[.int .i64 0, .int .i64 0] 58)) B a _ c (lift hl zA) hB _ _ _ (fun P h => OG h) hZ)
 have hz00 : w.heap.size + 1 < (((w.alloc (.cells #[.int .i64 0, .int .u64 0, .int .u64 0, .int .u64 0, .int .i64 0, .int .i64 0, .slice none 0 0, .slice none 0 0, .slice none 0 0, .int .u64 0, .int .u64 0, .int .u64 0, .int .u64 0, .slice none 0 0] 32)).alloc (.cells #[.int .i64 0, .int .i64 0] 58))).heap.size := zO
 clear hl hZ;go_enter Tryz.func46, Tryz.ntmps46
 go_wp2_with fail;refine HGT.out.mono ?_
 rintro r w1 ⟨a1, a1', a2, a2', a3, a3', a4, a4', rfl, hm1, hb1⟩;have I1 : Ld w w1 := ⟨Blk.later zC hb1, Blk.later zC hb1, zA⟩
 have hlow1 : w.heap.size + 1 < w1.heap.size := I1.fb.lt
 have E2 : Blk ((w1.alloc (.cells #[.int .i64 m.kind, .int .u64 m.epoch, .int .u64 m.seq, .int .u64 m.pos, .int .i64 m.count, .int .i64 m.state, .slice a1 m.streams.length a1', .slice a2 m.links.length a2', .slice a3 m.data.length a3', .int .u64 m.sea.epoch, .int .u64 m.sea.node, .int .u64 m.sea.tail, .int .u64 m.proj.epoch, .slice a4 m.proj.stripes.length a4'] 32)).alloc (.cells #[.int .i64 k, .int .i64 f] 58)) w1.heap.size 32 #[.int .i64 m.kind, .int .u64 m.epoch, .int .u64 m.seq, .int .u64 m.pos, .int .i64 m.count, .int .i64 m.state, .slice a1 m.streams.length a1', .slice a2 m.links.length a2', .slice a3 m.data.length a3', .int .u64 m.sea.epoch, .int .u64 m.sea.node, .int .u64 m.sea.tail, .int .u64 m.proj.epoch, .slice a4 m.proj.stripes.length a4'] := zC
 have F2 : Blk ((w1.alloc (.cells #[.int .i64 m.kind, .int .u64 m.epoch, .int .u64 m.seq, .int .u64 m.pos, .int .i64 m.count, .int .i64 m.state, .slice a1 m.streams.length a1', .slice a2 m.links.length a2', .slice a3 m.data.length a3', .int .u64 m.sea.epoch, .int .u64 m.sea.node, .int .u64 m.sea.tail, .int .u64 m.proj.epoch, .slice a4 m.proj.stripes.length a4'] 32)).alloc (.cells #[.int .i64 k, .int .i64 f] 58)) (w1.heap.size + 1) 58 #[.int .i64 k, .int .i64 f] := zC
 have hb2 : Below w1.heap.size w1 ((w1.alloc (.cells #[.int .i64 m.kind, .int .u64 m.epoch, .int .u64 m.seq, .int .u64 m.pos, .int .i64 m.count, .int .i64 m.state, .slice a1 m.streams.length a1', .slice a2 m.links.length a2', .slice a3 m.data.length a3', .int .u64 m.sea.epoch, .int .u64 m.sea.node, .int .u64 m.sea.tail, .int .u64 m.proj.epoch, .slice a4 m.proj.stripes.length a4'] 32)).alloc (.cells #[.int .i64 k, .int .i64 f] 58)) := zA
 have HI2 := hid (I1.row hb2)
 have X2 := hid (AF.C6 (S' := fun q => w.heap.size + 1 < q ∧ q < w1.heap.size) hm1 (fun q hq => hb2.block q hq.2) (fun q hq => ⟨zD, hq.2⟩))
 have l2 : w1.heap.size + 1 < (((w1.alloc (.cells #[.int .i64 m.kind, .int .u64 m.epoch, .int .u64 m.seq, .int .u64 m.pos, .int .i64 m.count, .int .i64 m.state, .slice a1 m.streams.length a1', .slice a2 m.links.length a2', .slice a3 m.data.length a3', .int .u64 m.sea.epoch, .int .u64 m.sea.node, .int .u64 m.sea.tail, .int .u64 m.proj.epoch, .slice a4 m.proj.stripes.length a4'] 32)).alloc (.cells #[.int .i64 k, .int .i64 f] 58))).heap.size := zO
 obtain ⟨y0, y1, y2, y3, y4, y5, y6, y7, y8, y9, y10, y11, y12, y13, ly⟩ := AZ E2
 obtain ⟨f0, f1, f2, f3, f4⟩ := Bu F2
 clear hm1 hb1 hb2 I1;go_wp2_with fail;generalize ((w1.alloc (.cells #[.int .i64 m.kind, .int .u64 m.epoch, .int .u64 m.seq, .int .u64 m.pos, .int .i64 m.count, .int .i64 m.state, .slice a1 m.streams.length a1', .slice a2 m.links.length a2', .slice a3 m.data.length a3', .int .u64 m.sea.epoch, .int .u64 m.sea.node, .int .u64 m.sea.tail, .int .u64 m.proj.epoch, .slice a4 m.proj.stripes.length a4'] 32)).alloc (.cells #[.int .i64 k, .int .i64 f] 58)) = w2 at *
 have hM := HI2.out.mb.drew
 have hF := HI2.out.fb.drew
 have hbl := HI2.out.bl.drew
 have hEd := (E2).drew
 have hFd := (F2).drew
 have XD := hid (AF.C6 (w' := w2.drew) X2.out (fun q hq => rfl) (fun q hq => hq))
 have ld : w1.heap.size + 1 < w2.drew.heap.size := l2
 have SK := hid (fun (w' : World) (h1 : Blk w' w1.heap.size 32 #[.int .i64 m.kind, .int .u64 m.epoch, .int .u64 m.seq, .int .u64 m.pos, .int .i64 m.count, .int .i64 m.state, .slice a1 m.streams.length a1', .slice a2 m.links.length a2', .slice a3 m.data.length a3', .int .u64 m.sea.epoch, .int .u64 m.sea.node, .int .u64 m.sea.tail, .int .u64 m.proj.epoch, .slice a4 m.proj.stripes.length a4']) (h2 : Blk w' (w1.heap.size + 1) 58 #[.int .i64 k, .int .i64 f]) => (⟨h1.cell 0, h1.cell 1, h1.cell 2, h1.cell 3, h1.cell 4, h1.cell 5, h1.cell 6, h1.cell 7, h1.cell 8, h1.cell 9, h1.cell 10, h1.cell 11, h1.cell 12, h1.cell 13, h2.cell 0, h2.cell 1⟩ : w'.cell? ⟨w1.heap.size, 0, none⟩ = some (.int .i64 m.kind) ∧ w'.cell? ⟨w1.heap.size, 1, none⟩ = some (.int .u64 m.epoch) ∧ w'.cell? ⟨w1.heap.size, 2, none⟩ = some (.int .u64 m.seq) ∧ w'.cell? ⟨w1.heap.size, 3, none⟩ = some (.int .u64 m.pos) ∧ w'.cell? ⟨w1.heap.size, 4, none⟩ = some (.int .i64 m.count) ∧ w'.cell? ⟨w1.heap.size, 5, none⟩ = some (.int .i64 m.state) ∧ w'.cell? ⟨w1.heap.size, 6, none⟩ = some (.slice a1 m.streams.length a1') ∧ w'.cell? ⟨w1.heap.size, 7, none⟩ = some (.slice a2 m.links.length a2') ∧ w'.cell? ⟨w1.heap.size, 8, none⟩ = some (.slice a3 m.data.length a3') ∧ w'.cell? ⟨w1.heap.size, 9, none⟩ = some (.int .u64 m.sea.epoch) ∧ w'.cell? ⟨w1.heap.size, 10, none⟩ = some (.int .u64 m.sea.node) ∧ w'.cell? ⟨w1.heap.size, 11, none⟩ = some (.int .u64 m.sea.tail) ∧ w'.cell? ⟨w1.heap.size, 12, none⟩ = some (.int .u64 m.proj.epoch) ∧ w'.cell? ⟨w1.heap.size, 13, none⟩ = some (.slice a4 m.proj.stripes.length a4') ∧ w'.cell? ⟨(w1.heap.size + 1), 0, none⟩ = some (.int .i64 k) ∧ w'.cell? ⟨(w1.heap.size + 1), 1, none⟩ = some (.int .i64 f)))
 have HS := hid (SK.out w2 E2 F2)
 obtain ⟨r0, r1, r2, r3, r4, r5, r6, r7, r8, r9, r10, r11, r12, r13, lr⟩ := AZ hM
 obtain ⟨g0, g1, g2, g3, g4, g5, g6, g7, g8, g9, g10, g11, g12, g13⟩ := Dh hM
 obtain ⟨z0, z1, z2, z3, z4⟩ := Bu hF
 (try clear y0 y1 y2 y3 y4 y5 y6 y7 y8 y9 y10 y11 y12 y13 ly)
 (try clear f0 f1 f2 f3 f4)
 go_wp2_with fail;refine Cg (S := fun w' => w'.cell? ⟨w1.heap.size, 0, none⟩ = some (.int .i64 m.kind) ∧ w'.cell? ⟨w1.heap.size, 1, none⟩ = some (.int .u64 m.epoch) ∧ w'.cell? ⟨w1.heap.size, 2, none⟩ = some (.int .u64 m.seq) ∧ w'.cell? ⟨w1.heap.size, 3, none⟩ = some (.int .u64 m.pos) ∧ w'.cell? ⟨w1.heap.size, 4, none⟩ = some (.int .i64 m.count) ∧ w'.cell? ⟨w1.heap.size, 5, none⟩ = some (.int .i64 m.state) ∧ w'.cell? ⟨w1.heap.size, 6, none⟩ = some (.slice a1 m.streams.length a1') ∧ w'.cell? ⟨w1.heap.size, 7, none⟩ = some (.slice a2 m.links.length a2') ∧ w'.cell? ⟨w1.heap.size, 8, none⟩ = some (.slice a3 m.data.length a3') ∧ w'.cell? ⟨w1.heap.size, 9, none⟩ = some (.int .u64 m.sea.epoch) ∧ w'.cell? ⟨w1.heap.size, 10, none⟩ = some (.int .u64 m.sea.node) ∧ w'.cell? ⟨w1.heap.size, 11, none⟩ = some (.int .u64 m.sea.tail) ∧ w'.cell? ⟨w1.heap.size, 12, none⟩ = some (.int .u64 m.proj.epoch) ∧ w'.cell? ⟨w1.heap.size, 13, none⟩ = some (.slice a4 m.proj.stripes.length a4') ∧ w'.cell? ⟨(w1.heap.size + 1), 0, none⟩ = some (.int .i64 k) ∧ w'.cell? ⟨(w1.heap.size + 1), 1, none⟩ = some (.int .i64 f)) zH HS.out (fun hHeld => ?_)
 refine At (i := 0) (oi := _) (v := ?_) rfl zF zF zF (fun _ _ _ h => h) (Or.inl ⟨zX, ?_⟩) zN ?_
 rotate_left
 ·(intro w hSw; (try dsimp only at hSw); go_simp <;> with_reducible rfl)
 (try simp only [Act.put, Aa, Ad, Ae])
 refine At (i := 1) (oi := _) (v := ?_) rfl zF zF zF (fun _ _ _ h => h) (Or.inl ⟨zX, ?_⟩) zN ?_
 rotate_left
 ·(intro w hSw; (try dsimp only at hSw); go_simp <;> with_reducible rfl)
 (try simp only [Act.put, Aa, Ad, Ae])
 generalize w2.drew = wd at *
 refine A4 (rs := [2]) zF zO ?_
 refine AR (o := _) rfl (fun K hK => ?_) AllReadyH.nil
 go_simp
 refine hK.out _ _ ?_ (fun hHeld => ?_)
 ·exact SK.out _ zG zG
 clear hK K
 (try simp only [Act.put, Aa, Ad, Ae])
 refine A4 (rs := [3]) zF zO ?_
 refine AR (o := _) rfl (fun K hK => ?_) AllReadyH.nil
 go_simp
 refine hK.out _ _ ?_ (fun hHeld => ?_)
 ·exact SK.out _ zG zG
 clear hK K
 (try simp only [Act.put, Aa, Ad, Ae])
 (try simp only [AX, AT, AL, Act.put, Aa, Ad, Ae])
 refine Dj zH ?_ _
 go_wp2_with fail;have hput := D5 (k := .int .i64 k) (f := .int .i64 f) (v0 := .int .i64 m.kind) (v1 := .int .u64 m.epoch) (v2 := .int .u64 m.seq) (v3 := .int .u64 m.pos) (v4 := .int .i64 m.count) (v5 := .int .i64 m.state) (v6 := .slice a1 m.streams.length a1') (v7 := .slice a2 m.links.length a2') (v8 := .slice a3 m.data.length a3') (v9 := .int .u64 m.sea.epoch) (v10 := .int .u64 m.sea.node) (v11 := .int .u64 m.sea.tail) (v12 := .int .u64 m.proj.epoch) (v13 := .slice a4 m.proj.stripes.length a4') hM hF zD
 refine BP (fun W => Blk W w.heap.size 32 #[.int .i64 m.kind, .int .u64 m.epoch, .int .u64 m.seq, .int .u64 m.pos, .int .i64 m.count, .int .i64 m.state, .slice a1 m.streams.length a1', .slice a2 m.links.length a2', .slice a3 m.data.length a3', .int .u64 m.sea.epoch, .int .u64 m.sea.node, .int .u64 m.sea.tail, .int .u64 m.proj.epoch, .slice a4 m.proj.stripes.length a4'] ∧ Blk W (w.heap.size + 1) 58 #[.int .i64 k, .int .i64 f] ∧ Tch (fun b => b = w.heap.size ∨ b = w.heap.size + 1) wd W) hput ?_
 intro W5 ⟨q5, p5, ht5⟩;obtain ⟨n0, n1, n2, n3, n4, n5, n6, n7, n8, n9, n10, n11, n12, n13, ln⟩ := AZ q5
 obtain ⟨p0, p1, p2, p3, p4⟩ := Bu p5
 have hz5 := ht5.size
 refine Ai (v := .tuple #[.agg #[.int .i64 m.kind, .int .u64 m.epoch, .int .u64 m.seq, .int .u64 m.pos, .int .i64 m.count, .int .i64 m.state, .slice a1 m.streams.length a1', .slice a2 m.links.length a2', .slice a3 m.data.length a3', .int .u64 m.sea.epoch, .int .u64 m.sea.node, .int .u64 m.sea.tail, .int .u64 m.proj.epoch, .slice a4 m.proj.stripes.length a4'], .agg #[.int .i64 k, .int .i64 f]]) (by simp [results, Tryz.results46, go_sem, n0, n1, n2, n3, n4, n5, n6, n7, n8, n9, n10, n11, n12, n13, p0, p1]) rfl ⟨a1, a1', a2, a2', a3, a3', a4, a4', rfl, AF.C6 XD.out (fun q hq => ht5.block q zD zD) (fun q hq => ⟨zD, zD⟩), hbl.trans (ht5.BE hbl.size fun b hb e => zD)⟩
theorem JJ (w : World) (B : List UInt8) (a : Option Addr) (c0 c : Nat) (hl : Ag.r (· < w.heap.size) w [.slice a c0 c] B) (hB : B.length ≤ 1000000000) {m : Msg} {q : Bool} {k f : Int} (hZ : Qa B = (m, q, k, f)) :
  Calls Tryz.prog 48 #[.slice a c0 c] w fun r w' => ∃ a1 a1' a2 a2' a3 a3' a4 a4', r = .returned (.tuple #[.agg #[.int .i64 m.kind, .int .u64 m.epoch, .int .u64 m.seq, .int .u64 m.pos, .int .i64 m.count, .int .i64 m.state, .slice a1 m.streams.length a1', .slice a2 m.links.length a2', .slice a3 m.data.length a3', .int .u64 m.sea.epoch, .int .u64 m.sea.node, .int .u64 m.sea.tail, .int .u64 m.proj.epoch, .slice a4 m.proj.stripes.length a4'], .bool q, .agg #[.int .i64 k, .int .i64 f]]) ∧ AF (fun q => w.heap.size ≤ q ∧ q < w'.heap.size) w' m a1 a1' a2 a2' a3 a3' a4 a4' ∧ Below w.heap.size w w' := by
 obtain ⟨rfl, hmx, hcc, hcm⟩ := AP hl
 have HGT := hid (Lp ((w.alloc (.cells #[.int .i64 0, .int .u64 0, .int .u64 0, .int .u64 0, .int .i64 0, .int .i64 0, .slice none 0 0, .slice none 0 0, .slice none 0 0, .int .u64 0, .int .u64 0, .int .u64 0, .int .u64 0, .slice none 0 0] 32)).alloc (.cells #[.int .i64 0, .int .i64 0] 58)) B a _ c (lift hl zA) hB _ _ _ (fun P h => QK h) hZ)
 have hz00 : w.heap.size + 1 < (((w.alloc (.cells #[.int .i64 0, .int .u64 0, .int .u64 0, .int .u64 0, .int .i64 0, .int .i64 0, .slice none 0 0, .slice none 0 0, .slice none 0 0, .int .u64 0, .int .u64 0, .int .u64 0, .int .u64 0, .slice none 0 0] 32)).alloc (.cells #[.int .i64 0, .int .i64 0] 58))).heap.size := zO
 clear hl hZ;go_enter Tryz.func48, Tryz.ntmps48
 go_wp2_with fail;refine HGT.out.mono ?_
 rintro r w1 ⟨a1, a1', a2, a2', a3, a3', a4, a4', rfl, hm1, hb1⟩;have I1 : Ld w w1 := ⟨Blk.later zC hb1, Blk.later zC hb1, zA⟩
 have hM := I1.mb
 have hF := I1.fb
 have hbl := I1.bl
 have hsz1 := hb1.size
 obtain ⟨r0, r1, r2, r3, r4, r5, r6, r7, r8, r9, r10, r11, r12, r13, lr⟩ := AZ hM
 obtain ⟨g0, g1, g2, g3, g4, g5, g6, g7, g8, g9, g10, g11, g12, g13⟩ := Dh hM
 obtain ⟨z0, z1, z2, z3, z4⟩ := Bu hF
 have X1 := hid (AF.C6 (S' := fun q => w.heap.size + 1 < q ∧ q < w1.heap.size) hm1 (fun q hq => rfl) (fun q hq => ⟨zD, hq.2⟩))
 clear hb1 I1 hm1;go_wp2_with fail;have hput := D5 (k := .int .i64 k) (f := .int .i64 f) (v0 := .int .i64 m.kind) (v1 := .int .u64 m.epoch) (v2 := .int .u64 m.seq) (v3 := .int .u64 m.pos) (v4 := .int .i64 m.count) (v5 := .int .i64 m.state) (v6 := .slice a1 m.streams.length a1') (v7 := .slice a2 m.links.length a2') (v8 := .slice a3 m.data.length a3') (v9 := .int .u64 m.sea.epoch) (v10 := .int .u64 m.sea.node) (v11 := .int .u64 m.sea.tail) (v12 := .int .u64 m.proj.epoch) (v13 := .slice a4 m.proj.stripes.length a4') hM hF zD
 refine BP (fun W => Blk W w.heap.size 32 #[.int .i64 m.kind, .int .u64 m.epoch, .int .u64 m.seq, .int .u64 m.pos, .int .i64 m.count, .int .i64 m.state, .slice a1 m.streams.length a1', .slice a2 m.links.length a2', .slice a3 m.data.length a3', .int .u64 m.sea.epoch, .int .u64 m.sea.node, .int .u64 m.sea.tail, .int .u64 m.proj.epoch, .slice a4 m.proj.stripes.length a4'] ∧ Blk W (w.heap.size + 1) 58 #[.int .i64 k, .int .i64 f] ∧ Tch (fun b => b = w.heap.size ∨ b = w.heap.size + 1) w1 W) hput ?_
 intro W5 ⟨q5, p5, ht5⟩;obtain ⟨n0, n1, n2, n3, n4, n5, n6, n7, n8, n9, n10, n11, n12, n13, ln⟩ := AZ q5
 obtain ⟨p0, p1, p2, p3, p4⟩ := Bu p5
 have hz5 := ht5.size
 refine Ai (v := .tuple #[.agg #[.int .i64 m.kind, .int .u64 m.epoch, .int .u64 m.seq, .int .u64 m.pos, .int .i64 m.count, .int .i64 m.state, .slice a1 m.streams.length a1', .slice a2 m.links.length a2', .slice a3 m.data.length a3', .int .u64 m.sea.epoch, .int .u64 m.sea.node, .int .u64 m.sea.tail, .int .u64 m.proj.epoch, .slice a4 m.proj.stripes.length a4'], .bool q, .agg #[.int .i64 k, .int .i64 f]]) (by simp [results, Tryz.results48, go_sem, n0, n1, n2, n3, n4, n5, n6, n7, n8, n9, n10, n11, n12, n13, p0, p1]) rfl ⟨a1, a1', a2, a2', a3, a3', a4, a4', rfl, AF.C6 X1.out (fun q hq => ht5.block q zD zD) (fun q hq => ⟨zD, zD⟩), hbl.trans (ht5.BE hbl.size fun b hb e => zD)⟩
theorem NT {k st : Int} (h : Bj k st = true) : Ay k 64 = false ∧ Ay k 128 = false := by
 unfold Bj at h;simp only [Cm, As, Aw] at h
 rcases h with rfl | ⟨rfl, _⟩ <;> decide
theorem SV {B : List UInt8} (s : Rs) (k : Int) :
  (s.body B (C4 B) k = s.body B (CM B) k ∧ ((s.body B (CM B) k).1.k = 0 → (s.body B (CM B) k).2.2 = true)) ∨ ((s.body B (C4 B) k).1.k = 12 ∧ (s.body B (CM B) k).1.k = 0 ∧ (s.body B (CM B) k).2.2 = false) := by
 unfold Rs.body;by_cases hk : 1 ≤ k ∧ k ≤ 14
 ·rw [Ak hk, Ak hk]
  dsimp only;generalize s.ahead B k = e
  cases hb : Bj k e.2.state
  ·left
   refine ⟨rfl, fun h => ?_⟩
   split at h
   ·rename_i h1
    rw [Ak h1]
    rfl
   ·rename_i h1
    exact absurd h h1
  ·obtain ⟨h64, h128⟩ := NT hb
   rw [h64, h128]
   have hr := Qe (B := B) e.1
   have hSt : (C4 B e.1).2.2 = true := rfl
   unfold Rs.part
   (try dsimp only)
   generalize C4 B e.1 = S at *
   generalize CM B e.1 = L at *
   obtain ⟨u1, D1, q1⟩ := S
   obtain ⟨u2, D2, q2⟩ := L
   dsimp only at *;subst hSt;rcases hr with ⟨rfl, rfl, h3⟩ | ⟨h1, h2, h3⟩
   ·left
    by_cases h0 : u1.k = 0
    ·rw [h3 h0]
     refine ⟨rfl, fun h => ?_⟩
     simp [h0]
    ·refine ⟨?_, fun h => ?_⟩
     ·simp [h0]
     ·simp [h0] at h
   ·right
    subst h3;simp [h1, h2]
 ·rw [An hk, An hk]
  left
  exact ⟨rfl, fun h => absurd h (Rs.Be zD)⟩
theorem Rs.Sw {B : List UInt8} {t : Rs} (ht : t.ok B.length) {m : Int} : t.p ≤ (t.loose B m).1.p := by
 have h1 := Rs.SD (B := B) (s := t) (m := min m 1048576)
 have o1 := Rs.EE (B := B) (m := min m 1048576) ht
 have h2 := Rs.KL (B := B) o1
 have o2 := Rs.Gs (B := B) o1
 have h3 := Rs.Oc (B := B) o2 ((t.int B (min m 1048576)).2 : Int)
 have h4 := Rs.Tx (B := B) o2 (t.int B (min m 1048576)).2
 unfold Rs.loose;split
 ·split
  ·split <;> (dsimp only; omega)
  ·split
   ·split <;> (dsimp only; omega)
   ·dsimp only
    rw [Rs.KC]
    omega
 ·dsimp only
  omega
theorem NX {B : List UInt8} (t : Rs) (ht : t.ok B.length) (h : (CM B t).1.k = 0) (hf : (CM B t).2.2 = true) : B.drop t.p = Cu (CM B t).2.1 ++ B.drop (CM B t).1.p := by
 have h1 := Rs.Kv (B := B) (s := t) (m := 1048576) hf
 have h2 := Rs.Sw (B := B) ht (m := 1048576)
 unfold CM at *;rw [h1]
 have : B.drop (t.loose B 1048576).1.p = (B.drop t.p).drop ((t.loose B 1048576).1.p - t.p) := by
  rw [List.drop_drop]
  congr 1
  omega
 rw [this, Fs]
theorem SY {B : List UInt8} (t : Rs) (ht : t.ok B.length) (h : (C4 B t).1.k = 0) (hf : (C4 B t).2.2 = true) : B.drop t.p = Cu (C4 B t).2.1 ++ B.drop (C4 B t).1.p := by
 rcases Qe (B := B) t with ⟨h1, h2, h3⟩ | ⟨h1, h2, h3⟩
 ·rw [h1] at h ⊢
  rw [h2]
  exact NX t ht h (h3 h)
 ·omega
theorem NV {B : List UInt8} {t : Rs} (h : t.ok B.length) : (C4 B t).1.ok B.length := by
 unfold C4 Rs.strict;dsimp only;split
 ·split
  ·exact Rs.GW h 1048576
  ·exact Rs.BS (Rs.GW h 1048576) zD
 ·exact Rs.GW h 1048576
theorem Rl {B : List UInt8} (t : Rs) : (CM B t).2.1.length ≤ 1048576 := Rs.IZ
theorem Tk (m : Msg) : En m = (decide (1 ≤ m.kind ∧ m.kind ≤ 14) && (AM (Ay m.kind 1) (poR m.pos) (m.pos == 0) && (AM (Ay m.kind 2) (decide (1 ≤ m.count) && decide (m.count ≤ 65536)) (m.count == 0) &&
   (AM (Ay m.kind 4) (decide (1 ≤ m.state) && decide (m.state ≤ CK m.kind)) (m.state == 0) && (AM (Ay m.kind 8) (decide (m.streams.length ≤ 16) && A1 m.streams) ((m.streams.length : Int) == 0) &&
   (AM (Ay m.kind 16) (Bl m.pos m.links) ((m.links.length : Int) == 0) && (AM (Ay m.kind 64) (Dv m.sea) (m.sea.epoch == 0 && (m.sea.node == 0 && m.sea.tail == 0)) &&
   (AM (Ay m.kind 128) (Cc m.proj) (m.proj.epoch == 0 && (m.proj.stripes.length : Int) == 0) && (((m.data.length : Int) == 0) || (Bj m.kind m.state && decide (m.data.length ≤ 1048576))))))))))) := by
 unfold En;rw [CE, CE, CE, CE, Lm, Bool.decide_and, Bool.decide_and, Bool.decide_and]
 rfl
theorem M3 (m : Msg) (a1 : Option Addr) (c1 : Nat) (a2 : Option Addr) (c2 : Nat) (a3 : Option Addr) (c3 : Nat) (a4 : Option Addr) (c4 : Nat) (w : World) (h : AF (· < w.heap.size) w m a1 c1 a2 c2 a3 c3 a4 c4) :
  Calls Tryz.prog 20 #[.agg #[.int .i64 m.kind, .int .u64 m.epoch, .int .u64 m.seq, .int .u64 m.pos, .int .i64 m.count, .int .i64 m.state, .slice a1 m.streams.length c1, .slice a2 m.links.length c2, .slice a3 m.data.length c3, .int .u64 m.sea.epoch, .int .u64 m.sea.node, .int .u64 m.sea.tail, .int .u64 m.proj.epoch, .slice a4 m.proj.stripes.length c4]] w fun r w' => r = .returned (.bool (En m)) ∧ Below w.heap.size w w' := by
 have hM := Tk m
 have HPO := hid (fun W : World => QG m.pos W)
 have HMO := hid (fun W : World => Oz m.kind W)
 have HST := hid (fun (W : World) (hW : Below w.heap.size w W) => Jr m.streams a1 _ c1 W (lift h.streams hW))
 have HLK := hid (fun (W : World) (hW : Below w.heap.size w W) => M5 m.pos m.links a2 _ c2 W (lift h.links hW))
 have HSE := hid (fun (W : World) => Na m.sea h.sealE W)
 have HPR := hid (fun (W : World) (hW : Below w.heap.size w W) => M7 m.proj.epoch h.projE.1 m.proj.stripes a4 _ c4 W (lift h.stripes hW))
 have HBL := hid (fun (W : World) => M4 m.kind m.state W)
 have HH1 := hid (fun W : World => Ei m.kind 1 zT W)
 have HH2 := hid (fun W : World => Ei m.kind 2 zT W)
 have HH4 := hid (fun W : World => Ei m.kind 4 zT W)
 have HH8 := hid (fun W : World => Ei m.kind 8 zT W)
 have HH16 := hid (fun W : World => Ei m.kind 16 zT W)
 have HH64 := hid (fun W : World => Ei m.kind 64 zT W)
 have HH128 := hid (fun W : World => Ei m.kind 128 zT W)
 obtain ⟨kk, ep, sq, po, cn, st, SS, LS, DD, ⟨se, sn, tl⟩, ⟨pe, PL⟩⟩ := m
 dsimp only at *;generalize Ay kk 1 = H1 at *
 generalize Ay kk 2 = H2 at *
 generalize Ay kk 4 = H4 at *
 generalize Ay kk 8 = H8 at *
 generalize Ay kk 16 = H16 at *
 generalize Ay kk 64 = H64 at *
 generalize Ay kk 128 = H128 at *
 obtain ⟨B1, hB1⟩ : ∃ B, B = AM H1 (poR po) (po == 0) := ⟨_, rfl⟩
 rw [← hB1] at hM
 have HQ1 := hid hB1
 clear hB1;obtain ⟨B2, hB2⟩ : ∃ B, B = AM H2 (decide (1 ≤ cn) && decide (cn ≤ 65536)) (cn == 0) := ⟨_, rfl⟩
 rw [← hB2] at hM
 have HQ2 := hid hB2
 clear hB2;obtain ⟨B4, hB4⟩ : ∃ B, B = AM H4 (decide (1 ≤ st) && decide (st ≤ CK kk)) (st == 0) := ⟨_, rfl⟩
 rw [← hB4] at hM
 have HQ4 := hid hB4
 clear hB4;obtain ⟨B8, hB8⟩ : ∃ B, B = AM H8 (decide (SS.length ≤ 16) && A1 SS) ((SS.length : Int) == 0) := ⟨_, rfl⟩
 rw [← hB8] at hM
 have HQ8 := hid hB8
 clear hB8;obtain ⟨B16, hB16⟩ : ∃ B, B = AM H16 (Bl po LS) ((LS.length : Int) == 0) := ⟨_, rfl⟩
 rw [← hB16] at hM
 have HQ16 := hid hB16
 clear hB16;obtain ⟨B64, hB64⟩ : ∃ B, B = AM H64 (Dv ⟨se, sn, tl⟩) (se == 0 && (sn == 0 && tl == 0)) := ⟨_, rfl⟩
 rw [← hB64] at hM
 have HQ64 := hid hB64
 clear hB64;obtain ⟨B128, hB128⟩ : ∃ B, B = AM H128 (Cc ⟨pe, PL⟩) (pe == 0 && (PL.length : Int) == 0) := ⟨_, rfl⟩
 rw [← hB128] at hM
 have HQ128 := hid hB128
 clear hB128;generalize poR po = R1 at *
 generalize Bl po LS = R16 at *
 generalize Dv ⟨se, sn, tl⟩ = R64 at *
 generalize Cc ⟨pe, PL⟩ = R128 at *
 generalize A1 SS = RS at *
 generalize CK kk = MK at *
 generalize Bj kk st = BL at *
 obtain ⟨DB, hDB⟩ : ∃ B, B = (((DD.length : Int) == 0) || (BL && decide (DD.length ≤ 1048576))) := ⟨_, rfl⟩
 rw [← hDB] at hM
 have HDB := hid hDB
 generalize hK : decide (1 ≤ kk ∧ kk ≤ 14) = K at *
 have HM := hid hM
 generalize En ⟨kk, ep, sq, po, cn, st, SS, LS, DD, ⟨se, sn, tl⟩, ⟨pe, PL⟩⟩ = MM at *
 have hb0 : Below w.heap.size w (w.alloc (.cells #[.int .i64 kk, .int .u64 ep, .int .u64 sq, .int .u64 po, .int .i64 cn, .int .i64 st, .slice a1 SS.length c1, .slice a2 LS.length c2, .slice a3 DD.length c3, .int .u64 se, .int .u64 sn, .int .u64 tl, .int .u64 pe, .slice a4 PL.length c4] 32)) := zB
 have HBX : Hid (Blk (w.alloc (.cells #[.int .i64 kk, .int .u64 ep, .int .u64 sq, .int .u64 po, .int .i64 cn, .int .i64 st, .slice a1 SS.length c1, .slice a2 LS.length c2, .slice a3 DD.length c3, .int .u64 se, .int .u64 sn, .int .u64 tl, .int .u64 pe, .slice a4 PL.length c4] 32)) w.heap.size 32 #[.int .i64 kk, .int .u64 ep, .int .u64 sq, .int .u64 po, .int .i64 cn, .int .i64 st, .slice a1 SS.length c1, .slice a2 LS.length c2, .slice a3 DD.length c3, .int .u64 se, .int .u64 sn, .int .u64 tl, .int .u64 pe, .slice a4 PL.length c4]) := hid (Blk.new w _ _)
 clear hM h hDB;cases K
 ·have hK' : ¬ (1 ≤ kk ∧ kk ≤ 14) := of_decide_eq_false hK
  have hff : Hid (MM = false) := hid (by rw [HM.out]; rfl)
  clear hK;by_cases g1 : kk < 1
  ·have d1 : decide (kk < 1) = true := Ac g1
   go_enter Tryz.func20, Tryz.ntmps20
   go_wp2_with fail;go_ret;exact ⟨zI, hb0⟩
  ·have d1 : decide (kk < 1) = false := Ab g1
   have d2 : decide (14 < kk) = true := Ac zD
   go_enter Tryz.func20, Tryz.ntmps20
   go_wp2_with fail;go_ret;exact ⟨zI, hb0⟩
 ·have hK' : 1 ≤ kk ∧ kk ≤ 14 := B6 hK
  have d1 : decide (kk < 1) = false := Ab zD
  have d2 : decide (14 < kk) = false := Ab zD
  clear hK hK';go_enter Tryz.func20, Tryz.ntmps20
  go_upto_region 4 with (fail)
  generalize (w.alloc (.cells #[.int .i64 kk, .int .u64 ep, .int .u64 sq, .int .u64 po, .int .i64 cn, .int .i64 st, .slice a1 SS.length c1, .slice a2 LS.length c2, .slice a3 DD.length c3, .int .u64 se, .int .u64 sn, .int .u64 tl, .int .u64 pe, .slice a4 PL.length c4] 32)) = w0 at *
  have HB0 := hid hb0
  clear hb0;have HB1 : Hid (Below w0.heap.size w0 w0) := hid (Below.refl _ _)
  go_cut [29] from 12 to 28 (fun v V => v = .bool (!B1) ∧ Below w0.heap.size w0 V)
  case first =>
   cases H1
   ·go_wp2_with fail
    refine (HH1.out _).mono ?_
    rintro r v101 ⟨rfl, hb101⟩;have HC101 := hid (Af hb101 HB1.out)
    clear hb101;go_wp2_with fail;refine (HH1.out _).mono ?_
    rintro r v102 ⟨rfl, hb102⟩;have HC102 := hid (Af hb102 HC101.out)
    clear hb102;have HX102 := hid (HBX.out.later HC102.out)
    have y102_3 : v102.cell? ⟨w.heap.size, 3, none⟩ = some (.int .u64 po) := HX102.out.cell 3
    clear HX102;have hv1 : Hid (B1 = (po == 0)) := hid (by rw [HQ1.out]; rfl)
    go_wp2_with fail;go_meet
    case rel => exact ⟨by rw [hv1.out]; first | rfl | simp, HC102.out⟩
   ·go_wp2_with fail
    refine (HH1.out _).mono ?_
    rintro r v103 ⟨rfl, hb103⟩;have HC103 := hid (Af hb103 HB1.out)
    clear hb103;have HX103 := hid (HBX.out.later HC103.out)
    have y103_3 : v103.cell? ⟨w.heap.size, 3, none⟩ = some (.int .u64 po) := HX103.out.cell 3
    clear HX103;cases R1
    ·go_wp2_with fail
     refine (HPO.out _).mono ?_
     rintro r v104 ⟨rfl, rfl⟩;have hv1 : Hid (B1 = false) := hid (by rw [HQ1.out]; rfl)
     go_wp2_with fail;go_meet
     case rel => exact ⟨by rw [hv1.out]; first | rfl | simp, HC103.out⟩
    ·go_wp2_with fail
     refine (HPO.out _).mono ?_
     rintro r v104 ⟨rfl, rfl⟩;go_wp2_with fail;refine (HH1.out _).mono ?_
     rintro r v105 ⟨rfl, hb105⟩;have HC105 := hid (Af hb105 HC103.out)
     clear hb105;have hv1 : Hid (B1 = true) := hid (by rw [HQ1.out]; rfl)
     go_wp2_with fail;go_meet
     case rel => exact ⟨by rw [hv1.out]; first | rfl | simp, HC105.out⟩
  case rest =>
   obtain ⟨rfl, hbc⟩ := hcut
   have HB2 := hid hbc
   clear hbc;obtain ⟨w1, hwn⟩ : ∃ W : World, W = wc := ⟨_, rfl⟩
   subst hwn;cases B1
   ·have hff : Hid (MM = false) := hid ZC
    go_wp2_with fail;go_ret;exact ⟨zI, HB0.out.trans (HB2.out.mono HB0.out.size)⟩
   ·go_upto_region 6 with (fail)
    go_cut [51] from 30 to 50 (fun v V => v = .bool (!B2) ∧ Below w0.heap.size w0 V)
    case first =>
     cases H2
     ·go_wp2_with fail
      refine (HH2.out _).mono ?_
      rintro r v106 ⟨rfl, hb106⟩;have HC106 := hid (Af hb106 HB2.out)
      clear hb106;go_wp2_with fail;refine (HH2.out _).mono ?_
      rintro r v107 ⟨rfl, hb107⟩;have HC107 := hid (Af hb107 HC106.out)
      clear hb107;have HX107 := hid (HBX.out.later HC107.out)
      have y107_4 : v107.cell? ⟨w.heap.size, 4, none⟩ = some (.int .i64 cn) := HX107.out.cell 4
      clear HX107;have hv2 : Hid (B2 = (cn == 0)) := hid (by rw [HQ2.out]; rfl)
      go_wp2_with fail;go_meet
      case rel => exact ⟨by rw [hv2.out]; first | rfl | simp, HC107.out⟩
     ·go_wp2_with fail
      refine (HH2.out _).mono ?_
      rintro r v108 ⟨rfl, hb108⟩;have HC108 := hid (Af hb108 HB2.out)
      clear hb108;have HX108 := hid (HBX.out.later HC108.out)
      have y108_4 : v108.cell? ⟨w.heap.size, 4, none⟩ = some (.int .i64 cn) := HX108.out.cell 4
      clear HX108;by_cases g1 : cn < 1
      ·have d1 : decide (cn < 1) = true := Ac g1
       have hv2 : Hid (B2 = false) := hid (by rw [HQ2.out]; show (decide (1 ≤ cn) && _) = false; rw [Ab (by omega)]; rfl)
       go_wp2_with fail;go_meet
       case rel => exact ⟨by rw [hv2.out]; first | rfl | simp, HC108.out⟩
      ·have d1 : decide (cn < 1) = false := Ab g1
       by_cases g2 : 65536 < cn
       ·have d2 : decide (65536 < cn) = true := Ac g2
        have hv2 : Hid (B2 = false) := hid (by rw [HQ2.out]; show (decide (1 ≤ cn) && decide (cn ≤ 65536)) = false; rw [Ab (by omega : ¬ cn ≤ 65536), Bool.and_false])
        go_wp2_with fail;go_meet
        case rel => exact ⟨by rw [hv2.out]; first | rfl | simp, HC108.out⟩
       ·have d2 : decide (65536 < cn) = false := Ab g2
        have hv2 : Hid (B2 = true) := hid (by rw [HQ2.out]; show (decide (1 ≤ cn) && decide (cn ≤ 65536)) = true; rw [Ac (by omega : cn ≤ 65536), Ac (by omega : 1 ≤ cn)]; rfl)
        go_wp2_with fail;refine (HH2.out _).mono ?_
        rintro r v109 ⟨rfl, hb109⟩;have HC109 := hid (Af hb109 HC108.out)
        clear hb109;go_wp2_with fail;go_meet
        case rel => exact ⟨by rw [hv2.out]; first | rfl | simp, HC109.out⟩
    case rest =>
     obtain ⟨rfl, hbc⟩ := hcut
     have HB3 := hid hbc
     clear hbc;obtain ⟨w2, hwn⟩ : ∃ W : World, W = wc := ⟨_, rfl⟩
     subst hwn;cases B2
     ·have hff : Hid (MM = false) := hid ZC
      go_wp2_with fail;go_ret;exact ⟨zI, HB0.out.trans (HB3.out.mono HB0.out.size)⟩
     ·go_upto_region 8 with (fail)
      go_cut [75] from 52 to 74 (fun v V => v = .bool (!B4) ∧ Below w0.heap.size w0 V)
      case first =>
       have HX4 := hid (HBX.out.later HB3.out)
       have Y5 := fun s : AN w2 => s.cell (HX4.out.cell 5 : w2.cell? ⟨w.heap.size, 5, none⟩ = some (.int .i64 st))
       cases H4
       ·have hv4 : Hid (B4 = (st == 0)) := hid (by rw [HQ4.out]; rfl)
        refine Ar zH zH ?_
        repeat (go_big_quiet_step ((first | (go_at_call 88; with_reducible exact AW (HH4.out _)) | (go_at_call 90; with_reducible exact Eo (HMO.out _)))))
        refine AA ?_
        rintro W5 ⟨⟨W5', hb5⟩, rfl⟩;go_wp2_with fail;go_meet
        case rel => exact ⟨by rw [hv4.out]; first | rfl | simp, Af hb5 HB3.out⟩
       ·by_cases g1 : st < 1
        ·have d1 : decide (st < 1) = true := Ac g1
         have hv4 : Hid (B4 = false) := hid (by rw [HQ4.out]; show (decide (1 ≤ st) && _) = false; rw [Ab (by omega)]; rfl)
         refine Ar zH zH ?_
         repeat (go_big_quiet_step ((first | (go_at_call 88; with_reducible exact AW (HH4.out _)) | (go_at_call 90; with_reducible exact Eo (HMO.out _)))))
         refine AA ?_
         rintro W5 ⟨⟨W5', hb5⟩, rfl⟩;go_wp2_with fail;go_meet
         case rel => exact ⟨by rw [hv4.out]; first | rfl | simp, Af hb5 HB3.out⟩
        ·have d1 : decide (st < 1) = false := Ab g1
         by_cases g2 : MK < st
         ·have d2 : decide (MK < st) = true := Ac g2
          have hv4 : Hid (B4 = false) := hid (by rw [HQ4.out]; show (decide (1 ≤ st) && decide (st ≤ MK)) = false; rw [Ab (by omega : ¬ st ≤ MK), Bool.and_false])
          refine Ar zH zH ?_
          repeat (go_big_quiet_step ((first | (go_at_call 88; with_reducible exact AW (HH4.out _)) | (go_at_call 90; with_reducible exact Eo (HMO.out _)))))
          refine AA ?_
          rintro W5 ⟨⟨W5', hb5⟩, rfl⟩;go_wp2_with fail;go_meet
          case rel => exact ⟨by rw [hv4.out]; first | rfl | simp, Af hb5 HB3.out⟩
         ·have d2 : decide (MK < st) = false := Ab g2
          have hv4 : Hid (B4 = true) := hid (by rw [HQ4.out]; show (decide (1 ≤ st) && decide (st ≤ MK)) = true; rw [Ac (by omega : st ≤ MK), Ac (by omega : 1 ≤ st)]; rfl)
          refine Ar zH zH ?_
          repeat (go_big_quiet_step ((first | (go_at_call 88; with_reducible exact AW (HH4.out _)) | (go_at_call 90; with_reducible exact Eo (HMO.out _)))))
          refine AA ?_
          rintro W5 ⟨⟨W5', hb5⟩, rfl⟩;go_wp2_with fail;go_meet
          case rel => exact ⟨by rw [hv4.out]; first | rfl | simp, Af hb5 HB3.out⟩
      case rest =>
       obtain ⟨rfl, hbc⟩ := hcut
       have HB4 := hid hbc
       clear hbc;obtain ⟨w3, hwn⟩ : ∃ W : World, W = wc := ⟨_, rfl⟩
       subst hwn;cases B4
       ·have hff : Hid (MM = false) := hid ZC
        go_wp2_with fail;go_ret;exact ⟨zI, HB0.out.trans (HB4.out.mono HB0.out.size)⟩
       ·go_upto_region 10 with (fail)
        go_cut [100] from 76 to 99 (fun v V => v = .bool (!B8) ∧ Below w0.heap.size w0 V)
        case first =>
         cases H8
         ·go_wp2_with fail
          refine (HH8.out _).mono ?_
          rintro r v110 ⟨rfl, hb110⟩;have HC110 := hid (Af hb110 HB4.out)
          clear hb110;go_wp2_with fail;refine (HH8.out _).mono ?_
          rintro r v111 ⟨rfl, hb111⟩;have HC111 := hid (Af hb111 HC110.out)
          clear hb111;have HX111 := hid (HBX.out.later HC111.out)
          have y111_6 : v111.cell? ⟨w.heap.size, 6, none⟩ = some (.slice a1 SS.length c1) := HX111.out.cell 6
          clear HX111;by_cases hz : SS.length = 0
          ·have hz1 : ((SS.length : Int) == 0) = true := by rw [CE]; exact Ac hz
           have g1 : decide (0 < (SS.length : Int)) = false := Ab zD
           have g2 : decide (0 < SS.length) = false := Ab zD
           clear hz;have hv8 : Hid (B8 = true) := hid (by rw [HQ8.out]; exact hz1)
           clear hz1;go_wp2_with fail;go_meet
           case rel => exact ⟨by rw [hv8.out]; first | rfl | simp, HC111.out⟩
          ·have hz1 : ((SS.length : Int) == 0) = false := by rw [CE]; exact Ab hz
           have g1 : decide (0 < (SS.length : Int)) = true := Ac zD
           have g2 : decide (0 < SS.length) = true := Ac zD
           clear hz;have hv8 : Hid (B8 = false) := hid (by rw [HQ8.out]; exact hz1)
           clear hz1;go_wp2_with fail;go_meet
           case rel => exact ⟨by rw [hv8.out]; first | rfl | simp, HC111.out⟩
         ·go_wp2_with fail
          refine (HH8.out _).mono ?_
          rintro r v112 ⟨rfl, hb112⟩;have HC112 := hid (Af hb112 HB4.out)
          clear hb112;have HX112 := hid (HBX.out.later HC112.out)
          have y112_6 : v112.cell? ⟨w.heap.size, 6, none⟩ = some (.slice a1 SS.length c1) := HX112.out.cell 6
          clear HX112;by_cases g1 : 16 < SS.length
          ·have d1 : decide ((16 : Int) < (SS.length : Int)) = true := Ac zD
           have hv8 : Hid (B8 = false) := hid (by rw [HQ8.out]; show (decide (SS.length ≤ 16) && _) = false; rw [Ab (by omega)]; rfl)
           go_wp2_with fail;go_meet
           case rel => exact ⟨by rw [hv8.out]; first | rfl | simp, HC112.out⟩
          ·have d1 : decide ((16 : Int) < (SS.length : Int)) = false := Ab zD
           cases RS
           ·have hv8 : Hid (B8 = false) := hid (by rw [HQ8.out]; show (_ && false) = false; rw [Bool.and_false])
            go_wp2_with fail;refine (HST.out _ (HB0.out.trans (HC112.out.mono HB0.out.size))).mono ?_
            rintro r v113 ⟨rfl, hb113⟩;have HC113 := hid (Af hb113 HC112.out)
            clear hb113;go_wp2_with fail;go_meet
            case rel => exact ⟨by rw [hv8.out]; first | rfl | simp, HC113.out⟩
           ·have hv8 : Hid (B8 = true) := hid (by rw [HQ8.out]; show (decide (SS.length ≤ 16) && true) = true; rw [Ac (by omega)]; rfl)
            go_wp2_with fail;refine (HST.out _ (HB0.out.trans (HC112.out.mono HB0.out.size))).mono ?_
            rintro r v113 ⟨rfl, hb113⟩;have HC113 := hid (Af hb113 HC112.out)
            clear hb113;go_wp2_with fail;refine (HH8.out _).mono ?_
            rintro r v114 ⟨rfl, hb114⟩;have HC114 := hid (Af hb114 HC113.out)
            clear hb114;go_wp2_with fail;go_meet
            case rel => exact ⟨by rw [hv8.out]; first | rfl | simp, HC114.out⟩
        case rest =>
         obtain ⟨rfl, hbc⟩ := hcut
         have HB5 := hid hbc
         clear hbc;obtain ⟨w4, hwn⟩ : ∃ W : World, W = wc := ⟨_, rfl⟩
         subst hwn;cases B8
         ·have hff : Hid (MM = false) := hid ZC
          go_wp2_with fail;go_ret;exact ⟨zI, HB0.out.trans (HB5.out.mono HB0.out.size)⟩
         ·go_upto_region 12 with (fail)
          go_cut [121] from 101 to 120 (fun v V => v = .bool (!B16) ∧ Below w0.heap.size w0 V)
          case first =>
           cases H16
           ·go_wp2_with fail
            refine (HH16.out _).mono ?_
            rintro r v115 ⟨rfl, hb115⟩;have HC115 := hid (Af hb115 HB5.out)
            clear hb115;go_wp2_with fail;refine (HH16.out _).mono ?_
            rintro r v116 ⟨rfl, hb116⟩;have HC116 := hid (Af hb116 HC115.out)
            clear hb116;have HX116 := hid (HBX.out.later HC116.out)
            have y116_3 : v116.cell? ⟨w.heap.size, 3, none⟩ = some (.int .u64 po) := HX116.out.cell 3
            have y116_7 : v116.cell? ⟨w.heap.size, 7, none⟩ = some (.slice a2 LS.length c2) := HX116.out.cell 7
            clear HX116;by_cases hz : LS.length = 0
            ·have hz1 : ((LS.length : Int) == 0) = true := by rw [CE]; exact Ac hz
             have g1 : decide (0 < (LS.length : Int)) = false := Ab zD
             have g2 : decide (0 < LS.length) = false := Ab zD
             clear hz;have hv16 : Hid (B16 = true) := hid (by rw [HQ16.out]; exact hz1)
             clear hz1;go_wp2_with fail;go_meet
             case rel => exact ⟨by rw [hv16.out]; first | rfl | simp, HC116.out⟩
            ·have hz1 : ((LS.length : Int) == 0) = false := by rw [CE]; exact Ab hz
             have g1 : decide (0 < (LS.length : Int)) = true := Ac zD
             have g2 : decide (0 < LS.length) = true := Ac zD
             clear hz;have hv16 : Hid (B16 = false) := hid (by rw [HQ16.out]; exact hz1)
             clear hz1;go_wp2_with fail;go_meet
             case rel => exact ⟨by rw [hv16.out]; first | rfl | simp, HC116.out⟩
           ·go_wp2_with fail
            refine (HH16.out _).mono ?_
            rintro r v117 ⟨rfl, hb117⟩;have HC117 := hid (Af hb117 HB5.out)
            clear hb117;have HX117 := hid (HBX.out.later HC117.out)
            have y117_3 : v117.cell? ⟨w.heap.size, 3, none⟩ = some (.int .u64 po) := HX117.out.cell 3
            have y117_7 : v117.cell? ⟨w.heap.size, 7, none⟩ = some (.slice a2 LS.length c2) := HX117.out.cell 7
            clear HX117;cases R16
            ·go_wp2_with fail
             refine (HLK.out _ (HB0.out.trans (HC117.out.mono HB0.out.size))).mono ?_
             rintro r v118 ⟨rfl, hb118⟩;have HC118 := hid (Af hb118 HC117.out)
             clear hb118;have hv16 : Hid (B16 = false) := hid (by rw [HQ16.out]; rfl)
             go_wp2_with fail;go_meet
             case rel => exact ⟨by rw [hv16.out]; first | rfl | simp, HC118.out⟩
            ·go_wp2_with fail
             refine (HLK.out _ (HB0.out.trans (HC117.out.mono HB0.out.size))).mono ?_
             rintro r v118 ⟨rfl, hb118⟩;have HC118 := hid (Af hb118 HC117.out)
             clear hb118;go_wp2_with fail;refine (HH16.out _).mono ?_
             rintro r v119 ⟨rfl, hb119⟩;have HC119 := hid (Af hb119 HC118.out)
             clear hb119;have hv16 : Hid (B16 = true) := hid (by rw [HQ16.out]; rfl)
             go_wp2_with fail;go_meet
             case rel => exact ⟨by rw [hv16.out]; first | rfl | simp, HC119.out⟩
          case rest =>
           obtain ⟨rfl, hbc⟩ := hcut
           have HB6 := hid hbc
           clear hbc;obtain ⟨w5, hwn⟩ : ∃ W : World, W = wc := ⟨_, rfl⟩
           subst hwn;cases B16
           ·have hff : Hid (MM = false) := hid ZC
            go_wp2_with fail;go_ret;exact ⟨zI, HB0.out.trans (HB6.out.mono HB0.out.size)⟩
           ·go_upto_region 14 with (fail)
            go_cut [138] from 122 to 137 (fun v V => v = .bool (!DB) ∧ Below w0.heap.size w0 V)
            case first =>
             have HX5 := hid (HBX.out.later HB6.out)
             have y5_5 : w5.cell? ⟨w.heap.size, 5, none⟩ = some (.int .i64 st) := HX5.out.cell 5
             have y5_8 : w5.cell? ⟨w.heap.size, 8, none⟩ = some (.slice a3 DD.length c3) := HX5.out.cell 8
             clear HX5;by_cases g0 : DD.length = 0
             ·have d0 : decide ((0 : Int) < (DD.length : Int)) = false := Ab zD
              have d0n : decide (0 < DD.length) = false := Ab zD
              have d1 : decide ((1048576 : Int) < (DD.length : Int)) = false := Ab zD
              have hvD : Hid (DB = true) := hid (by rw [HDB.out]; rw [CE, Ac g0]; rfl)
              clear g0;go_wp2_with fail;go_meet
              case rel => exact ⟨by rw [hvD.out]; first | rfl | simp, HB6.out⟩
             ·have d0 : decide ((0 : Int) < (DD.length : Int)) = true := Ac zD
              have d0n : decide (0 < DD.length) = true := Ac zD
              cases BL
              ·have hvD : Hid (DB = false) := hid (by rw [HDB.out]; rw [CE, Ab g0]; rfl)
               clear g0;go_wp2_with fail;refine (HBL.out _).mono ?_
               rintro r v120 ⟨rfl, rfl⟩;go_wp2_with fail;go_meet
               case rel => exact ⟨by rw [hvD.out]; first | rfl | simp, HB6.out⟩
              ·by_cases g1 : 1048576 < DD.length
               ·have d1 : decide ((1048576 : Int) < (DD.length : Int)) = true := Ac zD
                have hvD : Hid (DB = false) := hid (by rw [HDB.out]; rw [CE, Ab g0, Ab (by omega)]; rfl)
                clear g0;go_wp2_with fail;refine (HBL.out _).mono ?_
                rintro r v120 ⟨rfl, rfl⟩;go_wp2_with fail;go_meet
                case rel => exact ⟨by rw [hvD.out]; first | rfl | simp, HB6.out⟩
               ·have d1 : decide ((1048576 : Int) < (DD.length : Int)) = false := Ab zD
                have hvD : Hid (DB = true) := hid (by rw [HDB.out]; rw [CE, Ab g0, Ac (by omega)]; rfl)
                clear g0;go_wp2_with fail;refine (HBL.out _).mono ?_
                rintro r v120 ⟨rfl, rfl⟩;go_wp2_with fail;go_meet
                case rel => exact ⟨by rw [hvD.out]; first | rfl | simp, HB6.out⟩
            case rest =>
             obtain ⟨rfl, hbc⟩ := hcut
             have HB7 := hid hbc
             clear hbc;obtain ⟨w6, hwn⟩ : ∃ W : World, W = wc := ⟨_, rfl⟩
             subst hwn;cases DB
             ·have hff : Hid (MM = false) := hid ZC
              go_wp2_with fail;go_ret;exact ⟨zI, HB0.out.trans (HB7.out.mono HB0.out.size)⟩
             ·go_upto_region 16 with (fail)
              go_cut [157] from 139 to 156 (fun v V => v = .bool (!B64) ∧ Below w0.heap.size w0 V)
              case first =>
               cases H64
               ·go_wp2_with fail
                refine (HH64.out _).mono ?_
                rintro r v121 ⟨rfl, hb121⟩;have HC121 := hid (Af hb121 HB7.out)
                clear hb121;go_wp2_with fail;refine (HH64.out _).mono ?_
                rintro r v122 ⟨rfl, hb122⟩;have HC122 := hid (Af hb122 HC121.out)
                clear hb122;have HX122 := hid (HBX.out.later HC122.out)
                have y122_9 : v122.cell? ⟨w.heap.size, 9, none⟩ = some (.int .u64 se) := HX122.out.cell 9
                have y122_10 : v122.cell? ⟨w.heap.size, 10, none⟩ = some (.int .u64 sn) := HX122.out.cell 10
                have y122_11 : v122.cell? ⟨w.heap.size, 11, none⟩ = some (.int .u64 tl) := HX122.out.cell 11
                clear HX122;cases hc : (se == 0)
                ·have hc' : (se != 0) = true := by rw [bne, hc]; rfl
                 have hv64 : Hid (B64 = false) := hid (by rw [HQ64.out]; simp [AM, hc])
                 go_wp2_with fail;go_meet
                 case rel => exact ⟨by rw [hv64.out]; first | rfl | simp, HC122.out⟩
                ·cases hd : (sn == 0)
                 ·have hv64 : Hid (B64 = false) := hid (by rw [HQ64.out]; simp [AM, hc, hd])
                  go_wp2_with fail;go_meet
                  case rel => exact ⟨by rw [hv64.out]; first | rfl | simp, HC122.out⟩
                 ·cases he : (tl == 0)
                  ·have hv64 : Hid (B64 = false) := hid (by rw [HQ64.out]; simp [AM, hc, hd, he])
                   go_wp2_with fail;go_meet
                   case rel => exact ⟨by rw [hv64.out]; first | rfl | simp, HC122.out⟩
                  ·have hv64 : Hid (B64 = true) := hid (by rw [HQ64.out]; simp [AM, hc, hd, he])
                   go_wp2_with fail;go_meet
                   case rel => exact ⟨by rw [hv64.out]; first | rfl | simp, HC122.out⟩
               ·go_wp2_with fail
                refine (HH64.out _).mono ?_
                rintro r v123 ⟨rfl, hb123⟩;have HC123 := hid (Af hb123 HB7.out)
                clear hb123;have HX123 := hid (HBX.out.later HC123.out)
                have y123_9 : v123.cell? ⟨w.heap.size, 9, none⟩ = some (.int .u64 se) := HX123.out.cell 9
                have y123_10 : v123.cell? ⟨w.heap.size, 10, none⟩ = some (.int .u64 sn) := HX123.out.cell 10
                have y123_11 : v123.cell? ⟨w.heap.size, 11, none⟩ = some (.int .u64 tl) := HX123.out.cell 11
                clear HX123;cases R64
                ·go_wp2_with fail
                 refine (HSE.out _).mono ?_
                 rintro r v124 ⟨rfl, hb124⟩;have HC124 := hid (Af hb124 HC123.out)
                 clear hb124;have hv64 : Hid (B64 = false) := hid (by rw [HQ64.out]; rfl)
                 go_wp2_with fail;go_meet
                 case rel => exact ⟨by rw [hv64.out]; first | rfl | simp, HC124.out⟩
                ·go_wp2_with fail
                 refine (HSE.out _).mono ?_
                 rintro r v124 ⟨rfl, hb124⟩;have HC124 := hid (Af hb124 HC123.out)
                 clear hb124;go_wp2_with fail;refine (HH64.out _).mono ?_
                 rintro r v125 ⟨rfl, hb125⟩;have HC125 := hid (Af hb125 HC124.out)
                 clear hb125;have hv64 : Hid (B64 = true) := hid (by rw [HQ64.out]; rfl)
                 go_wp2_with fail;go_meet
                 case rel => exact ⟨by rw [hv64.out]; first | rfl | simp, HC125.out⟩
              case rest =>
               obtain ⟨rfl, hbc⟩ := hcut
               have HB8 := hid hbc
               clear hbc;obtain ⟨w7, hwn⟩ : ∃ W : World, W = wc := ⟨_, rfl⟩
               subst hwn;cases B64
               ·have hff : Hid (MM = false) := hid ZC
                go_wp2_with fail;go_ret;exact ⟨zI, HB0.out.trans (HB8.out.mono HB0.out.size)⟩
               ·cases H128
                ·go_wp2_with fail
                 refine (HH128.out _).mono ?_
                 rintro r v126 ⟨rfl, hb126⟩;have HC126 := hid (Af hb126 HB8.out)
                 clear hb126;go_wp2_with fail;refine (HH128.out _).mono ?_
                 rintro r v127 ⟨rfl, hb127⟩;have HC127 := hid (Af hb127 HC126.out)
                 clear hb127;have HX127 := hid (HBX.out.later HC127.out)
                 have y127_12 : v127.cell? ⟨w.heap.size, 12, none⟩ = some (.int .u64 pe) := HX127.out.cell 12
                 have y127_13 : v127.cell? ⟨w.heap.size, 13, none⟩ = some (.slice a4 PL.length c4) := HX127.out.cell 13
                 clear HX127;cases hc : (pe == 0)
                 ·have hff : Hid (MM = false) := hid (by rw [HM.out, HQ128.out]; simp [AM, hc])
                  go_wp2_with fail;go_ret;exact ⟨by rw [hff.out]; first | rfl | simp, (HB0.out.trans (HC127.out.mono HB0.out.size))⟩
                 ·have hff : Hid (MM = ((PL.length : Int) == 0)) := hid (by rw [HM.out, HQ128.out]; simp [AM, hc])
                  go_wp2_with fail;go_ret;exact ⟨by rw [hff.out]; first | rfl | simp, (HB0.out.trans (HC127.out.mono HB0.out.size))⟩
                ·go_wp2_with fail
                 refine (HH128.out _).mono ?_
                 rintro r v128 ⟨rfl, hb128⟩;have HC128 := hid (Af hb128 HB8.out)
                 clear hb128;have HX128 := hid (HBX.out.later HC128.out)
                 have y128_12 : v128.cell? ⟨w.heap.size, 12, none⟩ = some (.int .u64 pe) := HX128.out.cell 12
                 have y128_13 : v128.cell? ⟨w.heap.size, 13, none⟩ = some (.slice a4 PL.length c4) := HX128.out.cell 13
                 clear HX128;cases R128
                 ·have hff : Hid (MM = false) := hid (by rw [HM.out, HQ128.out]; simp [AM])
                  go_wp2_with fail;refine (HPR.out _ (HB0.out.trans (HC128.out.mono HB0.out.size))).mono ?_
                  rintro r v129 ⟨rfl, hb129⟩;have HC129 := hid (Af hb129 HC128.out)
                  clear hb129;go_wp2_with fail;refine (HH128.out _).mono ?_
                  rintro r v130 ⟨rfl, hb130⟩;have HC130 := hid (Af hb130 HC129.out)
                  clear hb130;go_wp2_with fail;go_ret;exact ⟨by rw [hff.out]; first | rfl | simp, (HB0.out.trans (HC130.out.mono HB0.out.size))⟩
                 ·have hff : Hid (MM = true) := hid (by rw [HM.out, HQ128.out]; simp [AM])
                  go_wp2_with fail;refine (HPR.out _ (HB0.out.trans (HC128.out.mono HB0.out.size))).mono ?_
                  rintro r v129 ⟨rfl, hb129⟩;have HC129 := hid (Af hb129 HC128.out)
                  clear hb129;go_wp2_with fail;go_ret;exact ⟨by rw [hff.out]; first | rfl | simp, (HB0.out.trans (HC129.out.mono HB0.out.size))⟩
theorem Su {m : Msg} (h : En m = true) : (∀ x ∈ m.links, x.backs.length ≤ 1000000) ∧ m.data.length ≤ 1048576 := by
 refine ⟨?_, (Gg h).data⟩
 unfold En at h;simp only [As] at h
 have h5 := h.2.2.2.2.2.1
 cases hh : Ay m.kind 16
 ·rw [hh] at h5
  have := List.length_eq_zero_iff.1 (B6 h5)
  rw [this]
  simp
 ·rw [hh] at h5
  have h6 : Bl m.pos m.links = true := h5
  simp only [Bl, As, List.all_eq_true] at h6
  intro x hx;have := h6.2.2 x hx
  simp only [Cv, As, Aw] at this
  omega
theorem AF.bare {S : Nat → Prop} {w : World} : AF S w CU none 0 none 0 none 0 none 0 := N5.none.to (A3 (xs := []) rfl (Al _) (Aj _) (.inl rfl)) (A3 (xs := []) rfl (Al _) (Aj _) (.inl rfl)) (A3 (xs := []) rfl (Al _) (Aj _) (.inl rfl)) (A3 (xs := []) rfl (Al _) (Aj _) (.inl rfl))
end Go.Proofs.YtlbffbkbkajciaaGreat
namespace Go.Bs
def FV (m : Msg) : Bool := En m && epR m.epoch
end Go.Bs
namespace Go.Proofs.YtlbffbkbkajciaaGreat
open Go.RowKit Go.Bs Go.Maps
def IT (m : Msg) : List UInt8 := [UInt8.ofNat m.kind.toNat] ++ AH m.epoch.toNat ++ AH m.seq.toNat ++ F0 m
def GR (m : Msg) : List UInt8 × Int := if FV m = true then (IT m, 0) else ([], 3)
theorem Sl {m : Msg} (h : FV m = true) : (IT m).length ≤ 49021 + m.data.length := by
 simp only [FV, As] at h
 have h1 := Kt h.1
 have h2 := (A2 m.epoch.toNat).1
 have h3 := (A2 m.seq.toNat).1
 unfold IT;simp only [Am, A7, Br]
 omega
theorem QA (m : Msg) (a1 : Option Addr) (c1 : Nat) (a2 : Option Addr) (c2 : Nat) (a3 : Option Addr) (c3 : Nat) (a4 : Option Addr) (c4 : Nat) (w : World) (hm : AF (· < w.heap.size) w m a1 c1 a2 c2 a3 c3 a4 c4) (hbk : ∀ x ∈ m.links, x.backs.length ≤ 1000000) :
  Calls Tryz.prog 30 #[.agg #[.int .i64 m.kind, .int .u64 m.epoch, .int .u64 m.seq, .int .u64 m.pos, .int .i64 m.count, .int .i64 m.state, .slice a1 m.streams.length c1, .slice a2 m.links.length c2, .slice a3 m.data.length c3, .int .u64 m.sea.epoch, .int .u64 m.sea.node, .int .u64 m.sea.tail, .int .u64 m.proj.epoch, .slice a4 m.proj.stripes.length c4]] w fun r w' => r = .returned (.bool (FV m)) ∧ Below w.heap.size w w' := by
 have HB := hid (fun (W : World) (hW : Below w.heap.size w W) => Ic m a1 c1 a2 c2 a3 c3 a4 c4 W (AF.lift hm hW) (fun x hx => zA5))
 have HE := hid (fun W : World => Ey m.epoch W)
 have hr : FV m = (En m && epR m.epoch) := rfl
 have HBX : Hid (Blk (w.alloc (.cells #[.int .i64 m.kind, .int .u64 m.epoch, .int .u64 m.seq, .int .u64 m.pos, .int .i64 m.count, .int .i64 m.state, .slice a1 m.streams.length c1, .slice a2 m.links.length c2, .slice a3 m.data.length c3, .int .u64 m.sea.epoch, .int .u64 m.sea.node, .int .u64 m.sea.tail, .int .u64 m.proj.epoch, .slice a4 m.proj.stripes.length c4] 32)) w.heap.size 32 #[.int .i64 m.kind, .int .u64 m.epoch, .int .u64 m.seq, .int .u64 m.pos, .int .i64 m.count, .int .i64 m.state, .slice a1 m.streams.length c1, .slice a2 m.links.length c2, .slice a3 m.data.length c3, .int .u64 m.sea.epoch, .int .u64 m.sea.node, .int .u64 m.sea.tail, .int .u64 m.proj.epoch, .slice a4 m.proj.stripes.length c4]) := hid (Blk.new w _ _)
 have hb0 : Below w.heap.size w (w.alloc (.cells #[.int .i64 m.kind, .int .u64 m.epoch, .int .u64 m.seq, .int .u64 m.pos, .int .i64 m.count, .int .i64 m.state, .slice a1 m.streams.length c1, .slice a2 m.links.length c2, .slice a3 m.data.length c3, .int .u64 m.sea.epoch, .int .u64 m.sea.node, .int .u64 m.sea.tail, .int .u64 m.proj.epoch, .slice a4 m.proj.stripes.length c4] 32)) := zB
 generalize FV m = R at *
 generalize En m = M at *
 generalize epR m.epoch = E at *
 clear hm;go_enter Tryz.func30, Tryz.ntmps30
 go_wp2_with fail;generalize (w.alloc (.cells #[.int .i64 m.kind, .int .u64 m.epoch, .int .u64 m.seq, .int .u64 m.pos, .int .i64 m.count, .int .i64 m.state, .slice a1 m.streams.length c1, .slice a2 m.links.length c2, .slice a3 m.data.length c3, .int .u64 m.sea.epoch, .int .u64 m.sea.node, .int .u64 m.sea.tail, .int .u64 m.proj.epoch, .slice a4 m.proj.stripes.length c4] 32)) = w0 at *
 refine (HB.out _ hb0).mono ?_
 rintro r w1 ⟨rfl, hb1⟩;have hb01 := Af hb1 hb0
 have y1 : w1.cell? ⟨w.heap.size, 1, none⟩ = some (.int .u64 m.epoch) := (HBX.out.later hb1).cell 1
 cases M
 ·have hff : Hid (R = false) := hid (by rw [hr]; rfl)
  clear hr;go_wp2_with fail;go_ret;exact ⟨zI, hb01⟩
 ·have hff : Hid (R = E) := hid (by rw [hr]; rfl)
  clear hr;go_wp2_with fail;refine (HE.out _).mono ?_
  rintro r w2 ⟨rfl, rfl⟩;go_wp2_with fail;go_ret;exact ⟨zI, hb01⟩
theorem Jq (m : Msg) (a1 : Option Addr) (c1 : Nat) (a2 : Option Addr) (c2 : Nat) (a3 : Option Addr) (c3 : Nat) (a4 : Option Addr) (c4 : Nat) (w : World) (hm : AF (· < w.heap.size) w m a1 c1 a2 c2 a3 c3 a4 c4) :
  Calls Tryz.prog 31 #[.agg #[.int .i64 m.kind, .int .u64 m.epoch, .int .u64 m.seq, .int .u64 m.pos, .int .i64 m.count, .int .i64 m.state, .slice a1 m.streams.length c1, .slice a2 m.links.length c2, .slice a3 m.data.length c3, .int .u64 m.sea.epoch, .int .u64 m.sea.node, .int .u64 m.sea.tail, .int .u64 m.proj.epoch, .slice a4 m.proj.stripes.length c4]] w fun r w' => r = .returned (.bool (FV m)) ∧ Below w.heap.size w w' := by
 have HB := hid (fun (W : World) (hW : Below w.heap.size w W) => M3 m a1 c1 a2 c2 a3 c3 a4 c4 W (AF.lift hm hW))
 have HE := hid (fun W : World => GO m.epoch hm.epoch.1 W)
 have hr : FV m = (En m && epR m.epoch) := rfl
 have HBX : Hid (Blk (w.alloc (.cells #[.int .i64 m.kind, .int .u64 m.epoch, .int .u64 m.seq, .int .u64 m.pos, .int .i64 m.count, .int .i64 m.state, .slice a1 m.streams.length c1, .slice a2 m.links.length c2, .slice a3 m.data.length c3, .int .u64 m.sea.epoch, .int .u64 m.sea.node, .int .u64 m.sea.tail, .int .u64 m.proj.epoch, .slice a4 m.proj.stripes.length c4] 32)) w.heap.size 32 #[.int .i64 m.kind, .int .u64 m.epoch, .int .u64 m.seq, .int .u64 m.pos, .int .i64 m.count, .int .i64 m.state, .slice a1 m.streams.length c1, .slice a2 m.links.length c2, .slice a3 m.data.length c3, .int .u64 m.sea.epoch, .int .u64 m.sea.node, .int .u64 m.sea.tail, .int .u64 m.proj.epoch, .slice a4 m.proj.stripes.length c4]) := hid (Blk.new w _ _)
 have hb0 : Below w.heap.size w (w.alloc (.cells #[.int .i64 m.kind, .int .u64 m.epoch, .int .u64 m.seq, .int .u64 m.pos, .int .i64 m.count, .int .i64 m.state, .slice a1 m.streams.length c1, .slice a2 m.links.length c2, .slice a3 m.data.length c3, .int .u64 m.sea.epoch, .int .u64 m.sea.node, .int .u64 m.sea.tail, .int .u64 m.proj.epoch, .slice a4 m.proj.stripes.length c4] 32)) := zB
 generalize FV m = R at *
 generalize En m = M at *
 generalize epR m.epoch = E at *
 clear hm;go_enter Tryz.func31, Tryz.ntmps31
 go_wp2_with fail;generalize (w.alloc (.cells #[.int .i64 m.kind, .int .u64 m.epoch, .int .u64 m.seq, .int .u64 m.pos, .int .i64 m.count, .int .i64 m.state, .slice a1 m.streams.length c1, .slice a2 m.links.length c2, .slice a3 m.data.length c3, .int .u64 m.sea.epoch, .int .u64 m.sea.node, .int .u64 m.sea.tail, .int .u64 m.proj.epoch, .slice a4 m.proj.stripes.length c4] 32)) = w0 at *
 refine (HB.out _ hb0).mono ?_
 rintro r w1 ⟨rfl, hb1⟩;have hb01 := Af hb1 hb0
 have y1 : w1.cell? ⟨w.heap.size, 1, none⟩ = some (.int .u64 m.epoch) := (HBX.out.later hb1).cell 1
 cases M
 ·have hff : Hid (R = false) := hid (by rw [hr]; rfl)
  clear hr;go_wp2_with fail;go_ret;exact ⟨zI, hb01⟩
 ·have hff : Hid (R = E) := hid (by rw [hr]; rfl)
  clear hr;go_wp2_with fail;refine (HE.out _).mono ?_
  rintro r w2 ⟨rfl, rfl⟩;go_wp2_with fail;go_ret;exact ⟨zI, hb01⟩
theorem QC {α : Type} (A : Rp α) {lo : Nat} {w w' : World} {cs : List Value} {x : α} (h : A.r (fun q => lo ≤ q ∧ q < w.heap.size) w cs x) (hb : Below w.heap.size w w') : A.r (fun q => lo ≤ q ∧ q < w.heap.size) w' cs x :=
 A.keep h fun q hq => hb.block q hq.2
theorem Un {e : Int} (h : 1 ≤ e ∧ e < 4611686018427387904) : (AH e.toNat).length ≤ 9 := by
 have key : ∀ f x, (Eh f x).length ≤ f + 1 := by
  intro f;induction f with
  | zero => intro x; simp [Eh]
  | succ f ih => intro x; simp only [Eh]; split <;> simp; exact ih _
 have he : Eh 8 e.toNat = Eh 9 e.toNat := IJ 8 9 _ (by have : (128 : Nat) ^ 9 = 9223372036854775808 := zP; omega) zD
 unfold AH;rw [← he]
 exact key 8 _
theorem QS (w : World) {g base most : Nat} {J : List UInt8} {a : Option Addr} {c : Nat} (h : Bv w g base most J a c) :
  Calls Tryz.prog 60 #[.pointer (some ⟨g, 0, none⟩), .int .i64 0] w fun r w' => r = .returned (.tuple #[]) ∧ Ao w g base most J a w' :=
 (Nj w h 0).mono fun r w' ⟨h1, h2, h3⟩ => ⟨h1, a, c, ⟨h2, FW h.own fun q hq => h3.block q (h.own.lt q hq).2 (fun e => h.ne (by rw [hq, e])), h.ne, h.lo, h.le, h.most, h.len⟩, h3.mono fun b _ e => .inl e, .inl rfl⟩
theorem Jp (w : World) (m : Msg) (a1 : Option Addr) (c1 : Nat) (a2 : Option Addr) (c2 : Nat) (a3 : Option Addr) (c3 : Nat) (a4 : Option Addr) (c4 : Nat) (hd : AF (· < w.heap.size) w m a1 c1 a2 c2 a3 c3 a4 c4) (hbk : ∀ x ∈ m.links, x.backs.length ≤ 1000000) (hln : m.data.length ≤ 10000000000) :
  Calls Tryz.prog 28 #[.agg #[.int .i64 m.kind, .int .u64 m.epoch, .int .u64 m.seq, .int .u64 m.pos, .int .i64 m.count, .int .i64 m.state, .slice a1 m.streams.length c1, .slice a2 m.links.length c2, .slice a3 m.data.length c3, .int .u64 m.sea.epoch, .int .u64 m.sea.node, .int .u64 m.sea.tail, .int .u64 m.proj.epoch, .slice a4 m.proj.stripes.length c4]] w fun r w' => ∃ v, r = .returned (.tuple #[v, .int .i64 (GR m).2]) ∧ Ag.r (fun q => w.heap.size ≤ q ∧ q < w'.heap.size) w' [v] (GR m).1 ∧ Below w.heap.size w w' := by
 have HRT := hid (fun (W : World) (hW : Below w.heap.size w W) => QA m a1 c1 a2 c2 a3 c3 a4 c4 W (AF.lift hd hW) hbk)
 have HBX : Hid (Blk (w.alloc (.cells #[.int .i64 m.kind, .int .u64 m.epoch, .int .u64 m.seq, .int .u64 m.pos, .int .i64 m.count, .int .i64 m.state, .slice a1 m.streams.length c1, .slice a2 m.links.length c2, .slice a3 m.data.length c3, .int .u64 m.sea.epoch, .int .u64 m.sea.node, .int .u64 m.sea.tail, .int .u64 m.proj.epoch, .slice a4 m.proj.stripes.length c4] 32)) w.heap.size 32 #[.int .i64 m.kind, .int .u64 m.epoch, .int .u64 m.seq, .int .u64 m.pos, .int .i64 m.count, .int .i64 m.state, .slice a1 m.streams.length c1, .slice a2 m.links.length c2, .slice a3 m.data.length c3, .int .u64 m.sea.epoch, .int .u64 m.sea.node, .int .u64 m.sea.tail, .int .u64 m.proj.epoch, .slice a4 m.proj.stripes.length c4]) := hid (Blk.new w _ _)
 have hb0 : Below w.heap.size w (w.alloc (.cells #[.int .i64 m.kind, .int .u64 m.epoch, .int .u64 m.seq, .int .u64 m.pos, .int .i64 m.count, .int .i64 m.state, .slice a1 m.streams.length c1, .slice a2 m.links.length c2, .slice a3 m.data.length c3, .int .u64 m.sea.epoch, .int .u64 m.sea.node, .int .u64 m.sea.tail, .int .u64 m.proj.epoch, .slice a4 m.proj.stripes.length c4] 32)) := zB
 unfold GR;cases hR : FV m
 ·rw [An zO]
  rw [hR] at HRT
  clear hd hbk hln hR;go_enter Tryz.func28, Tryz.ntmps28
  go_wp2_with fail;generalize (w.alloc (.cells #[.int .i64 m.kind, .int .u64 m.epoch, .int .u64 m.seq, .int .u64 m.pos, .int .i64 m.count, .int .i64 m.state, .slice a1 m.streams.length c1, .slice a2 m.links.length c2, .slice a3 m.data.length c3, .int .u64 m.sea.epoch, .int .u64 m.sea.node, .int .u64 m.sea.tail, .int .u64 m.proj.epoch, .slice a4 m.proj.stripes.length c4] 32)) = w0 at *
  refine (HRT.out _ hb0).mono ?_
  rintro r w1 ⟨rfl, hb1⟩;have hbe := Af hb1 hb0
  go_wp2_with fail;go_ret2
  exact ⟨_, rfl, Gq rfl rfl zD, hbe⟩
 ·rw [Ak rfl]
  rw [hR] at HRT
  have hR' := hR
  simp only [FV, As] at hR'
  obtain ⟨hm, hep⟩ := hR'
  have hk : 1 ≤ m.kind ∧ m.kind ≤ 14 := (Gg hm).kind
  have HBY := hid (fun (W : World) (hW : Below w.heap.size w W) => PA W m a1 c1 a2 c2 a3 c3 a4 c4 (AF.lift hd hW) hbk hln)
  unfold Ix at HBY;rw [hm] at HBY
  simp only [if_true] at HBY
  have hml := Kt hm
  have hvl := (A2 m.epoch.toNat).1
  have hsl := (A2 m.seq.toNat).1
  have he0 := hd.epoch
  have hs0 := hd.seq
  have hpb : IT m = [UInt8.ofNat m.kind.toNat] ++ AH m.epoch.toNat ++ AH m.seq.toNat ++ F0 m := rfl
  rw [hpb]
  generalize F0 m = K at *
  have hmo : (20 : Int) + (K.length : Int) = ((20 + K.length : Nat) : Int) := zD
  have HN := hid (fun W : World => (by have := Iu W (20 + K.length) zD; rw [← hmo] at this; exact this : Calls Tryz.prog 15 #[.int .i64 ((20 : Int) + (K.length : Int))] W fun r w' => r = .returned (.pointer (some ⟨W.heap.size, 0, none⟩)) ∧ Bv w' W.heap.size W.heap.size (20 + K.length) [] none 0 ∧ Below W.heap.size W w'))
  have hKl : K.length ≤ 20000000000 := zD
  have hkz : 0 ≤ m.kind := zD
  have hky : m.kind ≤ 14 := hk.2
  have hkk : m.kind = ((UInt8.ofNat m.kind.toNat).toNat : Int) := by
   have := Dx (x := m.kind.toNat) zD
   rw [toNat_cast hkz] at this
   exact this
  have HLT := hid (fun W : World => (by have := JU W (UInt8.ofNat m.kind.toNat); rw [← hkk] at this; exact this : Ag.r (· < (W.alloc (.cells #[.int .u8 m.kind] 5)).heap.size) (W.alloc (.cells #[.int .u8 m.kind] 5)) [.slice (some ⟨W.heap.size, 0, none⟩) 1 1] [UInt8.ofNat m.kind.toNat]))
  have HP1 := hid (fun (W : World) (g base : Nat) (h : Bv W g base (20 + K.length) [] none 0) (ad : Option Addr) (hD : Ag.r (· < W.heap.size) W [.slice ad 1 1] [UInt8.ofNat m.kind.toNat]) => Ep W h [UInt8.ofNat m.kind.toNat] ad 1 1 hD zL zO)
  have HP2 := hid (fun (W : World) (g base : Nat) (a : Option Addr) (c : Nat) (h : Bv W g base (20 + K.length) [UInt8.ofNat m.kind.toNat] a c) => (by have := LO W h m.epoch.toNat (by rw [toNat_cast he0.1]; exact hep) ZR zL; rw [toNat_cast he0.1] at this; exact this : Calls Tryz.prog 111 #[.pointer (some ⟨g, 0, none⟩), .int .u64 m.epoch] W fun r w' => r = .returned (.tuple #[]) ∧ Ao W g base (20 + K.length) ([UInt8.ofNat m.kind.toNat] ++ AH m.epoch.toNat) a w'))
  have HP3 := hid (fun (W : World) (g base : Nat) (a : Option Addr) (c : Nat) (h : Bv W g base (20 + K.length) ([UInt8.ofNat m.kind.toNat] ++ AH m.epoch.toNat) a c) => (by have := BG W h m.seq.toNat (by have := hs0.2; omega) ZR zL; rw [toNat_cast hs0.1] at this; exact this : Calls Tryz.prog 66 #[.pointer (some ⟨g, 0, none⟩), .int .u64 m.seq] W fun r w' => r = .returned (.tuple #[]) ∧ Ao W g base (20 + K.length) ([UInt8.ofNat m.kind.toNat] ++ AH m.epoch.toNat ++ AH m.seq.toNat) a w'))
  have HP4 := hid (fun (W : World) (g base : Nat) (a : Option Addr) (c : Nat) (h : Bv W g base (20 + K.length) ([UInt8.ofNat m.kind.toNat] ++ AH m.epoch.toNat ++ AH m.seq.toNat) a c) (ad : Option Addr) (cd : Nat) (hD : Ag.r (· < W.heap.size) W [.slice ad K.length cd] K) => Ep W h K ad _ cd hD ZR zL)
  generalize [UInt8.ofNat m.kind.toNat] = KB at *
  generalize AH m.epoch.toNat = VE at *
  generalize AH m.seq.toNat = VS at *
  clear hd hbk hln hR hm hep hk hml hvl hsl hpb hmo he0 hs0 hkk;go_enter Tryz.func28, Tryz.ntmps28
  go_wp2_with fail;generalize (w.alloc (.cells #[.int .i64 m.kind, .int .u64 m.epoch, .int .u64 m.seq, .int .u64 m.pos, .int .i64 m.count, .int .i64 m.state, .slice a1 m.streams.length c1, .slice a2 m.links.length c2, .slice a3 m.data.length c3, .int .u64 m.sea.epoch, .int .u64 m.sea.node, .int .u64 m.sea.tail, .int .u64 m.proj.epoch, .slice a4 m.proj.stripes.length c4] 32)) = w0 at *
  refine (HRT.out _ hb0).mono ?_
  rintro r w1 ⟨rfl, hb1⟩;have hbw1 := Af hb1 hb0
  have B1 := HBX.out.later hb1
  have y0 : w1.cell? ⟨w.heap.size, 0, none⟩ = some (.int .i64 m.kind) := B1.cell 0
  have y1 : w1.cell? ⟨w.heap.size, 1, none⟩ = some (.int .u64 m.epoch) := B1.cell 1
  have y2 : w1.cell? ⟨w.heap.size, 2, none⟩ = some (.int .u64 m.seq) := B1.cell 2
  have y3 : w1.cell? ⟨w.heap.size, 3, none⟩ = some (.int .u64 m.pos) := B1.cell 3
  have y4 : w1.cell? ⟨w.heap.size, 4, none⟩ = some (.int .i64 m.count) := B1.cell 4
  have y5 : w1.cell? ⟨w.heap.size, 5, none⟩ = some (.int .i64 m.state) := B1.cell 5
  have y6 : w1.cell? ⟨w.heap.size, 6, none⟩ = some (.slice a1 m.streams.length c1) := B1.cell 6
  have y7 : w1.cell? ⟨w.heap.size, 7, none⟩ = some (.slice a2 m.links.length c2) := B1.cell 7
  have y8 : w1.cell? ⟨w.heap.size, 8, none⟩ = some (.slice a3 m.data.length c3) := B1.cell 8
  have y9 : w1.cell? ⟨w.heap.size, 9, none⟩ = some (.int .u64 m.sea.epoch) := B1.cell 9
  have y10 : w1.cell? ⟨w.heap.size, 10, none⟩ = some (.int .u64 m.sea.node) := B1.cell 10
  have y11 : w1.cell? ⟨w.heap.size, 11, none⟩ = some (.int .u64 m.sea.tail) := B1.cell 11
  have y12 : w1.cell? ⟨w.heap.size, 12, none⟩ = some (.int .u64 m.proj.epoch) := B1.cell 12
  have y13 : w1.cell? ⟨w.heap.size, 13, none⟩ = some (.slice a4 m.proj.stripes.length c4) := B1.cell 13
  go_wp2_with fail;refine (HBY.out _ hbw1).mono ?_
  rintro r w2 ⟨v2, rfl, hr2, hb2⟩;obtain ⟨e2, k2, hv2, hr2', _⟩ := AE hr2
  simp only [Ap, AD] at hv2
  subst hv2;have HR2 := hid hr2'
  have hbw2 := Af hb2 hbw1
  have B2 := B1.later hb2
  have hs1 := hbw1.size
  clear hr2 hr2' y0 y1 y2 y3 y4 y5 y6 y7 y8 y9 y10 y11 y12 y13 B1;go_wp2_with fail;refine (HN.out w2).mono ?_
  rintro r w3 ⟨rfl, hp3, hb3⟩;have B3 := B2.later hb3
  have y0 : w3.cell? ⟨w.heap.size, 0, none⟩ = some (.int .i64 m.kind) := B3.cell 0
  have hbw3 := Af hb3 hbw2
  have hlb := B2.lt
  have HB3 := hid B3
  have HP := hid hp3
  have HD3 := hid (QC Ag HR2.out hb3)
  have hs2 := hbw2.size
  have hs3 := hb3.size
  have HAL := hid (Az (Below.refl w3.heap.size w3) (.cells #[.int .u8 m.kind] 5))
  have HQ1 := hid (HP1.out _ _ _ (HP.out.later HAL.out) _ (HLT.out w3))
  clear hp3 B2 B3;go_wp2_with fail;refine HQ1.out.mono ?_
  rintro r w4 ⟨rfl, hst4⟩;have hst4' := Ao.later HAL.out hst4
  rw [A8] at hst4'
  obtain ⟨e4, k4, hp4, ht4, ha4⟩ := hst4'
  have B4 := HB3.out.tch ht4 (fun hf => by rcases EJ.1 hf with e | e <;> first | omega | (simp at e))
  have y1 : w4.cell? ⟨w.heap.size, 1, none⟩ = some (.int .u64 m.epoch) := B4.cell 1
  have HD4 := hid (Ag.keep HD3.out fun q hq => ht4.block q ZP (fun hf => by have := hq.2; rcases EJ.1 hf with e | e <;> first | omega | (simp at e)))
  have HN4 := hid (fun (q : Nat) (h1 : q < w2.heap.size) (hf : CT w2.heap.size e4 q) => DK ha4 (show q < w3.heap.size by omega) (fun hf => by rcases EJ.1 hf with e | e <;> first | omega | (simp at e)) hf)
  have HB4 := hid B4
  have HQ2 := hid (HP2.out _ _ _ _ _ hp4)
  have hs4 := ht4.size
  have HT4 := hid (And.intro ht4 ha4)
  clear hst4 hp4 ht4 ha4 B4 y0;go_wp2_with fail;refine HQ2.out.mono ?_
  rintro r w5 ⟨rfl, e5, k5, hp5, ht5, ha5⟩;have B5 := HB4.out.tch ht5 (fun hf => HN4.out _ hlb hf)
  have y2 : w5.cell? ⟨w.heap.size, 2, none⟩ = some (.int .u64 m.seq) := B5.cell 2
  have HD5 := hid (Ag.keep HD4.out fun q hq => ht5.block q ZP (fun hf => HN4.out q hq.2 hf))
  have HN5 := hid (fun (q : Nat) (h1 : q < w2.heap.size) (hf : CT w2.heap.size e5 q) => DK ha5 (show q < w4.heap.size by omega) (fun hf => HN4.out q h1 hf) hf)
  have HQ3 := hid (HP3.out _ _ _ _ _ hp5)
  have hs5 := ht5.size
  have HT5 := hid (And.intro ht5 ha5)
  clear hp5 ht5 ha5 B5 y1;go_wp2_with fail;refine HQ3.out.mono ?_
  rintro r w6 ⟨rfl, e6, k6, hp6, ht6, ha6⟩;have HD6 := hid (Ag.keep HD5.out fun q hq => ht6.block q ZP (fun hf => HN5.out q hq.2 hf))
  have hs6 := ht6.size
  have HQ4 := hid (HP4.out _ _ _ _ _ hp6 e2 k2 (Ag.mono HD6.out fun q hq => ZP))
  have HT6 := hid (And.intro ht6 ha6)
  clear hp6 ht6 ha6 y2;go_wp2_with fail;refine HQ4.out.mono ?_
  rintro r w7 ⟨rfl, e7, k7, hp7, ht7, ha7⟩;have HF := hid (QS w7 hp7)
  have HT7 := hid (And.intro ht7 ha7)
  clear hp7 ht7 ha7;go_wp2_with fail;refine HF.out.mono ?_
  rintro r w8 ⟨rfl, hst8⟩;have hst := Ao.trans (J := KB) HT4.out.1 HT4.out.2 (Ao.trans (J := KB) HT5.out.1 HT5.out.2 (Ao.trans (J := KB) HT6.out.1 HT6.out.2 (Ao.trans (J := KB) HT7.out.1 HT7.out.2 hst8)))
  have hbw8 : Below w.heap.size w w8 := hbw3.trans (HP.out.below zD hbw3.size hst)
  obtain ⟨e8, k8, hp8, _, _⟩ := hst
  have HBB := hid (G4 w8 hp8)
  have hs8 := hbw8.size
  clear hp8 hst8;go_wp2_with fail;refine HBB.out.mono ?_
  rintro r w9 ⟨v, rfl, hv, hb9⟩;have hbe := Af hb9 hbw8
  have HV := hid (Ag.mono (S' := fun q => w.heap.size ≤ q ∧ q < w9.heap.size) hv fun q hq => ⟨zU, hq.2⟩)
  clear hv;go_wp2_with fail;go_ret2
  exact ⟨_, rfl, HV.out, hbe⟩
theorem Rs.I5 {B P rest : List UInt8} {p : Nat} (h : B.drop p = BU P ++ rest) (hp : p ≤ B.length) (hP : P.length ≤ 2097152) : (⟨p, 0, 0⟩ : Rs).frame B 2097152 = (⟨p + (BU P).length, 0, 0⟩, P) := by
 unfold BU at h;rw [Au] at h
 have h1 := Rs.SX (m := min 2097152 2097152) zD h hp zD
 have h2 := LP h
 have hr := I9 h hp
 have h3 := Rs.MS h2 zD
 rw [Fj] at h3
 have h4 : (⟨p + (Db P).length, 0, 0⟩ : Rs).take B 4 = (⟨p + (Db P).length + 4, 0, 0⟩, Cq 4 (CS P)) := h3
 have h5 : CS P = FM (Cq 4 (CS P)) := by
  rw [Jw]
  have := G9 P
  omega
 unfold Rs.frame;rw [h1]
 dsimp only;rw [h4]
 dsimp only;rw [Ak h5, Ak rfl, Gn, Nat.add_assoc]
theorem Rs.Nz {L : Nat} {s : Rs} (h : s.ok L) (hk : (s.fin L).k = 0) : s.k = 0 ∧ s.p = L := by
 have hl := h.le
 unfold Rs.fin at hk;split at hk
 ·exact absurd hk (Rs.Be zD)
 ·exact ⟨hk, zD⟩
theorem Rs.PX {L : Nat} {s : Rs} (h : s.k ≠ 0) : s.fin L = s := by
 unfold Rs.fin;split
 ·exact Rs.Bw h
 ·rfl
theorem Sk {P : List UInt8} {u s2 s3 : Rs} {y : UInt8} {e n : Nat} (hu : (⟨0, 0, 0⟩ : Rs).byte P = (u, y)) (he : (u.kd (y.toNat : Int)).ep P = (s2, e)) (hn : s2.num P = (s3, n)) (hk : s3.k = 0) :
  1 ≤ (y.toNat : Int) ∧ (y.toNat : Int) ≤ 14 ∧ epR (e : Int) = true ∧ s3.ok P.length ∧ P = [y] ++ AH e ++ AH n ++ P.drop s3.p := by
 have ok0 : (⟨0, 0, 0⟩ : Rs).ok P.length := ⟨Aj _, fun _ => rfl⟩
 have ok1 : u.ok P.length := by have := Rs.Gs ok0; rwa [hu] at this
 have hkd : (u.kd (y.toNat : Int)).ok P.length := by
  unfold Rs.kd;split
  ·exact ok1
  ·exact Rs.BS ok1 zD
 have ok2 : s2.ok P.length := by have := Rs.I8 hkd; rwa [he] at this
 have ok3 : s3.ok P.length := by have := Rs.Cz ok2; rwa [hn] at this
 have h3 := Rs.C9 ok2 (by rw [hn]; exact hk)
 have h3k := (Rs.DL (by rw [hn]; exact hk) : _ ∧ s2.k = 0).2
 rw [hn] at h3
 have h2 := Rs.KI hkd (by rw [he]; exact h3k)
 rw [he] at h2
 obtain ⟨g1, g2, g3⟩ := h2
 dsimp only at g1 g2 h3;have hy : 1 ≤ (y.toNat : Int) ∧ (y.toNat : Int) ≤ 14 := by
  by_cases h : 1 ≤ (y.toNat : Int) ∧ (y.toNat : Int) ≤ 14
  ·exact h
  ·unfold Rs.kd at g3
   rw [An h] at g3
   exact absurd g3 (Rs.Be zD)
 have hku : u.kd (y.toNat : Int) = u := Ak hy
 rw [hku] at g2 g3
 have h1 := Rs.KM ok0 (by rw [hu]; exact g3)
 rw [hu] at h1
 have h10 := h1.1
 rw [List.drop_zero] at h10
 dsimp only at h10;refine ⟨hy.1, hy.2, g1, ok3, ?_⟩
 rw [Au, Au, ← h3.1, ← g2]
 exact h10
theorem Sj {P : List UInt8} {m1 m2 : Msg} {q1 q2 : Bool} {k1 k2 f1 f2 : Int} (hS : Fc P (C4 P) flS = (m1, q1, k1, f1)) (hL : Fc P (CM P) flL = (m2, q2, k2, f2)) :
  (k1 = 0 → k2 = 0 ∧ m2 = m1 ∧ q2 = true ∧ FV m1 = true ∧ IT m1 = P) ∧ (k1 ≠ 0 → m1 = CU) ∧ (k2 ≠ 0 → m2 = CU) ∧ (k1 ≠ 0 → k2 = 0 → q2 = false ∧ k1 = 12 ∧ FV m2 = true) ∧ (k1 ≠ 0 → k2 ≠ 0 → (k1 = k2 ∧ f1 = f2) ∨ k1 = 12) := by
 unfold Fc at hS hL;generalize hu : (⟨0, 0, 0⟩ : Rs).byte P = U at hS hL
 obtain ⟨u, y⟩ := U
 dsimp only at hS hL;generalize he : (u.kd (y.toNat : Int)).ep P = E at hS hL
 obtain ⟨s2, e⟩ := E
 dsimp only at hS hL;generalize hn : s2.num P = V at hS hL
 obtain ⟨s3, n⟩ := V
 dsimp only at hS hL;by_cases hk : s3.k = 0
 ·rw [Ak hk] at hS hL
  obtain ⟨hy1, hy2, her, ok3, hP⟩ := Sk hu he hn hk
  have hR := SV (B := P) s3 (y.toNat : Int)
  have cS := Rs.KQ (B := P) (s := s3) (k := (y.toNat : Int)) (blk := C4 P) ok3
  have cL := Rs.KQ (B := P) (s := s3) (k := (y.toNat : Int)) (blk := CM P) ok3
  have oS := Rs.Qd (B := P) (k := (y.toNat : Int)) (blk := C4 P) ok3 (fun t ht => NV ht)
  have oL := Rs.Qd (B := P) (k := (y.toNat : Int)) (blk := CM P) ok3 (fun t ht => Rs.GW ht 1048576)
  generalize hbS : s3.body P (C4 P) (y.toNat : Int) = bS at *
  generalize hbL : s3.body P (CM P) (y.toNat : Int) = bL at *
  obtain ⟨t1, n1, g1⟩ := bS
  obtain ⟨t2, n2, g2⟩ := bL
  dsimp only at hS hL hR cS cL oS oL;have key : ∀ (t : Rs) (m : Msg), t.ok P.length → (t.fin P.length).k = 0 → En m = true → m.kind = (y.toNat : Int) → FV ⟨m.kind, (e : Int), (n : Int), m.pos, m.count, m.state, m.streams, m.links, m.data, m.sea, m.proj⟩ = true ∧ (P.drop s3.p = F0 m ++ P.drop t.p → IT ⟨m.kind, (e : Int), (n : Int), m.pos, m.count, m.state, m.streams, m.links, m.data, m.sea, m.proj⟩ = P) := by
   intro t m ot hz hr hkd;obtain ⟨z1, z2⟩ := Rs.Nz ot hz
   refine ⟨?_, fun hd => ?_⟩
   ·unfold FV
    rw [show En ⟨m.kind, (e : Int), (n : Int), m.pos, m.count, m.state, m.streams, m.links, m.data, m.sea, m.proj⟩ = En m from rfl, hr]
    exact her
   ·rw [z2, Gy, List.append_nil] at hd
    have hyy : UInt8.ofNat (y.toNat : Int).toNat = y := zO
    have hmb : F0 ⟨m.kind, (e : Int), (n : Int), m.pos, m.count, m.state, m.streams, m.links, m.data, m.sea, m.proj⟩ = F0 m := rfl
    unfold IT;dsimp only;rw [hmb, hkd, hyy, Ch, Ch, ← hd]
    exact hP.symm
  rcases hR with ⟨e1, hf⟩ | ⟨e1, e2, e3⟩
  ·cases e1
   by_cases hz : (t1.fin P.length).k = 0
   ·rw [Ak hz] at hS hL
    cases hS;cases hL;have tk := (Rs.Nz oS hz).1
    obtain ⟨c1, c2, c3, c4, c5, c6, c7⟩ := cS tk (fun t ht => NV ht) (fun t => T4 t) NW (fun t ht => SY t ht)
    obtain ⟨r1, r2⟩ := key t1 n1 oS hz c1 c3
    exact ⟨fun _ => ⟨rfl, rfl, hf tk, r1, r2 (c7 (hf tk))⟩, fun h => absurd rfl h, fun h => absurd rfl h, fun h => absurd rfl h, fun h => absurd rfl h⟩
   ·rw [An hz] at hS hL
    cases hS;cases hL;exact ⟨fun h => absurd h hz, fun _ => rfl, fun _ => rfl, fun _ h => absurd h hz, fun _ _ => .inl ⟨rfl, rfl⟩⟩
  ·have hb : t1.k ≠ 0 := by omega
   have hz1 : (t1.fin P.length).k ≠ 0 := by rw [Rs.PX hb]; exact hb
   rw [An hz1, Rs.PX hb] at hS
   cases hS;by_cases hz : (t2.fin P.length).k = 0
   ·rw [Ak hz] at hL
    cases hL;obtain ⟨c1, c2, c3, _⟩ := cL e2 (fun t ht => Rs.GW ht 1048576) (fun t => T5 t) Rl (fun t ht => NX t ht)
    obtain ⟨r1, r2⟩ := key t2 n2 oL hz c1 c3
    exact ⟨fun h => absurd h hb, fun _ => rfl, fun h => absurd rfl h, fun _ _ => ⟨e3, e1, r1⟩, fun _ h => absurd rfl h⟩
   ·rw [An hz] at hL
    cases hL;exact ⟨fun h => absurd h hb, fun _ => rfl, fun _ => rfl, fun _ h => absurd h hz, fun _ _ => .inr e1⟩
 ·rw [An hk] at hS hL
  cases hS;cases hL;exact ⟨fun h => absurd h hk, fun _ => rfl, fun _ => rfl, fun _ h => absurd h hk, fun _ _ => .inl ⟨rfl, rfl⟩⟩
theorem QY {P rest : List UInt8} {blk : List UInt8 → Rs → Rs × List UInt8 × Bool} {fl : Rs → Bool → Bool} (hP : P.length ≤ 2097152) : I4 (BU P ++ rest) blk fl = (if (Fc P (blk P) fl).2.2.1 = 0 then ((Fc P (blk P) fl).1, (Fc P (blk P) fl).2.1, (BU P).length, 0, 0) else (CU, false, 0, (Fc P (blk P) fl).2.2.1, wrap64 ((Fc P (blk P) fl).2.2.2 + (((BU P).length : Int) - 4 - (P.length : Int))))) := by
 have h := Rs.I5 (B := BU P ++ rest) (P := P) (rest := rest) (p := 0) (by rw [List.drop_zero]) (Aj _) hP
 unfold I4;rw [h]
 unfold KA;dsimp only;rw [Ak rfl]
 dsimp only;rw [Ak rfl, Bn]
theorem Je {P : List UInt8} {blk : List UInt8 → Rs → Rs × List UInt8 × Bool} {fl : Rs → Bool → Bool} {m : Msg} {q : Bool} {k f : Int} (hP : P.length ≤ 2097152) (h : Fc P (blk P) fl = (m, q, k, f)) : FP (BU P) blk fl = (if k = 0 then (m, q, 0, 0) else (CU, false, k, wrap64 (f + (((BU P).length : Int) - 4 - (P.length : Int))))) := by
 have hg := QY (P := P) (rest := []) (blk := blk) (fl := fl) hP
 rw [List.append_nil, h] at hg
 dsimp only at hg;unfold FP;rw [hg]
 by_cases hk : k = 0
 ·rw [Ak hk, Ak hk]
  dsimp only;rw [Ak rfl, An zD]
 ·rw [An hk, An hk]
  dsimp only;rw [An hk]
theorem SL {P : List UInt8} (hP : P.length ≤ 2097152) {m1 m2 : Msg} {q1 q2 : Bool} {k1 k2 f1 f2 : Int} (hS : P9 (BU P) = (m1, q1, k1, f1)) (hL : Qa (BU P) = (m2, q2, k2, f2)) :
  (k1 = 0 → k2 = 0 ∧ m2 = m1 ∧ q2 = true ∧ FV m1 = true ∧ IT m1 = P) ∧ (k1 ≠ 0 → m1 = CU) ∧ (k2 ≠ 0 → m2 = CU) ∧ (k1 ≠ 0 → k2 = 0 → q2 = false ∧ k1 = 12 ∧ FV m2 = true) ∧ (k1 ≠ 0 → k2 ≠ 0 → (k1 = k2 ∧ f1 = f2) ∨ k1 = 12) := by
 unfold P9 at hS;unfold Qa at hL;generalize ha : Fc P (C4 P) flS = A
 generalize hb : Fc P (CM P) flL = C
 obtain ⟨m3, q3, k3, f3⟩ := A
 obtain ⟨m4, q4, k4, f4⟩ := C
 rw [Je (blk := fun P => C4 P) hP ha] at hS
 rw [Je (blk := fun P => CM P) hP hb] at hL
 obtain ⟨hA, hB, hC, hD, hE⟩ := Sj ha hb
 by_cases h3 : k3 = 0
 ·rw [Ak h3] at hS
  cases hS;obtain ⟨a1, a2, a3, a4, a5⟩ := hA h3
  rw [Ak a1] at hL
  cases hL;exact ⟨fun _ => ⟨rfl, a2, a3, a4, a5⟩, fun h => absurd rfl h, fun h => absurd rfl h, fun h => absurd rfl h, fun h => absurd rfl h⟩
 ·rw [An h3] at hS
  cases hS;by_cases h4 : k4 = 0
  ·rw [Ak h4] at hL
   cases hL;exact ⟨fun h => absurd h h3, fun _ => rfl, fun h => absurd rfl h, fun _ _ => hD h3 h4, fun _ h => absurd rfl h⟩
  ·rw [An h4] at hL
   cases hL;refine ⟨fun h => absurd h h3, fun _ => rfl, fun _ => rfl, fun _ h => absurd h h4, fun _ _ => ?_⟩
   rcases hE h3 h4 with ⟨e1, e2⟩ | e
   ·exact .inl ⟨e1, by rw [e2]⟩
   ·exact .inr e
end Go.Proofs.YtlbffbkbkajciaaGreat
namespace Go.Bs
open Go.RowKit
structure Um where
 pos : Int
 count : Int
 at_ : Int
theorem Pb {n : Int} (h : -9223372036854775808 ≤ n ∧ n ≤ 9223372036854775807) : (Lit.int .i64 n).wf = true := by
 simp [Lit.wf, IntKind.min, IntKind.max, IntKind.signed, IntKind.bits]; omega
end Go.Bs
namespace Go.Proofs.YtlbffbkbkajciaaGreat
open Go.RowKit Go.Bs Go.Maps
end Go.Proofs.YtlbffbkbkajciaaGreat
namespace Go.Bs
open Go.RowKit
end Go.Bs
namespace Go.Proofs.YtlbffbkbkajciaaGreat
open Go.RowKit Go.Bs Go.Maps
theorem Ao.at {w1 w : World} {g base most : Nat} {J : List UInt8} {a : Option Addr} (h : Ao w1 g base most J a w) : ∃ a' c', Bv w g base most J a' c' ∧ (∀ (J' : List UInt8) (w' : World), Ao w g base most J' a' w' → Ao w1 g base most J' a w') := by
 obtain ⟨a', c', h1, h2, h3⟩ := h
 exact ⟨a', c', h1, fun J' w' k => Ao.trans (J := J) h2 h3 k⟩
theorem Ao.blk {w1 w : World} {g base most : Nat} {J : List UInt8} {a : Option Addr} (h : Ao w1 g base most J a w) {b : Nat} {t : TypeId} {cs : Array Value} (hB : Blk w1 b t cs) (hn : ¬ CT g a b) : Blk w b t cs := by
 obtain ⟨a', c', h1, h2, h3⟩ := h
 exact hB.tch h2 hn
theorem Ao.tch {w1 w : World} {g base most : Nat} {J : List UInt8} {a : Option Addr} (h : Ao w1 g base most J a w) : Tch (CT g a) w1 w := by
 obtain ⟨a', c', h1, h2, h3⟩ := h
 exact h2
end Go.Proofs.YtlbffbkbkajciaaGreat
