/- Mini: Needed by rpcTells_walk, part 14: texts put together by shake.py; no condition. -/
import Derived.Test.YtlbffbkbkajciaaGreatZR6
import Derived.Test.YtlbffbkbkajciaaGreatZR5
import Derived.Test.YtlbffbkbkajciaaGreatZR4
import Derived.Test.YtlbffbkbkajciaaGreatZR3
import Derived.Test.YtlbffbkbkajciaaGreatZR2
import Derived.Test.YtlbffbkbkajciaaGreatZR1
import Derived.Test.YtlbffbkbkajciaaGreatZR13
import Derived.Test.YtlbffbkbkajciaaGreatZR10
import Derived.Deep.CutRange
import Derived.Test.YtlbffbkbkajciaaGreatZR8
set_option linter.unusedVariables false
set_option linter.unusedSimpArgs false
set_option maxRecDepth 100000
set_option maxHeartbeats 6400000
namespace Go.Bs
theorem zBe{p:Prop}(h:p:=by have h := HO3.out; exact h):p:=h
theorem zBc{p:Prop}(h:p:=by have := D8 List.length hJ.out; simp only [Ag] at this; omega):p:=h
theorem ZK{p:Prop}(h:p:=by simp [results, Tryz.results132, go_sem, n0, n1, n2, n3, n4, n5, n6, n7, n8, n9, n10, n11, n12, n13, p0, p1]):p:=h
end Go.Bs
namespace Go.Proofs.YtlbffbkbkajciaaGreat
open Go.RowKit Go.Bs Go.Maps
def Gf (B : List UInt8) (blk : List UInt8 → Rs → Rs × List UInt8 × Bool) (fl : Rs → Bool → Bool) : Msg × Bool × Int × Int :=
 let g := I2 B blk fl
 if g.2.2.2.1 = 0 then (if g.2.2.1 < B.length then (Bc, false, 9, (g.2.2.1 : Int)) else (g.1, g.2.1, g.2.2.2.1, g.2.2.2.2)) else (Bc, false, g.2.2.2.1, g.2.2.2.2)
abbrev flS : Rs → Bool → Bool := fun s _ => decide (s.k = 0)
abbrev flL : Rs → Bool → Bool := fun _ q => q
def Pf (B : List UInt8) := Gf B (fun P => FJ P) flS
def Vj (B : List UInt8) := Gf B (fun P => SW P) flL
theorem Sd (w : World) (B : List UInt8) (a : Option Addr) (c0 c : Nat) (hl : Ah.r (· < w.heap.size) w [.slice a c0 c] B) (hB : B.length ≤ 1000000000) (fn : Nat) (blk : List UInt8 → Rs → Rs × List UInt8 × Bool) (fl : Rs → Bool → Bool) (hR : ∀ P : List UInt8, P.length ≤ 1000000000 → Vc P fn (blk P) fl) {x : Msg} {qx : Bool} {kx fx : Int} (hZ : Gf B blk fl = (x, qx, kx, fx)) :
  Calls Tryz.prog 132 #[.slice a c0 c, .func (Fn.func fn) #[] #[]] w fun r w' => ∃ a1 a1' a2 a2' a3 a3' a4 a4', r = .returned (.tuple #[.agg #[.int .i64 x.kind, .int .u64 x.epoch, .int .u64 x.seq, .int .u64 x.pos, .int .i64 x.count, .int .i64 x.state, .slice a1 x.streams.length a1', .slice a2 x.links.length a2', .slice a3 x.data.length a3', .int .u64 x.sea.epoch, .int .u64 x.sea.node, .int .u64 x.sea.tail, .int .u64 x.proj.epoch, .slice a4 x.proj.stripes.length a4'], .bool qx, .agg #[.int .i64 kx, .int .i64 fx]]) ∧ A2 (fun q => w.heap.size ≤ q ∧ q < w'.heap.size) w' x a1 a1' a2 a2' a3 a3' a4 a4' ∧ Below w.heap.size w w' := by
 obtain ⟨rfl, hmx, hcc, hcm⟩ := AS hl
 unfold Gf at hZ;generalize hG : I2 B blk fl = G at *
 obtain ⟨m, q, n, k, f⟩ := G
 dsimp only at hZ;have HGT := hid (UD ((w.alloc (.cells #[.int .i64 0, .int .u64 0, .int .u64 0, .int .u64 0, .int .i64 0, .int .i64 0, .slice none 0 0, .slice none 0 0, .slice none 0 0, .int .u64 0, .int .u64 0, .int .u64 0, .int .u64 0, .slice none 0 0] 32)).alloc (.cells #[.int .i64 0, .int .i64 0] 58)) B a _ c (lift hl zA) hB fn blk fl hR hG)
 have HGD := hid (fun (W : World) => C7 W k f)
 have HAT := hid (fun (W : World) => JA W 9 (n : Int) zC)
 have hz00 : w.heap.size + 1 < (((w.alloc (.cells #[.int .i64 0, .int .u64 0, .int .u64 0, .int .u64 0, .int .i64 0, .int .i64 0, .slice none 0 0, .slice none 0 0, .slice none 0 0, .int .u64 0, .int .u64 0, .int .u64 0, .int .u64 0, .slice none 0 0] 32)).alloc (.cells #[.int .i64 0, .int .i64 0] 58))).heap.size := zO
 clear hl hR hG;go_enter Tryz.func132, Tryz.ntmps132
 go_wp2_with fail;refine HGT.out.mono ?_
 rintro r w1 ⟨a1, a1', a2, a2', a3, a3', a4, a4', rfl, hm1, hb1⟩;have I1 : N8 w w1 := ⟨Blk.later zD hb1, Blk.later zD hb1, zA⟩
 have hlow1 : w.heap.size + 1 < w1.heap.size := I1.fb.lt
 have E2 : Blk ((w1.alloc (.cells #[.int .i64 m.kind, .int .u64 m.epoch, .int .u64 m.seq, .int .u64 m.pos, .int .i64 m.count, .int .i64 m.state, .slice a1 m.streams.length a1', .slice a2 m.links.length a2', .slice a3 m.data.length a3', .int .u64 m.sea.epoch, .int .u64 m.sea.node, .int .u64 m.sea.tail, .int .u64 m.proj.epoch, .slice a4 m.proj.stripes.length a4'] 32)).alloc (.cells #[.int .i64 k, .int .i64 f] 58)) w1.heap.size 32 #[.int .i64 m.kind, .int .u64 m.epoch, .int .u64 m.seq, .int .u64 m.pos, .int .i64 m.count, .int .i64 m.state, .slice a1 m.streams.length a1', .slice a2 m.links.length a2', .slice a3 m.data.length a3', .int .u64 m.sea.epoch, .int .u64 m.sea.node, .int .u64 m.sea.tail, .int .u64 m.proj.epoch, .slice a4 m.proj.stripes.length a4'] := zD
 have F2 : Blk ((w1.alloc (.cells #[.int .i64 m.kind, .int .u64 m.epoch, .int .u64 m.seq, .int .u64 m.pos, .int .i64 m.count, .int .i64 m.state, .slice a1 m.streams.length a1', .slice a2 m.links.length a2', .slice a3 m.data.length a3', .int .u64 m.sea.epoch, .int .u64 m.sea.node, .int .u64 m.sea.tail, .int .u64 m.proj.epoch, .slice a4 m.proj.stripes.length a4'] 32)).alloc (.cells #[.int .i64 k, .int .i64 f] 58)) (w1.heap.size + 1) 58 #[.int .i64 k, .int .i64 f] := zD
 have hb2 : Below w1.heap.size w1 ((w1.alloc (.cells #[.int .i64 m.kind, .int .u64 m.epoch, .int .u64 m.seq, .int .u64 m.pos, .int .i64 m.count, .int .i64 m.state, .slice a1 m.streams.length a1', .slice a2 m.links.length a2', .slice a3 m.data.length a3', .int .u64 m.sea.epoch, .int .u64 m.sea.node, .int .u64 m.sea.tail, .int .u64 m.proj.epoch, .slice a4 m.proj.stripes.length a4'] 32)).alloc (.cells #[.int .i64 k, .int .i64 f] 58)) := zA
 have HI2 := hid (I1.row hb2)
 have X2 := hid (A2.DX (S' := fun q => w.heap.size + 1 < q ∧ q < w1.heap.size) hm1 (fun q hq => hb2.block q hq.2) (fun q hq => ⟨zC, hq.2⟩))
 have l2 : w1.heap.size + 1 < (((w1.alloc (.cells #[.int .i64 m.kind, .int .u64 m.epoch, .int .u64 m.seq, .int .u64 m.pos, .int .i64 m.count, .int .i64 m.state, .slice a1 m.streams.length a1', .slice a2 m.links.length a2', .slice a3 m.data.length a3', .int .u64 m.sea.epoch, .int .u64 m.sea.node, .int .u64 m.sea.tail, .int .u64 m.proj.epoch, .slice a4 m.proj.stripes.length a4'] 32)).alloc (.cells #[.int .i64 k, .int .i64 f] 58))).heap.size := zO
 obtain ⟨y0, y1, y2, y3, y4, y5, y6, y7, y8, y9, y10, y11, y12, y13, ly⟩ := Bt E2
 obtain ⟨f0, f1, f2, f3, f4⟩ := Cn F2
 clear hm1 hb1 hb2 I1;go_wp2_with fail;generalize ((w1.alloc (.cells #[.int .i64 m.kind, .int .u64 m.epoch, .int .u64 m.seq, .int .u64 m.pos, .int .i64 m.count, .int .i64 m.state, .slice a1 m.streams.length a1', .slice a2 m.links.length a2', .slice a3 m.data.length a3', .int .u64 m.sea.epoch, .int .u64 m.sea.node, .int .u64 m.sea.tail, .int .u64 m.proj.epoch, .slice a4 m.proj.stripes.length a4'] 32)).alloc (.cells #[.int .i64 k, .int .i64 f] 58)) = w2 at *
 by_cases hk : k = 0
 ·rw [Am hk] at hZ
  rw [Ae hk] at HGD
  clear hk;refine (HGD.out _).mono ?_
  rintro r w3 ⟨rfl, hb3⟩;have HI3 := hid (HI2.out.row hb3)
  have hE3 := E2.later hb3
  have hF3 := F2.later hb3
  have l3 := Ai l2 hb3.size
  have X3 := hid (A2.DX X2.out (fun q hq => hb3.block q zC) (fun q hq => hq))
  clear hb3 HI2 X2 E2 F2 y0 y1 y2 y3 y4 y5 y6 y7 y8 y9 y10 y11 y12 y13 ly f0 f1 f2 f3 f4;by_cases hn : n < B.length
  ·rw [Am hn] at hZ
   simp only [Ci] at hZ
   obtain ⟨rfl, rfl, rfl, rfl⟩ := hZ
   have d1 : decide ((n : Int) < (B.length : Int)) = true := Ae zC
   have d2 : decide (n < B.length) = true := Ae hn
   clear hn;go_wp2_with fail;refine (HAT.out _).mono ?_
   rintro r w4 ⟨rfl, hb4⟩;have HI4 := hid (HI3.out.row hb4)
   have hM := HI4.out.mb
   have hF := HI4.out.fb
   have hbl := HI4.out.bl
   obtain ⟨r0, r1, r2, r3, r4, r5, r6, r7, r8, r9, r10, r11, r12, r13, lr⟩ := Bt hM
   obtain ⟨g0, g1, g2, g3, g4, g5, g6, g7, g8, g9, g10, g11, g12, g13⟩ := Ep hM
   obtain ⟨z0, z1, z2, z3, z4⟩ := Cn hF
   clear hb4 HI3;go_wp2_with fail;have hput := Fm (k := .int .i64 9) (f := .int .i64 (n : Int)) (v0 := .int .i64 0) (v1 := .int .u64 0) (v2 := .int .u64 0) (v3 := .int .u64 0) (v4 := .int .i64 0) (v5 := .int .i64 0) (v6 := .slice none 0 0) (v7 := .slice none 0 0) (v8 := .slice none 0 0) (v9 := .int .u64 0) (v10 := .int .u64 0) (v11 := .int .u64 0) (v12 := .int .u64 0) (v13 := .slice none 0 0) hM hF zC
   refine CC (fun W => Blk W w.heap.size 32 #[.int .i64 0, .int .u64 0, .int .u64 0, .int .u64 0, .int .i64 0, .int .i64 0, .slice none 0 0, .slice none 0 0, .slice none 0 0, .int .u64 0, .int .u64 0, .int .u64 0, .int .u64 0, .slice none 0 0] ∧ Blk W (w.heap.size + 1) 58 #[.int .i64 9, .int .i64 (n : Int)] ∧ Tch (fun b => b = w.heap.size ∨ b = w.heap.size + 1) w4 W) hput ?_
   intro W5 ⟨q5, p5, ht5⟩;obtain ⟨n0, n1, n2, n3, n4, n5, n6, n7, n8, n9, n10, n11, n12, n13, ln⟩ := Bt q5
   obtain ⟨p0, p1, p2, p3, p4⟩ := Cn p5
   have hz5 := ht5.size
   refine Al (v := .tuple #[.agg #[.int .i64 0, .int .u64 0, .int .u64 0, .int .u64 0, .int .i64 0, .int .i64 0, .slice none 0 0, .slice none 0 0, .slice none 0 0, .int .u64 0, .int .u64 0, .int .u64 0, .int .u64 0, .slice none 0 0], .bool false, .agg #[.int .i64 9, .int .i64 (n : Int)]]) ZK rfl ⟨none, 0, none, 0, none, 0, none, 0, rfl, GZ, hbl.trans (ht5.Cj hbl.size fun b hb e => zC)⟩
  ·rw [An hn] at hZ
   simp only [Ci] at hZ
   obtain ⟨rfl, rfl, rfl, rfl⟩ := hZ
   have d1 : decide ((n : Int) < (B.length : Int)) = false := Ad zC
   have d2 : decide (n < B.length) = false := Ad hn
   clear hn;have hM := HI3.out.mb.drew
   have hF := HI3.out.fb.drew
   have hbl := HI3.out.bl.drew
   have hEd := (hE3).drew
   have hFd := (hF3).drew
   have XD := hid (A2.DX (w' := w3.drew) X3.out (fun q hq => rfl) (fun q hq => hq))
   have ld : w1.heap.size + 1 < w3.drew.heap.size := l3
   have SK := hid (fun (w' : World) (h1 : Blk w' w1.heap.size 32 #[.int .i64 m.kind, .int .u64 m.epoch, .int .u64 m.seq, .int .u64 m.pos, .int .i64 m.count, .int .i64 m.state, .slice a1 m.streams.length a1', .slice a2 m.links.length a2', .slice a3 m.data.length a3', .int .u64 m.sea.epoch, .int .u64 m.sea.node, .int .u64 m.sea.tail, .int .u64 m.proj.epoch, .slice a4 m.proj.stripes.length a4']) (h2 : Blk w' (w1.heap.size + 1) 58 #[.int .i64 k, .int .i64 f]) => (⟨h1.cell 0, h1.cell 1, h1.cell 2, h1.cell 3, h1.cell 4, h1.cell 5, h1.cell 6, h1.cell 7, h1.cell 8, h1.cell 9, h1.cell 10, h1.cell 11, h1.cell 12, h1.cell 13, h2.cell 0, h2.cell 1⟩ : w'.cell? ⟨w1.heap.size, 0, none⟩ = some (.int .i64 m.kind) ∧ w'.cell? ⟨w1.heap.size, 1, none⟩ = some (.int .u64 m.epoch) ∧ w'.cell? ⟨w1.heap.size, 2, none⟩ = some (.int .u64 m.seq) ∧ w'.cell? ⟨w1.heap.size, 3, none⟩ = some (.int .u64 m.pos) ∧ w'.cell? ⟨w1.heap.size, 4, none⟩ = some (.int .i64 m.count) ∧ w'.cell? ⟨w1.heap.size, 5, none⟩ = some (.int .i64 m.state) ∧ w'.cell? ⟨w1.heap.size, 6, none⟩ = some (.slice a1 m.streams.length a1') ∧ w'.cell? ⟨w1.heap.size, 7, none⟩ = some (.slice a2 m.links.length a2') ∧ w'.cell? ⟨w1.heap.size, 8, none⟩ = some (.slice a3 m.data.length a3') ∧ w'.cell? ⟨w1.heap.size, 9, none⟩ = some (.int .u64 m.sea.epoch) ∧ w'.cell? ⟨w1.heap.size, 10, none⟩ = some (.int .u64 m.sea.node) ∧ w'.cell? ⟨w1.heap.size, 11, none⟩ = some (.int .u64 m.sea.tail) ∧ w'.cell? ⟨w1.heap.size, 12, none⟩ = some (.int .u64 m.proj.epoch) ∧ w'.cell? ⟨w1.heap.size, 13, none⟩ = some (.slice a4 m.proj.stripes.length a4') ∧ w'.cell? ⟨(w1.heap.size + 1), 0, none⟩ = some (.int .i64 k) ∧ w'.cell? ⟨(w1.heap.size + 1), 1, none⟩ = some (.int .i64 f)))
   have HS := hid (SK.out w3 hE3 hF3)
   obtain ⟨r0, r1, r2, r3, r4, r5, r6, r7, r8, r9, r10, r11, r12, r13, lr⟩ := Bt hM
   obtain ⟨g0, g1, g2, g3, g4, g5, g6, g7, g8, g9, g10, g11, g12, g13⟩ := Ep hM
   obtain ⟨z0, z1, z2, z3, z4⟩ := Cn hF
   (try clear y0 y1 y2 y3 y4 y5 y6 y7 y8 y9 y10 y11 y12 y13 ly)
   (try clear f0 f1 f2 f3 f4)
   go_wp2_with fail;refine Cd (S := fun w' => w'.cell? ⟨w1.heap.size, 0, none⟩ = some (.int .i64 m.kind) ∧ w'.cell? ⟨w1.heap.size, 1, none⟩ = some (.int .u64 m.epoch) ∧ w'.cell? ⟨w1.heap.size, 2, none⟩ = some (.int .u64 m.seq) ∧ w'.cell? ⟨w1.heap.size, 3, none⟩ = some (.int .u64 m.pos) ∧ w'.cell? ⟨w1.heap.size, 4, none⟩ = some (.int .i64 m.count) ∧ w'.cell? ⟨w1.heap.size, 5, none⟩ = some (.int .i64 m.state) ∧ w'.cell? ⟨w1.heap.size, 6, none⟩ = some (.slice a1 m.streams.length a1') ∧ w'.cell? ⟨w1.heap.size, 7, none⟩ = some (.slice a2 m.links.length a2') ∧ w'.cell? ⟨w1.heap.size, 8, none⟩ = some (.slice a3 m.data.length a3') ∧ w'.cell? ⟨w1.heap.size, 9, none⟩ = some (.int .u64 m.sea.epoch) ∧ w'.cell? ⟨w1.heap.size, 10, none⟩ = some (.int .u64 m.sea.node) ∧ w'.cell? ⟨w1.heap.size, 11, none⟩ = some (.int .u64 m.sea.tail) ∧ w'.cell? ⟨w1.heap.size, 12, none⟩ = some (.int .u64 m.proj.epoch) ∧ w'.cell? ⟨w1.heap.size, 13, none⟩ = some (.slice a4 m.proj.stripes.length a4') ∧ w'.cell? ⟨(w1.heap.size + 1), 0, none⟩ = some (.int .i64 k) ∧ w'.cell? ⟨(w1.heap.size + 1), 1, none⟩ = some (.int .i64 f)) zG HS.out (fun hHeld => ?_)
   refine Ap (i := 0) (oi := _) (v := ?_) rfl zE zE zE (fun _ _ _ h => h) (Or.inl ⟨zT, ?_⟩) zM ?_
   rotate_left
   ·(intro w hSw; (try dsimp only at hSw); go_simp <;> with_reducible rfl)
   (try simp only [Act.put, Aa, Ab, Ac])
   refine Ap (i := 1) (oi := _) (v := ?_) rfl zE zE zE (fun _ _ _ h => h) (Or.inl ⟨zT, ?_⟩) zM ?_
   rotate_left
   ·(intro w hSw; (try dsimp only at hSw); go_simp <;> with_reducible rfl)
   (try simp only [Act.put, Aa, Ab, Ac])
   refine Ap (i := 2) (oi := _) (v := ?_) rfl zE zE zE (fun _ _ _ h => h) (Or.inl ⟨zT, ?_⟩) zM ?_
   rotate_left
   ·(intro w hSw; (try dsimp only at hSw); go_simp <;> with_reducible rfl)
   (try simp only [Act.put, Aa, Ab, Ac])
   generalize w3.drew = wd at *
   refine AP (rs := [3]) zE zO ?_
   refine AG (o := _) rfl (fun K hK => ?_) AllReadyH.nil
   go_simp
   refine hK.out _ _ ?_ (fun hHeld => ?_)
   ·exact SK.out _ zI zI
   clear hK K
   (try simp only [Act.put, Aa, Ab, Ac])
   refine Ap (i := 4) (oi := _) (v := ?_) rfl zE zE zE (fun _ _ _ h => h) (Or.inl ⟨zT, ?_⟩) zM ?_
   rotate_left
   ·(intro w hSw; (try dsimp only at hSw); go_simp <;> with_reducible rfl)
   (try simp only [Act.put, Aa, Ab, Ac])
   refine AP (rs := [5]) zE zO ?_
   refine AG (o := _) rfl (fun K hK => ?_) AllReadyH.nil
   go_simp
   refine hK.out _ _ ?_ (fun hHeld => ?_)
   ·exact SK.out _ zI zI
   clear hK K
   (try simp only [Act.put, Aa, Ab, Ac])
   (try simp only [AJ, AB, Az, Act.put, Aa, Ab, Ac])
   refine CG zG ?_ _
   go_wp2_with fail;have hput := Fm (k := .int .i64 k) (f := .int .i64 f) (v0 := .int .i64 m.kind) (v1 := .int .u64 m.epoch) (v2 := .int .u64 m.seq) (v3 := .int .u64 m.pos) (v4 := .int .i64 m.count) (v5 := .int .i64 m.state) (v6 := .slice a1 m.streams.length a1') (v7 := .slice a2 m.links.length a2') (v8 := .slice a3 m.data.length a3') (v9 := .int .u64 m.sea.epoch) (v10 := .int .u64 m.sea.node) (v11 := .int .u64 m.sea.tail) (v12 := .int .u64 m.proj.epoch) (v13 := .slice a4 m.proj.stripes.length a4') hM hF zC
   refine CC (fun W => Blk W w.heap.size 32 #[.int .i64 m.kind, .int .u64 m.epoch, .int .u64 m.seq, .int .u64 m.pos, .int .i64 m.count, .int .i64 m.state, .slice a1 m.streams.length a1', .slice a2 m.links.length a2', .slice a3 m.data.length a3', .int .u64 m.sea.epoch, .int .u64 m.sea.node, .int .u64 m.sea.tail, .int .u64 m.proj.epoch, .slice a4 m.proj.stripes.length a4'] ∧ Blk W (w.heap.size + 1) 58 #[.int .i64 k, .int .i64 f] ∧ Tch (fun b => b = w.heap.size ∨ b = w.heap.size + 1) wd W) hput ?_
   intro W5 ⟨q5, p5, ht5⟩;obtain ⟨n0, n1, n2, n3, n4, n5, n6, n7, n8, n9, n10, n11, n12, n13, ln⟩ := Bt q5
   obtain ⟨p0, p1, p2, p3, p4⟩ := Cn p5
   have hz5 := ht5.size
   refine Al (v := .tuple #[.agg #[.int .i64 m.kind, .int .u64 m.epoch, .int .u64 m.seq, .int .u64 m.pos, .int .i64 m.count, .int .i64 m.state, .slice a1 m.streams.length a1', .slice a2 m.links.length a2', .slice a3 m.data.length a3', .int .u64 m.sea.epoch, .int .u64 m.sea.node, .int .u64 m.sea.tail, .int .u64 m.proj.epoch, .slice a4 m.proj.stripes.length a4'], .bool q, .agg #[.int .i64 k, .int .i64 f]]) ZK rfl ⟨a1, a1', a2, a2', a3, a3', a4, a4', rfl, A2.DX XD.out (fun q hq => ht5.block q zC zC) (fun q hq => ⟨zC, zC⟩), hbl.trans (ht5.Cj hbl.size fun b hb e => zC)⟩
 ·rw [An hk] at hZ
  rw [Ad hk] at HGD
  simp only [Ci] at hZ
  obtain ⟨rfl, rfl, rfl, rfl⟩ := hZ
  clear hk;refine (HGD.out _).mono ?_
  rintro r w3 ⟨rfl, hb3⟩;have HI3 := hid (HI2.out.row hb3)
  have hE3 := E2.later hb3
  have hF3 := F2.later hb3
  have l3 := Ai l2 hb3.size
  have X3 := hid (A2.DX X2.out (fun q hq => hb3.block q zC) (fun q hq => hq))
  clear hb3 HI2 X2 E2 F2;have hM := HI3.out.mb.drew
  have hF := HI3.out.fb.drew
  have hbl := HI3.out.bl.drew
  have hEd := (hE3).drew
  have hFd := (hF3).drew
  have XD := hid (A2.DX (w' := w3.drew) X3.out (fun q hq => rfl) (fun q hq => hq))
  have ld : w1.heap.size + 1 < w3.drew.heap.size := l3
  have SK := hid (fun (w' : World) (h1 : Blk w' w1.heap.size 32 #[.int .i64 m.kind, .int .u64 m.epoch, .int .u64 m.seq, .int .u64 m.pos, .int .i64 m.count, .int .i64 m.state, .slice a1 m.streams.length a1', .slice a2 m.links.length a2', .slice a3 m.data.length a3', .int .u64 m.sea.epoch, .int .u64 m.sea.node, .int .u64 m.sea.tail, .int .u64 m.proj.epoch, .slice a4 m.proj.stripes.length a4']) (h2 : Blk w' (w1.heap.size + 1) 58 #[.int .i64 k, .int .i64 f]) => (⟨h1.cell 0, h1.cell 1, h1.cell 2, h1.cell 3, h1.cell 4, h1.cell 5, h1.cell 6, h1.cell 7, h1.cell 8, h1.cell 9, h1.cell 10, h1.cell 11, h1.cell 12, h1.cell 13, h2.cell 0, h2.cell 1⟩ : w'.cell? ⟨w1.heap.size, 0, none⟩ = some (.int .i64 m.kind) ∧ w'.cell? ⟨w1.heap.size, 1, none⟩ = some (.int .u64 m.epoch) ∧ w'.cell? ⟨w1.heap.size, 2, none⟩ = some (.int .u64 m.seq) ∧ w'.cell? ⟨w1.heap.size, 3, none⟩ = some (.int .u64 m.pos) ∧ w'.cell? ⟨w1.heap.size, 4, none⟩ = some (.int .i64 m.count) ∧ w'.cell? ⟨w1.heap.size, 5, none⟩ = some (.int .i64 m.state) ∧ w'.cell? ⟨w1.heap.size, 6, none⟩ = some (.slice a1 m.streams.length a1') ∧ w'.cell? ⟨w1.heap.size, 7, none⟩ = some (.slice a2 m.links.length a2') ∧ w'.cell? ⟨w1.heap.size, 8, none⟩ = some (.slice a3 m.data.length a3') ∧ w'.cell? ⟨w1.heap.size, 9, none⟩ = some (.int .u64 m.sea.epoch) ∧ w'.cell? ⟨w1.heap.size, 10, none⟩ = some (.int .u64 m.sea.node) ∧ w'.cell? ⟨w1.heap.size, 11, none⟩ = some (.int .u64 m.sea.tail) ∧ w'.cell? ⟨w1.heap.size, 12, none⟩ = some (.int .u64 m.proj.epoch) ∧ w'.cell? ⟨w1.heap.size, 13, none⟩ = some (.slice a4 m.proj.stripes.length a4') ∧ w'.cell? ⟨(w1.heap.size + 1), 0, none⟩ = some (.int .i64 k) ∧ w'.cell? ⟨(w1.heap.size + 1), 1, none⟩ = some (.int .i64 f)))
  have HS := hid (SK.out w3 hE3 hF3)
  obtain ⟨r0, r1, r2, r3, r4, r5, r6, r7, r8, r9, r10, r11, r12, r13, lr⟩ := Bt hM
  obtain ⟨g0, g1, g2, g3, g4, g5, g6, g7, g8, g9, g10, g11, g12, g13⟩ := Ep hM
  obtain ⟨z0, z1, z2, z3, z4⟩ := Cn hF
  (try clear y0 y1 y2 y3 y4 y5 y6 y7 y8 y9 y10 y11 y12 y13 ly)
  (try clear f0 f1 f2 f3 f4)
  go_wp2_with fail;refine Cd (S := fun w' => w'.cell? ⟨w1.heap.size, 0, none⟩ = some (.int .i64 m.kind) ∧ w'.cell? ⟨w1.heap.size, 1, none⟩ = some (.int .u64 m.epoch) ∧ w'.cell? ⟨w1.heap.size, 2, none⟩ = some (.int .u64 m.seq) ∧ w'.cell? ⟨w1.heap.size, 3, none⟩ = some (.int .u64 m.pos) ∧ w'.cell? ⟨w1.heap.size, 4, none⟩ = some (.int .i64 m.count) ∧ w'.cell? ⟨w1.heap.size, 5, none⟩ = some (.int .i64 m.state) ∧ w'.cell? ⟨w1.heap.size, 6, none⟩ = some (.slice a1 m.streams.length a1') ∧ w'.cell? ⟨w1.heap.size, 7, none⟩ = some (.slice a2 m.links.length a2') ∧ w'.cell? ⟨w1.heap.size, 8, none⟩ = some (.slice a3 m.data.length a3') ∧ w'.cell? ⟨w1.heap.size, 9, none⟩ = some (.int .u64 m.sea.epoch) ∧ w'.cell? ⟨w1.heap.size, 10, none⟩ = some (.int .u64 m.sea.node) ∧ w'.cell? ⟨w1.heap.size, 11, none⟩ = some (.int .u64 m.sea.tail) ∧ w'.cell? ⟨w1.heap.size, 12, none⟩ = some (.int .u64 m.proj.epoch) ∧ w'.cell? ⟨w1.heap.size, 13, none⟩ = some (.slice a4 m.proj.stripes.length a4') ∧ w'.cell? ⟨(w1.heap.size + 1), 0, none⟩ = some (.int .i64 k) ∧ w'.cell? ⟨(w1.heap.size + 1), 1, none⟩ = some (.int .i64 f)) zG HS.out (fun hHeld => ?_)
  refine Ap (i := 0) (oi := _) (v := ?_) rfl zE zE zE (fun _ _ _ h => h) (Or.inl ⟨zT, ?_⟩) zM ?_
  rotate_left
  ·(intro w hSw; (try dsimp only at hSw); go_simp <;> with_reducible rfl)
  (try simp only [Act.put, Aa, Ab, Ac])
  refine Ap (i := 1) (oi := _) (v := ?_) rfl zE zE zE (fun _ _ _ h => h) (Or.inl ⟨zT, ?_⟩) zM ?_
  rotate_left
  ·(intro w hSw; (try dsimp only at hSw); go_simp <;> with_reducible rfl)
  (try simp only [Act.put, Aa, Ab, Ac])
  generalize w3.drew = wd at *
  refine AP (rs := [2]) zE zO ?_
  refine AG (o := _) rfl (fun K hK => ?_) AllReadyH.nil
  go_simp
  refine hK.out _ _ ?_ (fun hHeld => ?_)
  ·exact SK.out _ zI zI
  clear hK K
  (try simp only [Act.put, Aa, Ab, Ac])
  refine Ap (i := 3) (oi := _) (v := ?_) rfl zE zE zE (fun _ _ _ h => h) (Or.inl ⟨zT, ?_⟩) zM ?_
  rotate_left
  ·(intro w hSw; (try dsimp only at hSw); go_simp <;> with_reducible rfl)
  (try simp only [Act.put, Aa, Ab, Ac])
  refine AP (rs := [4]) zE zO ?_
  refine AG (o := _) rfl (fun K hK => ?_) AllReadyH.nil
  go_simp
  refine hK.out _ _ ?_ (fun hHeld => ?_)
  ·exact SK.out _ zI zI
  clear hK K
  (try simp only [Act.put, Aa, Ab, Ac])
  (try simp only [AJ, AB, Az, Act.put, Aa, Ab, Ac])
  refine CG zG ?_ _
  go_wp2_with fail;have hput := Fm (k := .int .i64 k) (f := .int .i64 f) (v0 := .int .i64 0) (v1 := .int .u64 0) (v2 := .int .u64 0) (v3 := .int .u64 0) (v4 := .int .i64 0) (v5 := .int .i64 0) (v6 := .slice none 0 0) (v7 := .slice none 0 0) (v8 := .slice none 0 0) (v9 := .int .u64 0) (v10 := .int .u64 0) (v11 := .int .u64 0) (v12 := .int .u64 0) (v13 := .slice none 0 0) hM hF zC
  refine CC (fun W => Blk W w.heap.size 32 #[.int .i64 0, .int .u64 0, .int .u64 0, .int .u64 0, .int .i64 0, .int .i64 0, .slice none 0 0, .slice none 0 0, .slice none 0 0, .int .u64 0, .int .u64 0, .int .u64 0, .int .u64 0, .slice none 0 0] ∧ Blk W (w.heap.size + 1) 58 #[.int .i64 k, .int .i64 f] ∧ Tch (fun b => b = w.heap.size ∨ b = w.heap.size + 1) wd W) hput ?_
  intro W5 ⟨q5, p5, ht5⟩;obtain ⟨n0, n1, n2, n3, n4, n5, n6, n7, n8, n9, n10, n11, n12, n13, ln⟩ := Bt q5
  obtain ⟨p0, p1, p2, p3, p4⟩ := Cn p5
  have hz5 := ht5.size
  refine Al (v := .tuple #[.agg #[.int .i64 0, .int .u64 0, .int .u64 0, .int .u64 0, .int .i64 0, .int .i64 0, .slice none 0 0, .slice none 0 0, .slice none 0 0, .int .u64 0, .int .u64 0, .int .u64 0, .int .u64 0, .slice none 0 0], .bool false, .agg #[.int .i64 k, .int .i64 f]]) ZK rfl ⟨none, 0, none, 0, none, 0, none, 0, rfl, GZ, hbl.trans (ht5.Cj hbl.size fun b hb e => zC)⟩
theorem LB (w : World) (B : List UInt8) (a : Option Addr) (c0 c : Nat) (hl : Ah.r (· < w.heap.size) w [.slice a c0 c] B) (hB : B.length ≤ 1000000000) {m : Msg} {q : Bool} {k f : Int} (hZ : Pf B = (m, q, k, f)) :
  Calls Tryz.prog 46 #[.slice a c0 c] w fun r w' => ∃ a1 a1' a2 a2' a3 a3' a4 a4', r = .returned (.tuple #[.agg #[.int .i64 m.kind, .int .u64 m.epoch, .int .u64 m.seq, .int .u64 m.pos, .int .i64 m.count, .int .i64 m.state, .slice a1 m.streams.length a1', .slice a2 m.links.length a2', .slice a3 m.data.length a3', .int .u64 m.sea.epoch, .int .u64 m.sea.node, .int .u64 m.sea.tail, .int .u64 m.proj.epoch, .slice a4 m.proj.stripes.length a4'], .agg #[.int .i64 k, .int .i64 f]]) ∧ A2 (fun q => w.heap.size ≤ q ∧ q < w'.heap.size) w' m a1 a1' a2 a2' a3 a3' a4 a4' ∧ Below w.heap.size w w' := by
 obtain ⟨rfl, hmx, hcc, hcm⟩ := AS hl
 have HGT := hid (Sd ((w.alloc (.cells #[.int .i64 0, .int .u64 0, .int .u64 0, .int .u64 0, .int .i64 0, .int .i64 0, .slice none 0 0, .slice none 0 0, .slice none 0 0, .int .u64 0, .int .u64 0, .int .u64 0, .int .u64 0, .slice none 0 0] 32)).alloc (.cells #[.int .i64 0, .int .i64 0] 58)) B a _ c (lift hl zA) hB _ _ _ (fun P h => Qf h) hZ)
 have hz00 : w.heap.size + 1 < (((w.alloc (.cells #[.int .i64 0, .int .u64 0, .int .u64 0, .int .u64 0, .int .i64 0, .int .i64 0, .slice none 0 0, .slice none 0 0, .slice none 0 0, .int .u64 0, .int .u64 0, .int .u64 0, .int .u64 0, .slice none 0 0] 32)).alloc (.cells #[.int .i64 0, .int .i64 0] 58))).heap.size := zO
 clear hl hZ;go_enter Tryz.func46, Tryz.ntmps46
 go_wp2_with fail;refine HGT.out.mono ?_
 rintro r w1 ⟨a1, a1', a2, a2', a3, a3', a4, a4', rfl, hm1, hb1⟩;have I1 : N8 w w1 := ⟨Blk.later zD hb1, Blk.later zD hb1, zA⟩
 have hlow1 : w.heap.size + 1 < w1.heap.size := I1.fb.lt
 have E2 : Blk ((w1.alloc (.cells #[.int .i64 m.kind, .int .u64 m.epoch, .int .u64 m.seq, .int .u64 m.pos, .int .i64 m.count, .int .i64 m.state, .slice a1 m.streams.length a1', .slice a2 m.links.length a2', .slice a3 m.data.length a3', .int .u64 m.sea.epoch, .int .u64 m.sea.node, .int .u64 m.sea.tail, .int .u64 m.proj.epoch, .slice a4 m.proj.stripes.length a4'] 32)).alloc (.cells #[.int .i64 k, .int .i64 f] 58)) w1.heap.size 32 #[.int .i64 m.kind, .int .u64 m.epoch, .int .u64 m.seq, .int .u64 m.pos, .int .i64 m.count, .int .i64 m.state, .slice a1 m.streams.length a1', .slice a2 m.links.length a2', .slice a3 m.data.length a3', .int .u64 m.sea.epoch, .int .u64 m.sea.node, .int .u64 m.sea.tail, .int .u64 m.proj.epoch, .slice a4 m.proj.stripes.length a4'] := zD
 have F2 : Blk ((w1.alloc (.cells #[.int .i64 m.kind, .int .u64 m.epoch, .int .u64 m.seq, .int .u64 m.pos, .int .i64 m.count, .int .i64 m.state, .slice a1 m.streams.length a1', .slice a2 m.links.length a2', .slice a3 m.data.length a3', .int .u64 m.sea.epoch, .int .u64 m.sea.node, .int .u64 m.sea.tail, .int .u64 m.proj.epoch, .slice a4 m.proj.stripes.length a4'] 32)).alloc (.cells #[.int .i64 k, .int .i64 f] 58)) (w1.heap.size + 1) 58 #[.int .i64 k, .int .i64 f] := zD
 have hb2 : Below w1.heap.size w1 ((w1.alloc (.cells #[.int .i64 m.kind, .int .u64 m.epoch, .int .u64 m.seq, .int .u64 m.pos, .int .i64 m.count, .int .i64 m.state, .slice a1 m.streams.length a1', .slice a2 m.links.length a2', .slice a3 m.data.length a3', .int .u64 m.sea.epoch, .int .u64 m.sea.node, .int .u64 m.sea.tail, .int .u64 m.proj.epoch, .slice a4 m.proj.stripes.length a4'] 32)).alloc (.cells #[.int .i64 k, .int .i64 f] 58)) := zA
 have HI2 := hid (I1.row hb2)
 have X2 := hid (A2.DX (S' := fun q => w.heap.size + 1 < q ∧ q < w1.heap.size) hm1 (fun q hq => hb2.block q hq.2) (fun q hq => ⟨zC, hq.2⟩))
 have l2 : w1.heap.size + 1 < (((w1.alloc (.cells #[.int .i64 m.kind, .int .u64 m.epoch, .int .u64 m.seq, .int .u64 m.pos, .int .i64 m.count, .int .i64 m.state, .slice a1 m.streams.length a1', .slice a2 m.links.length a2', .slice a3 m.data.length a3', .int .u64 m.sea.epoch, .int .u64 m.sea.node, .int .u64 m.sea.tail, .int .u64 m.proj.epoch, .slice a4 m.proj.stripes.length a4'] 32)).alloc (.cells #[.int .i64 k, .int .i64 f] 58))).heap.size := zO
 obtain ⟨y0, y1, y2, y3, y4, y5, y6, y7, y8, y9, y10, y11, y12, y13, ly⟩ := Bt E2
 obtain ⟨f0, f1, f2, f3, f4⟩ := Cn F2
 clear hm1 hb1 hb2 I1;go_wp2_with fail;generalize ((w1.alloc (.cells #[.int .i64 m.kind, .int .u64 m.epoch, .int .u64 m.seq, .int .u64 m.pos, .int .i64 m.count, .int .i64 m.state, .slice a1 m.streams.length a1', .slice a2 m.links.length a2', .slice a3 m.data.length a3', .int .u64 m.sea.epoch, .int .u64 m.sea.node, .int .u64 m.sea.tail, .int .u64 m.proj.epoch, .slice a4 m.proj.stripes.length a4'] 32)).alloc (.cells #[.int .i64 k, .int .i64 f] 58)) = w2 at *
 have hM := HI2.out.mb.drew
 have hF := HI2.out.fb.drew
 have hbl := HI2.out.bl.drew
 have hEd := (E2).drew
 have hFd := (F2).drew
 have XD := hid (A2.DX (w' := w2.drew) X2.out (fun q hq => rfl) (fun q hq => hq))
 have ld : w1.heap.size + 1 < w2.drew.heap.size := l2
 have SK := hid (fun (w' : World) (h1 : Blk w' w1.heap.size 32 #[.int .i64 m.kind, .int .u64 m.epoch, .int .u64 m.seq, .int .u64 m.pos, .int .i64 m.count, .int .i64 m.state, .slice a1 m.streams.length a1', .slice a2 m.links.length a2', .slice a3 m.data.length a3', .int .u64 m.sea.epoch, .int .u64 m.sea.node, .int .u64 m.sea.tail, .int .u64 m.proj.epoch, .slice a4 m.proj.stripes.length a4']) (h2 : Blk w' (w1.heap.size + 1) 58 #[.int .i64 k, .int .i64 f]) => (⟨h1.cell 0, h1.cell 1, h1.cell 2, h1.cell 3, h1.cell 4, h1.cell 5, h1.cell 6, h1.cell 7, h1.cell 8, h1.cell 9, h1.cell 10, h1.cell 11, h1.cell 12, h1.cell 13, h2.cell 0, h2.cell 1⟩ : w'.cell? ⟨w1.heap.size, 0, none⟩ = some (.int .i64 m.kind) ∧ w'.cell? ⟨w1.heap.size, 1, none⟩ = some (.int .u64 m.epoch) ∧ w'.cell? ⟨w1.heap.size, 2, none⟩ = some (.int .u64 m.seq) ∧ w'.cell? ⟨w1.heap.size, 3, none⟩ = some (.int .u64 m.pos) ∧ w'.cell? ⟨w1.heap.size, 4, none⟩ = some (.int .i64 m.count) ∧ w'.cell? ⟨w1.heap.size, 5, none⟩ = some (.int .i64 m.state) ∧ w'.cell? ⟨w1.heap.size, 6, none⟩ = some (.slice a1 m.streams.length a1') ∧ w'.cell? ⟨w1.heap.size, 7, none⟩ = some (.slice a2 m.links.length a2') ∧ w'.cell? ⟨w1.heap.size, 8, none⟩ = some (.slice a3 m.data.length a3') ∧ w'.cell? ⟨w1.heap.size, 9, none⟩ = some (.int .u64 m.sea.epoch) ∧ w'.cell? ⟨w1.heap.size, 10, none⟩ = some (.int .u64 m.sea.node) ∧ w'.cell? ⟨w1.heap.size, 11, none⟩ = some (.int .u64 m.sea.tail) ∧ w'.cell? ⟨w1.heap.size, 12, none⟩ = some (.int .u64 m.proj.epoch) ∧ w'.cell? ⟨w1.heap.size, 13, none⟩ = some (.slice a4 m.proj.stripes.length a4') ∧ w'.cell? ⟨(w1.heap.size + 1), 0, none⟩ = some (.int .i64 k) ∧ w'.cell? ⟨(w1.heap.size + 1), 1, none⟩ = some (.int .i64 f)))
 have HS := hid (SK.out w2 E2 F2)
 obtain ⟨r0, r1, r2, r3, r4, r5, r6, r7, r8, r9, r10, r11, r12, r13, lr⟩ := Bt hM
 obtain ⟨g0, g1, g2, g3, g4, g5, g6, g7, g8, g9, g10, g11, g12, g13⟩ := Ep hM
 obtain ⟨z0, z1, z2, z3, z4⟩ := Cn hF
 (try clear y0 y1 y2 y3 y4 y5 y6 y7 y8 y9 y10 y11 y12 y13 ly)
 (try clear f0 f1 f2 f3 f4)
 go_wp2_with fail;refine Cd (S := fun w' => w'.cell? ⟨w1.heap.size, 0, none⟩ = some (.int .i64 m.kind) ∧ w'.cell? ⟨w1.heap.size, 1, none⟩ = some (.int .u64 m.epoch) ∧ w'.cell? ⟨w1.heap.size, 2, none⟩ = some (.int .u64 m.seq) ∧ w'.cell? ⟨w1.heap.size, 3, none⟩ = some (.int .u64 m.pos) ∧ w'.cell? ⟨w1.heap.size, 4, none⟩ = some (.int .i64 m.count) ∧ w'.cell? ⟨w1.heap.size, 5, none⟩ = some (.int .i64 m.state) ∧ w'.cell? ⟨w1.heap.size, 6, none⟩ = some (.slice a1 m.streams.length a1') ∧ w'.cell? ⟨w1.heap.size, 7, none⟩ = some (.slice a2 m.links.length a2') ∧ w'.cell? ⟨w1.heap.size, 8, none⟩ = some (.slice a3 m.data.length a3') ∧ w'.cell? ⟨w1.heap.size, 9, none⟩ = some (.int .u64 m.sea.epoch) ∧ w'.cell? ⟨w1.heap.size, 10, none⟩ = some (.int .u64 m.sea.node) ∧ w'.cell? ⟨w1.heap.size, 11, none⟩ = some (.int .u64 m.sea.tail) ∧ w'.cell? ⟨w1.heap.size, 12, none⟩ = some (.int .u64 m.proj.epoch) ∧ w'.cell? ⟨w1.heap.size, 13, none⟩ = some (.slice a4 m.proj.stripes.length a4') ∧ w'.cell? ⟨(w1.heap.size + 1), 0, none⟩ = some (.int .i64 k) ∧ w'.cell? ⟨(w1.heap.size + 1), 1, none⟩ = some (.int .i64 f)) zG HS.out (fun hHeld => ?_)
 refine Ap (i := 0) (oi := _) (v := ?_) rfl zE zE zE (fun _ _ _ h => h) (Or.inl ⟨zT, ?_⟩) zM ?_
 rotate_left
 ·(intro w hSw; (try dsimp only at hSw); go_simp <;> with_reducible rfl)
 (try simp only [Act.put, Aa, Ab, Ac])
 refine Ap (i := 1) (oi := _) (v := ?_) rfl zE zE zE (fun _ _ _ h => h) (Or.inl ⟨zT, ?_⟩) zM ?_
 rotate_left
 ·(intro w hSw; (try dsimp only at hSw); go_simp <;> with_reducible rfl)
 (try simp only [Act.put, Aa, Ab, Ac])
 generalize w2.drew = wd at *
 refine AP (rs := [2]) zE zO ?_
 refine AG (o := _) rfl (fun K hK => ?_) AllReadyH.nil
 go_simp
 refine hK.out _ _ ?_ (fun hHeld => ?_)
 ·exact SK.out _ zI zI
 clear hK K
 (try simp only [Act.put, Aa, Ab, Ac])
 refine AP (rs := [3]) zE zO ?_
 refine AG (o := _) rfl (fun K hK => ?_) AllReadyH.nil
 go_simp
 refine hK.out _ _ ?_ (fun hHeld => ?_)
 ·exact SK.out _ zI zI
 clear hK K
 (try simp only [Act.put, Aa, Ab, Ac])
 (try simp only [AJ, AB, Az, Act.put, Aa, Ab, Ac])
 refine CG zG ?_ _
 go_wp2_with fail;have hput := Fm (k := .int .i64 k) (f := .int .i64 f) (v0 := .int .i64 m.kind) (v1 := .int .u64 m.epoch) (v2 := .int .u64 m.seq) (v3 := .int .u64 m.pos) (v4 := .int .i64 m.count) (v5 := .int .i64 m.state) (v6 := .slice a1 m.streams.length a1') (v7 := .slice a2 m.links.length a2') (v8 := .slice a3 m.data.length a3') (v9 := .int .u64 m.sea.epoch) (v10 := .int .u64 m.sea.node) (v11 := .int .u64 m.sea.tail) (v12 := .int .u64 m.proj.epoch) (v13 := .slice a4 m.proj.stripes.length a4') hM hF zC
 refine CC (fun W => Blk W w.heap.size 32 #[.int .i64 m.kind, .int .u64 m.epoch, .int .u64 m.seq, .int .u64 m.pos, .int .i64 m.count, .int .i64 m.state, .slice a1 m.streams.length a1', .slice a2 m.links.length a2', .slice a3 m.data.length a3', .int .u64 m.sea.epoch, .int .u64 m.sea.node, .int .u64 m.sea.tail, .int .u64 m.proj.epoch, .slice a4 m.proj.stripes.length a4'] ∧ Blk W (w.heap.size + 1) 58 #[.int .i64 k, .int .i64 f] ∧ Tch (fun b => b = w.heap.size ∨ b = w.heap.size + 1) wd W) hput ?_
 intro W5 ⟨q5, p5, ht5⟩;obtain ⟨n0, n1, n2, n3, n4, n5, n6, n7, n8, n9, n10, n11, n12, n13, ln⟩ := Bt q5
 obtain ⟨p0, p1, p2, p3, p4⟩ := Cn p5
 have hz5 := ht5.size
 refine Al (v := .tuple #[.agg #[.int .i64 m.kind, .int .u64 m.epoch, .int .u64 m.seq, .int .u64 m.pos, .int .i64 m.count, .int .i64 m.state, .slice a1 m.streams.length a1', .slice a2 m.links.length a2', .slice a3 m.data.length a3', .int .u64 m.sea.epoch, .int .u64 m.sea.node, .int .u64 m.sea.tail, .int .u64 m.proj.epoch, .slice a4 m.proj.stripes.length a4'], .agg #[.int .i64 k, .int .i64 f]]) (by simp [results, Tryz.results46, go_sem, n0, n1, n2, n3, n4, n5, n6, n7, n8, n9, n10, n11, n12, n13, p0, p1]) rfl ⟨a1, a1', a2, a2', a3, a3', a4, a4', rfl, A2.DX XD.out (fun q hq => ht5.block q zC zC) (fun q hq => ⟨zC, zC⟩), hbl.trans (ht5.Cj hbl.size fun b hb e => zC)⟩
theorem UQ (m : Msg) : FE m = (decide (1 ≤ m.kind ∧ m.kind ≤ 14) && (A7 (AK m.kind 1) (poR m.pos) (m.pos == 0) && (A7 (AK m.kind 2) (decide (1 ≤ m.count) && decide (m.count ≤ 65536)) (m.count == 0) &&
   (A7 (AK m.kind 4) (decide (1 ≤ m.state) && decide (m.state ≤ Dn m.kind)) (m.state == 0) && (A7 (AK m.kind 8) (decide (m.streams.length ≤ 16) && Ba m.streams) ((m.streams.length : Int) == 0) &&
   (A7 (AK m.kind 16) (BK m.pos m.links) ((m.links.length : Int) == 0) && (A7 (AK m.kind 64) (Ev m.sea) (m.sea.epoch == 0 && (m.sea.node == 0 && m.sea.tail == 0)) &&
   (A7 (AK m.kind 128) (CA m.proj) (m.proj.epoch == 0 && (m.proj.stripes.length : Int) == 0) && (((m.data.length : Int) == 0) || (Ca m.kind m.state && decide (m.data.length ≤ 1048576))))))))))) := by
 unfold FE;rw [C9, C9, C9, C9, MF, Bool.decide_and, Bool.decide_and, Bool.decide_and]
 rfl
theorem On (m : Msg) (a1 : Option Addr) (c1 : Nat) (a2 : Option Addr) (c2 : Nat) (a3 : Option Addr) (c3 : Nat) (a4 : Option Addr) (c4 : Nat) (w : World) (h : A2 (· < w.heap.size) w m a1 c1 a2 c2 a3 c3 a4 c4) :
  Calls Tryz.prog 20 #[.agg #[.int .i64 m.kind, .int .u64 m.epoch, .int .u64 m.seq, .int .u64 m.pos, .int .i64 m.count, .int .i64 m.state, .slice a1 m.streams.length c1, .slice a2 m.links.length c2, .slice a3 m.data.length c3, .int .u64 m.sea.epoch, .int .u64 m.sea.node, .int .u64 m.sea.tail, .int .u64 m.proj.epoch, .slice a4 m.proj.stripes.length c4]] w fun r w' => r = .returned (.bool (FE m)) ∧ Below w.heap.size w w' := by
 have hM := UQ m
 have HPO := hid (fun W : World => Sj m.pos W)
 have HMO := hid (fun W : World => P9 m.kind W)
 have HST := hid (fun (W : World) (hW : Below w.heap.size w W) => KE m.streams a1 _ c1 W (lift h.streams hW))
 have HLK := hid (fun (W : World) (hW : Below w.heap.size w W) => Oq m.pos m.links a2 _ c2 W (lift h.links hW))
 have HSE := hid (fun (W : World) => OD m.sea h.sealE W)
 have HPR := hid (fun (W : World) (hW : Below w.heap.size w W) => Ox m.proj.epoch h.projE.1 m.proj.stripes a4 _ c4 W (lift h.stripes hW))
 have HBL := hid (fun (W : World) => KA m.kind m.state W)
 have HH1 := hid (fun W : World => C5 m.kind 1 zS W)
 have HH2 := hid (fun W : World => C5 m.kind 2 zS W)
 have HH4 := hid (fun W : World => C5 m.kind 4 zS W)
 have HH8 := hid (fun W : World => C5 m.kind 8 zS W)
 have HH16 := hid (fun W : World => C5 m.kind 16 zS W)
 have HH64 := hid (fun W : World => C5 m.kind 64 zS W)
 have HH128 := hid (fun W : World => C5 m.kind 128 zS W)
 obtain ⟨kk, ep, sq, po, cn, st, SS, LS, DD, ⟨se, sn, tl⟩, ⟨pe, PL⟩⟩ := m
 dsimp only at *;generalize AK kk 1 = H1 at *
 generalize AK kk 2 = H2 at *
 generalize AK kk 4 = H4 at *
 generalize AK kk 8 = H8 at *
 generalize AK kk 16 = H16 at *
 generalize AK kk 64 = H64 at *
 generalize AK kk 128 = H128 at *
 obtain ⟨B1, hB1⟩ : ∃ B, B = A7 H1 (poR po) (po == 0) := ⟨_, rfl⟩
 rw [← hB1] at hM
 have HQ1 := hid hB1
 clear hB1;obtain ⟨B2, hB2⟩ : ∃ B, B = A7 H2 (decide (1 ≤ cn) && decide (cn ≤ 65536)) (cn == 0) := ⟨_, rfl⟩
 rw [← hB2] at hM
 have HQ2 := hid hB2
 clear hB2;obtain ⟨B4, hB4⟩ : ∃ B, B = A7 H4 (decide (1 ≤ st) && decide (st ≤ Dn kk)) (st == 0) := ⟨_, rfl⟩
 rw [← hB4] at hM
 have HQ4 := hid hB4
 clear hB4;obtain ⟨B8, hB8⟩ : ∃ B, B = A7 H8 (decide (SS.length ≤ 16) && Ba SS) ((SS.length : Int) == 0) := ⟨_, rfl⟩
 rw [← hB8] at hM
 have HQ8 := hid hB8
 clear hB8;obtain ⟨B16, hB16⟩ : ∃ B, B = A7 H16 (BK po LS) ((LS.length : Int) == 0) := ⟨_, rfl⟩
 rw [← hB16] at hM
 have HQ16 := hid hB16
 clear hB16;obtain ⟨B64, hB64⟩ : ∃ B, B = A7 H64 (Ev ⟨se, sn, tl⟩) (se == 0 && (sn == 0 && tl == 0)) := ⟨_, rfl⟩
 rw [← hB64] at hM
 have HQ64 := hid hB64
 clear hB64;obtain ⟨B128, hB128⟩ : ∃ B, B = A7 H128 (CA ⟨pe, PL⟩) (pe == 0 && (PL.length : Int) == 0) := ⟨_, rfl⟩
 rw [← hB128] at hM
 have HQ128 := hid hB128
 clear hB128;generalize poR po = R1 at *
 generalize BK po LS = R16 at *
 generalize Ev ⟨se, sn, tl⟩ = R64 at *
 generalize CA ⟨pe, PL⟩ = R128 at *
 generalize Ba SS = RS at *
 generalize Dn kk = MK at *
 generalize Ca kk st = BL at *
 obtain ⟨DB, hDB⟩ : ∃ B, B = (((DD.length : Int) == 0) || (BL && decide (DD.length ≤ 1048576))) := ⟨_, rfl⟩
 rw [← hDB] at hM
 have HDB := hid hDB
 generalize hK : decide (1 ≤ kk ∧ kk ≤ 14) = K at *
 have HM := hid hM
 generalize FE ⟨kk, ep, sq, po, cn, st, SS, LS, DD, ⟨se, sn, tl⟩, ⟨pe, PL⟩⟩ = MM at *
 have hb0 : Below w.heap.size w (w.alloc (.cells #[.int .i64 kk, .int .u64 ep, .int .u64 sq, .int .u64 po, .int .i64 cn, .int .i64 st, .slice a1 SS.length c1, .slice a2 LS.length c2, .slice a3 DD.length c3, .int .u64 se, .int .u64 sn, .int .u64 tl, .int .u64 pe, .slice a4 PL.length c4] 32)) := zB
 have HBX : Hid (Blk (w.alloc (.cells #[.int .i64 kk, .int .u64 ep, .int .u64 sq, .int .u64 po, .int .i64 cn, .int .i64 st, .slice a1 SS.length c1, .slice a2 LS.length c2, .slice a3 DD.length c3, .int .u64 se, .int .u64 sn, .int .u64 tl, .int .u64 pe, .slice a4 PL.length c4] 32)) w.heap.size 32 #[.int .i64 kk, .int .u64 ep, .int .u64 sq, .int .u64 po, .int .i64 cn, .int .i64 st, .slice a1 SS.length c1, .slice a2 LS.length c2, .slice a3 DD.length c3, .int .u64 se, .int .u64 sn, .int .u64 tl, .int .u64 pe, .slice a4 PL.length c4]) := hid (Blk.new w _ _)
 clear hM h hDB;cases K
 ·have hK' : ¬ (1 ≤ kk ∧ kk ≤ 14) := of_decide_eq_false hK
  have hff : Hid (MM = false) := hid (by rw [HM.out]; rfl)
  clear hK;by_cases g1 : kk < 1
  ·have d1 : decide (kk < 1) = true := Ae g1
   go_enter Tryz.func20, Tryz.ntmps20
   go_wp2_with fail;go_ret;exact ⟨zH, hb0⟩
  ·have d1 : decide (kk < 1) = false := Ad g1
   have d2 : decide (14 < kk) = true := Ae zC
   go_enter Tryz.func20, Tryz.ntmps20
   go_wp2_with fail;go_ret;exact ⟨zH, hb0⟩
 ·have hK' : 1 ≤ kk ∧ kk ≤ 14 := A9 hK
  have d1 : decide (kk < 1) = false := Ad zC
  have d2 : decide (14 < kk) = false := Ad zC
  clear hK hK';go_enter Tryz.func20, Tryz.ntmps20
  go_upto_region 4 with (fail)
  generalize (w.alloc (.cells #[.int .i64 kk, .int .u64 ep, .int .u64 sq, .int .u64 po, .int .i64 cn, .int .i64 st, .slice a1 SS.length c1, .slice a2 LS.length c2, .slice a3 DD.length c3, .int .u64 se, .int .u64 sn, .int .u64 tl, .int .u64 pe, .slice a4 PL.length c4] 32)) = w0 at *
  have HB0 := hid hb0
  clear hb0;have HB1 : Hid (Below w0.heap.size w0 w0) := hid (Below.refl _ _)
  go_cut [29] from 12 to 28 (fun v V => v = .bool (!B1) ∧ Below w0.heap.size w0 V)
  case first =>
   cases H1
   ·go_wp2_with fail
    refine (HH1.out _).mono ?_
    rintro r v101 ⟨rfl, hb101⟩;have HC101 := hid (Af hb101 HB1.out)
    clear hb101;go_wp2_with fail;refine (HH1.out _).mono ?_
    rintro r v102 ⟨rfl, hb102⟩;have HC102 := hid (Af hb102 HC101.out)
    clear hb102;have HX102 := hid (HBX.out.later HC102.out)
    have y102_3 : v102.cell? ⟨w.heap.size, 3, none⟩ = some (.int .u64 po) := HX102.out.cell 3
    clear HX102;have hv1 : Hid (B1 = (po == 0)) := hid (by rw [HQ1.out]; rfl)
    go_wp2_with fail;go_meet
    case rel => exact ⟨by rw [hv1.out]; first | rfl | simp, HC102.out⟩
   ·go_wp2_with fail
    refine (HH1.out _).mono ?_
    rintro r v103 ⟨rfl, hb103⟩;have HC103 := hid (Af hb103 HB1.out)
    clear hb103;have HX103 := hid (HBX.out.later HC103.out)
    have y103_3 : v103.cell? ⟨w.heap.size, 3, none⟩ = some (.int .u64 po) := HX103.out.cell 3
    clear HX103;cases R1
    ·go_wp2_with fail
     refine (HPO.out _).mono ?_
     rintro r v104 ⟨rfl, rfl⟩;have hv1 : Hid (B1 = false) := hid (by rw [HQ1.out]; rfl)
     go_wp2_with fail;go_meet
     case rel => exact ⟨by rw [hv1.out]; first | rfl | simp, HC103.out⟩
    ·go_wp2_with fail
     refine (HPO.out _).mono ?_
     rintro r v104 ⟨rfl, rfl⟩;go_wp2_with fail;refine (HH1.out _).mono ?_
     rintro r v105 ⟨rfl, hb105⟩;have HC105 := hid (Af hb105 HC103.out)
     clear hb105;have hv1 : Hid (B1 = true) := hid (by rw [HQ1.out]; rfl)
     go_wp2_with fail;go_meet
     case rel => exact ⟨by rw [hv1.out]; first | rfl | simp, HC105.out⟩
  case rest =>
   obtain ⟨rfl, hbc⟩ := hcut
   have HB2 := hid hbc
   clear hbc;obtain ⟨w1, hwn⟩ : ∃ W : World, W = wc := ⟨_, rfl⟩
   subst hwn;cases B1
   ·have hff : Hid (MM = false) := hid ZF
    go_wp2_with fail;go_ret;exact ⟨zH, HB0.out.trans (HB2.out.mono HB0.out.size)⟩
   ·go_upto_region 6 with (fail)
    go_cut [51] from 30 to 50 (fun v V => v = .bool (!B2) ∧ Below w0.heap.size w0 V)
    case first =>
     cases H2
     ·go_wp2_with fail
      refine (HH2.out _).mono ?_
      rintro r v106 ⟨rfl, hb106⟩;have HC106 := hid (Af hb106 HB2.out)
      clear hb106;go_wp2_with fail;refine (HH2.out _).mono ?_
      rintro r v107 ⟨rfl, hb107⟩;have HC107 := hid (Af hb107 HC106.out)
      clear hb107;have HX107 := hid (HBX.out.later HC107.out)
      have y107_4 : v107.cell? ⟨w.heap.size, 4, none⟩ = some (.int .i64 cn) := HX107.out.cell 4
      clear HX107;have hv2 : Hid (B2 = (cn == 0)) := hid (by rw [HQ2.out]; rfl)
      go_wp2_with fail;go_meet
      case rel => exact ⟨by rw [hv2.out]; first | rfl | simp, HC107.out⟩
     ·go_wp2_with fail
      refine (HH2.out _).mono ?_
      rintro r v108 ⟨rfl, hb108⟩;have HC108 := hid (Af hb108 HB2.out)
      clear hb108;have HX108 := hid (HBX.out.later HC108.out)
      have y108_4 : v108.cell? ⟨w.heap.size, 4, none⟩ = some (.int .i64 cn) := HX108.out.cell 4
      clear HX108;by_cases g1 : cn < 1
      ·have d1 : decide (cn < 1) = true := Ae g1
       have hv2 : Hid (B2 = false) := hid (by rw [HQ2.out]; show (decide (1 ≤ cn) && _) = false; rw [Ad (by omega)]; rfl)
       go_wp2_with fail;go_meet
       case rel => exact ⟨by rw [hv2.out]; first | rfl | simp, HC108.out⟩
      ·have d1 : decide (cn < 1) = false := Ad g1
       by_cases g2 : 65536 < cn
       ·have d2 : decide (65536 < cn) = true := Ae g2
        have hv2 : Hid (B2 = false) := hid (by rw [HQ2.out]; show (decide (1 ≤ cn) && decide (cn ≤ 65536)) = false; rw [Ad (by omega : ¬ cn ≤ 65536), Bool.and_false])
        go_wp2_with fail;go_meet
        case rel => exact ⟨by rw [hv2.out]; first | rfl | simp, HC108.out⟩
       ·have d2 : decide (65536 < cn) = false := Ad g2
        have hv2 : Hid (B2 = true) := hid (by rw [HQ2.out]; show (decide (1 ≤ cn) && decide (cn ≤ 65536)) = true; rw [Ae (by omega : cn ≤ 65536), Ae (by omega : 1 ≤ cn)]; rfl)
        go_wp2_with fail;refine (HH2.out _).mono ?_
        rintro r v109 ⟨rfl, hb109⟩;have HC109 := hid (Af hb109 HC108.out)
        clear hb109;go_wp2_with fail;go_meet
        case rel => exact ⟨by rw [hv2.out]; first | rfl | simp, HC109.out⟩
    case rest =>
     obtain ⟨rfl, hbc⟩ := hcut
     have HB3 := hid hbc
     clear hbc;obtain ⟨w2, hwn⟩ : ∃ W : World, W = wc := ⟨_, rfl⟩
     subst hwn;cases B2
     ·have hff : Hid (MM = false) := hid ZF
      go_wp2_with fail;go_ret;exact ⟨zH, HB0.out.trans (HB3.out.mono HB0.out.size)⟩
     ·go_upto_region 8 with (fail)
      go_cut [75] from 52 to 74 (fun v V => v = .bool (!B4) ∧ Below w0.heap.size w0 V)
      case first =>
       have HX4 := hid (HBX.out.later HB3.out)
       have Y5 := fun s : A1 w2 => s.cell (HX4.out.cell 5 : w2.cell? ⟨w.heap.size, 5, none⟩ = some (.int .i64 st))
       cases H4
       ·have hv4 : Hid (B4 = (st == 0)) := hid (by rw [HQ4.out]; rfl)
        refine Ax zG zG ?_
        repeat (go_big_quiet_step ((first | (go_at_call 88; with_reducible exact Be (HH4.out _)) | (go_at_call 90; with_reducible exact Fi (HMO.out _)))))
        refine AL ?_
        rintro W5 ⟨⟨W5', hb5⟩, rfl⟩;go_wp2_with fail;go_meet
        case rel => exact ⟨by rw [hv4.out]; first | rfl | simp, Af hb5 HB3.out⟩
       ·by_cases g1 : st < 1
        ·have d1 : decide (st < 1) = true := Ae g1
         have hv4 : Hid (B4 = false) := hid (by rw [HQ4.out]; show (decide (1 ≤ st) && _) = false; rw [Ad (by omega)]; rfl)
         refine Ax zG zG ?_
         repeat (go_big_quiet_step ((first | (go_at_call 88; with_reducible exact Be (HH4.out _)) | (go_at_call 90; with_reducible exact Fi (HMO.out _)))))
         refine AL ?_
         rintro W5 ⟨⟨W5', hb5⟩, rfl⟩;go_wp2_with fail;go_meet
         case rel => exact ⟨by rw [hv4.out]; first | rfl | simp, Af hb5 HB3.out⟩
        ·have d1 : decide (st < 1) = false := Ad g1
         by_cases g2 : MK < st
         ·have d2 : decide (MK < st) = true := Ae g2
          have hv4 : Hid (B4 = false) := hid (by rw [HQ4.out]; show (decide (1 ≤ st) && decide (st ≤ MK)) = false; rw [Ad (by omega : ¬ st ≤ MK), Bool.and_false])
          refine Ax zG zG ?_
          repeat (go_big_quiet_step ((first | (go_at_call 88; with_reducible exact Be (HH4.out _)) | (go_at_call 90; with_reducible exact Fi (HMO.out _)))))
          refine AL ?_
          rintro W5 ⟨⟨W5', hb5⟩, rfl⟩;go_wp2_with fail;go_meet
          case rel => exact ⟨by rw [hv4.out]; first | rfl | simp, Af hb5 HB3.out⟩
         ·have d2 : decide (MK < st) = false := Ad g2
          have hv4 : Hid (B4 = true) := hid (by rw [HQ4.out]; show (decide (1 ≤ st) && decide (st ≤ MK)) = true; rw [Ae (by omega : st ≤ MK), Ae (by omega : 1 ≤ st)]; rfl)
          refine Ax zG zG ?_
          repeat (go_big_quiet_step ((first | (go_at_call 88; with_reducible exact Be (HH4.out _)) | (go_at_call 90; with_reducible exact Fi (HMO.out _)))))
          refine AL ?_
          rintro W5 ⟨⟨W5', hb5⟩, rfl⟩;go_wp2_with fail;go_meet
          case rel => exact ⟨by rw [hv4.out]; first | rfl | simp, Af hb5 HB3.out⟩
      case rest =>
       obtain ⟨rfl, hbc⟩ := hcut
       have HB4 := hid hbc
       clear hbc;obtain ⟨w3, hwn⟩ : ∃ W : World, W = wc := ⟨_, rfl⟩
       subst hwn;cases B4
       ·have hff : Hid (MM = false) := hid ZF
        go_wp2_with fail;go_ret;exact ⟨zH, HB0.out.trans (HB4.out.mono HB0.out.size)⟩
       ·go_upto_region 10 with (fail)
        go_cut [100] from 76 to 99 (fun v V => v = .bool (!B8) ∧ Below w0.heap.size w0 V)
        case first =>
         cases H8
         ·go_wp2_with fail
          refine (HH8.out _).mono ?_
          rintro r v110 ⟨rfl, hb110⟩;have HC110 := hid (Af hb110 HB4.out)
          clear hb110;go_wp2_with fail;refine (HH8.out _).mono ?_
          rintro r v111 ⟨rfl, hb111⟩;have HC111 := hid (Af hb111 HC110.out)
          clear hb111;have HX111 := hid (HBX.out.later HC111.out)
          have y111_6 : v111.cell? ⟨w.heap.size, 6, none⟩ = some (.slice a1 SS.length c1) := HX111.out.cell 6
          clear HX111;by_cases hz : SS.length = 0
          ·have hz1 : ((SS.length : Int) == 0) = true := by rw [C9]; exact Ae hz
           have g1 : decide (0 < (SS.length : Int)) = false := Ad zC
           have g2 : decide (0 < SS.length) = false := Ad zC
           clear hz;have hv8 : Hid (B8 = true) := hid (by rw [HQ8.out]; exact hz1)
           clear hz1;go_wp2_with fail;go_meet
           case rel => exact ⟨by rw [hv8.out]; first | rfl | simp, HC111.out⟩
          ·have hz1 : ((SS.length : Int) == 0) = false := by rw [C9]; exact Ad hz
           have g1 : decide (0 < (SS.length : Int)) = true := Ae zC
           have g2 : decide (0 < SS.length) = true := Ae zC
           clear hz;have hv8 : Hid (B8 = false) := hid (by rw [HQ8.out]; exact hz1)
           clear hz1;go_wp2_with fail;go_meet
           case rel => exact ⟨by rw [hv8.out]; first | rfl | simp, HC111.out⟩
         ·go_wp2_with fail
          refine (HH8.out _).mono ?_
          rintro r v112 ⟨rfl, hb112⟩;have HC112 := hid (Af hb112 HB4.out)
          clear hb112;have HX112 := hid (HBX.out.later HC112.out)
          have y112_6 : v112.cell? ⟨w.heap.size, 6, none⟩ = some (.slice a1 SS.length c1) := HX112.out.cell 6
          clear HX112;by_cases g1 : 16 < SS.length
          ·have d1 : decide ((16 : Int) < (SS.length : Int)) = true := Ae zC
           have hv8 : Hid (B8 = false) := hid (by rw [HQ8.out]; show (decide (SS.length ≤ 16) && _) = false; rw [Ad (by omega)]; rfl)
           go_wp2_with fail;go_meet
           case rel => exact ⟨by rw [hv8.out]; first | rfl | simp, HC112.out⟩
          ·have d1 : decide ((16 : Int) < (SS.length : Int)) = false := Ad zC
           cases RS
           ·have hv8 : Hid (B8 = false) := hid (by rw [HQ8.out]; show (_ && false) = false; rw [Bool.and_false])
            go_wp2_with fail;refine (HST.out _ (HB0.out.trans (HC112.out.mono HB0.out.size))).mono ?_
            rintro r v113 ⟨rfl, hb113⟩;have HC113 := hid (Af hb113 HC112.out)
            clear hb113;go_wp2_with fail;go_meet
            case rel => exact ⟨by rw [hv8.out]; first | rfl | simp, HC113.out⟩
           ·have hv8 : Hid (B8 = true) := hid (by rw [HQ8.out]; show (decide (SS.length ≤ 16) && true) = true; rw [Ae (by omega)]; rfl)
            go_wp2_with fail;refine (HST.out _ (HB0.out.trans (HC112.out.mono HB0.out.size))).mono ?_
            rintro r v113 ⟨rfl, hb113⟩;have HC113 := hid (Af hb113 HC112.out)
            clear hb113;go_wp2_with fail;refine (HH8.out _).mono ?_
            rintro r v114 ⟨rfl, hb114⟩;have HC114 := hid (Af hb114 HC113.out)
            clear hb114;go_wp2_with fail;go_meet
            case rel => exact ⟨by rw [hv8.out]; first | rfl | simp, HC114.out⟩
        case rest =>
         obtain ⟨rfl, hbc⟩ := hcut
         have HB5 := hid hbc
         clear hbc;obtain ⟨w4, hwn⟩ : ∃ W : World, W = wc := ⟨_, rfl⟩
         subst hwn;cases B8
         ·have hff : Hid (MM = false) := hid ZF
          go_wp2_with fail;go_ret;exact ⟨zH, HB0.out.trans (HB5.out.mono HB0.out.size)⟩
         ·go_upto_region 12 with (fail)
          go_cut [121] from 101 to 120 (fun v V => v = .bool (!B16) ∧ Below w0.heap.size w0 V)
          case first =>
           cases H16
           ·go_wp2_with fail
            refine (HH16.out _).mono ?_
            rintro r v115 ⟨rfl, hb115⟩;have HC115 := hid (Af hb115 HB5.out)
            clear hb115;go_wp2_with fail;refine (HH16.out _).mono ?_
            rintro r v116 ⟨rfl, hb116⟩;have HC116 := hid (Af hb116 HC115.out)
            clear hb116;have HX116 := hid (HBX.out.later HC116.out)
            have y116_3 : v116.cell? ⟨w.heap.size, 3, none⟩ = some (.int .u64 po) := HX116.out.cell 3
            have y116_7 : v116.cell? ⟨w.heap.size, 7, none⟩ = some (.slice a2 LS.length c2) := HX116.out.cell 7
            clear HX116;by_cases hz : LS.length = 0
            ·have hz1 : ((LS.length : Int) == 0) = true := by rw [C9]; exact Ae hz
             have g1 : decide (0 < (LS.length : Int)) = false := Ad zC
             have g2 : decide (0 < LS.length) = false := Ad zC
             clear hz;have hv16 : Hid (B16 = true) := hid (by rw [HQ16.out]; exact hz1)
             clear hz1;go_wp2_with fail;go_meet
             case rel => exact ⟨by rw [hv16.out]; first | rfl | simp, HC116.out⟩
            ·have hz1 : ((LS.length : Int) == 0) = false := by rw [C9]; exact Ad hz
             have g1 : decide (0 < (LS.length : Int)) = true := Ae zC
             have g2 : decide (0 < LS.length) = true := Ae zC
             clear hz;have hv16 : Hid (B16 = false) := hid (by rw [HQ16.out]; exact hz1)
             clear hz1;go_wp2_with fail;go_meet
             case rel => exact ⟨by rw [hv16.out]; first | rfl | simp, HC116.out⟩
           ·go_wp2_with fail
            refine (HH16.out _).mono ?_
            rintro r v117 ⟨rfl, hb117⟩;have HC117 := hid (Af hb117 HB5.out)
            clear hb117;have HX117 := hid (HBX.out.later HC117.out)
            have y117_3 : v117.cell? ⟨w.heap.size, 3, none⟩ = some (.int .u64 po) := HX117.out.cell 3
            have y117_7 : v117.cell? ⟨w.heap.size, 7, none⟩ = some (.slice a2 LS.length c2) := HX117.out.cell 7
            clear HX117;cases R16
            ·go_wp2_with fail
             refine (HLK.out _ (HB0.out.trans (HC117.out.mono HB0.out.size))).mono ?_
             rintro r v118 ⟨rfl, hb118⟩;have HC118 := hid (Af hb118 HC117.out)
             clear hb118;have hv16 : Hid (B16 = false) := hid (by rw [HQ16.out]; rfl)
             go_wp2_with fail;go_meet
             case rel => exact ⟨by rw [hv16.out]; first | rfl | simp, HC118.out⟩
            ·go_wp2_with fail
             refine (HLK.out _ (HB0.out.trans (HC117.out.mono HB0.out.size))).mono ?_
             rintro r v118 ⟨rfl, hb118⟩;have HC118 := hid (Af hb118 HC117.out)
             clear hb118;go_wp2_with fail;refine (HH16.out _).mono ?_
             rintro r v119 ⟨rfl, hb119⟩;have HC119 := hid (Af hb119 HC118.out)
             clear hb119;have hv16 : Hid (B16 = true) := hid (by rw [HQ16.out]; rfl)
             go_wp2_with fail;go_meet
             case rel => exact ⟨by rw [hv16.out]; first | rfl | simp, HC119.out⟩
          case rest =>
           obtain ⟨rfl, hbc⟩ := hcut
           have HB6 := hid hbc
           clear hbc;obtain ⟨w5, hwn⟩ : ∃ W : World, W = wc := ⟨_, rfl⟩
           subst hwn;cases B16
           ·have hff : Hid (MM = false) := hid ZF
            go_wp2_with fail;go_ret;exact ⟨zH, HB0.out.trans (HB6.out.mono HB0.out.size)⟩
           ·go_upto_region 14 with (fail)
            go_cut [138] from 122 to 137 (fun v V => v = .bool (!DB) ∧ Below w0.heap.size w0 V)
            case first =>
             have HX5 := hid (HBX.out.later HB6.out)
             have y5_5 : w5.cell? ⟨w.heap.size, 5, none⟩ = some (.int .i64 st) := HX5.out.cell 5
             have y5_8 : w5.cell? ⟨w.heap.size, 8, none⟩ = some (.slice a3 DD.length c3) := HX5.out.cell 8
             clear HX5;by_cases g0 : DD.length = 0
             ·have d0 : decide ((0 : Int) < (DD.length : Int)) = false := Ad zC
              have d0n : decide (0 < DD.length) = false := Ad zC
              have d1 : decide ((1048576 : Int) < (DD.length : Int)) = false := Ad zC
              have hvD : Hid (DB = true) := hid (by rw [HDB.out]; rw [C9, Ae g0]; rfl)
              clear g0;go_wp2_with fail;go_meet
              case rel => exact ⟨by rw [hvD.out]; first | rfl | simp, HB6.out⟩
             ·have d0 : decide ((0 : Int) < (DD.length : Int)) = true := Ae zC
              have d0n : decide (0 < DD.length) = true := Ae zC
              cases BL
              ·have hvD : Hid (DB = false) := hid (by rw [HDB.out]; rw [C9, Ad g0]; rfl)
               clear g0;go_wp2_with fail;refine (HBL.out _).mono ?_
               rintro r v120 ⟨rfl, rfl⟩;go_wp2_with fail;go_meet
               case rel => exact ⟨by rw [hvD.out]; first | rfl | simp, HB6.out⟩
              ·by_cases g1 : 1048576 < DD.length
               ·have d1 : decide ((1048576 : Int) < (DD.length : Int)) = true := Ae zC
                have hvD : Hid (DB = false) := hid (by rw [HDB.out]; rw [C9, Ad g0, Ad (by omega)]; rfl)
                clear g0;go_wp2_with fail;refine (HBL.out _).mono ?_
                rintro r v120 ⟨rfl, rfl⟩;go_wp2_with fail;go_meet
                case rel => exact ⟨by rw [hvD.out]; first | rfl | simp, HB6.out⟩
               ·have d1 : decide ((1048576 : Int) < (DD.length : Int)) = false := Ad zC
                have hvD : Hid (DB = true) := hid (by rw [HDB.out]; rw [C9, Ad g0, Ae (by omega)]; rfl)
                clear g0;go_wp2_with fail;refine (HBL.out _).mono ?_
                rintro r v120 ⟨rfl, rfl⟩;go_wp2_with fail;go_meet
                case rel => exact ⟨by rw [hvD.out]; first | rfl | simp, HB6.out⟩
            case rest =>
             obtain ⟨rfl, hbc⟩ := hcut
             have HB7 := hid hbc
             clear hbc;obtain ⟨w6, hwn⟩ : ∃ W : World, W = wc := ⟨_, rfl⟩
             subst hwn;cases DB
             ·have hff : Hid (MM = false) := hid ZF
              go_wp2_with fail;go_ret;exact ⟨zH, HB0.out.trans (HB7.out.mono HB0.out.size)⟩
             ·go_upto_region 16 with (fail)
              go_cut [157] from 139 to 156 (fun v V => v = .bool (!B64) ∧ Below w0.heap.size w0 V)
              case first =>
               cases H64
               ·go_wp2_with fail
                refine (HH64.out _).mono ?_
                rintro r v121 ⟨rfl, hb121⟩;have HC121 := hid (Af hb121 HB7.out)
                clear hb121;go_wp2_with fail;refine (HH64.out _).mono ?_
                rintro r v122 ⟨rfl, hb122⟩;have HC122 := hid (Af hb122 HC121.out)
                clear hb122;have HX122 := hid (HBX.out.later HC122.out)
                have y122_9 : v122.cell? ⟨w.heap.size, 9, none⟩ = some (.int .u64 se) := HX122.out.cell 9
                have y122_10 : v122.cell? ⟨w.heap.size, 10, none⟩ = some (.int .u64 sn) := HX122.out.cell 10
                have y122_11 : v122.cell? ⟨w.heap.size, 11, none⟩ = some (.int .u64 tl) := HX122.out.cell 11
                clear HX122;cases hc : (se == 0)
                ·have hc' : (se != 0) = true := by rw [bne, hc]; rfl
                 have hv64 : Hid (B64 = false) := hid (by rw [HQ64.out]; simp [A7, hc])
                 go_wp2_with fail;go_meet
                 case rel => exact ⟨by rw [hv64.out]; first | rfl | simp, HC122.out⟩
                ·cases hd : (sn == 0)
                 ·have hv64 : Hid (B64 = false) := hid (by rw [HQ64.out]; simp [A7, hc, hd])
                  go_wp2_with fail;go_meet
                  case rel => exact ⟨by rw [hv64.out]; first | rfl | simp, HC122.out⟩
                 ·cases he : (tl == 0)
                  ·have hv64 : Hid (B64 = false) := hid (by rw [HQ64.out]; simp [A7, hc, hd, he])
                   go_wp2_with fail;go_meet
                   case rel => exact ⟨by rw [hv64.out]; first | rfl | simp, HC122.out⟩
                  ·have hv64 : Hid (B64 = true) := hid (by rw [HQ64.out]; simp [A7, hc, hd, he])
                   go_wp2_with fail;go_meet
                   case rel => exact ⟨by rw [hv64.out]; first | rfl | simp, HC122.out⟩
               ·go_wp2_with fail
                refine (HH64.out _).mono ?_
                rintro r v123 ⟨rfl, hb123⟩;have HC123 := hid (Af hb123 HB7.out)
                clear hb123;have HX123 := hid (HBX.out.later HC123.out)
                have y123_9 : v123.cell? ⟨w.heap.size, 9, none⟩ = some (.int .u64 se) := HX123.out.cell 9
                have y123_10 : v123.cell? ⟨w.heap.size, 10, none⟩ = some (.int .u64 sn) := HX123.out.cell 10
                have y123_11 : v123.cell? ⟨w.heap.size, 11, none⟩ = some (.int .u64 tl) := HX123.out.cell 11
                clear HX123;cases R64
                ·go_wp2_with fail
                 refine (HSE.out _).mono ?_
                 rintro r v124 ⟨rfl, hb124⟩;have HC124 := hid (Af hb124 HC123.out)
                 clear hb124;have hv64 : Hid (B64 = false) := hid (by rw [HQ64.out]; rfl)
                 go_wp2_with fail;go_meet
                 case rel => exact ⟨by rw [hv64.out]; first | rfl | simp, HC124.out⟩
                ·go_wp2_with fail
                 refine (HSE.out _).mono ?_
                 rintro r v124 ⟨rfl, hb124⟩;have HC124 := hid (Af hb124 HC123.out)
                 clear hb124;go_wp2_with fail;refine (HH64.out _).mono ?_
                 rintro r v125 ⟨rfl, hb125⟩;have HC125 := hid (Af hb125 HC124.out)
                 clear hb125;have hv64 : Hid (B64 = true) := hid (by rw [HQ64.out]; rfl)
                 go_wp2_with fail;go_meet
                 case rel => exact ⟨by rw [hv64.out]; first | rfl | simp, HC125.out⟩
              case rest =>
               obtain ⟨rfl, hbc⟩ := hcut
               have HB8 := hid hbc
               clear hbc;obtain ⟨w7, hwn⟩ : ∃ W : World, W = wc := ⟨_, rfl⟩
               subst hwn;cases B64
               ·have hff : Hid (MM = false) := hid ZF
                go_wp2_with fail;go_ret;exact ⟨zH, HB0.out.trans (HB8.out.mono HB0.out.size)⟩
               ·cases H128
                ·go_wp2_with fail
                 refine (HH128.out _).mono ?_
                 rintro r v126 ⟨rfl, hb126⟩;have HC126 := hid (Af hb126 HB8.out)
                 clear hb126;go_wp2_with fail;refine (HH128.out _).mono ?_
                 rintro r v127 ⟨rfl, hb127⟩;have HC127 := hid (Af hb127 HC126.out)
                 clear hb127;have HX127 := hid (HBX.out.later HC127.out)
                 have y127_12 : v127.cell? ⟨w.heap.size, 12, none⟩ = some (.int .u64 pe) := HX127.out.cell 12
                 have y127_13 : v127.cell? ⟨w.heap.size, 13, none⟩ = some (.slice a4 PL.length c4) := HX127.out.cell 13
                 clear HX127;cases hc : (pe == 0)
                 ·have hff : Hid (MM = false) := hid (by rw [HM.out, HQ128.out]; simp [A7, hc])
                  go_wp2_with fail;go_ret;exact ⟨by rw [hff.out]; first | rfl | simp, (HB0.out.trans (HC127.out.mono HB0.out.size))⟩
                 ·have hff : Hid (MM = ((PL.length : Int) == 0)) := hid (by rw [HM.out, HQ128.out]; simp [A7, hc])
                  go_wp2_with fail;go_ret;exact ⟨by rw [hff.out]; first | rfl | simp, (HB0.out.trans (HC127.out.mono HB0.out.size))⟩
                ·go_wp2_with fail
                 refine (HH128.out _).mono ?_
                 rintro r v128 ⟨rfl, hb128⟩;have HC128 := hid (Af hb128 HB8.out)
                 clear hb128;have HX128 := hid (HBX.out.later HC128.out)
                 have y128_12 : v128.cell? ⟨w.heap.size, 12, none⟩ = some (.int .u64 pe) := HX128.out.cell 12
                 have y128_13 : v128.cell? ⟨w.heap.size, 13, none⟩ = some (.slice a4 PL.length c4) := HX128.out.cell 13
                 clear HX128;cases R128
                 ·have hff : Hid (MM = false) := hid (by rw [HM.out, HQ128.out]; simp [A7])
                  go_wp2_with fail;refine (HPR.out _ (HB0.out.trans (HC128.out.mono HB0.out.size))).mono ?_
                  rintro r v129 ⟨rfl, hb129⟩;have HC129 := hid (Af hb129 HC128.out)
                  clear hb129;go_wp2_with fail;refine (HH128.out _).mono ?_
                  rintro r v130 ⟨rfl, hb130⟩;have HC130 := hid (Af hb130 HC129.out)
                  clear hb130;go_wp2_with fail;go_ret;exact ⟨by rw [hff.out]; first | rfl | simp, (HB0.out.trans (HC130.out.mono HB0.out.size))⟩
                 ·have hff : Hid (MM = true) := hid (by rw [HM.out, HQ128.out]; simp [A7])
                  go_wp2_with fail;refine (HPR.out _ (HB0.out.trans (HC128.out.mono HB0.out.size))).mono ?_
                  rintro r v129 ⟨rfl, hb129⟩;have HC129 := hid (Af hb129 HC128.out)
                  clear hb129;go_wp2_with fail;go_ret;exact ⟨by rw [hff.out]; first | rfl | simp, (HB0.out.trans (HC129.out.mono HB0.out.size))⟩
theorem BS.Ur {w : World} {base : Nat} {v : Value} {L : List UInt8} {n : Nat} (hn : n < 128) (h : w.ownsRow base 5 1 v (L.length + 1) (byteCells L ++ [.int .u8 (n : Int)])) : BS w base v (L ++ Ay n) := by
 unfold BS;rw [Ag, Di hn, ← Ej, Li hn]
 exact h
theorem C6 {W : World} {lo : Nat} {e : TypeId} {sz n : Nat} {v : Value} {xs : List Value} (h : W.ownsRow lo e sz v n xs) : ∀ b, v.ownBlock = some b → lo ≤ b ∧ b < W.heap.size := fun b hv => h.lt b hv
theorem Th {w : World} {g : Nat} {t : TypeId} {cs : List Value} (h : Blk w g t cs.toArray) {sz : Nat} (hs : cs.length = sz) : Src w (some ⟨g, 0, none⟩) 1 sz cs := by
 refine ⟨zC, .inr ⟨_, 0, rfl, fun j u hu => ?_⟩⟩
 rw [A3, h.cell]
 simpa using hu
theorem Ff (x : Int) (hx : 0 ≤ x ∧ x ≤ 18446744073709551615) (W : World) : Calls Tryz.prog 104 #[.int .u64 x] W fun r w' => ∃ v, r = .returned v ∧ BS w' W.heap.size v (Ay x.toNat) ∧ Below W.heap.size W w' := by
 have := EH x.toNat zC W
 rw [toNat_cast hx.1] at this
 exact this
theorem OC (w : World) (s : BD) (al : Option Addr) (nl cl : Nat) (h0 : inU s.lo) (h1 : inU s.hi) (hl : DW.r (· < w.heap.size) w [.slice al nl cl] s.sets) (hR : Bm s = true) :
  Calls Tryz.prog 176 #[.agg #[.int .u64 s.lo, .int .u64 s.hi, .slice al nl cl]] w fun r w' => ∃ v, r = .returned v ∧ BS w' w.heap.size v (CN s) ∧ Below w.heap.size w w' := by
 obtain ⟨rfl, hm, _, _⟩ := AS hl
 obtain ⟨i0, hi, hz0, hz1, hz2⟩ := A8 Dz
 have hlen := Lq hR
 have hR' := hR
 simp only [Bm, Ao, Ar] at hR'
 obtain ⟨⟨g1, g2, g3, g4⟩, g5⟩ := hR'
 have HNO := hid (fun (k : Nat) (hk : k < s.sets.length) => (by
  have := JT g5 k hk
  simp only [CT, Ao, Ar] at this
  exact ⟨this.1.2, this.2.1⟩ : s.sets[k].length ≤ 8 ∧ Ba s.sets[k] = true))
 have HNS := hid (fun (k : Nat) (hk : k < s.sets.length) => Lw s.sets k hk)
 have HMO := hid (fun k => II s.sets k)
 have hbb : CN s = Ay (s.hi - s.lo - 1).toNat ++ Ay s.sets.length ++ Eg s.sets := rfl
 rw [hbb] at hlen ⊢
 simp only [Ag] at hlen
 have hlo := h0.1
 have hhi := h1.2
 have HV := hid (Ff (s.hi - s.lo - 1) zC)
 obtain ⟨lo, hip, l⟩ := s
 dsimp only at *;have v1 : 0 ≤ hip - lo := zC
 have v2 : 0 ≤ hip - lo - 1 := zC
 have v3 : hip - lo ≤ 18446744073709551615 := zC
 have HL := hid hl
 have HOV := hid (AI (Ay (hip - lo - 1).toNat))
 generalize Ay (hip - lo - 1).toNat = VA at *
 have hvl := Di (x := l.length) zC
 rw [hvl] at hlen
 have hVA : VA.length ≤ 740 := zC
 have x2 : (w.alloc (.cells #[.int .u64 lo, .int .u64 hip, .slice al l.length cl] 155)).cell? ⟨w.heap.size, 2, none⟩ = some (.slice al l.length cl) := zO
 have hb0 : Below w.heap.size w (w.alloc (.cells #[.int .u64 lo, .int .u64 hip, .slice al l.length cl] 155)) := zB
 have hs0 : w.heap.size < (w.alloc (.cells #[.int .u64 lo, .int .u64 hip, .slice al l.length cl] 155)).heap.size := zO
 clear hl hR hbb g5;go_enter Tryz.func176, Tryz.ntmps176
 go_wp2_with fail;generalize w.alloc (.cells #[.int .u64 lo, .int .u64 hip, .slice al l.length cl] 155) = w0 at *
 have HB0 := hid hb0
 clear hb0;refine (HV.out _).mono ?_
 rintro r w1 ⟨v1', rfl, hv1, hb1⟩;obtain ⟨a1, c1, rfl⟩ := AA hv1
 have HO1 := hid hv1
 have X2 := (hb1.cell (p := ⟨w.heap.size, 2, none⟩) hs0).trans x2
 have hz1s := hb1.size
 have HB1 := hid hb1
 clear hv1 hb1;go_wp2_with (at_builtin; go_loud (refine Aq rfl _ _ _ rfl w0.heap.size 5 i0 (.int .u8 0) 1 1 As hi hz0 hz1 hz2 rfl zP (.slice a1 VA.length c1) VA.length (byteCells VA) rfl (AD HO1.out zA) (some ⟨w1.heap.size, 0, none⟩) (1) (1) [.int .u8 (l.length : Int)] rfl (Bx w1 _ _ rfl rfl rfl) zW zK zC zJ ?_; intro v' w3 hown3 hgrow3 hat3; obtain ⟨a3, c3, rfl⟩ := AA hown3; have HO3 := hid (BS.Ur zC hown3); have hbg3 : Below w0.heap.size (w1.alloc (.cells #[.int .u8 (l.length : Int)] 5)) w3 := (Below.grown (Below.refl _ _) hgrow3 zJ (fun g e => (C6 (AD HO1.out zA) g e).1)); clear hown3 hgrow3 hat3))
 have hb13 : Below w0.heap.size w0 w3 := HB1.out.trans (((Below.refl _ _).alloc hz1s _).trans hbg3)
 have HB3 := hid hb13
 have X3 := (hb13.cell (p := ⟨w.heap.size, 2, none⟩) hs0).trans x2
 have hl3 : (VA ++ Ay l.length).length = VA.length + 1 := by rw [Ag, hvl]
 clear X2 hbg3 hb13;go_loopw [3, 4] (fun v i wr => ∃ (k : Nat) (J : List UInt8), k ≤ l.length ∧ i = .int .i64 k ∧ BS wr w0.heap.size v J ∧ Hid (J = VA ++ Ay l.length ++ Eg (l.take k)) ∧ (∃ aJ cJ, v = .slice aJ J.length cJ) ∧ Below w0.heap.size w0 wr) (fun _ i _ => l.length - (intOf i).toNat)
 case atStart => exact ⟨0, VA ++ Ay l.length, Aj _, rfl, HO3.out, hid (by simp [Eg]), ⟨_, _, by rw [hl3]⟩, HB3.out⟩
 case round =>
  obtain ⟨k, J, hk, rfl, hown, hJ, ⟨aJ, cJ, rfl⟩, hb⟩ := hrel
  have HBW := hid (HB0.out.trans (hb.mono HB0.out.size))
  have HO := hid hown
  have hz := hb.size
  have Z2 := (hb.cell (p := ⟨w.heap.size, 2, none⟩) hs0).trans x2
  rcases Bd k l.length with hlt | hge
  ·obtain ⟨b, o, hA, hbb, ak, ck, u0, xl⟩ := EO HL.out hlt
   subst hA;have hst := HNS.out k hlt
   have hmo := HMO.out (k + 1)
   rw [hst, Ag] at hmo
   have hno := HNO.out k hlt
   have hsb : D4 l[k] = Ay l[k].length ++ Gg l[k] := rfl
   have hsl : (D4 l[k]).length = (Ay l[k].length).length + (Gg l[k]).length := by rw [hsb, Ag]
   have hJ1 : J ++ Ay l[k].length ++ Gg l[k] = VA ++ Ay l.length ++ Eg (l.take (k + 1)) := by rw [hst, hsb, hJ.out]; simp only [Av]
   have hJl : J.length + (Gg l[k]).length ≤ 20000000 := zBc
   have HJ1 := hid hJ1
   have HXL := hid xl
   have i1 : (k : Int) < (l.length : Int) := zC
   have d1 : decide ((k : Int) < (l.length : Int)) = true := Ae i1
   have U0 := (HBW.out.cell (p := ⟨b, o + k, none⟩) hbb).trans u0
   have hb2 : b < w0.heap.size := Ai hbb HB0.out.size
   generalize l[k] = X at *
   have hx8 := hno.1
   have HRI := hid hno.2
   have HBY := hid (fun (W : World) (hW : Below w.heap.size w W) => KF W X ak _ ck (lift HXL.out hW) HRI.out zC)
   have HOU := hid (AI (Gg X))
   have hvx := Di (x := X.length) zC
   generalize Gg X = UX at *
   clear hown hJ hmo hsb hsl hJ1 xl hno hst hbb u0;go_wp2_with (at_builtin; go_loud (refine Aq rfl _ _ _ rfl w0.heap.size 5 i0 (.int .u8 0) 1 1 As hi hz0 hz1 hz2 rfl zP (.slice aJ J.length cJ) J.length (byteCells J) rfl (AD HO.out zA) (some ⟨wr.heap.size, 0, none⟩) (1) (1) [.int .u8 (X.length : Int)] rfl (Bx wr _ _ rfl rfl rfl) zW zK zC zJ ?_; intro v' w5 hown5 hgrow5 hat5; obtain ⟨a5, c5, rfl⟩ := AA hown5; have HO5 := hid (BS.Ur zC hown5); have hbg5 : Below w0.heap.size (wr.alloc (.cells #[.int .u8 (X.length : Int)] 5)) w5 := (Below.grown (Below.refl _ _) hgrow5 zJ (fun g e => (C6 (AD HO.out zA) g e).1)); have hb5 : Below w0.heap.size wr w5 := (((Below.refl _ _).alloc hz _).trans hbg5); have Z5 := (hb5.cell (p := ⟨w.heap.size, 2, none⟩) hs0).trans Z2; have U5 := (hb5.cell (p := ⟨b, o + k, none⟩) hb2).trans U0; clear hown5 hgrow5 hat5))
   have hz5 := hb5.size
   have hln : (J ++ Ay X.length).length = J.length + 1 := by rw [Ag, hvx]
   generalize J ++ Ay X.length = J5 at *
   have HP5 := hid (HO5.out)
   rw [← hln] at HP5 ⊢
   have hJ5 : J5.length + UX.length ≤ 20000001 := zC
   have hbw5 := hb.trans hb5
   have HBW5 := hid (HB0.out.trans (hbw5.mono HB0.out.size))
   have HBX := hid (HBY.out w5 HBW5.out)
   clear hln hb5 hbg5;refine HBX.out.mono ?_
   rintro r w6 ⟨v6, rfl, hv6, hb6⟩;obtain ⟨a6, c6, rfl⟩ := AA hv6
   have HS6 := hid (A5 (BJ rfl hv6))
   have HO6 := hid (AD HP5.out hb6)
   have hz6 := hb6.size
   clear hv6 Z5 U5;go_wp2_with (at_builtin; go_loud (refine Aq rfl _ _ _ rfl w0.heap.size 5 i0 (.int .u8 0) 1 1 As hi hz0 hz1 hz2 rfl zP (.slice a5 J5.length c5) J5.length (byteCells J5) rfl (HO6.out) (a6) (UX.length) (c6) (byteCells UX) rfl (HS6.out) HOU.out zK zC zC ?_; intro v' w7 hown7 hgrow7 hat7; obtain ⟨a7, c7, rfl⟩ := AA hown7; have HO7 := hid (BS.app hown7); have hbg7 : Below w0.heap.size w6 w7 := (Below.grown (Below.refl _ _) hgrow7 zC (fun g e => (C6 (HO6.out) g e).1)); clear hown7 hgrow7 hat7))
   have hbe : Below w0.heap.size w0 w7 := hbw5.trans ((hb6.mono zC).trans hbg7)
   go_roundw
   case rel => exact ⟨k + 1, J5 ++ UX, zC, zV, HO7.out, HJ1, ⟨_, _, ZA⟩, hbe⟩
   case measure => (simp [intOf]; try omega)
  ·obtain rfl : k = l.length := by omega
   have d1 : decide ((l.length : Int) < (l.length : Int)) = false := Ad zC
   have hfin : Hid (J = VA ++ Ay l.length ++ Eg l) := hid zA1
   have HOL := hid (Gn HO.out (Nat.le_of_lt hs0))
   clear hown hJ;go_wp2_with fail;go_ret;rw [← hfin.out]
   exact ⟨_, rfl, HOL.out, HBW.out⟩
theorem Oy (w : World) (p : El) (al : Option Addr) (nl cl : Nat) (h0 : inU p.epoch) (hl : Bg.r (· < w.heap.size) w [.slice al nl cl] p.stripes) (hR : CA p = true) :
  Calls Tryz.prog 109 #[.agg #[.int .u64 p.epoch, .slice al nl cl]] w fun r w' => ∃ v, r = .returned v ∧ BS w' w.heap.size v (DI p) ∧ Below w.heap.size w w' := by
 obtain ⟨rfl, hm, _, _⟩ := AS hl
 obtain ⟨i0, hi, hz0, hz1, hz2⟩ := A8 Dz
 have hlen := LJ hR
 have hR' := hR
 simp only [CA, Ao, Ar] at hR'
 obtain ⟨g1, ⟨g2, g3⟩, g4⟩ := hR'
 have HNO := hid (fun (k : Nat) (hk : k < p.stripes.length) => IB _ _ g4 p.stripes[k] (Bl hk))
 have HNS := hid (fun (k : Nat) (hk : k < p.stripes.length) => IG p.stripes k hk)
 have HMO := hid (fun k => GS p.stripes k)
 have hbb : DI p = Ay p.epoch.toNat ++ Ay p.stripes.length ++ Ck p.stripes := rfl
 rw [hbb] at hlen ⊢
 simp only [Ag] at hlen
 have HV := hid (Ff p.epoch h0)
 obtain ⟨ep, l⟩ := p
 dsimp only at *;have HL := hid hl
 have HOV := hid (AI (Ay ep.toNat))
 generalize Ay ep.toNat = VA at *
 have hvl := Di (x := l.length) zC
 rw [hvl] at hlen
 have hVA : VA.length ≤ 47380 := zC
 have HWL : Hid (IntKind.u8.wrap (l.length : Int) = (l.length : Int)) := hid (by rw [IntKind.wrap_u8]; omega)
 have x0 : (w.alloc (.cells #[.int .u64 ep, .slice al l.length cl] 30)).cell? ⟨w.heap.size, 0, none⟩ = some (.int .u64 ep) := zO
 have x1 : (w.alloc (.cells #[.int .u64 ep, .slice al l.length cl] 30)).cell? ⟨w.heap.size, 1, none⟩ = some (.slice al l.length cl) := zO
 have hb0 : Below w.heap.size w (w.alloc (.cells #[.int .u64 ep, .slice al l.length cl] 30)) := zB
 have hs0 : w.heap.size < (w.alloc (.cells #[.int .u64 ep, .slice al l.length cl] 30)).heap.size := zO
 clear hl hR hbb g1 g4;go_enter Tryz.func109, Tryz.ntmps109
 go_upto_region 1 with (fail)
 generalize w.alloc (.cells #[.int .u64 ep, .slice al l.length cl] 30) = w0 at *
 have HB0 := hid hb0
 clear hb0;go_cut [3] from 5 to 13 (fun v V => ∃ a3 c3, v = .slice a3 (VA.length + 1) c3 ∧ BS V w0.heap.size v (VA ++ Ay l.length) ∧ Below w0.heap.size w0 V)
 case first =>
  refine Cd (S := fun w' => w'.cell? ⟨w.heap.size, 0, none⟩ = some (.int .u64 ep) ∧ w'.cell? ⟨w.heap.size, 1, none⟩ = some (.slice al l.length cl)) zG ⟨x0, x1⟩ (fun hHeld => ?_)
  refine Ap (i := 0) (oi := _) (v := ?_) rfl zE zE zE (fun _ _ _ h => h) (Or.inl ⟨zT, ?_⟩) zM ?_
  rotate_left
  ·(intro w hSw; (try dsimp only at hSw); go_simp <;> with_reducible rfl)
  (try simp only [Act.put, Aa, Ab, Ac])
  refine Ap (i := 1) (oi := _) (v := ?_) rfl zE zE zE (fun _ _ _ h => h) (Or.inl ⟨zT, ?_⟩) zM ?_
  rotate_left
  ·(intro w hSw; (try dsimp only at hSw); go_simp <;> with_reducible rfl)
  (try simp only [Act.put, Aa, Ab, Ac])
  refine Ap (i := 3) (oi := _) (v := ?_) rfl zE zE zE (fun _ _ _ h => h) (Or.inl ⟨zT, ?_⟩) zM ?_
  rotate_left
  ·(intro w hSw; (try dsimp only at hSw); go_simp <;> with_reducible rfl)
  (try simp only [Act.put, Aa, Ab, Ac])
  refine Ap (i := 4) (oi := _) (v := ?_) rfl zE zE zE (fun _ _ _ h => h) (Or.inl ⟨zT, ?_⟩) zM ?_
  rotate_left
  ·(intro w hSw; (try dsimp only at hSw); go_simp <;> with_reducible rfl)
  (try simp only [Act.put, Aa, Ab, Ac])
  refine Ap (i := 5) (oi := _) (v := ?_) rfl zE zE zE (fun _ _ _ h => h) (Or.inl ⟨zT, ?_⟩) zM ?_
  rotate_left
  ·(intro w hSw; (try dsimp only at hSw); go_simp <;> with_reducible rfl)
  (try simp only [Act.put, Aa, Ab, Ac])
  refine Ap (i := 6) (oi := _) (v := ?_) rfl zE zE zE (fun _ _ _ h => h) (Or.inl ⟨zT, ?_⟩) zM ?_
  rotate_left
  ·(intro w hSw; (try dsimp only at hSw); go_simp <;> with_reducible rfl)
  (try simp only [Act.put, Aa, Ab, Ac])
  rw [HWL.out]
  refine AP (rs := [2, 7]) zE zO ?_
  refine AG (o := _) rfl (fun K hK => ?_) (AG (o := _) rfl (fun K hK => ?_) AllReadyH.nil)
  ·go_simp
   go_at_call 104
   refine (HV.out _).mono ?_
   rintro e1 w1 ⟨v1, rfl, hv1, hb1⟩;obtain ⟨a1, c1, rfl⟩ := AA hv1
   have HO1 := hid hv1
   have hb01 : Below w0.heap.size w0 w1 := Af hb1 (Below.refl _ _).drew
   have X0 := (hb01.cell (p := ⟨w.heap.size, 0, none⟩) hs0).trans x0
   have X1 := (hb01.cell (p := ⟨w.heap.size, 1, none⟩) hs0).trans x1
   have hz1s := hb01.size
   clear hv1 hb1;refine hK.out _ _ ?_ (fun hHeld => ?_)
   ·((try dsimp only); first | assumption | (refine ⟨?_, ?_⟩ <;> (first | assumption | (go_keep; done))))
   clear hK K
   (try simp only [Act.put, Aa, Ab, Ac])
   refine AP (rs := [7]) zE zO ?_
   refine AG (o := _) rfl (fun K hK => ?_) AllReadyH.nil
   go_simp
   refine hK.out _ _ ?_ (fun hHeld => ?_)
   ·((try dsimp only); first | assumption | (refine ⟨?_, ?_⟩ <;> (first | assumption | (go_keep; done))))
   clear hK K
   (try simp only [Act.put, Aa, Ab, Ac])
   refine AP (rs := [8]) zE zO ?_
   refine AG (o := _) rfl (fun K hK => ?_) AllReadyH.nil
   (refine BI zT _ _ _ zT w0.heap.size 5 i0 (.int .u8 0) 1 1 As hi hz0 hz1 hz2 rfl zP (.slice a1 VA.length c1) VA.length (byteCells VA) zT (AD HO1.out zA) (some ⟨w1.heap.size, 0, none⟩) (1) (1) [.int .u8 (l.length : Int)] zT (Bx w1 _ _ rfl rfl rfl) zW zK zC zJ ?_; intro a3 c3 w3 hown3 hgrow3 hat3; have HO3 := hid (BS.Ur zC hown3); have hbg3 : Below w0.heap.size (w1.alloc (.cells #[.int .u8 (l.length : Int)] 5)) w3 := (Below.grown (Below.refl _ _) hgrow3 zJ (fun g e => (C6 (AD HO1.out zA) g e).1)); clear hown3 hgrow3 hat3; have hb3 : Below w0.heap.size w0 w3 := hb01.trans (((Below.refl _ _).alloc hz1s _).trans hbg3); have Y0 := (hb3.cell (p := ⟨w.heap.size, 0, none⟩) hs0).trans x0; have Y1 := (hb3.cell (p := ⟨w.heap.size, 1, none⟩) hs0).trans x1)
   refine hK.out _ _ ?_ (fun hHeld => ?_)
   ·((try dsimp only); first | assumption | (refine ⟨?_, ?_⟩ <;> (first | assumption | (go_keep; done))))
   clear hK K
   (try simp only [Act.put, Aa, Ab, Ac])
   refine Ap (i := 9) (oi := _) (v := ?_) rfl zE zE zE (fun _ _ _ h => h) (Or.inl ⟨zT, ?_⟩) zM ?_
   rotate_left
   ·(intro w hSw; (try dsimp only at hSw); go_simp <;> with_reducible rfl)
   (try simp only [Act.put, Aa, Ab, Ac])
   simp only [AJ, AB, Az, Act.put, Aa, Ab, Ac]
   refine CG zG ?_ _
   go_wp2_with fail;go_meet
   case rel => exact ⟨a3, c3, rfl, zBe, hb3⟩
  ·go_simp
   refine hK.out _ _ ?_ (fun hHeld => ?_)
   ·((try dsimp only); first | assumption | (refine ⟨?_, ?_⟩ <;> (first | assumption | (go_keep; done))))
   clear hK K
   (try simp only [Act.put, Aa, Ab, Ac])
   refine AP (rs := [2]) zE zO ?_
   refine AG (o := _) rfl (fun K hK => ?_) AllReadyH.nil
   (go_simp; go_at_call 104; refine (HV.out _).mono ?_; rintro e1 w1 ⟨v1, rfl, hv1, hb1⟩; obtain ⟨a1, c1, rfl⟩ := AA hv1; have hb01 : Below w0.heap.size w0 w1 := Af hb1 zA; have HO1 := hid (Gn hv1 zO : BS w1 w0.heap.size _ VA); have HBX := hid ((Blk.newAt (w0.drew) 5 #[.int .u8 (l.length : Int)] (g := w0.heap.size) rfl).later hb1); have X0 := (hb01.cell (p := ⟨w.heap.size, 0, none⟩) hs0).trans x0; have X1 := (hb01.cell (p := ⟨w.heap.size, 1, none⟩) hs0).trans x1; have hz1s := hb01.size; clear hv1 hb1)
   refine hK.out _ _ ?_ (fun hHeld => ?_)
   ·((try dsimp only); first | assumption | (refine ⟨?_, ?_⟩ <;> (first | assumption | (go_keep; done))))
   clear hK K
   (try simp only [Act.put, Aa, Ab, Ac])
   refine AP (rs := [8]) zE zO ?_
   refine AG (o := _) rfl (fun K hK => ?_) AllReadyH.nil
   (refine BI zT _ _ _ zT w0.heap.size 5 i0 (.int .u8 0) 1 1 As hi hz0 hz1 hz2 rfl zP (.slice a1 VA.length c1) VA.length (byteCells VA) zT (HO1.out) (some ⟨w0.heap.size, 0, none⟩) (1) (1) [.int .u8 (l.length : Int)] zT (Th HBX.out rfl) zW zK zC zC ?_; intro a3 c3 w3 hown3 hgrow3 hat3; have HO3 := hid (BS.Ur zC hown3); have hbg3 : Below w0.heap.size w1 w3 := (Below.grown (Below.refl _ _) hgrow3 zC (fun g e => (C6 (HO1.out) g e).1)); clear hown3 hgrow3 hat3; have hb3 : Below w0.heap.size w0 w3 := hb01.trans hbg3; have Y0 := (hb3.cell (p := ⟨w.heap.size, 0, none⟩) hs0).trans x0; have Y1 := (hb3.cell (p := ⟨w.heap.size, 1, none⟩) hs0).trans x1)
   refine hK.out _ _ ?_ (fun hHeld => ?_)
   ·((try dsimp only); first | assumption | (refine ⟨?_, ?_⟩ <;> (first | assumption | (go_keep; done))))
   clear hK K
   (try simp only [Act.put, Aa, Ab, Ac])
   refine Ap (i := 9) (oi := _) (v := ?_) rfl zE zE zE (fun _ _ _ h => h) (Or.inl ⟨zT, ?_⟩) zM ?_
   rotate_left
   ·(intro w hSw; (try dsimp only at hSw); go_simp <;> with_reducible rfl)
   (try simp only [Act.put, Aa, Ab, Ac])
   simp only [AJ, AB, Az, Act.put, Aa, Ab, Ac]
   refine CG zG ?_ _
   go_wp2_with fail;go_meet
   case rel => exact ⟨a3, c3, rfl, zBe, hb3⟩
 case rest =>
  obtain ⟨a3, c3, rfl, hown3, hb3⟩ := hcut
  have HO3 := hid hown3
  have HB3 := hid hb3
  have hl3 : (VA ++ Ay l.length).length = VA.length + 1 := by rw [Ag, hvl]
  clear hown3 hb3;go_wp2_with fail;go_loopw [3, 4] (fun v i wr => ∃ (k : Nat) (J : List UInt8), k ≤ l.length ∧ i = .int .i64 k ∧ BS wr w0.heap.size v J ∧ Hid (J = VA ++ Ay l.length ++ Ck (l.take k)) ∧ (∃ aJ cJ, v = .slice aJ J.length cJ) ∧ Below w0.heap.size w0 wr) (fun _ i _ => l.length - (intOf i).toNat)
  case atStart => exact ⟨0, VA ++ Ay l.length, Aj _, rfl, HO3.out, hid (by simp [Ck]), ⟨_, _, by rw [hl3]⟩, HB3.out⟩
  case round =>
   obtain ⟨k, J, hk, rfl, hown, hJ, ⟨aJ, cJ, rfl⟩, hb⟩ := hrel
   have HBW := hid (HB0.out.trans (hb.mono HB0.out.size))
   have HO := hid hown
   have hz := hb.size
   have Z1 := (hb.cell (p := ⟨w.heap.size, 1, none⟩) hs0).trans x1
   rcases Bd k l.length with hlt | hge
   ·obtain ⟨b, o, hA, hbb, ak, ck, u0, u1, u2, ub0, ub1, xl⟩ := DG HL.out hlt
    subst hA;have hst := HNS.out k hlt
    have hmo := HMO.out (k + 1)
    rw [hst, Ag] at hmo
    have HRI := hid (HNO.out k hlt)
    have hJ1 : J ++ CN l[k] = VA ++ Ay l.length ++ Ck (l.take (k + 1)) := zCj
    have hJl : J.length + (CN l[k]).length ≤ 20000000 := zBc
    have HJ1 := hid hJ1
    have HXL := hid xl
    have i1 : (k : Int) < (l.length : Int) := zC
    have d1 : decide ((k : Int) < (l.length : Int)) = true := Ae i1
    have U0 := (HBW.out.cell (p := ⟨b, o + k * 3, none⟩) hbb).trans u0
    have U1 := (HBW.out.cell (p := ⟨b, o + k * 3 + 1, none⟩) hbb).trans u1
    have U2 := (HBW.out.cell (p := ⟨b, o + k * 3 + 2, none⟩) hbb).trans u2
    generalize l[k] = X at *
    have HU := hid (And.intro ub0 ub1)
    have HBY := hid (fun (W : World) (hW : Below w.heap.size w W) => OC W X ak _ ck HU.out.1 HU.out.2 (lift HXL.out hW) HRI.out)
    have HOU := hid (AI (CN X))
    generalize CN X = UX at *
    have HBX := hid (HBY.out wr HBW.out)
    clear hown hJ hmo hJ1 xl hst hbb u0 u1 u2 ub0 ub1 HBY;go_wp2_with fail;refine HBX.out.mono ?_
    rintro r w6 ⟨v6, rfl, hv6, hb6⟩;obtain ⟨a6, c6, rfl⟩ := AA hv6
    have HS6 := hid (A5 (BJ rfl hv6))
    have HO6 := hid (AD HO.out hb6)
    have hz6 := hb6.size
    clear hv6 Z1 U0 U1 U2;go_wp2_with (at_builtin; go_loud (refine Aq rfl _ _ _ rfl w0.heap.size 5 i0 (.int .u8 0) 1 1 As hi hz0 hz1 hz2 rfl zP (.slice aJ J.length cJ) J.length (byteCells J) rfl (HO6.out) (a6) (UX.length) (c6) (byteCells UX) rfl (HS6.out) HOU.out zK zC zC ?_; intro v' w7 hown7 hgrow7 hat7; obtain ⟨a7, c7, rfl⟩ := AA hown7; have HO7 := hid (BS.app hown7); have hbg7 : Below w0.heap.size w6 w7 := (Below.grown (Below.refl _ _) hgrow7 zC (fun g e => (C6 (HO6.out) g e).1)); clear hown7 hgrow7 hat7))
    have hbe : Below w0.heap.size w0 w7 := hb.trans ((hb6.mono zC).trans hbg7)
    go_roundw
    case rel => exact ⟨k + 1, J ++ UX, zC, zV, HO7.out, HJ1, ⟨_, _, ZA⟩, hbe⟩
    case measure => (simp [intOf]; try omega)
   ·obtain rfl : k = l.length := by omega
    have d1 : decide ((l.length : Int) < (l.length : Int)) = false := Ad zC
    have hfin : Hid (J = VA ++ Ay l.length ++ Ck l) := hid zA1
    have HOL := hid (Gn HO.out (Nat.le_of_lt hs0))
    clear hown hJ;go_wp2_with fail;go_ret;rw [← hfin.out]
    exact ⟨_, rfl, HOL.out, HBW.out⟩
end Go.Proofs.YtlbffbkbkajciaaGreat
