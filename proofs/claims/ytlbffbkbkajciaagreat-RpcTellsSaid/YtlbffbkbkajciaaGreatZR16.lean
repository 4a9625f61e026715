/- Mini: Needed by rpcTells_walk, part 16: texts put together by shake.py; no condition. -/
import Derived.Test.YtlbffbkbkajciaaGreatZR8
import Derived.Test.YtlbffbkbkajciaaGreatZR6
import Derived.Test.YtlbffbkbkajciaaGreatZR4
import Derived.Test.YtlbffbkbkajciaaGreatZR3
import Derived.Test.YtlbffbkbkajciaaGreatZR2
import Derived.Test.YtlbffbkbkajciaaGreatZR1
import Derived.Deep.Cut
import Derived.Deep.CutRange
import Derived.Test.YtlbffbkbkajciaaGreatZR7
import Derived.Test.YtlbffbkbkajciaaGreatZR15
set_option linter.unusedVariables false
set_option linter.unusedSimpArgs false
set_option maxRecDepth 100000
set_option maxHeartbeats 6400000
namespace Go.Proofs.YtlbffbkbkajciaaGreat
open Go.RowKit Go.Bs Go.Maps
theorem QZ {m : Msg} {d at_ : Nat} (hN : PC m) (hr : Fv m = true) (hs : inU m.seq) (hd : d < 4294967296) (hat : at_ ≤ 8 * (Dl m).length + 32) :
  Pf (Ay (Dl m).length ++ Cq (Dl m ++ Cf 4 (Ct (Dl m))) (d * 2 ^ at_)) = (if Ay (Dl m).length ++ Cq (Dl m ++ Cf 4 (Ct (Dl m))) (d * 2 ^ at_) = CE (Dl m) then (m, true, 0, 0) else (Bc, false, 6, (((Ay (Dl m).length).length + (Dl m).length : Nat) : Int))) := by
 have hback := (Ue hN hr hs).1
 have hP := JW hr
 generalize Dl m = P at *
 by_cases hX : Ay P.length ++ Cq (P ++ Cf 4 (Ct P)) (d * 2 ^ at_) = CE P
 ·rw [Am hX, hX]
  exact hback
 ·rw [An hX]
  have hF : CE P = Ay P.length ++ (P ++ Cf 4 (Ct P)) := by unfold CE Cg; rw [Av]
  rw [hF] at hX
  have hT : Cq (P ++ Cf 4 (Ct P)) (d * 2 ^ at_) ≠ P ++ Cf 4 (Ct P) := fun e => hX (by rw [e])
  have hbt : ¬ Ct (Cq P (d * 2 ^ at_)) = FG (Cq (Cf 4 (Ct P)) (d * 2 ^ at_ / 256 ^ P.length)) := fun e => hT (Ra hd hat e)
  rw [JQ]
  have hl1 := Ga P (d * 2 ^ at_)
  have hl2 := Ga (Cf 4 (Ct P)) (d * 2 ^ at_ / 256 ^ P.length)
  rw [EG] at hl2
  generalize Cq P (d * 2 ^ at_) = P2 at *
  generalize Cq (Cf 4 (Ct P)) (d * 2 ^ at_ / 256 ^ P.length) = S2 at *
  have hB : Ay P.length ++ (P2 ++ S2) = Cg P2 ++ S2 := by unfold Cg; rw [hl1, Av]
  rw [hB]
  have h0 : (Cg P2 ++ S2).drop 0 = Cg P2 ++ S2 := List.drop_zero
  have h1 := Rs.Mf (m := min 2097152 2097152) zC h0 (Aj _) zC
  have h2 := Bi h0
  have hr2 := Bf h0 (Aj _)
  have h3 := Rs.H7 (h2.trans (Gy _).symm) zC
  rw [hl2] at h3
  have h4 : (⟨0 + (Cg P2).length, 0, 0⟩ : Rs).take (Cg P2 ++ S2) 4 = (⟨0 + (Cg P2).length + 4, 0, 0⟩, S2) := h3
  have hfr : (⟨0, 0, 0⟩ : Rs).frame (Cg P2 ++ S2) 2097152 = (⟨(Cg P2).length + 4, 6, ((Cg P2).length : Nat)⟩, []) := by
   unfold Rs.frame;rw [h1]
   dsimp only;rw [h4]
   dsimp only;rw [An hbt]
   have h6 : (⟨0 + (Cg P2).length + 4, 0, 0⟩ : Rs).fail 6 ((0 + (Cg P2).length : Nat) : Int) = ⟨0 + (Cg P2).length + 4, 6, ((0 + (Cg P2).length : Nat) : Int)⟩ := by
    unfold Rs.fail;rw [Am rfl]
   rw [h6]
   dsimp only;rw [An (show ¬ (6 : Int) = 0 by decide), A3]
  have h6 : ¬ (6 : Int) = 0 := zP
  unfold Pf Gf I2 KZ;simp only [hfr, h6, if_false]
  rw [Em, hl1]
theorem VX : EW Tryz.prog 67 (GA .u32) := JY JH
theorem PG {n : Int} (h : (Lit.int .u32 n).wf = true) : 0 ≤ n ∧ n ≤ 4294967295 := by
 simp [Lit.wf, IntKind.min, IntKind.max, IntKind.signed, IntKind.bits] at h; omega
theorem TN {w : World} {base : Nat} {v : Value} {L D : List UInt8} {n : Nat} (hn : D.length = n) (h : w.ownsRow base 5 1 v (L.length + n) (byteCells L ++ byteCells D)) : Ah.r (fun q => base ≤ q ∧ q < w.heap.size) w [v] (L ++ D) := by
 subst hn;exact B9 rfl (BS.app h)
theorem PO {w : World} {S : Nat → Prop} {a : Option Addr} {n c : Nat} {D : List UInt8} (hn : D.length = n) (h : Ah.r S w [.slice a n c] D) : Src w a n 1 (byteCells D) := by
 subst hn;exact A5 h
set_option maxHeartbeats 12800000 in
theorem PX (m : Msg) (a1 : Option Addr) (c1 : Nat) (a2 : Option Addr) (c2 : Nat) (a3 : Option Addr) (c3 : Nat) (a4 : Option Addr) (c4 : Nat) (at_ : Int) (dn : Nat) (w : World) (hm : A2 (· < w.heap.size) w m a1 c1 a2 c2 a3 c3 a4 c4) (hat : -9223372036854775808 ≤ at_ ∧ at_ ≤ 9223372036854775807) (hdn : dn < 4294967296) :
  Calls Tryz.prog 8 #[.agg #[.int .i64 m.kind, .int .u64 m.epoch, .int .u64 m.seq, .int .u64 m.pos, .int .i64 m.count, .int .i64 m.state, .slice a1 m.streams.length c1, .slice a2 m.links.length c2, .slice a3 m.data.length c3, .int .u64 m.sea.epoch, .int .u64 m.sea.node, .int .u64 m.sea.tail, .int .u64 m.proj.epoch, .slice a4 m.proj.stripes.length c4], .int .i64 at_, .int .u32 (dn : Int)] w fun r w' => r = .returned (.bool true) ∧ Below w.heap.size w w' := by
 obtain ⟨i0, hi, hz0, hz1, hz2⟩ := A8 Dz
 have HM := hid hm
 have HLG := hid (fun (W : World) (hW : Below w.heap.size w W) => QC m a1 c1 a2 c2 a3 c3 a4 c4 W (A2.lift hm hW))
 have HRT := hid (fun (W : World) (hW : Below w.heap.size w W) => Om m a1 c1 a2 c2 a3 c3 a4 c4 W (A2.lift hm hW))
 have hb0 : Below w.heap.size w (w.alloc (.cells #[.int .i64 m.kind, .int .u64 m.epoch, .int .u64 m.seq, .int .u64 m.pos, .int .i64 m.count, .int .i64 m.state, .slice a1 m.streams.length c1, .slice a2 m.links.length c2, .slice a3 m.data.length c3, .int .u64 m.sea.epoch, .int .u64 m.sea.node, .int .u64 m.sea.tail, .int .u64 m.proj.epoch, .slice a4 m.proj.stripes.length c4] 32)) := zA
 have HBX : Hid (Blk (w.alloc (.cells #[.int .i64 m.kind, .int .u64 m.epoch, .int .u64 m.seq, .int .u64 m.pos, .int .i64 m.count, .int .i64 m.state, .slice a1 m.streams.length c1, .slice a2 m.links.length c2, .slice a3 m.data.length c3, .int .u64 m.sea.epoch, .int .u64 m.sea.node, .int .u64 m.sea.tail, .int .u64 m.proj.epoch, .slice a4 m.proj.stripes.length c4] 32)) w.heap.size 32 #[.int .i64 m.kind, .int .u64 m.epoch, .int .u64 m.seq, .int .u64 m.pos, .int .i64 m.count, .int .i64 m.state, .slice a1 m.streams.length c1, .slice a2 m.links.length c2, .slice a3 m.data.length c3, .int .u64 m.sea.epoch, .int .u64 m.sea.node, .int .u64 m.sea.tail, .int .u64 m.proj.epoch, .slice a4 m.proj.stripes.length c4]) := hid zD
 obtain ⟨u0, u1, u2, u3, u4, u5, u6, u7, u8, u9, u10, u11, u12, u13, _⟩ := Bt HBX.out
 cases hL : Kb m
 ·rw [hL] at HLG
  have hs := Sw hL
  cases hR : Fv m
  ·rw [hR] at HRT
   clear hm hL hs hR;go_enter Tryz.func8, Tryz.ntmps8
   go_wp2_with fail;generalize (w.alloc (.cells #[.int .i64 m.kind, .int .u64 m.epoch, .int .u64 m.seq, .int .u64 m.pos, .int .i64 m.count, .int .i64 m.state, .slice a1 m.streams.length c1, .slice a2 m.links.length c2, .slice a3 m.data.length c3, .int .u64 m.sea.epoch, .int .u64 m.sea.node, .int .u64 m.sea.tail, .int .u64 m.proj.epoch, .slice a4 m.proj.stripes.length c4] 32)) = w0 at *
   refine (HLG.out _ hb0).mono ?_
   rintro r w1 ⟨rfl, hb1⟩;have B1 := HBX.out.later hb1
   have hbw1 := Af hb1 hb0
   clear u0 u1 u2 u3 u4 u5 u6 u7 u8 u9 u10 u11 u12 u13;obtain ⟨u0, u1, u2, u3, u4, u5, u6, u7, u8, u9, u10, u11, u12, u13, _⟩ := Bt B1
   go_wp2_with fail;refine (HRT.out _ hbw1).mono ?_
   rintro r w2 ⟨rfl, hb2⟩;have B2 := B1.later hb2
   have hbw2 := Af hb2 hbw1
   clear u0 u1 u2 u3 u4 u5 u6 u7 u8 u9 u10 u11 u12 u13;clear hb1 hb2 B1;go_wp2_with fail;refine (NK _).mono ?_
   rintro r w99 ⟨rfl, hb99⟩;have hbe := Af hb99 hbw2
   go_wp2;go_ret;exact ⟨rfl, hbe⟩
  ·rw [hR] at HRT
   have hbk : ∀ x ∈ m.links, x.backs.length ≤ 1000000 := fun x hx => by have := hs.backs x hx; omega
   have hdl := hs.data
   have HBY := hid (fun (W : World) (hW : Below w.heap.size w W) => MI W m a1 c1 a2 c2 a3 c3 a4 c4 (A2.lift hm hW) hbk zC)
   rw [show Gi m = (CE (Dl m), 0) by unfold Gi; rw [Am hR]] at HBY
   have HPY := hid (fun (W : World) (hW : Below w.heap.size w W) => Mn W m a1 c1 a2 c2 a3 c3 a4 c4 (A2.lift hm hW) hbk hR)
   have hdt := fun (k : Nat) (hk : k ≤ 8 * (Dl m).length + 32) => QZ (d := dn) (at_ := k) (TT hm) hR hm.seq hdn hk
   have hP := LK hR
   have hFE : CE (Dl m) = Ay (Dl m).length ++ (Dl m ++ Cf 4 (Ct (Dl m))) := by unfold CE Cg; rw [Av]
   have hV1 := AX (Dl m).length
   have hGL : (Dl m ++ Cf 4 (Ct (Dl m))).length = (Dl m).length + 4 := by rw [Ag, EG]
   generalize Dl m = P at *
   generalize P ++ Cf 4 (Ct P) = G at *
   generalize Ay P.length = V at *
   generalize CE P = F at *
   have hFl : F.length = V.length + G.length := by rw [hFE, Ag]
   have HHD : Hid ((F.length : Int) - 4 - (P.length : Int) = (V.length : Int)) := hid zC
   have HTAKE : Hid (F.take V.length = V) := hid (by rw [hFE, List.take_left])
   have HDROP : Hid (F.drop V.length = G) := hid (by rw [hFE, List.drop_left])
   have HDT := hid hdt
   have HFL := hid hFl
   have HGL := hid hGL
   have hfle : F.length ≤ V.length + G.length := Nat.le_of_eq hFl
   have hfge : V.length + G.length ≤ F.length := Nat.le_of_eq hFl.symm
   have hgle : G.length ≤ P.length + 4 := Nat.le_of_eq hGL
   have hgge : P.length + 4 ≤ G.length := Nat.le_of_eq hGL.symm
   clear hm hL hs hR hdt hFE hFl hGL HFL HGL;go_enter Tryz.func8, Tryz.ntmps8
   go_wp2_with fail;generalize (w.alloc (.cells #[.int .i64 m.kind, .int .u64 m.epoch, .int .u64 m.seq, .int .u64 m.pos, .int .i64 m.count, .int .i64 m.state, .slice a1 m.streams.length c1, .slice a2 m.links.length c2, .slice a3 m.data.length c3, .int .u64 m.sea.epoch, .int .u64 m.sea.node, .int .u64 m.sea.tail, .int .u64 m.proj.epoch, .slice a4 m.proj.stripes.length c4] 32)) = w0 at *
   refine (HLG.out _ hb0).mono ?_
   rintro r w1 ⟨rfl, hb1⟩;have B1 := HBX.out.later hb1
   have hbw1 := Af hb1 hb0
   clear u0 u1 u2 u3 u4 u5 u6 u7 u8 u9 u10 u11 u12 u13;obtain ⟨u0, u1, u2, u3, u4, u5, u6, u7, u8, u9, u10, u11, u12, u13, _⟩ := Bt B1
   go_wp2_with fail;refine (HRT.out _ hbw1).mono ?_
   rintro r w2 ⟨rfl, hb2⟩;have B2 := B1.later hb2
   have hbw2 := Af hb2 hbw1
   clear u0 u1 u2 u3 u4 u5 u6 u7 u8 u9 u10 u11 u12 u13;clear hb1 hb2 B1;obtain ⟨u0, u1, u2, u3, u4, u5, u6, u7, u8, u9, u10, u11, u12, u13, _⟩ := Bt B2
   go_wp2_with fail;refine (HBY.out _ hbw2).mono ?_
   rintro r w3 ⟨v3, rfl, hr3, hb3⟩;obtain ⟨aF, cF, hfv, hr3', _⟩ := AN hr3
   simp only [Au, AO] at hfv
   subst hfv;have B3 := B2.later hb3
   have hbw3 := Af hb3 hbw2
   have HF3 := hid (Ah.mono hr3' (S' := (· < w3.heap.size)) fun q hq => hq.2)
   clear u0 u1 u2 u3 u4 u5 u6 u7 u8 u9 u10 u11 u12 u13;clear hr3 hr3' hb3 B2 hbw2;obtain ⟨u0, u1, u2, u3, u4, u5, u6, u7, u8, u9, u10, u11, u12, u13, _⟩ := Bt B3
   go_wp2_with fail;refine (HPY.out _ hbw3).mono ?_
   rintro r w4 ⟨v4, rfl, ho4, hb4⟩;obtain ⟨aP, cP, rfl⟩ := AA ho4
   have HB4 := hid (B3.later hb4)
   have hbw4 := Af hb4 hbw3
   have HF4 := hid (lift HF3.out hb4)
   clear u0 u1 u2 u3 u4 u5 u6 u7 u8 u9 u10 u11 u12 u13;clear ho4 hb4 B3 hbw3 HF3;go_upto_region 6 with (fail)
   rw [HHD.out]
   have dh : decide ((V.length : Int) < 1) = false := Ad zC
   go_upto_region 8 with (fail)
   go_cut [1] from 41 to 48 (fun v W => (∃ k : Nat, k ≤ 8 * P.length + 31 ∧ v = .int .i64 k) ∧ Hid (W = w4))
   case first =>
    by_cases g1 : 0 ≤ at_
    ·have d1 : decide (0 ≤ at_) = true := Ae g1
     by_cases g2 : 8 * ((P.length : Int) + 4) - 1 < at_
     ·have d2 : decide (8 * ((P.length : Int) + 4) - 1 < at_) = true := Ae g2
      go_wp2_with fail;go_meet
      case rel => exact ⟨⟨8 * P.length + 31, zC, D8 _ zC⟩, hid rfl⟩
     ·have d2 : decide (8 * ((P.length : Int) + 4) - 1 < at_) = false := Ad g2
      go_wp2_with fail;go_meet
      case rel => exact ⟨⟨at_.toNat, zC, D8 _ zC⟩, hid rfl⟩
    ·have d1 : decide (0 ≤ at_) = false := Ad g1
     go_wp2_with fail;go_meet
     case rel => exact ⟨⟨0, zC, rfl⟩, hid rfl⟩
   case rest =>
    obtain ⟨⟨k, hk, rfl⟩, hV⟩ := hcut
    have hV' := hV.out.symm
    subst hV';clear hV dh;have hdk := HDT.out k zC
    obtain ⟨hsl1, hrd1⟩ := Uf HF4.out (n := V.length) zC
    obtain ⟨aG, cG, hsl2, hrd2⟩ := VI HF4.out (lo := V.length) zC
    rw [HTAKE.out] at hrd1
    rw [HDROP.out] at hrd2
    rw [show F.length - V.length = G.length by omega] at hsl2 hrd2
    have HTN0 := fun (W : World) (hW : Below w4.heap.size w4 W) => Qe G aG _ cG W (lift hrd2 hW) zC k dn zC hdn
    have hTL : (Cq G (dn * 2 ^ k)).length = G.length := Ga _ _
    generalize Cq G (dn * 2 ^ k) = TG at *
    have HTL := hid hTL
    have HTN := hid HTN0
    have HSV := hid hrd1
    have HONEV := hid (AI V)
    have HONET := hid (AI TG)
    have HDK := hid hdk
    have HBD : Hid (Below w4.heap.size w4 w4.drew) := hid (Below.refl _ _).drew
    have hwd : w4.heap.size ≤ w4.drew.heap.size := Ak _
    have hk64 : k ≤ 10000000000 := zC
    clear hdk hTL HTN0 hrd1 hrd2;go_upto_region 9 with (fail)
    go_cut [11] from 49 to 94 (fun v W => ∃ a6 c6, v = .slice a6 (V.length + G.length) c6 ∧ Ah.r (· < W.heap.size) W [.slice a6 (V.length + G.length) c6] (V ++ TG) ∧ Below w4.heap.size w4 W)
    case first =>
     refine Cd (S := fun _ => True) zG trivial (fun hHeld => ?_)
     refine Ap (i := 1) (oi := _) (v := ?_) rfl zE zE zE (fun _ _ _ h => h) (Or.inl ⟨zT, ?_⟩) zM ?_
     rotate_left
     ·(intro w hSw; (try dsimp only at hSw); go_simp <;> with_reducible rfl)
     (try simp only [Act.put, Aa, Ab, Ac])
     refine Ap (i := 2) (oi := _) (v := ?_) rfl zE zE zE (fun _ _ _ h => h) (Or.inl ⟨zT, ?_⟩) zM ?_
     rotate_left
     ·(intro w hSw; (try dsimp only at hSw); go_simp <;> with_reducible rfl)
     (try simp only [Act.put, Aa, Ab, Ac])
     refine Ap (i := 3) (oi := _) (v := ?_) rfl zE zE zE (fun _ _ _ h => h) (Or.inl ⟨zT, ?_⟩) zM ?_
     rotate_left
     ·(intro w hSw; (try dsimp only at hSw); go_simp <;> with_reducible rfl)
     (try simp only [Act.put, Aa, Ab, Ac])
     refine Ap (i := 5) (oi := _) (v := ?_) rfl zE zE zE (fun _ _ _ h => h) (Or.inl ⟨zT, ?_⟩) zM ?_
     rotate_left
     ·(intro w hSw; (try dsimp only at hSw); go_simp <;> with_reducible rfl)
     (try simp only [Act.put, Aa, Ab, Ac])
     refine Ap (i := 6) (oi := _) (v := ?_) rfl zE zE zE (fun _ _ _ h => h) (Or.inl ⟨zT, ?_⟩) zM ?_
     rotate_left
     ·(intro w hSw; (try dsimp only at hSw); go_simp <;> with_reducible rfl)
     (try simp only [Act.put, Aa, Ab, Ac])
     refine Ap (i := 7) (oi := _) (v := ?_) rfl zE zE zE (fun _ _ _ h => h) (Or.inl ⟨zT, ?_⟩) zM ?_
     rotate_left
     ·(intro w hSw; (try dsimp only at hSw); go_simp <;> with_reducible rfl)
     (try simp only [Act.put, Aa, Ab, Ac])
     refine Ap (i := 8) (oi := _) (v := ?_) rfl zE zE zE (fun _ _ _ h => h) (Or.inl ⟨zT, ?_⟩) zM ?_
     rotate_left
     ·(intro w hSw; (try dsimp only at hSw); go_simp <;> with_reducible rfl)
     (try simp only [Act.put, Aa, Ab, Ac])
     refine Ap (i := 9) (oi := _) (v := ?_) rfl zE zE zE (fun _ _ _ h => h) (Or.inl ⟨zT, ?_⟩) zM ?_
     rotate_left
     ·(intro w hSw; (try dsimp only at hSw); go_simp <;> with_reducible rfl)
     (try simp only [Act.put, Aa, Ab, Ac])
     generalize w4.drew = wd at *
     refine AP (rs := [0]) zE zO ?_
     refine AG (o := _) rfl (fun K hK => ?_) AllReadyH.nil
     (go_simp)
     refine hK.out _ _ ?_ (fun hHeld => ?_)
     ·trivial
     clear hK K
     (try simp only [Act.put, Aa, Ab, Ac])
     have HE1 := hid (EI (base := w4.heap.size) (e := 5) (size := 1) wd HBD.out.size (g := wd.heap.size) rfl)
     have HB1 := hid (HBD.out.alloc HBD.out.size (.cells #[] 5))
     have hzz1 : wd.heap.size < (wd.alloc (.cells #[] 5)).heap.size := zO
     generalize wd.alloc (.cells #[] 5) = v1 at *
     refine AP (rs := [4]) zE zO ?_
     refine AG (o := _) rfl (fun K hK => ?_) AllReadyH.nil
     (refine BI zT _ _ _ zT w4.heap.size 5 i0 (.int .u8 0) 1 1 As hi hz0 hz1 hz2 rfl zP (.slice (some ⟨wd.heap.size, 0, none⟩) 0 0) 0 [] zT HE1.out aF V.length cF (byteCells V) zT (A5 (Ah.keep HSV.out fun q hq => HB1.out.block q hq)) HONEV.out zK zC HB1.out.size ?_; intro a5 c5 v2 hown5 hgrow5 hat5; have hq5 := BS.V7 hown5; rw [A3] at hq5 ⊢; have HO2 := hid hq5; clear hq5; have HB2 := hid (Below.grown HB1.out hgrow5 HB1.out.size (fun g e => (HE1.out.lt g e).1)); clear hown5 hgrow5 hat5)
     refine hK.out _ _ ?_ (fun hHeld => ?_)
     ·trivial
     clear hK K
     (try simp only [Act.put, Aa, Ab, Ac])
     refine AP (rs := [10]) zE zO ?_
     refine AG (o := _) rfl (fun K hK => ?_) AllReadyH.nil
     (go_simp; go_at_call 45; refine (HTN.out v2 HB2.out).mono ?_; rintro r v3 ⟨vT, rfl, hownT, hbT⟩; obtain ⟨aT, cT, rfl⟩ := AA hownT; have hT0 := B9 rfl hownT; rw [HTL.out] at hT0 ⊢; have HT3 := hid hT0; clear hT0; have HB3 := hid (Af hbT HB2.out); have hzT := hbT.size; have HQ3 := hid (AD HO2.out hbT); clear hownT hbT)
     refine hK.out _ _ ?_ (fun hHeld => ?_)
     ·trivial
     clear hK K
     (try simp only [Act.put, Aa, Ab, Ac])
     refine AP (rs := [11]) zE zO ?_
     refine AG (o := _) rfl (fun K hK => ?_) AllReadyH.nil
     (refine BI zT _ _ _ zT w4.heap.size 5 i0 (.int .u8 0) 1 1 As hi hz0 hz1 hz2 rfl zP (.slice a5 V.length c5) V.length (byteCells V) zT HQ3.out aT G.length cT (byteCells TG) zT (PO HTL.out HT3.out) HONET.out zK zC HB3.out.size ?_; intro a6 c6 v4 hown6 hgrow6 hat6; have HO4 := hid (TN HTL.out hown6); have HB4 := hid (Below.grown HB3.out hgrow6 HB3.out.size (fun g e => (C6 HQ3.out g e).1)); clear hown6 hgrow6 hat6)
     refine hK.out _ _ ?_ (fun hHeld => ?_)
     ·trivial
     clear hK K
     (try simp only [Act.put, Aa, Ab, Ac])
     refine Ap (i := 12) (oi := _) (v := ?_) rfl zE zE zE (fun _ _ _ h => h) (Or.inl ⟨zT, ?_⟩) zM ?_
     rotate_left
     ·(intro w hSw; (try dsimp only at hSw); go_simp <;> with_reducible rfl)
     (try simp only [Act.put, Aa, Ab, Ac])
     simp only [AJ, AB, Az, Act.put, Aa, Ab, Ac]
     refine CG zG ?_ _
     go_wp2_with fail;go_meet
     case rel => exact ⟨_, _, rfl, Ah.mono HO4.out fun q hq => hq.2, HB4.out⟩
    case rest =>
     obtain ⟨a6, c6, rfl, hx6, hbc⟩ := hcut
     have HB5 := hid (HB4.out.later hbc)
     have HF5 := hid (lift HF4.out hbc)
     have HX5 := hid hx6
     have hbw5 := Af hbc hbw4
     have HXL : Hid (V.length + G.length = (V ++ TG).length) := hid (by rw [Ag, HTL.out])
     clear hbc hbw4 hx6 HF4 HB4 HTN HSV HBD hwd;generalize hXX : V ++ TG = X at *
     have HXX := hid hXX
     have hXL : X.length ≤ 1000000 := by have := HXL.out; omega
     clear hXX;rw [HXL.out] at HX5 ⊢
     by_cases hXF : X = F
     ·have hdd := HDK.out
      rw [Am hXF] at hdd
      have HD := hid (LB wc X a6 _ c6 HX5.out zC hdd)
      subst hXF;clear hdd HDK;go_wp2_with fail;refine HD.out.mono ?_
      rintro r w6 ⟨x1, x1', x2, x2', x3, x3', x4, x4', rfl, hm6, hb6⟩;have X6 := hid (A2.DX hm6 (fun q hq => rfl) (fun q hq => (hq.2 : q < w6.heap.size)))
      have hbA : Below w6.heap.size w6 ((w6.alloc (.cells #[.int .i64 m.kind, .int .u64 m.epoch, .int .u64 m.seq, .int .u64 m.pos, .int .i64 m.count, .int .i64 m.state, .slice x1 m.streams.length x1', .slice x2 m.links.length x2', .slice x3 m.data.length x3', .int .u64 m.sea.epoch, .int .u64 m.sea.node, .int .u64 m.sea.tail, .int .u64 m.proj.epoch, .slice x4 m.proj.stripes.length x4'] 32)).alloc (.cells #[.int .i64 0, .int .i64 0] 58)) := zA
      have T6 : Hid (Blk ((w6.alloc (.cells #[.int .i64 m.kind, .int .u64 m.epoch, .int .u64 m.seq, .int .u64 m.pos, .int .i64 m.count, .int .i64 m.state, .slice x1 m.streams.length x1', .slice x2 m.links.length x2', .slice x3 m.data.length x3', .int .u64 m.sea.epoch, .int .u64 m.sea.node, .int .u64 m.sea.tail, .int .u64 m.proj.epoch, .slice x4 m.proj.stripes.length x4'] 32)).alloc (.cells #[.int .i64 0, .int .i64 0] 58)) w6.heap.size 32 #[.int .i64 m.kind, .int .u64 m.epoch, .int .u64 m.seq, .int .u64 m.pos, .int .i64 m.count, .int .i64 m.state, .slice x1 m.streams.length x1', .slice x2 m.links.length x2', .slice x3 m.data.length x3', .int .u64 m.sea.epoch, .int .u64 m.sea.node, .int .u64 m.sea.tail, .int .u64 m.proj.epoch, .slice x4 m.proj.stripes.length x4']) := hid zD
      have T8 : Hid (Blk ((w6.alloc (.cells #[.int .i64 m.kind, .int .u64 m.epoch, .int .u64 m.seq, .int .u64 m.pos, .int .i64 m.count, .int .i64 m.state, .slice x1 m.streams.length x1', .slice x2 m.links.length x2', .slice x3 m.data.length x3', .int .u64 m.sea.epoch, .int .u64 m.sea.node, .int .u64 m.sea.tail, .int .u64 m.proj.epoch, .slice x4 m.proj.stripes.length x4'] 32)).alloc (.cells #[.int .i64 0, .int .i64 0] 58)) (w6.heap.size + 1) 58 #[.int .i64 0, .int .i64 0]) := hid zD
      have X7 := hid (A2.lift X6.out hbA)
      have HF7 := hid (lift (lift HF5.out hb6) hbA)
      have HX7 := hid (lift (lift HX5.out hb6) hbA)
      have HB7 := hid ((HB5.out.later hb6).later hbA)
      have hbw7 := Af hbA (Af hb6 hbw5)
      clear hm6 hb6 X6 hbA HD HX5 HF5 HB5 hbw5;have HSM := G7 X X a6 aF _ c6 _ cF _ HX7.out HF7.out
      simp only [decide_true] at HSM
      go_wp2_with fail;generalize ((w6.alloc (.cells #[.int .i64 m.kind, .int .u64 m.epoch, .int .u64 m.seq, .int .u64 m.pos, .int .i64 m.count, .int .i64 m.state, .slice x1 m.streams.length x1', .slice x2 m.links.length x2', .slice x3 m.data.length x3', .int .u64 m.sea.epoch, .int .u64 m.sea.node, .int .u64 m.sea.tail, .int .u64 m.proj.epoch, .slice x4 m.proj.stripes.length x4'] 32)).alloc (.cells #[.int .i64 0, .int .i64 0] 58)) = w7 at *
      refine HSM.mono ?_
      rintro r w7' ⟨rfl, rfl⟩;clear HSM;obtain ⟨fa0, fa1, _⟩ := Cn T8.out
      obtain ⟨ma0, ma1, ma2, ma3, ma4, ma5, ma6, ma7, ma8, ma9, ma10, ma11, ma12, ma13, _⟩ := Bt T6.out
      obtain ⟨u0, u1, u2, u3, u4, u5, u6, u7, u8, u9, u10, u11, u12, u13, _⟩ := Bt HB7.out
      go_wp2_with fail;refine (OQ m w7 x1 x2 x3 x4 a1 a2 a3 a4 x1' x2' x3' x4' c1 c2 c3 c4 X7.out (A2.lift HM.out hbw7)).mono ?_
      rintro r w8 ⟨rfl, hb8⟩;have hbw8 := Af hb8 hbw7
      clear fa0 fa1 ma0 ma1 ma2 ma3 ma4 ma5 ma6 ma7 ma8 ma9 ma10 ma11 ma12 ma13;clear u0 u1 u2 u3 u4 u5 u6 u7 u8 u9 u10 u11 u12 u13;clear hb8 hbw7;go_wp2_with fail;refine (NK _).mono ?_
      rintro r w99 ⟨rfl, hb99⟩;have hbe := Af hb99 hbw8
      go_wp2;go_ret;exact ⟨rfl, hbe⟩
     ·have hdd := HDK.out
      rw [An hXF, show ((V.length + P.length : Nat) : Int) = (V.length : Int) + (P.length : Int) by omega] at hdd
      have HD := hid (LB wc X a6 _ c6 HX5.out zC hdd)
      clear hdd HDK;go_wp2_with fail;refine HD.out.mono ?_
      rintro r w6 ⟨x1, x1', x2, x2', x3, x3', x4, x4', rfl, hm6, hb6⟩;have X6 := hid (A2.DX hm6 (fun q hq => rfl) (fun q hq => (hq.2 : q < w6.heap.size)))
      have hbA : Below w6.heap.size w6 ((w6.alloc (.cells #[.int .i64 Bc.kind, .int .u64 Bc.epoch, .int .u64 Bc.seq, .int .u64 Bc.pos, .int .i64 Bc.count, .int .i64 Bc.state, .slice x1 Bc.streams.length x1', .slice x2 Bc.links.length x2', .slice x3 Bc.data.length x3', .int .u64 Bc.sea.epoch, .int .u64 Bc.sea.node, .int .u64 Bc.sea.tail, .int .u64 Bc.proj.epoch, .slice x4 Bc.proj.stripes.length x4'] 32)).alloc (.cells #[.int .i64 6, .int .i64 ((V.length : Int) + (P.length : Int))] 58)) := zA
      have T6 : Hid (Blk ((w6.alloc (.cells #[.int .i64 Bc.kind, .int .u64 Bc.epoch, .int .u64 Bc.seq, .int .u64 Bc.pos, .int .i64 Bc.count, .int .i64 Bc.state, .slice x1 Bc.streams.length x1', .slice x2 Bc.links.length x2', .slice x3 Bc.data.length x3', .int .u64 Bc.sea.epoch, .int .u64 Bc.sea.node, .int .u64 Bc.sea.tail, .int .u64 Bc.proj.epoch, .slice x4 Bc.proj.stripes.length x4'] 32)).alloc (.cells #[.int .i64 6, .int .i64 ((V.length : Int) + (P.length : Int))] 58)) w6.heap.size 32 #[.int .i64 Bc.kind, .int .u64 Bc.epoch, .int .u64 Bc.seq, .int .u64 Bc.pos, .int .i64 Bc.count, .int .i64 Bc.state, .slice x1 Bc.streams.length x1', .slice x2 Bc.links.length x2', .slice x3 Bc.data.length x3', .int .u64 Bc.sea.epoch, .int .u64 Bc.sea.node, .int .u64 Bc.sea.tail, .int .u64 Bc.proj.epoch, .slice x4 Bc.proj.stripes.length x4']) := hid zD
      have T8 : Hid (Blk ((w6.alloc (.cells #[.int .i64 Bc.kind, .int .u64 Bc.epoch, .int .u64 Bc.seq, .int .u64 Bc.pos, .int .i64 Bc.count, .int .i64 Bc.state, .slice x1 Bc.streams.length x1', .slice x2 Bc.links.length x2', .slice x3 Bc.data.length x3', .int .u64 Bc.sea.epoch, .int .u64 Bc.sea.node, .int .u64 Bc.sea.tail, .int .u64 Bc.proj.epoch, .slice x4 Bc.proj.stripes.length x4'] 32)).alloc (.cells #[.int .i64 6, .int .i64 ((V.length : Int) + (P.length : Int))] 58)) (w6.heap.size + 1) 58 #[.int .i64 6, .int .i64 ((V.length : Int) + (P.length : Int))]) := hid zD
      have X7 := hid (A2.lift X6.out hbA)
      have HF7 := hid (lift (lift HF5.out hb6) hbA)
      have HX7 := hid (lift (lift HX5.out hb6) hbA)
      have HB7 := hid ((HB5.out.later hb6).later hbA)
      have hbw7 := Af hbA (Af hb6 hbw5)
      clear hm6 hb6 X6 hbA HD HX5 HF5 HB5 hbw5;have HSM := G7 X F a6 aF _ c6 _ cF _ HX7.out HF7.out
      rw [Ad hXF] at HSM
      go_wp2_with fail;generalize ((w6.alloc (.cells #[.int .i64 Bc.kind, .int .u64 Bc.epoch, .int .u64 Bc.seq, .int .u64 Bc.pos, .int .i64 Bc.count, .int .i64 Bc.state, .slice x1 Bc.streams.length x1', .slice x2 Bc.links.length x2', .slice x3 Bc.data.length x3', .int .u64 Bc.sea.epoch, .int .u64 Bc.sea.node, .int .u64 Bc.sea.tail, .int .u64 Bc.proj.epoch, .slice x4 Bc.proj.stripes.length x4'] 32)).alloc (.cells #[.int .i64 6, .int .i64 ((V.length : Int) + (P.length : Int))] 58)) = w7 at *
      refine HSM.mono ?_
      rintro r w7' ⟨rfl, rfl⟩;clear HSM hXF;have t6 : Blk w7 w6.heap.size 32 #[.int .i64 0, .int .u64 0, .int .u64 0, .int .u64 0, .int .i64 0, .int .i64 0, .slice x1 0 x1', .slice x2 0 x2', .slice x3 0 x3', .int .u64 0, .int .u64 0, .int .u64 0, .int .u64 0, .slice x4 0 x4'] := T6.out
      obtain ⟨fa0, fa1, _⟩ := Cn T8.out
      obtain ⟨ma0, ma1, ma2, ma3, ma4, ma5, ma6, ma7, ma8, ma9, ma10, ma11, ma12, ma13, _⟩ := Bt t6
      have dd1 : ((V.length : Int) + (P.length : Int) == (V.length : Int) + (P.length : Int)) = true := zO
      go_wp2_with fail;refine (OQ Bc w7 x1 x2 x3 x4 none none none none x1' x2' x3' x4' 0 0 0 0 X7.out A2.bare).mono ?_
      rintro r w8 ⟨rfl, hb8⟩;have hbw8 := Af hb8 hbw7
      clear fa0 fa1 ma0 ma1 ma2 ma3 ma4 ma5 ma6 ma7 ma8 ma9 ma10 ma11 ma12 ma13;clear hb8 hbw7 t6;go_wp2_with fail;refine (NK _).mono ?_
      rintro r w99 ⟨rfl, hb99⟩;have hbe := Af hb99 hbw8
      go_wp2;go_ret;exact ⟨rfl, hbe⟩
 ·rw [hL] at HLG
  clear hm hL;go_enter Tryz.func8, Tryz.ntmps8
  go_wp2_with fail;generalize (w.alloc (.cells #[.int .i64 m.kind, .int .u64 m.epoch, .int .u64 m.seq, .int .u64 m.pos, .int .i64 m.count, .int .i64 m.state, .slice a1 m.streams.length c1, .slice a2 m.links.length c2, .slice a3 m.data.length c3, .int .u64 m.sea.epoch, .int .u64 m.sea.node, .int .u64 m.sea.tail, .int .u64 m.proj.epoch, .slice a4 m.proj.stripes.length c4] 32)) = w0 at *
  refine (HLG.out _ hb0).mono ?_
  rintro r w1 ⟨rfl, hb1⟩;have B1 := HBX.out.later hb1
  have hbw1 := Af hb1 hb0
  clear u0 u1 u2 u3 u4 u5 u6 u7 u8 u9 u10 u11 u12 u13;obtain ⟨u0, u1, u2, u3, u4, u5, u6, u7, u8, u9, u10, u11, u12, u13, _⟩ := Bt B1
  go_wp2_with fail;refine (NK _).mono ?_
  rintro r w99 ⟨rfl, hb99⟩;have hbe := Af hb99 hbw1
  go_wp2;go_ret;exact ⟨rfl, hbe⟩
theorem rpcTells_walk {H : Type} (enc : TypeId × Value → H) (W : World) (base : Nat) (v0 v1 v2 : Value) (d0 d1 d2 : DataW H) (p0 p1 p2 : List MemPlace)
  (k0 : DataW.Trod enc Tryz.prog W 0 (fun _ => true) true 32 v0 d0 p0) (k1 : DataW.Trod enc Tryz.prog W 0 (fun _ => true) true 3 v1 d1 p1) (k2 : DataW.Trod enc Tryz.prog W 0 (fun _ => true) true 67 v2 d2 p2)
  (o0 : Value.okWide Tryz.prog W .any base 32 v0) (o1 : Value.okWide Tryz.prog W .any base 3 v1) (o2 : Value.okWide Tryz.prog W .any base 67 v2) :
  Calls Tryz.prog 8 #[v0, v1, v2] W fun e w' => e = .returned (.bool true) ∧ Below W.heap.size W w' := by
 obtain ⟨m, a1, c1, a2, c2, a3, c3, a4, c4, rfl, hm⟩ := UP enc W base v0 d0 p0 k0 o0
 obtain ⟨fuel1, hf1⟩ := k1
 obtain ⟨at_, rfl⟩ := Go.WideShapes.okWide_int Tryz.underlying3 o1
 obtain ⟨m', hm', hw⟩ := RD enc W fuel1 _ _ hf1
 simp [Value.cells] at hm'
 subst hm';have hat := QP hw
 obtain ⟨fuel2, hf2⟩ := k2
 obtain ⟨d, rfl⟩ := Go.WideShapes.okWide_int JH o2
 obtain ⟨m2, hm2, hw2⟩ := VX enc W fuel2 _ _ hf2
 simp [Value.cells] at hm2
 subst hm2;obtain ⟨hd0, hd1⟩ := PG hw2
 obtain ⟨dn, rfl⟩ : ∃ n : Nat, d = n := ⟨d.toNat, zC⟩
 exact PX m a1 c1 a2 c2 a3 c3 a4 c4 at_ dn W hm hat zC
end Go.Proofs.YtlbffbkbkajciaaGreat
