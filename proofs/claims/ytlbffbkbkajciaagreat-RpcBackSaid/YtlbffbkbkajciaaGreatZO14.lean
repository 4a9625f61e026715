/- Mini: Needed by rpcOnce_walk, part 14: texts put together by shake.py; no condition. -/
import Derived.Test.YtlbffbkbkajciaaGreatZO13
import Derived.Deep.AppendLies
import Derived.Deep.RegionLaw
import Derived.Test.YtlbffbkbkajciaaGreatZO5
import Derived.Test.YtlbffbkbkajciaaGreatZO1
import Derived.Test.YtlbffbkbkajciaaGreatZO6
import Derived.Test.YtlbffbkbkajciaaGreatZO2
import Derived.Deep.CutRange
import Derived.Deep.RegionHeld3
import Derived.Test.YtlbffbkbkajciaaGreatZO10
import Derived.Test.YtlbffbkbkajciaaGreatZO9
import Derived.Test.YtlbffbkbkajciaaGreatZO4
import Derived.Test.YtlbffbkbkajciaaGreatZO12
set_option linter.unusedVariables false
set_option linter.unusedSimpArgs false
set_option maxRecDepth 100000
set_option maxHeartbeats 6400000
namespace Go.Bs
open Go.RowKit
structure TG where
 ep : Int
 n : Int
 en : Int
 first : Int
 fin : Int
 at_ : Int
 size : Int
def TG.val (f : TG) : Array Value := #[.int .u64 f.ep, .int .i64 f.n, .int .i64 f.en, .int .u64 f.first, .int .u64 f.fin, .int .i64 f.at_, .int .i64 f.size]
end Go.Bs
namespace Go.Proofs.YtlbffbkbkajciaaGreat
open Go.RowKit Go.Bs Go.Maps
section
variable {w W : World} {ep : Int} {a : Option Addr} {n c : Nat} {J : List UInt8} {M : List Um} {aJ : Option Addr} {cJ : Nat} {aM : Option Addr} {cM : Nat}
theorem Uu.far {v : Value} {u : Nat} {xs : List Value} {e : TypeId} {sz : Nat} (h : W.ownsRow (w.heap.size + 3) e sz v u xs) {b : Nat} (hb : b < w.heap.size + 3) : v.ownBlock ≠ some b := fun e => by have := (DG h b e).1; omega
end
theorem OE (c : Nat) (hc : c < 4294967296) (x : UInt8) (w : World) :
  Calls Tryz.prog 243 #[.int .u32 c, .int .u8 (x.toNat : Int)] w fun r w' => r = .returned (.int .u32 (FE c x : Nat)) ∧ w = w' := by
 have e1 := Nw hc x
 have hcb : Hid (FE c x = GA 8 (c ^^^ x.toNat)) := hid rfl
 have hy : c ^^^ x.toNat < 4294967296 := Ii hc zBs
 generalize c ^^^ x.toNat = y at *
 go_enter Tryz.func243, Tryz.ntmps243
 go_wp2_with fail;go_loopw [0, 5] (fun s i wr => ∃ k : Nat, k ≤ 8 ∧ i = .int .i64 k ∧ s = .int .u32 (GA k y : Nat) ∧ wr = w) (fun _ i _ => 8 - (intOf i).toNat)
 case atStart => exact ⟨0, zD, rfl, rfl, rfl⟩
 case round =>
  obtain ⟨k, hk, rfl, rfl, rfl⟩ := hrel
  by_cases hlt : k < 8
  ·have hd := Ky hy k
   have hst : Hid (GA (k + 1) y = Cw (GA k y)) := hid rfl
   have i1 : (k : Int) < 8 := zD
   generalize GA k y = d at *
   by_cases h1 : d % 2 = 1
   ·have d1 : ((d : Int) % 2 == 1) = true := by simp; omega
    have hff : Hid (((Cw d : Nat) : Int) = bits BinOp.xor IntKind.u32 ((d : Int) / 2) 2197175160) := hid (by rw [Ni hd]; unfold Cw; rw [Ak h1])
    clear h1;go_wp2;go_roundw
    case rel => exact ⟨k + 1, zD, zW, by rw [hst.out, hff.out], trivial⟩
    case measure => simp [intOf]; omega
   ·have d1 : ((d : Int) % 2 == 1) = false := beq_eq_false_iff_ne.2 zD
    have hff : Hid (((Cw d : Nat) : Int) = (d : Int) / 2) := hid (by unfold Cw; rw [An h1]; rfl)
    clear h1;go_wp2;go_roundw
    case rel => exact ⟨k + 1, zD, zW, by rw [hst.out, hff.out], trivial⟩
    case measure => simp [intOf]; omega
  ·obtain rfl : k = 8 := by omega
   go_wp2;go_ret;exact ⟨by rw [hcb.out]; rfl, rfl⟩
theorem QH (D : List UInt8) (ad : Option Addr) (nd cd : Nat) (w : World) (hD : Ag.r (· < w.heap.size) w [.slice ad nd cd] D) :
  Calls Tryz.prog 136 #[.slice ad nd cd] w fun r w' => r = .returned (.int .u32 (CS D : Nat)) ∧ w = w' := by
 obtain ⟨rfl, hm, _, _⟩ := AP hD
 have HD := hid hD; clear hD
 have hlt := Ja D (c := 4294967295) zP
 have hff : Hid (CS D = 4294967295 - Dl 4294967295 D) := hid rfl
 have HA : Hid (Calls Tryz.prog 207 #[.int .u32 4294967295, .slice ad D.length cd] w fun r w' => r = .returned (.int .u32 (Dl 4294967295 D : Nat)) ∧ w = w') := hid (by
  clear hff hlt;go_enter Tryz.func207, Tryz.ntmps207
  go_wp2_with fail;go_loopw [0, 5] (fun s i wr => ∃ (k d : Nat), k ≤ D.length ∧ i = .int .i64 k ∧ s = .int .u32 d ∧ d < 4294967296 ∧ Hid (Dl 4294967295 D = Dl d (D.drop k)) ∧ wr = w) (fun _ i _ => D.length - (intOf i).toNat)
  case atStart => exact ⟨0, 4294967295, Aj _, rfl, rfl, zP, hid rfl, rfl⟩
  case round =>
   obtain ⟨k, d, hk, rfl, rfl, hd, hf, rfl⟩ := hrel
   by_cases hlt : k < D.length
   ·obtain ⟨b, o, hA, hbb, hx⟩ := Cx HD.out hlt
    subst hA;have hst := hid (show Dl d (D.drop k) = Dl (FE d D[k]) (D.drop (k + 1)) by rw [AI hlt]; rfl)
    generalize D[k] = x at *
    have i1 : (k : Int) < (D.length : Int) := zD
    have hb1 := Ib (x := x) hd
    have HI := hid (OE d hd x wr)
    generalize FE d x = q at *
    go_wp2_with fail;refine HI.out.mono ?_
    rintro r w1 ⟨rfl, rfl⟩;go_wp2;go_roundw
    case rel => exact ⟨k + 1, q, zD, zW, rfl, hb1, hid (by rw [hf.out, hst.out]), trivial⟩
    case measure => simp [intOf]; omega
   ·obtain rfl : k = D.length := by omega
    have hff : Hid (Dl 4294967295 D = d) := hid ZM
    go_wp2;go_ret;exact ⟨zI, rfl⟩)
 generalize Dl 4294967295 D = s at *
 go_enter Tryz.func136, Tryz.ntmps136
 go_wp2_with fail;refine HA.out.mono ?_
 rintro r w1 ⟨rfl, rfl⟩;have e2 : 0 ≤ 4294967295 - (s : Int) := zD
 go_wp2;go_ret;exact ⟨by rw [hff.out]; simp; omega, rfl⟩
theorem Nc (x : Nat) (hx : x < 18446744073709551616) (w : World) :
  Calls Tryz.prog 135 #[.int .u64 x, .int .i64 4] w fun r w' => ∃ v, r = .returned v ∧ Ih w' w.heap.size v (Cq 4 x) ∧ Below w.heap.size w w' := by
 obtain ⟨i0, hi, hz0, hz1, hz2⟩ := Bq EF
 go_enter Tryz.func135, Tryz.ntmps135
 go_wp2_with fail;go_loopw [5, 6] (fun o i wr => ∃ k : Nat, k ≤ 4 ∧ i = .int .i64 k ∧ wr.ownsRow w.heap.size 5 1 o k (byteCells (Cq k x)) ∧ Below w.heap.size w wr) (fun _ i _ => 4 - (intOf i).toNat)
 case atStart => exact ⟨0, Aj _, rfl, ⟨rfl, .inl ⟨rfl, rfl⟩⟩, Below.refl _ _⟩
 case round =>
  obtain ⟨k, hk, rfl, hown, hb⟩ := hrel
  have hbs := hb.size
  obtain ⟨aJ, cJ, rfl⟩ := Bh hown
  have HO := hid hown
  clear hown;by_cases hlt : k < 4
  ·have i1 : (k : Int) < 4 := by omega
   have i2 : (k : Int) < 8 := zD
   have d1 : decide ((k : Int) < 4) = true := Ac i1
   have d2 : decide ((k : Int) < 8) = true := Ac i2
   have hp : (2 : Int) ^ (8 * k) = ((256 ^ k : Nat) : Int) := by
    rcases k with _ | _ | _ | _ | k
    ·rfl
    ·rfl
    ·rfl
    ·rfl
    ·omega
   have hfin := hid (GY k x)
   have hby : Hid ((x : Int) / 2 ^ (8 * k) % 256 = ((UInt8.ofNat (x / 256 ^ k % 256)).toNat : Int)) := hid (by
    rw [hp, ← Dx zD]
    rfl)
   clear hp;go_wp2_with (at_builtin; (refine AB rfl _ _ _ rfl w.heap.size 5 i0 (.int .u8 0) 1 1 AU hi hz0 hz1 hz2 rfl zP (.slice aJ k cJ) k (byteCells (Cq k x)) rfl (By HO.out zA) (some ⟨wr.heap.size, 0, none⟩) 1 1 [.int .u8 ((x : Int) / 2 ^ (8 * k) % 256)] rfl (B9 wr 5 _ rfl rfl rfl) ZD zQ zD zL ?_; intro v' w1 hown1 hgrow1 hat1; have HG := hid hgrow1; have HO1 := hid hown1; clear hgrow1 hown1 hat1))
   have ho := HO1.out
   rw [hby.out, Da, ← hfin.out] at ho
   have hB : Below w.heap.size w w1 := Below.grown zA HG.out zL (fun g e => (HO.out.lt g e).1)
   have HO2 := hid ho
   clear ho;go_wp2_with fail;go_roundw
   case rel => exact ⟨k + 1, zD, zW, HO2.out, hB⟩
   case measure => simp [intOf]; omega
  ·obtain rfl : k = 4 := by omega
   go_wp2;go_ret;exact ⟨_, rfl, HO.out, hb⟩
theorem Nb (D : List UInt8) (ad : Option Addr) (nd cd : Nat) (w : World) (hD : Ag.r (· < w.heap.size) w [.slice ad nd cd] D) (hm : D.length ≤ 2097152) :
  Calls Tryz.prog 47 #[.slice ad nd cd] w fun r w' => ∃ v, r = .returned v ∧ Ih w' w.heap.size v (BU D) ∧ Below w.heap.size w w' := by
 obtain ⟨rfl, _, _, _⟩ := AP hD
 obtain ⟨i0, hi, hz0, hz1, hz2⟩ := Bq EF
 have HB := hid (QI w D ad _ cd hD zD)
 have HS := hid (fun (W : World) (hW : Below w.heap.size w W) => QH D ad _ cd W (lift hD hW))
 have HL := G9 D
 have hfb : Hid (BU D = Db D ++ Cq 4 (CS D)) := hid rfl
 have hbl := EW D
 have hvl := (A2 D.length).1
 have hbl2 : (Db D).length ≤ 3000000 := zD
 have hfl : (Cq 4 (CS D)).length ≤ 4 := by rw [Fj]; omega
 have HF := hid (fun W : World => Nc (CS D) zD W)
 have HON := hid (BV (Cq 4 (CS D)))
 generalize Cq 4 (CS D) = X at *
 generalize CS D = s at *
 generalize BU D = K at *
 generalize Db D = B at *
 have e1 : (s : Int) % 18446744073709551616 = s := zD
 clear hD hbl hvl;go_enter Tryz.func47, Tryz.ntmps47
 go_wp2_with fail;refine HB.out.mono ?_
 rintro r w1 ⟨v, rfl, ho, hb1⟩;obtain ⟨a1, c1, rfl⟩ := Bh ho
 have HO := hid ho
 clear ho;go_wp2_with fail;refine (HS.out _ hb1).mono ?_
 rintro r w2 ⟨rfl, rfl⟩;go_wp2_with fail;refine (HF.out _).mono ?_
 rintro r w3 ⟨v3, rfl, ho3, hb3⟩;obtain ⟨a3, c3, rfl⟩ := ho3.form
 have HSX := hid (CZ (G5 rfl ho3))
 have HO3 := hid (By HO.out hb3)
 have hb03 := Af hb3 hb1
 have hz03 := hb03.size
 clear ho3;go_wp2_with (at_builtin; (refine AB rfl _ _ _ rfl w.heap.size 5 i0 (.int .u8 0) 1 1 AU hi hz0 hz1 hz2 rfl zP (.slice a1 B.length c1) B.length (byteCells B) rfl HO3.out a3 X.length c3 (byteCells X) rfl HSX.out HON.out zQ zD hz03 ?_; intro v' w4 hown4 hgrow4 hat4; have HG := hid hgrow4; have HO4 := hid hown4; clear hgrow4 hown4 hat4))
 have hB : Below w.heap.size w w4 := Below.grown hb03 HG.out hz03 (fun g e => (HO3.out.lt g e).1)
 have hO := Ih.app HO4.out
 rw [← hfb.out] at hO
 have HO5 := hid hO
 clear hO;go_wp2;go_ret;exact ⟨_, rfl, HO5.out, hB⟩
def E6 (m : Msg) : List UInt8 × Int := if FV m = true then (BU (IT m), 0) else ([], 3)
theorem Lq (w : World) (m : Msg) (a1 : Option Addr) (c1 : Nat) (a2 : Option Addr) (c2 : Nat) (a3 : Option Addr) (c3 : Nat) (a4 : Option Addr) (c4 : Nat) (hd : AF (· < w.heap.size) w m a1 c1 a2 c2 a3 c3 a4 c4) (hbk : ∀ x ∈ m.links, x.backs.length ≤ 1000000) (hln : m.data.length ≤ 2000000) :
  Calls Tryz.prog 27 #[.agg #[.int .i64 m.kind, .int .u64 m.epoch, .int .u64 m.seq, .int .u64 m.pos, .int .i64 m.count, .int .i64 m.state, .slice a1 m.streams.length c1, .slice a2 m.links.length c2, .slice a3 m.data.length c3, .int .u64 m.sea.epoch, .int .u64 m.sea.node, .int .u64 m.sea.tail, .int .u64 m.proj.epoch, .slice a4 m.proj.stripes.length c4]] w fun r w' => ∃ v, r = .returned (.tuple #[v, .int .i64 (E6 m).2]) ∧ Ag.r (fun q => w.heap.size ≤ q ∧ q < w'.heap.size) w' [v] (E6 m).1 ∧ Below w.heap.size w w' := by
 have HPY := hid (fun (W : World) (hW : Below w.heap.size w W) => Jp W m a1 c1 a2 c2 a3 c3 a4 c4 (AF.lift hd hW) hbk zD)
 have hb0 : Below w.heap.size w (w.alloc (.cells #[.int .i64 m.kind, .int .u64 m.epoch, .int .u64 m.seq, .int .u64 m.pos, .int .i64 m.count, .int .i64 m.state, .slice a1 m.streams.length c1, .slice a2 m.links.length c2, .slice a3 m.data.length c3, .int .u64 m.sea.epoch, .int .u64 m.sea.node, .int .u64 m.sea.tail, .int .u64 m.proj.epoch, .slice a4 m.proj.stripes.length c4] 32)) := zB
 unfold E6;unfold GR at HPY;cases hR : FV m
 ·rw [hR] at HPY
  simp only [Bool.false_eq_true, if_false] at HPY
  rw [An zO]
  clear hd hbk hR;go_enter Tryz.func27, Tryz.ntmps27
  go_wp2_with fail;generalize (w.alloc (.cells #[.int .i64 m.kind, .int .u64 m.epoch, .int .u64 m.seq, .int .u64 m.pos, .int .i64 m.count, .int .i64 m.state, .slice a1 m.streams.length c1, .slice a2 m.links.length c2, .slice a3 m.data.length c3, .int .u64 m.sea.epoch, .int .u64 m.sea.node, .int .u64 m.sea.tail, .int .u64 m.proj.epoch, .slice a4 m.proj.stripes.length c4] 32)) = w0 at *
  refine (HPY.out _ hb0).mono ?_
  rintro r w1 ⟨v1, rfl, hr1, hb1⟩;obtain ⟨e1, k1, hv1, hr1', _⟩ := AE hr1
  simp only [Ap, AD] at hv1
  subst hv1;have hbw1 := Af hb1 hb0
  clear hr1 hr1' hb1;go_wp2_with fail;go_ret2
  exact ⟨_, rfl, Gq rfl rfl zD, hbw1⟩
 ·rw [hR] at HPY
  simp only [if_true] at HPY
  rw [Ak rfl]
  have hpl := Sl hR
  have HFB := hid (fun (W : World) (ad : Option Addr) (cd : Nat) (hD : Ag.r (· < W.heap.size) W [.slice ad (IT m).length cd] (IT m)) => Nx W (IT m) ad _ cd hD zD)
  generalize IT m = P at *
  clear hd hbk hR hpl;go_enter Tryz.func27, Tryz.ntmps27
  go_wp2_with fail;generalize (w.alloc (.cells #[.int .i64 m.kind, .int .u64 m.epoch, .int .u64 m.seq, .int .u64 m.pos, .int .i64 m.count, .int .i64 m.state, .slice a1 m.streams.length c1, .slice a2 m.links.length c2, .slice a3 m.data.length c3, .int .u64 m.sea.epoch, .int .u64 m.sea.node, .int .u64 m.sea.tail, .int .u64 m.proj.epoch, .slice a4 m.proj.stripes.length c4] 32)) = w0 at *
  refine (HPY.out _ hb0).mono ?_
  rintro r w1 ⟨v1, rfl, hr1, hb1⟩;obtain ⟨e1, k1, hv1, hr1', _⟩ := AE hr1
  simp only [Ap, AD] at hv1
  subst hv1;have hbw1 := Af hb1 hb0
  have HFF := hid (HFB.out w1 e1 k1 (Ag.mono hr1' fun q hq => hq.2))
  have hs1 := hbw1.size
  clear hr1 hr1' hb1;go_wp2_with fail;refine HFF.out.mono ?_
  rintro r w2 ⟨x, rfl, ho, hb2⟩;have hbe := Af hb2 hbw1
  have HV := hid (Ag.mono (S' := fun q => w.heap.size ≤ q ∧ q < w2.heap.size) (Cp rfl ho) fun q hq => ⟨zU, hq.2⟩)
  clear ho;go_wp2_with fail;go_ret2
  exact ⟨_, rfl, HV.out, hbe⟩
def Fy : Msg := ⟨7, 3, 5, 0, 0, 0, [], [], [], ⟨0, 0, 0⟩, ⟨0, []⟩⟩
theorem No : GR Fy = ([7, 3, 5], 0) := zF
theorem K4 : ∃ l : List UInt8, E6 Fy = (3 :: l, 0) ∧ l.length = 7 := ⟨(E6 Fy).1.tail, zF, zF⟩
theorem NL {w : World} {x : UInt8} {l : List UInt8} {a : Option Addr} {n c : Nat} (h : Ag.r (· < w.heap.size) w [.slice a n c] (x :: l)) : ∃ b o, a = some ⟨b, o, none⟩ ∧ b < w.heap.size ∧ w.cell? ⟨b, o, none⟩ = some (.int .u8 (x.toNat : Int)) := by
 obtain ⟨b, off, e, hS, cs, _, hc, hA⟩ := Ke h (i := 0) zO
 have hcs : cs = [.int .u8 (x.toNat : Int)] := hA
 subst hcs;have := hc 0 _ rfl
 exact ⟨b, off, e, hS, by simpa using this⟩
set_option maxHeartbeats 12800000 in
theorem H3 (w : World) : Calls Tryz.prog 26 #[] w fun r w' => r = .returned (.bool true) ∧ Below w.heap.size w w' := by
 have hin : ∀ W : World, AF (· < W.heap.size) W Fy none 0 none 0 none 0 none 0 := fun W => OQ ⟨zP, zP⟩ ⟨zP, zP⟩ ⟨zP, zP⟩ ⟨zP, zP⟩ ⟨zP, zP⟩ ⟨zP, zP⟩ rfl rfl rfl ⟨⟨zP, zP⟩, ⟨zP, zP⟩, ⟨zP, zP⟩⟩ ⟨zP, zP⟩ rfl
 obtain ⟨FL, hFL, hll⟩ := K4
 have HA := hid (fun W : World => (by
  have := Lq W Fy none 0 none 0 none 0 none 0 (hin W) (fun x hx => by simp [Fy] at hx) zP
  rw [hFL] at this
  exact this : Calls Tryz.prog 27 #[.agg #[.int .i64 7, .int .u64 3, .int .u64 5, .int .u64 0, .int .i64 0, .int .i64 0, .slice none 0 0, .slice none 0 0, .slice none 0 0, .int .u64 0, .int .u64 0, .int .u64 0, .int .u64 0, .slice none 0 0]] W fun r w' => ∃ v, r = .returned (.tuple #[v, .int .i64 0]) ∧ Ag.r (fun q => W.heap.size ≤ q ∧ q < w'.heap.size) w' [v] (3 :: FL) ∧ Below W.heap.size W w'))
 have HP := hid (fun W : World => (by
  have := Jp W Fy none 0 none 0 none 0 none 0 (hin W) (fun x hx => by simp [Fy] at hx) zP
  rw [No] at this
  exact this : Calls Tryz.prog 28 #[.agg #[.int .i64 7, .int .u64 3, .int .u64 5, .int .u64 0, .int .i64 0, .int .i64 0, .slice none 0 0, .slice none 0 0, .slice none 0 0, .int .u64 0, .int .u64 0, .int .u64 0, .int .u64 0, .slice none 0 0]] W fun r w' => ∃ v, r = .returned (.tuple #[v, .int .i64 0]) ∧ Ag.r (fun q => W.heap.size ≤ q ∧ q < w'.heap.size) w' [v] [7, 3, 5] ∧ Below W.heap.size W w'))
 have hlen : (3 :: FL).length = 8 := by simp [hll]
 have HLEN := hid hlen
 have HBX : Hid (Blk (w.alloc (.cells #[.int .i64 7, .int .u64 3, .int .u64 5, .int .u64 0, .int .i64 0, .int .i64 0, .slice none 0 0, .slice none 0 0, .slice none 0 0, .int .u64 0, .int .u64 0, .int .u64 0, .int .u64 0, .slice none 0 0] 32)) w.heap.size 32 #[.int .i64 7, .int .u64 3, .int .u64 5, .int .u64 0, .int .i64 0, .int .i64 0, .slice none 0 0, .slice none 0 0, .slice none 0 0, .int .u64 0, .int .u64 0, .int .u64 0, .int .u64 0, .slice none 0 0]) := hid (Blk.new w _ _)
 have hb0 : Below w.heap.size w (w.alloc (.cells #[.int .i64 7, .int .u64 3, .int .u64 5, .int .u64 0, .int .i64 0, .int .i64 0, .slice none 0 0, .slice none 0 0, .slice none 0 0, .int .u64 0, .int .u64 0, .int .u64 0, .int .u64 0, .slice none 0 0] 32)) := zB
 clear hin hFL hll hlen;go_enter Tryz.func26, Tryz.ntmps26
 go_wp2_with fail;generalize w.alloc (.cells #[.int .i64 7, .int .u64 3, .int .u64 5, .int .u64 0, .int .i64 0, .int .i64 0, .slice none 0 0, .slice none 0 0, .slice none 0 0, .int .u64 0, .int .u64 0, .int .u64 0, .int .u64 0, .slice none 0 0] 32) = w0 at *
 refine (HA.out _).mono ?_
 rintro r w1 ⟨v1, rfl, hr1, hb1⟩;obtain ⟨e1, d1, hv1, hs1, _⟩ := AE hr1
 simp only [Ap, AD] at hv1
 subst hv1;have HS1 := hid (Ag.mono hs1 (S' := (· < w1.heap.size)) fun q hq => hq.2)
 have hbw1 := Af hb1 hb0
 have B1 := HBX.out.later hb1
 have y0 : w1.cell? ⟨w.heap.size, 0, none⟩ = some (.int .i64 7) := B1.cell 0
 have y1 : w1.cell? ⟨w.heap.size, 1, none⟩ = some (.int .u64 3) := B1.cell 1
 have y2 : w1.cell? ⟨w.heap.size, 2, none⟩ = some (.int .u64 5) := B1.cell 2
 have y3 : w1.cell? ⟨w.heap.size, 3, none⟩ = some (.int .u64 0) := B1.cell 3
 have y4 : w1.cell? ⟨w.heap.size, 4, none⟩ = some (.int .i64 0) := B1.cell 4
 have y5 : w1.cell? ⟨w.heap.size, 5, none⟩ = some (.int .i64 0) := B1.cell 5
 have y6 : w1.cell? ⟨w.heap.size, 6, none⟩ = some (.slice none 0 0) := B1.cell 6
 have y7 : w1.cell? ⟨w.heap.size, 7, none⟩ = some (.slice none 0 0) := B1.cell 7
 have y8 : w1.cell? ⟨w.heap.size, 8, none⟩ = some (.slice none 0 0) := B1.cell 8
 have y9 : w1.cell? ⟨w.heap.size, 9, none⟩ = some (.int .u64 0) := B1.cell 9
 have y10 : w1.cell? ⟨w.heap.size, 10, none⟩ = some (.int .u64 0) := B1.cell 10
 have y11 : w1.cell? ⟨w.heap.size, 11, none⟩ = some (.int .u64 0) := B1.cell 11
 have y12 : w1.cell? ⟨w.heap.size, 12, none⟩ = some (.int .u64 0) := B1.cell 12
 have y13 : w1.cell? ⟨w.heap.size, 13, none⟩ = some (.slice none 0 0) := B1.cell 13
 rw [HLEN.out] at *
 clear hr1 hs1;go_wp2_with fail;refine (HP.out _).mono ?_
 rintro r w2 ⟨v2, rfl, hr2, hb2⟩;obtain ⟨e2, d2, hv2, hs2, _⟩ := AE hr2
 simp only [Ap, AD] at hv2
 subst hv2;have HS2 := hid (Ag.mono hs2 (S' := (· < w2.heap.size)) fun q hq => hq.2)
 have hs1b := lift HS1.out hb2
 obtain ⟨b, o, hA, hbb, hx⟩ := NL hs1b
 subst hA;have hbw2 := Af hb2 hbw1
 clear hr2 hs2 hb2 hbw1 y0 y1 y2 y3 y4 y5 y6 y7 y8 y9 y10 y11 y12 y13 hb1 B1;go_wp2_with fail;have hsb := Ht [7, 3, 5] [7, 3, 5] e2 (some ⟨w2.heap.size, 0, none⟩) _ d2 3 3 (w2.alloc (.cells #[.int .u8 7, .int .u8 3, .int .u8 5] 5)) (lift HS2.out (by clear hbw2; (repeat (first | exact Below.refl _ _ | assumption | (refine Az ?_ _) | (refine Below.setCell ?_ (by first | omega | (simp; done) | (simp; omega)) _) | (refine Below.drew ?_) | (refine below_drewN ?_ _) | (refine Af (by assumption) ?_))))) (QU (l := [7, 3, 5]) (cs := #[.int .u8 7, .int .u8 3, .int .u8 5]) rfl zP (World.alloc_heap_new w2 _))
 simp only [decide_true] at hsb
 refine hsb.mono ?_
 rintro r w4 ⟨rfl, rfl⟩;have hbw4 : Below w.heap.size w (w2.alloc (.cells #[.int .u8 7, .int .u8 3, .int .u8 5] 5)) := Az hbw2 _
 clear hsb;generalize w2.alloc (.cells #[.int .u8 7, .int .u8 3, .int .u8 5] 5) = w4 at *
 go_wp2_with fail;go_ret;exact ⟨rfl, hbw4⟩
theorem QB (B : List UInt8) (ad : Option Addr) (n c : Nat) (w : World) (hl : Ag.r (· < w.heap.size) w [.slice ad n c] B) :
  Calls Tryz.prog 9 #[.slice ad n c] w fun r w' => r = .returned (.bool true) ∧ Below w.heap.size w w' := by
 obtain ⟨rfl, hm, _, _⟩ := AP hl
 have HL := hid hl
 by_cases h400 : B.length ≤ 400
 ·have d0 : decide ((400 : Int) < (B.length : Int)) = false := Ab zD
  have HGR := hid (Ns w B ad B.length c HL.out zD)
  have hFL : (BU B).length ≤ 1000000 := by
   have h1 := (A2 B.length).1
   rw [Gn, EW]
   omega
  generalize hS : P9 (BU B) = S at *
  generalize hL : Qa (BU B) = L at *
  obtain ⟨m1, q1, k1, f1⟩ := S
  obtain ⟨m2, q2, k2, f2⟩ := L
  obtain ⟨hA, hB1, hB2, hC, hE⟩ := SL zD hS hL
  have HA := hid hA; have HB1 := hid hB1; have HB2 := hid hB2; have HC := hid hC; have HE := hid hE
  have hFF := hid (rfl : BU B = BU B)
  clear hl hA hB1 hB2 hC hE;go_enter Tryz.func9, Tryz.ntmps9
  go_wp2_with fail;refine HGR.out.mono ?_
  rintro r w0 ⟨q0, rfl, rfl⟩;cases q0;rotate_left
  ·go_wp2_with fail
   refine (H3 _).mono ?_
   rintro r w99 ⟨rfl, hb99⟩;have hbe := hb99
   go_wp2;go_ret;exact ⟨rfl, hbe⟩
  ·skip
   go_wp2_with fail;refine (Nb B ad _ c w HL.out zD).mono ?_
   rintro r w1 ⟨v, rfl, hown, hb1⟩;obtain ⟨af, cf, rfl⟩ := hown.form
   have hO := Ag.mono hown.read (S' := (· < w1.heap.size)) fun q hq => hq.2
   have hbw1 := hb1
   clear hown hb1;have HD := hid (Ow w1 (BU B) af _ cf hO zD hS)
   have HDL := hid (fun (V : World) (h : Ag.r (· < V.heap.size) V [.slice af (BU B).length cf] (BU B)) => JJ V (BU B) af _ cf h zD hL)
   have HO1 := hid hO
   clear hO hS hL;clear h400 HGR;generalize hFd : BU B = F at *
   clear hFF;have hFF := hid hFd
   clear hFd;go_wp2_with fail;refine HD.out.mono ?_
   rintro r w2 ⟨x1, x1', x2, x2', x3, x3', x4, x4', rfl, hm2, hb2⟩;have O2 := hid (lift HO1.out hb2)
   have hbw2 := Af hb2 hbw1
   have X12 := hid (AF.C6 hm2 (fun q hq => rfl) (fun q hq => (hq.2 : q < w2.heap.size)))
   have E2 : Blk ((w2.alloc (.cells #[.int .i64 m1.kind, .int .u64 m1.epoch, .int .u64 m1.seq, .int .u64 m1.pos, .int .i64 m1.count, .int .i64 m1.state, .slice x1 m1.streams.length x1', .slice x2 m1.links.length x2', .slice x3 m1.data.length x3', .int .u64 m1.sea.epoch, .int .u64 m1.sea.node, .int .u64 m1.sea.tail, .int .u64 m1.proj.epoch, .slice x4 m1.proj.stripes.length x4'] 32)).alloc (.cells #[.int .i64 k1, .int .i64 f1] 58)) w2.heap.size 32 #[.int .i64 m1.kind, .int .u64 m1.epoch, .int .u64 m1.seq, .int .u64 m1.pos, .int .i64 m1.count, .int .i64 m1.state, .slice x1 m1.streams.length x1', .slice x2 m1.links.length x2', .slice x3 m1.data.length x3', .int .u64 m1.sea.epoch, .int .u64 m1.sea.node, .int .u64 m1.sea.tail, .int .u64 m1.proj.epoch, .slice x4 m1.proj.stripes.length x4'] := zC
   have F2 : Blk ((w2.alloc (.cells #[.int .i64 m1.kind, .int .u64 m1.epoch, .int .u64 m1.seq, .int .u64 m1.pos, .int .i64 m1.count, .int .i64 m1.state, .slice x1 m1.streams.length x1', .slice x2 m1.links.length x2', .slice x3 m1.data.length x3', .int .u64 m1.sea.epoch, .int .u64 m1.sea.node, .int .u64 m1.sea.tail, .int .u64 m1.proj.epoch, .slice x4 m1.proj.stripes.length x4'] 32)).alloc (.cells #[.int .i64 k1, .int .i64 f1] 58)) (w2.heap.size + 1) 58 #[.int .i64 k1, .int .i64 f1] := zC
   have hbA : Below w2.heap.size w2 ((w2.alloc (.cells #[.int .i64 m1.kind, .int .u64 m1.epoch, .int .u64 m1.seq, .int .u64 m1.pos, .int .i64 m1.count, .int .i64 m1.state, .slice x1 m1.streams.length x1', .slice x2 m1.links.length x2', .slice x3 m1.data.length x3', .int .u64 m1.sea.epoch, .int .u64 m1.sea.node, .int .u64 m1.sea.tail, .int .u64 m1.proj.epoch, .slice x4 m1.proj.stripes.length x4'] 32)).alloc (.cells #[.int .i64 k1, .int .i64 f1] 58)) := zA
   have T43 := hid E2
   have T53 := hid F2
   have X13 := hid (AF.lift X12.out hbA)
   have O3 := hid (lift O2.out hbA)
   have hbw3 := Af hbA hbw2
   have hz3 : w2.heap.size + 1 < (((w2.alloc (.cells #[.int .i64 m1.kind, .int .u64 m1.epoch, .int .u64 m1.seq, .int .u64 m1.pos, .int .i64 m1.count, .int .i64 m1.state, .slice x1 m1.streams.length x1', .slice x2 m1.links.length x2', .slice x3 m1.data.length x3', .int .u64 m1.sea.epoch, .int .u64 m1.sea.node, .int .u64 m1.sea.tail, .int .u64 m1.proj.epoch, .slice x4 m1.proj.stripes.length x4'] 32)).alloc (.cells #[.int .i64 k1, .int .i64 f1] 58))).heap.size := zO
   clear HO1 hbw1 hm2 hb2 X12 E2 F2 O2 hbw2 hbA;go_wp2_with fail;generalize ((w2.alloc (.cells #[.int .i64 m1.kind, .int .u64 m1.epoch, .int .u64 m1.seq, .int .u64 m1.pos, .int .i64 m1.count, .int .i64 m1.state, .slice x1 m1.streams.length x1', .slice x2 m1.links.length x2', .slice x3 m1.data.length x3', .int .u64 m1.sea.epoch, .int .u64 m1.sea.node, .int .u64 m1.sea.tail, .int .u64 m1.proj.epoch, .slice x4 m1.proj.stripes.length x4'] 32)).alloc (.cells #[.int .i64 k1, .int .i64 f1] 58)) = w3 at *
   refine (HDL.out w3 O3.out).mono ?_
   rintro r w4 ⟨y1, y1', y2, y2', y3, y3', y4, y4', rfl, hm4, hb4⟩;have T44 := hid (T43.out.later hb4)
   have T54 := hid (T53.out.later hb4)
   have X14 := hid (AF.lift X13.out hb4)
   have X24 := hid (AF.C6 hm4 (fun q hq => rfl) (fun q hq => (hq.2 : q < w4.heap.size)))
   have O4 := hid (lift O3.out hb4)
   have hbw4 := Af hb4 hbw3
   have E4 : Blk ((w4.alloc (.cells #[.int .i64 m2.kind, .int .u64 m2.epoch, .int .u64 m2.seq, .int .u64 m2.pos, .int .i64 m2.count, .int .i64 m2.state, .slice y1 m2.streams.length y1', .slice y2 m2.links.length y2', .slice y3 m2.data.length y3', .int .u64 m2.sea.epoch, .int .u64 m2.sea.node, .int .u64 m2.sea.tail, .int .u64 m2.proj.epoch, .slice y4 m2.proj.stripes.length y4'] 32)).alloc (.cells #[.int .i64 k2, .int .i64 f2] 58)) w4.heap.size 32 #[.int .i64 m2.kind, .int .u64 m2.epoch, .int .u64 m2.seq, .int .u64 m2.pos, .int .i64 m2.count, .int .i64 m2.state, .slice y1 m2.streams.length y1', .slice y2 m2.links.length y2', .slice y3 m2.data.length y3', .int .u64 m2.sea.epoch, .int .u64 m2.sea.node, .int .u64 m2.sea.tail, .int .u64 m2.proj.epoch, .slice y4 m2.proj.stripes.length y4'] := zC
   have F4 : Blk ((w4.alloc (.cells #[.int .i64 m2.kind, .int .u64 m2.epoch, .int .u64 m2.seq, .int .u64 m2.pos, .int .i64 m2.count, .int .i64 m2.state, .slice y1 m2.streams.length y1', .slice y2 m2.links.length y2', .slice y3 m2.data.length y3', .int .u64 m2.sea.epoch, .int .u64 m2.sea.node, .int .u64 m2.sea.tail, .int .u64 m2.proj.epoch, .slice y4 m2.proj.stripes.length y4'] 32)).alloc (.cells #[.int .i64 k2, .int .i64 f2] 58)) (w4.heap.size + 1) 58 #[.int .i64 k2, .int .i64 f2] := zC
   have hbA : Below w4.heap.size w4 ((w4.alloc (.cells #[.int .i64 m2.kind, .int .u64 m2.epoch, .int .u64 m2.seq, .int .u64 m2.pos, .int .i64 m2.count, .int .i64 m2.state, .slice y1 m2.streams.length y1', .slice y2 m2.links.length y2', .slice y3 m2.data.length y3', .int .u64 m2.sea.epoch, .int .u64 m2.sea.node, .int .u64 m2.sea.tail, .int .u64 m2.proj.epoch, .slice y4 m2.proj.stripes.length y4'] 32)).alloc (.cells #[.int .i64 k2, .int .i64 f2] 58)) := zA
   have T6d := hid E4
   have T8d := hid F4
   have T4d := hid (T44.out.later hbA)
   have T5d := hid (T54.out.later hbA)
   have X1d := hid (AF.lift X14.out hbA)
   have X2d := hid (AF.lift X24.out hbA)
   have Od := hid (lift O4.out hbA)
   have hbwd := Af hbA hbw4
   clear T43 T53 X13 O3 hbw3 hm4 hb4 T44 T54 X14 X24 O4 hbw4 E4 F4 hbA;go_upto_region 6 with (fail)
   generalize ((w4.alloc (.cells #[.int .i64 m2.kind, .int .u64 m2.epoch, .int .u64 m2.seq, .int .u64 m2.pos, .int .i64 m2.count, .int .i64 m2.state, .slice y1 m2.streams.length y1', .slice y2 m2.links.length y2', .slice y3 m2.data.length y3', .int .u64 m2.sea.epoch, .int .u64 m2.sea.node, .int .u64 m2.sea.tail, .int .u64 m2.proj.epoch, .slice y4 m2.proj.stripes.length y4'] 32)).alloc (.cells #[.int .i64 k2, .int .i64 f2] 58)) = w5 at *
   by_cases hk1 : k1 = 0
   ·have dk0 : (k1 == (0 : Int)) = true := by simp [hk1]
    have dk1 : k1 = 0 := hk1
    obtain ⟨rfl, rfl, rfl, hr1, hpb⟩ := HA.out hk1
    subst hk1;have hmd : (∀ x ∈ m2.links, x.backs.length ≤ 1000000) ∧ m2.data.length ≤ 1048576 := Su (by simp only [FV, As] at hr1; exact hr1.1)
    have hBy := Lq w5 m2 x1 x1' x2 x2' x3 x3' x4 x4' X1d.out hmd.1 zD
    have hmb : E6 m2 = (F, 0) := by unfold E6; rw [Ak hr1, hpb, hFF.out]
    rw [hmb] at hBy
    have HBy := hid hBy
    have HRt := hid (fun (V : World) (hV : AF (· < V.heap.size) V m2 x1 x1' x2 x2' x3 x3' x4 x4') => (by have := Jq m2 x1 x1' x2 x2' x3 x3' x4 x4' V hV; rw [hr1] at this; exact this : Calls Tryz.prog 31 #[.agg #[.int .i64 m2.kind, .int .u64 m2.epoch, .int .u64 m2.seq, .int .u64 m2.pos, .int .i64 m2.count, .int .i64 m2.state, .slice x1 m2.streams.length x1', .slice x2 m2.links.length x2', .slice x3 m2.data.length x3', .int .u64 m2.sea.epoch, .int .u64 m2.sea.node, .int .u64 m2.sea.tail, .int .u64 m2.proj.epoch, .slice x4 m2.proj.stripes.length x4']] V fun r w' => r = .returned (.bool true) ∧ Below V.heap.size V w'))
    clear hBy hmb hmd hr1 hpb dk0 dk1;obtain ⟨fa0, fa1, _⟩ := Bu T5d.out
    obtain ⟨ma0, ma1, ma2, ma3, ma4, ma5, ma6, ma7, ma8, ma9, ma10, ma11, ma12, ma13, _⟩ := AZ T4d.out
    go_wp2_with fail;clear fa0 fa1;refine HBy.out.mono ?_
    rintro r w6 ⟨v6, rfl, hv6, hb6⟩;obtain ⟨a6, c6, hfv, _, _⟩ := AE hv6
    simp only [Ap, AD] at hfv
    subst hfv;have OB6 := Ag.mono hv6 (S' := (· < w6.heap.size)) fun q hq => hq.2
    have OBe := hid OB6
    clear ma0 ma1 ma2 ma3 ma4 ma5 ma6 ma7 ma8 ma9 ma10 ma11 ma12 ma13;have T4e := hid (T4d.out.later hb6)
    have T5e := hid (T5d.out.later hb6)
    have T6e := hid (T6d.out.later hb6)
    have T8e := hid (T8d.out.later hb6)
    have X1e := hid (AF.lift X1d.out hb6)
    have X2e := hid (AF.lift X2d.out hb6)
    have Oe := hid (lift Od.out hb6)
    have hbwe := Af hb6 hbwd
    clear T4d T5d T6d T8d X1d X2d Od hbwd hb6 hv6 OB6;obtain ⟨ma0, ma1, ma2, ma3, ma4, ma5, ma6, ma7, ma8, ma9, ma10, ma11, ma12, ma13, _⟩ := AZ T4e.out
    go_wp2_with fail;refine (HRt.out _ X1e.out).mono ?_
    rintro r w7 ⟨rfl, hb7⟩;clear ma0 ma1 ma2 ma3 ma4 ma5 ma6 ma7 ma8 ma9 ma10 ma11 ma12 ma13;have T4f := hid (T4e.out.later hb7)
    have T5f := hid (T5e.out.later hb7)
    have T6f := hid (T6e.out.later hb7)
    have T8f := hid (T8e.out.later hb7)
    have X1f := hid (AF.lift X1e.out hb7)
    have X2f := hid (AF.lift X2e.out hb7)
    have Of := hid (lift Oe.out hb7)
    have OBf := hid (lift OBe.out hb7)
    have hbwf := Af hb7 hbwe
    clear T4e T5e T6e T8e X1e X2e Oe OBe hbwe hb7;obtain ⟨fb0, fb1, _⟩ := Bu T8f.out
    obtain ⟨ma0, ma1, ma2, ma3, ma4, ma5, ma6, ma7, ma8, ma9, ma10, ma11, ma12, ma13, _⟩ := AZ T4f.out
    obtain ⟨mb0, mb1, mb2, mb3, mb4, mb5, mb6, mb7, mb8, mb9, mb10, mb11, mb12, mb13, _⟩ := AZ T6f.out
    have HSM := Ht F F a6 af _ c6 _ cf w7 OBf.out Of.out
    simp only [decide_true] at HSM
    go_wp2_with fail;refine HSM.mono ?_
    rintro r w7' ⟨rfl, rfl⟩;clear HSM;go_wp2_with fail;refine (Fh m2 w7 y1 y2 y3 y4 x1 x2 x3 x4 y1' y2' y3' y4' x1' x2' x3' x4' X2f.out X1f.out).mono ?_
    rintro r w8 ⟨rfl, hb8⟩;clear ma0 ma1 ma2 ma3 ma4 ma5 ma6 ma7 ma8 ma9 ma10 ma11 ma12 ma13;clear mb0 mb1 mb2 mb3 mb4 mb5 mb6 mb7 mb8 mb9 mb10 mb11 mb12 mb13;clear fb0 fb1;have T4g := hid (T4f.out.later hb8)
    have T5g := hid (T5f.out.later hb8)
    have T6g := hid (T6f.out.later hb8)
    have T8g := hid (T8f.out.later hb8)
    have X1g := hid (AF.lift X1f.out hb8)
    have X2g := hid (AF.lift X2f.out hb8)
    have Og := hid (lift Of.out hb8)
    have hbwg := Af hb8 hbwf
    clear T4f T5f T6f T8f X1f X2f Of hbwf hb8;go_wp2_with fail;refine (H3 _).mono ?_
    rintro r w99 ⟨rfl, hb99⟩;have hbe := Af hb99 hbwg
    go_wp2;go_ret;exact ⟨rfl, hbe⟩
   ·have hx1 := HB1.out hk1
    subst hx1;have dk1 : (k1 == (0 : Int)) = false := by simp [hk1]
    by_cases hk2 : k2 = 0
    ·skip
     obtain ⟨hf2, h12, hr2⟩ := HC.out hk1 hk2
     subst hf2;subst hk2;subst h12;have HRt := hid (fun (V : World) (hV : AF (· < V.heap.size) V m2 y1 y1' y2 y2' y3 y3' y4 y4') => (by have := Jq m2 y1 y1' y2 y2' y3 y3' y4 y4' V hV; rw [hr2] at this; exact this : Calls Tryz.prog 31 #[.agg #[.int .i64 m2.kind, .int .u64 m2.epoch, .int .u64 m2.seq, .int .u64 m2.pos, .int .i64 m2.count, .int .i64 m2.state, .slice y1 m2.streams.length y1', .slice y2 m2.links.length y2', .slice y3 m2.data.length y3', .int .u64 m2.sea.epoch, .int .u64 m2.sea.node, .int .u64 m2.sea.tail, .int .u64 m2.proj.epoch, .slice y4 m2.proj.stripes.length y4']] V fun r w' => r = .returned (.bool true) ∧ Below V.heap.size V w'))
     clear hr2;obtain ⟨fb0, fb1, _⟩ := Bu T8d.out
     obtain ⟨fa0, fa1, _⟩ := Bu T5d.out
     obtain ⟨mb0, mb1, mb2, mb3, mb4, mb5, mb6, mb7, mb8, mb9, mb10, mb11, mb12, mb13, _⟩ := AZ T6d.out
     go_wp2_with fail;refine (HRt.out _ X2d.out).mono ?_
     rintro r w7 ⟨rfl, hb7⟩;clear mb0 mb1 mb2 mb3 mb4 mb5 mb6 mb7 mb8 mb9 mb10 mb11 mb12 mb13;clear fa0 fa1;clear fb0 fb1;have T4e := hid (T4d.out.later hb7)
     have T5e := hid (T5d.out.later hb7)
     have T6e := hid (T6d.out.later hb7)
     have T8e := hid (T8d.out.later hb7)
     have X1e := hid (AF.lift X1d.out hb7)
     have X2e := hid (AF.lift X2d.out hb7)
     have Oe := hid (lift Od.out hb7)
     have hbwe := Af hb7 hbwd
     clear T4d T5d T6d T8d X1d X2d Od hbwd hb7;go_wp2_with fail;refine (H3 _).mono ?_
     rintro r w99 ⟨rfl, hb99⟩;have hbe := Af hb99 hbwe
     go_wp2;go_ret;exact ⟨rfl, hbe⟩
    ·have hx2 := HB2.out hk2
     subst hx2;have dk2 : (k2 == (0 : Int)) = false := by simp [hk2]
     have hE2 := HE.out hk1 hk2
     by_cases e1 : k1 = k2
     ·subst e1
      by_cases e2 : f1 = f2
      ·subst e2
       clear hk1 hk2 hE2;have dd1 : (k1 == k1) = true := zO
       have dd2 : (f1 == f1) = true := zO
       obtain ⟨fb0, fb1, _⟩ := Bu T8d.out
       obtain ⟨fa0, fa1, _⟩ := Bu T5d.out
       have t4 : Blk w5 w2.heap.size 32 #[.int .i64 0, .int .u64 0, .int .u64 0, .int .u64 0, .int .i64 0, .int .i64 0, .slice x1 0 x1', .slice x2 0 x2', .slice x3 0 x3', .int .u64 0, .int .u64 0, .int .u64 0, .int .u64 0, .slice x4 0 x4'] := T4d.out
       obtain ⟨ma0, ma1, ma2, ma3, ma4, ma5, ma6, ma7, ma8, ma9, ma10, ma11, ma12, ma13, _⟩ := AZ t4
       go_wp2_with fail;refine (Fh CU w5 x1 x2 x3 x4 none none none none x1' x2' x3' x4' 0 0 0 0 X1d.out AF.bare).mono ?_
       rintro r w6 ⟨rfl, hb6⟩;clear ma0 ma1 ma2 ma3 ma4 ma5 ma6 ma7 ma8 ma9 ma10 ma11 ma12 ma13;clear fa0 fa1;clear fb0 fb1;clear t4;have T4e := hid (T4d.out.later hb6)
       have T5e := hid (T5d.out.later hb6)
       have T6e := hid (T6d.out.later hb6)
       have T8e := hid (T8d.out.later hb6)
       have X1e := hid (AF.lift X1d.out hb6)
       have X2e := hid (AF.lift X2d.out hb6)
       have Oe := hid (lift Od.out hb6)
       have hbwe := Af hb6 hbwd
       clear T4d T5d T6d T8d X1d X2d Od hbwd hb6;have t6 : Blk w6 w4.heap.size 32 #[.int .i64 0, .int .u64 0, .int .u64 0, .int .u64 0, .int .i64 0, .int .i64 0, .slice y1 0 y1', .slice y2 0 y2', .slice y3 0 y3', .int .u64 0, .int .u64 0, .int .u64 0, .int .u64 0, .slice y4 0 y4'] := T6e.out
       obtain ⟨mb0, mb1, mb2, mb3, mb4, mb5, mb6, mb7, mb8, mb9, mb10, mb11, mb12, mb13, _⟩ := AZ t6
       go_wp2_with fail;refine (Fh CU w6 y1 y2 y3 y4 none none none none y1' y2' y3' y4' 0 0 0 0 X2e.out AF.bare).mono ?_
       rintro r w7 ⟨rfl, hb7⟩;clear mb0 mb1 mb2 mb3 mb4 mb5 mb6 mb7 mb8 mb9 mb10 mb11 mb12 mb13;clear t6;have T4f := hid (T4e.out.later hb7)
       have T5f := hid (T5e.out.later hb7)
       have T6f := hid (T6e.out.later hb7)
       have T8f := hid (T8e.out.later hb7)
       have X1f := hid (AF.lift X1e.out hb7)
       have X2f := hid (AF.lift X2e.out hb7)
       have Of := hid (lift Oe.out hb7)
       have hbwf := Af hb7 hbwe
       clear T4e T5e T6e T8e X1e X2e Oe hbwe hb7;go_wp2_with fail;refine (H3 _).mono ?_
       rintro r w99 ⟨rfl, hb99⟩;have hbe := Af hb99 hbwf
       go_wp2;go_ret;exact ⟨rfl, hbe⟩
      ·have h12 : k1 = 12 := by
        rcases hE2 with ⟨_, e⟩ | e
        ·exact absurd e e2
        ·exact e
       have d12 : (k1 == (12 : Int)) = true := by simp [h12]
       have dd1 : (k1 == k1) = true := zO
       have dd2 : (f1 == f2) = false := by simp [e2]
       clear hk1 hk2 hE2 h12 e2;obtain ⟨fb0, fb1, _⟩ := Bu T8d.out
       obtain ⟨fa0, fa1, _⟩ := Bu T5d.out
       have t4 : Blk w5 w2.heap.size 32 #[.int .i64 0, .int .u64 0, .int .u64 0, .int .u64 0, .int .i64 0, .int .i64 0, .slice x1 0 x1', .slice x2 0 x2', .slice x3 0 x3', .int .u64 0, .int .u64 0, .int .u64 0, .int .u64 0, .slice x4 0 x4'] := T4d.out
       obtain ⟨ma0, ma1, ma2, ma3, ma4, ma5, ma6, ma7, ma8, ma9, ma10, ma11, ma12, ma13, _⟩ := AZ t4
       go_wp2_with fail;refine (Fh CU w5 x1 x2 x3 x4 none none none none x1' x2' x3' x4' 0 0 0 0 X1d.out AF.bare).mono ?_
       rintro r w6 ⟨rfl, hb6⟩;clear ma0 ma1 ma2 ma3 ma4 ma5 ma6 ma7 ma8 ma9 ma10 ma11 ma12 ma13;clear fa0 fa1;clear fb0 fb1;clear t4;have T4e := hid (T4d.out.later hb6)
       have T5e := hid (T5d.out.later hb6)
       have T6e := hid (T6d.out.later hb6)
       have T8e := hid (T8d.out.later hb6)
       have X1e := hid (AF.lift X1d.out hb6)
       have X2e := hid (AF.lift X2d.out hb6)
       have Oe := hid (lift Od.out hb6)
       have hbwe := Af hb6 hbwd
       clear T4d T5d T6d T8d X1d X2d Od hbwd hb6;have t6 : Blk w6 w4.heap.size 32 #[.int .i64 0, .int .u64 0, .int .u64 0, .int .u64 0, .int .i64 0, .int .i64 0, .slice y1 0 y1', .slice y2 0 y2', .slice y3 0 y3', .int .u64 0, .int .u64 0, .int .u64 0, .int .u64 0, .slice y4 0 y4'] := T6e.out
       obtain ⟨mb0, mb1, mb2, mb3, mb4, mb5, mb6, mb7, mb8, mb9, mb10, mb11, mb12, mb13, _⟩ := AZ t6
       go_wp2_with fail;refine (Fh CU w6 y1 y2 y3 y4 none none none none y1' y2' y3' y4' 0 0 0 0 X2e.out AF.bare).mono ?_
       rintro r w7 ⟨rfl, hb7⟩;clear mb0 mb1 mb2 mb3 mb4 mb5 mb6 mb7 mb8 mb9 mb10 mb11 mb12 mb13;clear t6;have T4f := hid (T4e.out.later hb7)
       have T5f := hid (T5e.out.later hb7)
       have T6f := hid (T6e.out.later hb7)
       have T8f := hid (T8e.out.later hb7)
       have X1f := hid (AF.lift X1e.out hb7)
       have X2f := hid (AF.lift X2e.out hb7)
       have Of := hid (lift Oe.out hb7)
       have hbwf := Af hb7 hbwe
       clear T4e T5e T6e T8e X1e X2e Oe hbwe hb7;go_wp2_with fail;refine (H3 _).mono ?_
       rintro r w99 ⟨rfl, hb99⟩;have hbe := Af hb99 hbwf
       go_wp2;go_ret;exact ⟨rfl, hbe⟩
     ·have h12 : k1 = 12 := by
       rcases hE2 with ⟨e, _⟩ | e
       ·exact absurd e e1
       ·exact e
      have d12 : (k1 == (12 : Int)) = true := by simp [h12]
      have dd1 : (k1 == k2) = false := by simp [e1]
      clear hk1 hk2 hE2 h12 e1;obtain ⟨fb0, fb1, _⟩ := Bu T8d.out
      obtain ⟨fa0, fa1, _⟩ := Bu T5d.out
      have t4 : Blk w5 w2.heap.size 32 #[.int .i64 0, .int .u64 0, .int .u64 0, .int .u64 0, .int .i64 0, .int .i64 0, .slice x1 0 x1', .slice x2 0 x2', .slice x3 0 x3', .int .u64 0, .int .u64 0, .int .u64 0, .int .u64 0, .slice x4 0 x4'] := T4d.out
      obtain ⟨ma0, ma1, ma2, ma3, ma4, ma5, ma6, ma7, ma8, ma9, ma10, ma11, ma12, ma13, _⟩ := AZ t4
      go_wp2_with fail;refine (Fh CU w5 x1 x2 x3 x4 none none none none x1' x2' x3' x4' 0 0 0 0 X1d.out AF.bare).mono ?_
      rintro r w6 ⟨rfl, hb6⟩;clear ma0 ma1 ma2 ma3 ma4 ma5 ma6 ma7 ma8 ma9 ma10 ma11 ma12 ma13;clear fa0 fa1;clear fb0 fb1;clear t4;have T4e := hid (T4d.out.later hb6)
      have T5e := hid (T5d.out.later hb6)
      have T6e := hid (T6d.out.later hb6)
      have T8e := hid (T8d.out.later hb6)
      have X1e := hid (AF.lift X1d.out hb6)
      have X2e := hid (AF.lift X2d.out hb6)
      have Oe := hid (lift Od.out hb6)
      have hbwe := Af hb6 hbwd
      clear T4d T5d T6d T8d X1d X2d Od hbwd hb6;have t6 : Blk w6 w4.heap.size 32 #[.int .i64 0, .int .u64 0, .int .u64 0, .int .u64 0, .int .i64 0, .int .i64 0, .slice y1 0 y1', .slice y2 0 y2', .slice y3 0 y3', .int .u64 0, .int .u64 0, .int .u64 0, .int .u64 0, .slice y4 0 y4'] := T6e.out
      obtain ⟨mb0, mb1, mb2, mb3, mb4, mb5, mb6, mb7, mb8, mb9, mb10, mb11, mb12, mb13, _⟩ := AZ t6
      go_wp2_with fail;refine (Fh CU w6 y1 y2 y3 y4 none none none none y1' y2' y3' y4' 0 0 0 0 X2e.out AF.bare).mono ?_
      rintro r w7 ⟨rfl, hb7⟩;clear mb0 mb1 mb2 mb3 mb4 mb5 mb6 mb7 mb8 mb9 mb10 mb11 mb12 mb13;clear t6;have T4f := hid (T4e.out.later hb7)
      have T5f := hid (T5e.out.later hb7)
      have T6f := hid (T6e.out.later hb7)
      have T8f := hid (T8e.out.later hb7)
      have X1f := hid (AF.lift X1e.out hb7)
      have X2f := hid (AF.lift X2e.out hb7)
      have Of := hid (lift Oe.out hb7)
      have hbwf := Af hb7 hbwe
      clear T4e T5e T6e T8e X1e X2e Oe hbwe hb7;go_wp2_with fail;refine (H3 _).mono ?_
      rintro r w99 ⟨rfl, hb99⟩;have hbe := Af hb99 hbwf
      go_wp2;go_ret;exact ⟨rfl, hbe⟩
 ·have d0 : decide ((400 : Int) < (B.length : Int)) = true := Ac zD
  clear h400 hl;go_enter Tryz.func9, Tryz.ntmps9
  go_wp2_with fail;refine (H3 _).mono ?_
  rintro r w99 ⟨rfl, hb99⟩;go_wp2;go_ret;exact ⟨rfl, hb99⟩
theorem rpcOnce_walk {H : Type} (enc : TypeId × Value → H) (W : World) (base : Nat) (v0 : Value) (d0 : DataW H) (p0 : List MemPlace)
  (k0 : DataW.Trod enc Tryz.prog W 0 (fun _ => true) true 25 v0 d0 p0) (o0 : Value.okWide Tryz.prog W .any base 25 v0) :
  Calls Tryz.prog 9 #[v0] W fun e w' => e = .returned (.bool true) ∧ Below W.heap.size W w' := by
 obtain ⟨fuel, hf⟩ := k0
 obtain ⟨a, len, cap, rfl⟩ := Go.WideShapes.okWide_slice AU o0
 obtain ⟨b, hb⟩ := Th enc W fuel _ _ hf
 exact QB b a len cap W hb
end Go.Proofs.YtlbffbkbkajciaaGreat
