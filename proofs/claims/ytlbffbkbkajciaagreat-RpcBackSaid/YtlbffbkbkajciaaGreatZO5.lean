/- Mini: Needed by rpcOnce_walk, part 5: texts put together by shake.py; no condition. -/
import Derived.Test.YtlbffbkbkajciaaGreatZO4
import Derived.Lib.SlBytesConst
import Derived.RegionTactic
import Derived.Laws.BitsAllLaws
import Derived.Test.YtlbffbkbkajciaaGreatZO1
import Derived.Deep.AppendLies
import Derived.Deep.RegionLaw
import Derived.Laws.MakeOwn
import Derived.Lib.ConvBytes
import Derived.Laws.AppendOwn
set_option linter.unusedVariables false
set_option linter.unusedSimpArgs false
set_option maxRecDepth 100000
set_option maxHeartbeats 6400000
namespace Go.Bs
theorem zBs{p:Prop}(h:p:=by have := x.toNat_lt; omega):p:=h
theorem zBl{p:Prop}(h:p:=by have := HFK.out; simp only [Am]; omega):p:=h
theorem zA5{p:Prop}(h:p:=by have := hbk x hx; omega):p:=h
theorem zAp{p:Prop}(h:p:=by rw [Ik]; exact h):p:=h
theorem ZM{p:Prop}(h:p:=by rw [hf.out, Gy]; rfl):p:=h
theorem ZK{p:Prop}(h:p:=by have := HFIT.out; rw [HK.out] at this; simp at this ⊢; omega):p:=h
theorem ZJ{p:Prop}(h:p:=by have := HLEN.out; rw [HK.out] at this; simp at this ⊢; omega):p:=h
theorem zS{p:Prop}(h:p:=by simp only [Am]; omega):p:=h
theorem AL:type_of% @List.getElem_cons_succ:=@List.getElem_cons_succ
theorem ET:type_of% @Nat.add_sub_cancel:=@Nat.add_sub_cancel
theorem EU:type_of% @List.take_of_length_le:=@List.take_of_length_le
end Go.Bs
namespace Go.Proofs.YtlbffbkbkajciaaGreat
open Go.RowKit Go.Bs Go.Maps
theorem DK {w : World} {g : Nat} {a a1 : Option Addr} (h : a1.map Addr.block = a.map Addr.block ∨ ∃ q, a1.map Addr.block = some q ∧ w.heap.size ≤ q) {q : Nat} (hq : q < w.heap.size) (hn : ¬ CT g a q) : ¬ CT g a1 q := by
 rw [EJ] at hn ⊢
 intro e;rcases e with e | e
 ·exact hn (.inl e)
 ·rcases h with h | ⟨q', h, h2⟩
  ·exact hn (.inr (h ▸ e))
  ·rw [h] at e; have := Cf e; omega
theorem JU (w : World) (y : UInt8) : Ag.r (· < (w.alloc (.cells #[.int .u8 (y.toNat : Int)] 5)).heap.size) (w.alloc (.cells #[.int .u8 (y.toNat : Int)] 5)) [.slice (some ⟨w.heap.size, 0, none⟩) 1 1] [y] :=
 G5 (l := [y]) rfl (Ks (base := 0) (Aj _) (World.alloc_heap_new w _))
theorem LX (w : World) {g base most : Nat} {J : List UInt8} {a : Option Addr} {c : Nat} (h : Bv w g base most J a c) (p : List UInt8) (ad : Option Addr) (nd cd : Nat)
  (hD : Ag.r (fun q => q < w.heap.size ∧ ¬ CT g a q) w [.slice ad nd cd] p) (hp : p.length ≤ 1048576) (hfit : J.length + (Cu p).length ≤ most) (hlen : J.length + (Cu p).length ≤ 100000000000000) :
  Calls Tryz.prog 74 #[.pointer (some ⟨g, 0, none⟩), .slice ad nd cd] w fun r w' => r = .returned (.tuple #[]) ∧ Ao w g base most (J ++ Cu p) a w' := by
 obtain ⟨rfl, hm, _, _⟩ := AP hD
 have d1 : decide ((1048576 : Int) < (p.length : Int)) = false := Ab zD
 have hbk : Hid (Cu p = AH p.length ++ (if Hm p then 1 :: Db (Fa p) else 0 :: p)) := hid rfl
 have hvl : (AH p.length).length ≤ (Cu p).length := by rw [hbk.out]; simp
 have HV := hid (BG w h p.length zD zD zD)
 have HPK := hid (fun (W : World) (hl : Ag.r (· < W.heap.size) W [.slice ad p.length cd] p) => MG W p ad _ cd hl hp)
 have HD := hid hD
 have HFIT := hid hfit; have HLEN := hid hlen
 clear h hD hfit hlen hvl;generalize Hm p = R at *
 generalize Fa p = E at *
 generalize AH p.length = V at *
 generalize Cu p = K at *
 cases R
 ·have HK : Hid (K = V ++ (0 :: p)) := hid hbk.out
  clear hbk;go_enter Tryz.func74, Tryz.ntmps74
  go_wp2_with fail;refine HV.out.mono ?_
  rintro r w1 ⟨rfl, a1, c1, hp1, ht1, ha1⟩;have hs1 := ht1.size
  have hD1 : Ag.r (fun q => q < w1.heap.size ∧ ¬ CT g a1 q) w1 [.slice ad p.length cd] p := Ag.mono (Ag.keep HD.out fun q hq => ht1.block q hq.1 hq.2) fun q hq => ⟨zD, DK ha1 hq.1 hq.2⟩
  have HD1 := hid hD1
  clear hD1;go_wp2_with fail;refine (HPK.out _ (Ag.mono HD1.out fun q hq => hq.1)).mono ?_
  rintro r w2 ⟨v2, rfl, _, hv2, hb2⟩;obtain rfl := hv2 trivial
  have hs2 := hb2.size
  have hp2 := hp1.later hb2
  go_wp2_with fail;have hbW : Below w2.heap.size w2 (w2.alloc (.cells #[.int .u8 0] 5)) := zB
  have hlit : Ag.r (· < (w2.alloc (.cells #[.int .u8 0] 5)).heap.size) (w2.alloc (.cells #[.int .u8 0] 5)) [.slice (some ⟨w2.heap.size, 0, none⟩) 1 1] [0] := JU w2 0
  generalize w2.alloc (.cells #[.int .u8 0] 5) = W at *
  have hsW := hbW.size
  refine (Ep W (hp2.later hbW) [0] (some ⟨w2.heap.size, 0, none⟩) 1 1 hlit ZK ZJ).mono ?_
  rintro r w3 ⟨rfl, a3, c3, hp3, ht3, ha3⟩;have hs3 := ht3.size
  have hD3 : Ag.r (· < w3.heap.size) w3 [.slice ad p.length cd] p := Ag.mono (Ag.keep HD1.out fun q hq => (ht3.block q zD hq.2).trans ((hbW.block q zD).trans (hb2.block q hq.1))) fun q hq => by omega
  have HQ := hid (Ep w3 hp3 p ad _ cd hD3 ZK ZJ)
  clear hD3 hlit;go_wp2_with fail;refine HQ.out.mono ?_
  rintro r w4 ⟨rfl, hst⟩;have hst2 := Ao.trans (J := J) ht1 ha1 (Ao.later hb2 (Ao.later hbW (Ao.trans (J := J) ht3 ha3 hst)))
  have HST : Hid (Ao w g base most (J ++ K) a w4) := hid (by rw [HK.out]; simpa using hst2)
  clear hst hst2;go_wp2;first | go_end0 | refine Ai (Aq rfl _ _ _) rfl ?_
  exact ⟨rfl, HST.out⟩
 ·have HK : Hid (K = V ++ (1 :: Db E)) := hid hbk.out
  clear hbk;go_enter Tryz.func74, Tryz.ntmps74
  go_wp2_with fail;refine HV.out.mono ?_
  rintro r w1 ⟨rfl, a1, c1, hp1, ht1, ha1⟩;have hs1 := ht1.size
  have hD1 : Ag.r (fun q => q < w1.heap.size ∧ ¬ CT g a1 q) w1 [.slice ad p.length cd] p := Ag.mono (Ag.keep HD.out fun q hq => ht1.block q hq.1 hq.2) fun q hq => ⟨zD, DK ha1 hq.1 hq.2⟩
  have HD1 := hid hD1
  clear hD1;go_wp2_with fail;refine (HPK.out _ (Ag.mono HD1.out fun q hq => hq.1)).mono ?_
  rintro r w2 ⟨v2, rfl, hv2, _, hb2⟩;obtain ⟨a2, c2, hve, hr2, _⟩ := AE (hv2 trivial)
  simp only [Ap, AD] at hve
  subst hve;have HE := hid hr2
  clear hv2 hr2;have hs2 := hb2.size
  have hp2 := hp1.later hb2
  go_wp2_with fail;have hbW : Below w2.heap.size w2 (w2.alloc (.cells #[.int .u8 1] 5)) := zB
  have hlit : Ag.r (· < (w2.alloc (.cells #[.int .u8 1] 5)).heap.size) (w2.alloc (.cells #[.int .u8 1] 5)) [.slice (some ⟨w2.heap.size, 0, none⟩) 1 1] [1] := JU w2 1
  generalize w2.alloc (.cells #[.int .u8 1] 5) = W at *
  have hsW := hbW.size
  refine (Ep W (hp2.later hbW) [1] (some ⟨w2.heap.size, 0, none⟩) 1 1 hlit ZK ZJ).mono ?_
  rintro r w3 ⟨rfl, a3, c3, hp3, ht3, ha3⟩;have hs3 := ht3.size
  have hno : ∀ q, w1.heap.size ≤ q → ¬ CT g a1 q := fun q hq hf => by have := (hp1.DG hf).2; omega
  have hE3 : Ag.r (fun q => q < w3.heap.size ∧ ¬ CT g a3 q) w3 [.slice a2 E.length c2] E := Ag.mono (Ag.keep HE.out fun q hq => (ht3.block q zD (hno q hq.1)).trans (hbW.block q zD)) fun q hq => ⟨zD, DK ha3 zD (hno q hq.1)⟩
  have HQ := hid (NU w3 hp3 E a2 _ c2 hE3 ZK ZJ)
  clear hE3 hlit hno;go_wp2_with fail;refine HQ.out.mono ?_
  rintro r w4 ⟨rfl, hst⟩;have hst2 := Ao.trans (J := J) ht1 ha1 (Ao.later hb2 (Ao.later hbW (Ao.trans (J := J) ht3 ha3 hst)))
  have HST : Hid (Ao w g base most (J ++ K) a w4) := hid (by rw [HK.out]; simpa using hst2)
  clear hst hst2;go_wp2;first | go_end0 | refine Ai (Aq rfl _ _ _) rfl ?_
  exact ⟨rfl, HST.out⟩
theorem KS (p : List UInt8) : (Cu p).length ≤ (AH p.length).length + p.length + 1 := by
 unfold Cu;by_cases h : Hm p = true
 ·have h2 := h
  unfold Hm at h2;have h3 := B6 h2
  rw [Ak h]
  simp; omega
 ·rw [An h]
  simp; omega
theorem JE (w : World) (p : List UInt8) (a : Option Addr) (n c : Nat) (hl : Ag.r (· < w.heap.size) w [.slice a n c] p) (hp : p.length ≤ 1048576) :
  Calls Tryz.prog 200 #[.slice a n c] w fun r w' => ∃ v, r = .returned (.tuple #[v, .int .i64 0]) ∧ Ag.r (fun q => w.heap.size ≤ q ∧ q < w'.heap.size) w' [v] (Cu p) ∧ Below w.heap.size w w' := by
 obtain ⟨rfl, hm, _, _⟩ := AP hl
 have HS := hid (Jc p.length zD w)
 have hbl := KS p
 have hvl := A2 p.length
 have HL := hid hl
 clear hl;generalize (AH p.length).length = k at *
 have hbK := hid hbl
 clear hbl;go_enter Tryz.func200, Tryz.ntmps200
 go_wp2_with fail;refine HS.out.mono ?_
 rintro r w1 ⟨rfl, hb1⟩;have HN := hid (Iu w1 (k + p.length + 1) zD)
 rw [show ((k + p.length + 1 : Nat) : Int) = (k : Int) + (p.length : Int) + 1 by omega] at HN
 have hs1 := hb1.size
 go_wp2_with fail;refine HN.out.mono ?_
 rintro r w2 ⟨rfl, hp2, hb2⟩;have hs2 := hb2.size
 have hbw2 := Af hb2 hb1
 have HQ := hid (LX w2 hp2 p a _ c (Ag.mono (Ag.keep HL.out fun q hq => hbw2.block q hq) fun q hq => ⟨zD, fun hf => by have := (hp2.DG hf).1; omega⟩) hp (by have := hbK.out; simp; omega) (by have := hbK.out; simp; omega))
 have HP2 := hid hp2
 clear hp2;go_wp2_with fail;refine HQ.out.mono ?_
 rintro r w3 ⟨rfl, hst⟩;have hb3 : Below w1.heap.size w2 w3 := HP2.out.below (Al _) zD hst
 obtain ⟨a3, c3, hp3, _, _⟩ := hst
 rw [A8] at hp3
 have hs3 := hb3.size
 have hbw3 : Below w.heap.size w w3 := hbw2.trans (hb3.mono zD)
 have HB := hid (G4 w3 hp3)
 clear hp3;go_wp2_with fail;refine HB.out.mono ?_
 rintro r w4 ⟨v, rfl, hv, hb4⟩;have hbe := Af hb4 hbw3
 have HV := hid (Ag.mono (S' := fun q => w.heap.size ≤ q ∧ q < w4.heap.size) hv fun q hq => ⟨zU, hq.2⟩)
 clear hv;go_wp2;go_ret2
 exact ⟨_, rfl, HV.out, hbe⟩
def Rs.inn (s : Rs) (L : Nat) : Prop := 0 ≤ s.f ∧ s.f ≤ L
theorem Rs.ID {s : Rs} {L : Nat} (h : s.inn L) {c at_ : Int} (h1 : 0 ≤ at_) (h2 : at_ ≤ L) : (s.fail c at_).inn L := by
 unfold Rs.fail; split
 ·exact ⟨h1, h2⟩
 ·exact h
theorem Rs.S9 {s : Rs} {L : Nat} (h : s.ok L) (hi : s.inn L) (n : Int) : (s.skip L n).2.inn L := by
 have := h.le
 unfold Rs.skip Rs.inn at *;split
 ·split
  ·dsimp only; omega
  ·split
   ·dsimp only; omega
   ·dsimp only; omega
 ·exact hi
theorem Rs.St {B : List UInt8} {s : Rs} (h : s.ok B.length) (hi : s.inn B.length) : (s.num B).1.inn B.length := by
 have hu := FQ (B.drop s.p) 0 0
 have hl : (B.drop s.p).length = B.length - s.p := zO
 have := h.le
 unfold Rs.num Rs.inn at *;split
 ·dsimp only
  split
  ·omega
  ·split
   ·omega
   ·rename_i h1 h2
    have := hu.2.2.2.2 h2
    omega
 ·exact hi
theorem Rs.Tr {B : List UInt8} {s : Rs} (h : s.ok B.length) (hi : s.inn B.length) : (s.head B).1.inn B.length := by
 have hle := h.le
 have hn := Rs.St h hi
 unfold Rs.head; split
 ·split
  ·split
   ·exact Rs.ID hn zD zD
   ·exact hn
  ·split
   ·exact Rs.ID hn zD zD
   ·exact hn
 ·exact hn
theorem Rs.IW {B : List UInt8} {s : Rs} (h : s.ok B.length) (hi : s.inn B.length) : (s.offset B).1.inn B.length := by
 have hle := h.le
 have hn := Rs.St h hi
 unfold Rs.offset; dsimp only; split
 ·exact Rs.ID hn zD zD
 ·exact hn
theorem Q8 {B : List UInt8} {bound : Int} {s : Rs} {out : List UInt8} (h : s.ok B.length) (hi : s.inn B.length) : (CC B bound s out).1.inn B.length := by
 have hle := h.le
 have hh := Rs.Tr h hi
 have ho := Rs.Gm h
 have hle2 := ho.le
 unfold CC; split
 ·exact Rs.ID hh zD zD
 ·split
  ·exact Rs.S9 ho hh _
  ·split
   ·exact Rs.ID (Rs.IW ho hh) zD zD
   ·split
    ·exact Rs.IW ho hh
    ·exact Rs.IW ho hh
theorem SJ {B : List UInt8} {bound : Int} : ∀ (f : Nat) (s : Rs) (out : List UInt8), s.ok B.length → s.inn B.length → (exF B bound f s out).1.inn B.length
 | 0, s, out, _, h => h
 | f + 1, s, out, h1, h2 => by
  simp only [exF]; split
  ·exact SJ f _ _ (I6 h1) (Q8 h1 h2)
  ·exact h2
theorem ND {B : List UInt8} {bound : Int} : ∀ (f : Nat) (s : Rs) (out : List UInt8), Ph bound out → Ph bound (exF B bound f s out).2
 | 0, s, out, h => h
 | f + 1, s, out, h => by
  simp only [exF]; split
  ·exact ND f _ _ (LM h)
  ·exact h
theorem LN (B : List UInt8) (bound : Int) : (exB B bound).1.length ≤ bound.toNat ∧ 0 ≤ (exB B bound).2.2 ∧ (exB B bound).2.2 ≤ B.length ∧ ((exB B bound).2.1 ≠ 0 → (exB B bound).1 = []) := by
 have h1 := SJ (B := B) (bound := bound) B.length ⟨0, 0, 0⟩ [] ⟨Aj _, fun _ => rfl⟩ ⟨zO, zO⟩
 have h2 := ND (B := B) (bound := bound) B.length ⟨0, 0, 0⟩ [] (.inl rfl)
 unfold exB;split
 ·refine ⟨?_, zO, zO, zO⟩
  rcases h2 with h | h
  ·rw [h]; simp
  ·dsimp only; omega
 ·exact ⟨zO, h1.1, h1.2, zO⟩
theorem Rs.SD {B : List UInt8} {s : Rs} {m : Int} : s.p ≤ (s.int B m).1.p := by
 unfold Rs.int Rs.most;split
 ·split
  ·rw [Rs.KC]; exact Rs.Ss
  ·exact Rs.Ss
 ·rw [Rs.KC]; exact Rs.Ss
theorem Rs.KL {B : List UInt8} {s : Rs} (h : s.ok B.length) : s.p ≤ (s.byte B).1.p := Rs.RK h 1
theorem Rs.Oc {B : List UInt8} {s : Rs} (h : s.ok B.length) (n : Int) : s.p ≤ (s.take B n).1.p := Rs.RK h n
theorem Rs.T3 {B : List UInt8} {s : Rs} (h : s.ok B.length) (m : Int) : s.p ≤ (s.DH B m).1.p := A5 (Rs.SD (m := m)) (Rs.Oc (Rs.EE h) _)
theorem Rs.Hb {B : List UInt8} {s : Rs} (h : s.ok B.length) (m : Int) : (s.DH B m).1.ok B.length := Rs.Im (Rs.EE h) _
def Rs.unp (B : List UInt8) (s : Rs) (n : Nat) : Rs × List UInt8 :=
 if (s.DH B 1048576).1.k = 0 then
  (if (exB (s.DH B 1048576).2 n).2.1 = 0 then
   (if (exB (s.DH B 1048576).2 n).1.length < n then ((s.DH B 1048576).1.fail 3 (s.DH B 1048576).1.p, (exB (s.DH B 1048576).2 n).1) else ((s.DH B 1048576).1, (exB (s.DH B 1048576).2 n).1))
  else ((s.DH B 1048576).1.fail (exB (s.DH B 1048576).2 n).2.1 ((exB (s.DH B 1048576).2 n).2.2 + (((s.DH B 1048576).1.p : Int) - ((s.DH B 1048576).2.length : Int))), []))
 else ((s.DH B 1048576).1, [])
theorem Rs.Rw {B : List UInt8} {s : Rs} (h : s.ok B.length) (n : Nat) : (s.unp B n).1.ok B.length := by
 unfold Rs.unp;split
 ·split
  ·split
   ·exact Rs.BS (Rs.Hb h _) zD
   ·exact Rs.Hb h _
  ·exact Rs.BS (Rs.Hb h _) zN
 ·exact Rs.Hb h _
theorem Rs.Tx {B : List UInt8} {s : Rs} (h : s.ok B.length) (n : Nat) : s.p ≤ (s.unp B n).1.p := by
 have := Rs.T3 h 1048576
 unfold Rs.unp;split
 ·split
  ·split
   ·rw [Rs.KC]; exact this
   ·exact this
  ·rw [Rs.KC]; exact this
 ·exact this
theorem Rs.PG {B : List UInt8} {s : Rs} (n : Nat) : (s.unp B n).2.length ≤ n := by
 have := (LN (s.DH B 1048576).2 n).1
 unfold Rs.unp;split
 ·split
  ·split
   ·dsimp only; omega
   ·dsimp only; omega
  ·simp
 ·simp
def Rs.loose (B : List UInt8) (s : Rs) (most : Int) : Rs × List UInt8 × Bool :=
 if ((s.int B (min most 1048576)).1.byte B).1.k = 0 then
  (if ((s.int B (min most 1048576)).1.byte B).2.toNat = 0 then
   (if (((s.int B (min most 1048576)).1.byte B).1.take B ((s.int B (min most 1048576)).2 : Int)).1.k = 0 then ((((s.int B (min most 1048576)).1.byte B).1.take B ((s.int B (min most 1048576)).2 : Int)).1, (((s.int B (min most 1048576)).1.byte B).1.take B ((s.int B (min most 1048576)).2 : Int)).2, decide (Cu (((s.int B (min most 1048576)).1.byte B).1.take B ((s.int B (min most 1048576)).2 : Int)).2 = (B.drop s.p).take ((((s.int B (min most 1048576)).1.byte B).1.take B ((s.int B (min most 1048576)).2 : Int)).1.p - s.p)))
   else ((((s.int B (min most 1048576)).1.byte B).1.take B ((s.int B (min most 1048576)).2 : Int)).1, [], false))
  else if ((s.int B (min most 1048576)).1.byte B).2.toNat = 1 then
   (if (((s.int B (min most 1048576)).1.byte B).1.unp B (s.int B (min most 1048576)).2).1.k = 0 then ((((s.int B (min most 1048576)).1.byte B).1.unp B (s.int B (min most 1048576)).2).1, (((s.int B (min most 1048576)).1.byte B).1.unp B (s.int B (min most 1048576)).2).2, decide (Cu (((s.int B (min most 1048576)).1.byte B).1.unp B (s.int B (min most 1048576)).2).2 = (B.drop s.p).take ((((s.int B (min most 1048576)).1.byte B).1.unp B (s.int B (min most 1048576)).2).1.p - s.p)))
   else ((((s.int B (min most 1048576)).1.byte B).1.unp B (s.int B (min most 1048576)).2).1, [], false))
  else (((s.int B (min most 1048576)).1.byte B).1.fail 7 ((((s.int B (min most 1048576)).1.byte B).1.p : Int) - 1), [], false))
 else (((s.int B (min most 1048576)).1.byte B).1, [], false)
theorem JB (x y : List UInt8) (a a' : Option Addr) (n c n' c' : Nat) (w : World) (hx : Ag.r (· < w.heap.size) w [.slice a n c] x) (hy : Ag.r (· < w.heap.size) w [.slice a' n' c'] y) :
  Calls Tryz.prog 97 #[.slice a n c, .slice a' n' c'] w fun r w' => r = .returned (.bool (decide (x = y))) ∧ w = w' := by
 obtain ⟨rfl, _, _, _⟩ := AP hx
 obtain ⟨rfl, _, _, _⟩ := AP hy
 have h1 := Ha (P := Tryz.prog) 25 9 5 AU Tryz.underlying5 Tryz.underlying9 hx
 have h2 := Ha (P := Tryz.prog) 25 9 5 AU Tryz.underlying5 Tryz.underlying9 hy
 have he : (x == y) = decide (x = y) := by
  by_cases h : x = y
  ·simp [h]
  ·simp [h]
 have HE := hid he; clear he hx hy
 go_enter Tryz.func97, Tryz.ntmps97
 go_wp2;go_ret;refine ⟨?_, rfl⟩
 rw [← HE.out]
 simp [go_sem]
theorem NA (w : World) (k f b : Int) (hk : k ≠ 0) (hf : -1000000000000 ≤ f ∧ f ≤ 1000000000000) (hb : -1000000000000 ≤ b ∧ b ≤ 1000000000000) : Calls Tryz.prog 143 #[.agg #[.int .i64 k, .int .i64 f], .int .i64 b] w fun r w' => r = .returned (.agg #[.int .i64 k, .int .i64 (f + b)]) ∧ Below w.heap.size w w' := by
 go_enter Tryz.func143, Tryz.ntmps143
 go_wp2_with fail;refine (IC _ k (f + b) hk).mono ?_
 rintro r w1 ⟨rfl, hb1⟩;have B1 : Blk w1 (w.heap.size + 1) 58 #[.int .i64 0, .int .i64 0] := Blk.later zC hb1
 obtain ⟨y0, y1, g0, g1, l1⟩ := Bu B1
 have hbw : Below w.heap.size w w1 := zA
 clear B1 hb1;go_wp2;refine Ai (v := .agg #[.int .i64 k, .int .i64 (f + b)]) (by simp [results, Tryz.results143, go_sem, y0, y1, l1]) rfl ⟨rfl, zA⟩
theorem KR (w : World) {g : Nat} {B : List UInt8} {a : Option Addr} {s : Rs} (h : AK w g B a s) (hB : B.length ≤ 1000000000) (n : Nat) (hn : n ≤ 1048576) : Calls Tryz.prog 199 #[.pointer (some ⟨g, 0, none⟩), .int .i64 (n : Int)] w fun r w' => ∃ v, r = .returned v ∧ Ag.r (fun q => w.heap.size ≤ q ∧ q < w'.heap.size) w' [v] (s.unp B n).2 ∧ Av w g B a (s.unp B n).1 w' := by
 have HB := hid (LY w h zD 1048576 zD)
 have hbok := Rs.Hb h.ok 1048576
 have hlen : (s.DH B 1048576).2.length ≤ B.length := by
  unfold Rs.DH Rs.take;dsimp only;split
  ·simp; omega
  ·simp
 have hxf := LN (s.DH B 1048576).2 n
 have hX := hid (fun (W : World) (aD : Option Addr) (nD cD : Nat) (hl : Ag.r (· < W.heap.size) W [.slice aD nD cD] (s.DH B 1048576).2) => My W (s.DH B 1048576).2 aD nD cD hl zD n zD)
 have hpl := hbok.le
 unfold Rs.unp;generalize s.DH B 1048576 = T at *
 generalize exB T.2 n = X at *
 obtain ⟨s1, D⟩ := T
 obtain ⟨out, k, f⟩ := X
 dsimp only at *;have hgl := h.blk.lt
 have HDAT := hid h.dat
 clear h;by_cases h1 : s1.k = 0
 ·have dk : decide (s1.k = 0) = true := Ac h1
  rw [Ak h1]
  have H1 := hid h1
  clear h1;by_cases h2 : k = 0
  ·have d2 : decide (k = 0) = true := Ac h2
   rw [Ak h2]
   clear h2;by_cases h3 : out.length < n
   ·have d3 : decide ((out.length : Int) < (n : Int)) = true := Ac zD
    have d3' : decide (out.length < n) = true := Ac h3
    rw [Ak h3]
    clear h3;dsimp only;go_enter Tryz.func199, Tryz.ntmps199
    go_wp2_with fail;refine HB.out.mono ?_
    rintro r w1 ⟨v, rfl, hr, hst⟩;obtain ⟨aD, cD, hv, hr2, _⟩ := AE hr
    simp only [Ap, AD] at hv
    subst hv;have HD1 := hid hr2
    have HST := hid hst
    have hs1 := hst.size
    have hG := Ax w1 hst.1
    rw [dk] at hG
    have HG := hid hG
    clear hr hr2 hst hG dk;go_wp2_with fail;refine HG.out.mono ?_
    rintro r w2 ⟨rfl, hb2⟩;have hs2 := hb2.size
    have HAT := hid (BI w2 (HST.out.1.later hb2))
    go_wp2_with fail;refine HAT.out.mono ?_
    rintro r w2' ⟨rfl, rfl⟩;go_wp2_with fail;refine (hX.out w2 aD _ cD (Ag.mono (Ag.keep HD1.out fun q hq => hb2.block q hq.2) fun q hq => zD)).mono ?_
    rintro r w3 ⟨v3, rfl, hr, hb3⟩;obtain ⟨a3, c3, hv, hr2, _⟩ := AE hr
    simp only [Ap, AD] at hv
    subst hv;have HR3 := hid hr2
    have hs3 := hb3.size
    clear hr hr2;have hG := CA (w3.alloc (.cells #[.int .i64 k, .int .i64 f] 58)) k f
    rw [d2] at hG
    have HG3 := hid hG
    clear hG d2;go_wp2_with fail;refine HG3.out.mono ?_
    rintro r w4 ⟨rfl, hb4⟩;have hb34 : Below w3.heap.size w3 w4 := zA
    have hb14 : Below w1.heap.size w1 w4 := Af hb34 (Af hb3 hb2)
    have HST4 := hid (HST.out.then hb14)
    have hs4 := hb34.size
    have HKP := hid (Ag.mono (S' := fun q => w2.heap.size ≤ q ∧ q < w4.heap.size) (Ag.keep HR3.out fun q hq => hb34.block q hq.2) fun q hq => ⟨hq.1, zD⟩)
    have HAT2 := hid (BI _ HST4.out.1)
    go_wp2_with fail;refine HAT2.out.mono ?_
    rintro r w4' ⟨rfl, rfl⟩;have HF := hid (Bf _ HST4.out.1 3 s1.p zD)
    go_wp2_with fail;refine HF.out.mono ?_
    rintro r w5 ⟨rfl, hst5⟩;have hs5 := hst5.size
    have HR5 := hid (Ag.mono (S' := fun q => w.heap.size ≤ q ∧ q < w5.heap.size) (Ag.keep HKP.out fun q hq => hst5.2.block q hq.2 zD) fun q hq => ⟨zD, zD⟩)
    have HST5 := hid (Av.trans HST4.out.2 hst5)
    clear hst5;go_wp2;go_ret;exact ⟨_, rfl, HR5.out, HST5.out⟩
   ·have d3 : decide ((out.length : Int) < (n : Int)) = false := Ab zD
    have d3' : decide (out.length < n) = false := Ab h3
    rw [An h3]
    clear h3;dsimp only;go_enter Tryz.func199, Tryz.ntmps199
    go_wp2_with fail;refine HB.out.mono ?_
    rintro r w1 ⟨v, rfl, hr, hst⟩;obtain ⟨aD, cD, hv, hr2, _⟩ := AE hr
    simp only [Ap, AD] at hv
    subst hv;have HD1 := hid hr2
    have HST := hid hst
    have hs1 := hst.size
    have hG := Ax w1 hst.1
    rw [dk] at hG
    have HG := hid hG
    clear hr hr2 hst hG dk;go_wp2_with fail;refine HG.out.mono ?_
    rintro r w2 ⟨rfl, hb2⟩;have hs2 := hb2.size
    have HAT := hid (BI w2 (HST.out.1.later hb2))
    go_wp2_with fail;refine HAT.out.mono ?_
    rintro r w2' ⟨rfl, rfl⟩;go_wp2_with fail;refine (hX.out w2 aD _ cD (Ag.mono (Ag.keep HD1.out fun q hq => hb2.block q hq.2) fun q hq => zD)).mono ?_
    rintro r w3 ⟨v3, rfl, hr, hb3⟩;obtain ⟨a3, c3, hv, hr2, _⟩ := AE hr
    simp only [Ap, AD] at hv
    subst hv;have HR3 := hid hr2
    have hs3 := hb3.size
    clear hr hr2;have hG := CA (w3.alloc (.cells #[.int .i64 k, .int .i64 f] 58)) k f
    rw [d2] at hG
    have HG3 := hid hG
    clear hG d2;go_wp2_with fail;refine HG3.out.mono ?_
    rintro r w4 ⟨rfl, hb4⟩;have hb34 : Below w3.heap.size w3 w4 := zA
    have hb14 : Below w1.heap.size w1 w4 := Af hb34 (Af hb3 hb2)
    have HST4 := hid (HST.out.then hb14)
    have hs4 := hb34.size
    have HKP := hid (Ag.mono (S' := fun q => w2.heap.size ≤ q ∧ q < w4.heap.size) (Ag.keep HR3.out fun q hq => hb34.block q hq.2) fun q hq => ⟨hq.1, zD⟩)
    have HR5 := hid (Ag.mono (S' := fun q => w.heap.size ≤ q ∧ q < w4.heap.size) HKP.out fun q hq => ⟨zD, zD⟩)
    go_wp2;go_ret;exact ⟨_, rfl, HR5.out, HST4.out⟩
  ·have d2 : decide (k = 0) = false := Ab h2
   rw [An h2]
   have ho := hxf.2.2.2 h2
   subst ho;have HK2 := hid h2
   clear h2;dsimp only;go_enter Tryz.func199, Tryz.ntmps199
   go_wp2_with fail;refine HB.out.mono ?_
   rintro r w1 ⟨v, rfl, hr, hst⟩;obtain ⟨aD, cD, hv, hr2, _⟩ := AE hr
   simp only [Ap, AD] at hv
   subst hv;have HD1 := hid hr2
   have HST := hid hst
   have hs1 := hst.size
   have hG := Ax w1 hst.1
   rw [dk] at hG
   have HG := hid hG
   clear hr hr2 hst hG dk;go_wp2_with fail;refine HG.out.mono ?_
   rintro r w2 ⟨rfl, hb2⟩;have hs2 := hb2.size
   have HAT := hid (BI w2 (HST.out.1.later hb2))
   go_wp2_with fail;refine HAT.out.mono ?_
   rintro r w2' ⟨rfl, rfl⟩;go_wp2_with fail;refine (hX.out w2 aD _ cD (Ag.mono (Ag.keep HD1.out fun q hq => hb2.block q hq.2) fun q hq => zD)).mono ?_
   rintro r w3 ⟨v3, rfl, hr, hb3⟩;obtain ⟨a3, c3, hv, hr2, _⟩ := AE hr
   simp only [Ap, AD] at hv
   subst hv;have HR3 := hid hr2
   have hs3 := hb3.size
   clear hr hr2;have hG := CA (w3.alloc (.cells #[.int .i64 k, .int .i64 f] 58)) k f
   rw [d2] at hG
   have HG3 := hid hG
   clear hG d2;go_wp2_with fail;refine HG3.out.mono ?_
   rintro r w4 ⟨rfl, hb4⟩;have hb34 : Below w3.heap.size w3 w4 := zA
   have hb14 : Below w1.heap.size w1 w4 := Af hb34 (Af hb3 hb2)
   have HST4 := hid (HST.out.then hb14)
   have hs4 := hb34.size
   have HKP := hid (Ag.mono (S' := fun q => w2.heap.size ≤ q ∧ q < w4.heap.size) (Ag.keep HR3.out fun q hq => hb34.block q hq.2) fun q hq => ⟨hq.1, zD⟩)
   have B4 : Blk w4 w3.heap.size 58 #[.int .i64 k, .int .i64 f] := Blk.later (Blk.newAt _ _ _ rfl) hb4
   obtain ⟨y0, y1, g0, g1, l1⟩ := Bu B4
   have HSH := hid (NA w4 k f ((s1.p : Int) - (D.length : Int)) HK2.out zD zD)
   go_wp2_with fail;refine HSH.out.mono ?_
   rintro r w5 ⟨rfl, hb5⟩;have B5 := B4.later hb5
   clear y0 y1 g0 g1 l1 B4;obtain ⟨y0, y1, g0, g1, l1⟩ := Bu B5
   clear B5;have hk5 : Av w g B a s1 ((w5.setCell ⟨w3.heap.size, 0, none⟩ (.int .i64 k)).setCell ⟨w3.heap.size, 1, none⟩ (.int .i64 (f + ((s1.p : Int) - (D.length : Int))))) := by
    have h5 := HST4.out.then hb5
    refine ⟨⟨Blk.far (Blk.far h5.1.blk zM _) zM _, ?_, h5.1.ok⟩, Tch.setCell (Tch.setCell h5.2 (fun e => by dsimp only at e; omega) _) (fun e => by dsimp only at e; omega) _⟩
    refine Ag.mono (Ag.keep (S := fun q => q < w.heap.size ∧ q ≠ g) (Ag.keep HDAT.out fun q hq => h5.2.block q hq.1 hq.2) fun q hq => ?_) fun q hq => ⟨by have := h5.size; simp [World.setCell]; omega, hq.2⟩
    have := hq.1
    rw [AG _ _ _ _ zM, AG _ _ _ _ zM]
   have HK5 := hid hk5
   clear hk5;have hsz5 : w.heap.size ≤ ((w5.setCell ⟨w3.heap.size, 0, none⟩ (.int .i64 k)).setCell ⟨w3.heap.size, 1, none⟩ (.int .i64 (f + ((s1.p : Int) - (D.length : Int))))).heap.size := HK5.out.size
   have HF := hid (Bf _ HK5.out.1 k (f + ((s1.p : Int) - (D.length : Int))) HK2.out)
   go_wp2_with fail;refine HF.out.mono ?_
   rintro r w6 ⟨rfl, hst6⟩;have HST6 := hid (Av.trans HK5.out.2 hst6)
   clear hst6 hsz5;go_wp2;go_ret;exact ⟨_, rfl, Cd rfl rfl (AP HR3.out).2.2.2, HST6.out⟩
 ·have dk : decide (s1.k = 0) = false := Ab h1
  rw [An h1]
  clear h1;dsimp only;go_enter Tryz.func199, Tryz.ntmps199
  go_wp2_with fail;refine HB.out.mono ?_
  rintro r w1 ⟨v, rfl, hr, hst⟩;obtain ⟨aD, cD, hv, hr2, _⟩ := AE hr
  simp only [Ap, AD] at hv
  subst hv;have HD1 := hid hr2
  have HST := hid hst
  have hs1 := hst.size
  have hG := Ax w1 hst.1
  rw [dk] at hG
  have HG := hid hG
  clear hr hr2 hst hG dk;go_wp2_with fail;refine HG.out.mono ?_
  rintro r w2 ⟨rfl, hb2⟩;have hs2 := hb2.size
  have HST2 := hid (HST.out.then hb2)
  go_wp2;go_ret;exact ⟨_, rfl, Cd rfl rfl zD, HST2.out⟩
theorem JD (w : World) {g : Nat} {B : List UInt8} {a : Option Addr} {s : Rs} (h : AK w g B a s) (hB : B.length ≤ 1000000000) (most : Int) (hm : -9223372036854775808 ≤ most ∧ most ≤ 9223372036854775807) :
  Calls Tryz.prog 119 #[.pointer (some ⟨g, 0, none⟩), .int .i64 most] w fun r w' => ∃ v, r = .returned (.tuple #[v, .bool (s.loose B most).2.2]) ∧ Ag.r (fun q => w.heap.size ≤ q ∧ q < w'.heap.size) w' [v] (s.loose B most).2.1 ∧ Av w g B a (s.loose B most).1 w' := by
 have hgl := h.blk.lt
 have HA := hid (BI w h)
 have HI := hid (Dt w h zD (min most 1048576) zD)
 have hiok := Rs.EE h.ok (m := min most 1048576)
 have hip := Rs.SD (B := B) (s := s) (m := min most 1048576)
 have hile : (s.int B (min most 1048576)).2 ≤ 1048576 := by have := Rs.FK (B := B) (s := s) (m := min most 1048576); omega
 have hbok := Rs.Gs hiok
 have hbp := Rs.KL hiok
 have hBY := hid (fun (W : World) (h : AK W g B a (s.int B (min most 1048576)).1) => JR W h)
 have hTK := hid (fun (W : World) (h : AK W g B a ((s.int B (min most 1048576)).1.byte B).1) => JP W h ((s.int B (min most 1048576)).2 : Int) zD zD)
 have htp := Rs.Oc hbok ((s.int B (min most 1048576)).2 : Int)
 have htl : (((s.int B (min most 1048576)).1.byte B).1.take B ((s.int B (min most 1048576)).2 : Int)).2.length ≤ 1048576 := by
  by_cases h0 : (((s.int B (min most 1048576)).1.byte B).1.take B ((s.int B (min most 1048576)).2 : Int)).1.k = 0
  ·rw [(Rs.IM h0).2.2]; omega
  ·rw [Rs.J7 h0]; simp
 have hUN := hid (fun (W : World) (h : AK W g B a ((s.int B (min most 1048576)).1.byte B).1) => KR W h hB (s.int B (min most 1048576)).2 hile)
 have hup := Rs.Tx hbok (s.int B (min most 1048576)).2
 have hul : (((s.int B (min most 1048576)).1.byte B).1.unp B (s.int B (min most 1048576)).2).2.length ≤ 1048576 := A5 (Rs.PG _) hile
 have hFL := hid (fun (W : World) (h : AK W g B a ((s.int B (min most 1048576)).1.byte B).1) => Bf W h 7 ((((s.int B (min most 1048576)).1.byte B).1.p : Int) - 1) zD)
 have hfk := Rs.Be (s := ((s.int B (min most 1048576)).1.byte B).1) (c := 7) (at_ := ((((s.int B (min most 1048576)).1.byte B).1.p : Int) - 1)) zD
 have hSN := hid (fun (W : World) (t : Rs) (h : AK W g B a t) (hp : s.p ≤ t.p) => RX W h s.p hp zD)
 have hbyp : ((s.int B (min most 1048576)).1.byte B).1.p ≤ B.length := hbok.le
 have hb1 : ((s.int B (min most 1048576)).1.byte B).1.k = 0 → 1 ≤ ((s.int B (min most 1048576)).1.byte B).1.p := fun hk => by rw [KL rfl hk]; omega
 unfold Rs.loose;generalize ((s.int B (min most 1048576)).1.byte B).1.fail 7 ((((s.int B (min most 1048576)).1.byte B).1.p : Int) - 1) = F1 at *
 generalize ((s.int B (min most 1048576)).1.byte B).1.take B ((s.int B (min most 1048576)).2 : Int) = T at *
 generalize ((s.int B (min most 1048576)).1.byte B).1.unp B (s.int B (min most 1048576)).2 = U at *
 generalize (s.int B (min most 1048576)).1.byte B = Y at *
 generalize s.int B (min most 1048576) = N at *
 obtain ⟨sd, n⟩ := N
 obtain ⟨se, y⟩ := Y
 obtain ⟨st, DT⟩ := T
 obtain ⟨su, DU⟩ := U
 dsimp only at *;have hSNt := hid (fun (W : World) (h : AK W g B a st) => hSN.out W st h zD)
 have hSNu := hid (fun (W : World) (h : AK W g B a su) => hSN.out W su h zD)
 generalize (B.drop s.p).take (st.p - s.p) = S1 at *
 generalize (B.drop s.p).take (su.p - s.p) = S2 at *
 clear hSN;have hM : (if most ≤ 1048576 then most else 1048576) = min most 1048576 := by split <;> omega
 have hM2 : (if (1048576 : Int) < most then (1048576 : Int) else most) = min most 1048576 := by split <;> omega
 generalize min most 1048576 = M at *
 have hy := y.toNat_lt
 clear h;by_cases hk : se.k = 0
 ·have dk : decide (se.k = 0) = true := Ac hk
  have hp1 := hb1 hk
  rw [Ak hk]
  clear hk hb1;by_cases h0 : y.toNat = 0
  ·have d0 : ((y.toNat : Int) == 0) = true := by rw [h0]; rfl
   rw [Ak h0]
   clear h0;by_cases ht : st.k = 0
   ·have dt : decide (st.k = 0) = true := Ac ht
    rw [Ak ht]
    clear ht;dsimp only;go_enter Tryz.func119, Tryz.ntmps119
    go_wp2_with fail;refine HA.out.mono ?_
    rintro r w0 ⟨rfl, rfl⟩;go_wp2_with fail;refine HI.out.mono ?_
    rintro r w1 ⟨rfl, hst1⟩;have HST1 := hid hst1
    have HBY := hid (hBY.out w1 hst1.1)
    clear hst1;go_wp2_with fail;refine HBY.out.mono ?_
    rintro r w2 ⟨rfl, hst2⟩;have HST2 := hid (Av.trans HST1.out.2 hst2)
    have hG := Ax w2 hst2.1
    rw [dk] at hG
    have HG := hid hG
    clear hst2 hG dk;go_wp2_with fail;refine HG.out.mono ?_
    rintro r w3 ⟨rfl, hb3⟩;have HST3 := hid (HST2.out.then hb3)
    have hs3 := HST3.out.size
    have HC := hid (hTK.out w3 HST3.out.1)
    go_wp2_with fail;refine HC.out.mono ?_
    rintro r w4 ⟨v, rfl, hr, hst4⟩;obtain ⟨aD, cD, hv, hr2, _⟩ := AE hr
    simp only [Ap, AD] at hv
    subst hv;have HR4 := hid hr2
    have hs4 := hst4.size
    have HST4 := hid (Av.trans HST3.out.2 hst4)
    have hG4 := Ax w4 hst4.1
    rw [dt] at hG4
    have HG4 := hid hG4
    clear hr hr2 hst4 hG4 dt;go_wp2_with fail;refine HG4.out.mono ?_
    rintro r w5 ⟨rfl, hb5⟩;have HST5 := hid (HST4.out.then hb5)
    have hs5 := hb5.size
    have HR5 := hid (Ag.mono (S' := fun q => w3.heap.size ≤ q ∧ q < w5.heap.size) (Ag.keep HR4.out fun q hq => hb5.block q hq.2) fun q hq => ⟨hq.1, zD⟩)
    have HBB := hid (JE w5 DT aD _ cD (Ag.mono HR5.out fun q hq => hq.2) htl)
    go_wp2_with fail;refine HBB.out.mono ?_
    rintro r w6 ⟨v6, rfl, hr, hb6⟩;obtain ⟨a6, c6, hv, hr2, _⟩ := AE hr
    simp only [Ap, AD] at hv
    subst hv;have HR6 := hid hr2
    have hs6 := hb6.size
    have HST6 := hid (HST5.out.then hb6)
    have HSN := hid (hSNt.out w6 HST6.out.1)
    clear hr hr2;go_wp2_with fail;refine HSN.out.mono ?_
    rintro r w7 ⟨v7, rfl, hr, hb7⟩;obtain ⟨a7, c7, hv, hr2, _⟩ := AE hr
    simp only [Ap, AD] at hv
    subst hv;have HR7 := hid hr2
    have hs7 := hb7.size
    have HST7 := hid (HST6.out.then hb7)
    have HEQ := hid (JB (Cu DT) S1 a6 a7 _ c6 _ c7 w7 (Ag.mono (Ag.keep HR6.out fun q hq => hb7.block q hq.2) fun q hq => zD) (Ag.mono HR7.out fun q hq => hq.2))
    generalize hq : decide (Cu DT = S1) = q at *
    have HQ := hid hq
    clear hq;clear hr hr2;go_wp2_with fail;refine HEQ.out.mono ?_
    rintro r w8 ⟨rfl, rfl⟩;have HRF := hid (Ag.mono (S' := fun q => w.heap.size ≤ q ∧ q < w7.heap.size) (Ag.keep HR5.out fun q hq => (hb7.block q zD).trans (hb6.block q hq.2)) fun q hq => ⟨zD, zD⟩)
    go_wp2;go_ret2
    rw [HQ.out]
    exact ⟨_, rfl, HRF.out, HST7.out⟩
   ·have dt : decide (st.k = 0) = false := Ab ht
    rw [An ht]
    clear ht;dsimp only;go_enter Tryz.func119, Tryz.ntmps119
    go_wp2_with fail;refine HA.out.mono ?_
    rintro r w0 ⟨rfl, rfl⟩;go_wp2_with fail;refine HI.out.mono ?_
    rintro r w1 ⟨rfl, hst1⟩;have HST1 := hid hst1
    have HBY := hid (hBY.out w1 hst1.1)
    clear hst1;go_wp2_with fail;refine HBY.out.mono ?_
    rintro r w2 ⟨rfl, hst2⟩;have HST2 := hid (Av.trans HST1.out.2 hst2)
    have hG := Ax w2 hst2.1
    rw [dk] at hG
    have HG := hid hG
    clear hst2 hG dk;go_wp2_with fail;refine HG.out.mono ?_
    rintro r w3 ⟨rfl, hb3⟩;have HST3 := hid (HST2.out.then hb3)
    have hs3 := HST3.out.size
    have HC := hid (hTK.out w3 HST3.out.1)
    go_wp2_with fail;refine HC.out.mono ?_
    rintro r w4 ⟨v, rfl, hr, hst4⟩;obtain ⟨aD, cD, hv, hr2, _⟩ := AE hr
    simp only [Ap, AD] at hv
    subst hv;have HR4 := hid hr2
    have hs4 := hst4.size
    have HST4 := hid (Av.trans HST3.out.2 hst4)
    have hG4 := Ax w4 hst4.1
    rw [dt] at hG4
    have HG4 := hid hG4
    clear hr hr2 hst4 hG4 dt;go_wp2_with fail;refine HG4.out.mono ?_
    rintro r w5 ⟨rfl, hb5⟩;have HST5 := hid (HST4.out.then hb5)
    have hs5 := hb5.size
    go_wp2;go_ret2
    exact ⟨_, rfl, Cd rfl rfl zD, HST5.out⟩
  ·have d0 : ((y.toNat : Int) == 0) = false := by rw [beq_eq_false_iff_ne]; omega
   rw [An h0]
   by_cases h1 : y.toNat = 1
   ·have d1 : ((y.toNat : Int) == 1) = true := by rw [h1]; rfl
    rw [Ak h1]
    clear h0 h1;by_cases ht : su.k = 0
    ·have dt : decide (su.k = 0) = true := Ac ht
     rw [Ak ht]
     clear ht;dsimp only;go_enter Tryz.func119, Tryz.ntmps119
     go_wp2_with fail;refine HA.out.mono ?_
     rintro r w0 ⟨rfl, rfl⟩;go_wp2_with fail;refine HI.out.mono ?_
     rintro r w1 ⟨rfl, hst1⟩;have HST1 := hid hst1
     have HBY := hid (hBY.out w1 hst1.1)
     clear hst1;go_wp2_with fail;refine HBY.out.mono ?_
     rintro r w2 ⟨rfl, hst2⟩;have HST2 := hid (Av.trans HST1.out.2 hst2)
     have hG := Ax w2 hst2.1
     rw [dk] at hG
     have HG := hid hG
     clear hst2 hG dk;go_wp2_with fail;refine HG.out.mono ?_
     rintro r w3 ⟨rfl, hb3⟩;have HST3 := hid (HST2.out.then hb3)
     have hs3 := HST3.out.size
     have HC := hid (hUN.out w3 HST3.out.1)
     go_wp2_with fail;refine HC.out.mono ?_
     rintro r w4 ⟨v, rfl, hr, hst4⟩;obtain ⟨aD, cD, hv, hr2, _⟩ := AE hr
     simp only [Ap, AD] at hv
     subst hv;have HR4 := hid hr2
     have hs4 := hst4.size
     have HST4 := hid (Av.trans HST3.out.2 hst4)
     have hG4 := Ax w4 hst4.1
     rw [dt] at hG4
     have HG4 := hid hG4
     clear hr hr2 hst4 hG4 dt;go_wp2_with fail;refine HG4.out.mono ?_
     rintro r w5 ⟨rfl, hb5⟩;have HST5 := hid (HST4.out.then hb5)
     have hs5 := hb5.size
     have HR5 := hid (Ag.mono (S' := fun q => w3.heap.size ≤ q ∧ q < w5.heap.size) (Ag.keep HR4.out fun q hq => hb5.block q hq.2) fun q hq => ⟨hq.1, zD⟩)
     have HBB := hid (JE w5 DU aD _ cD (Ag.mono HR5.out fun q hq => hq.2) hul)
     go_wp2_with fail;refine HBB.out.mono ?_
     rintro r w6 ⟨v6, rfl, hr, hb6⟩;obtain ⟨a6, c6, hv, hr2, _⟩ := AE hr
     simp only [Ap, AD] at hv
     subst hv;have HR6 := hid hr2
     have hs6 := hb6.size
     have HST6 := hid (HST5.out.then hb6)
     have HSN := hid (hSNu.out w6 HST6.out.1)
     clear hr hr2;go_wp2_with fail;refine HSN.out.mono ?_
     rintro r w7 ⟨v7, rfl, hr, hb7⟩;obtain ⟨a7, c7, hv, hr2, _⟩ := AE hr
     simp only [Ap, AD] at hv
     subst hv;have HR7 := hid hr2
     have hs7 := hb7.size
     have HST7 := hid (HST6.out.then hb7)
     have HEQ := hid (JB (Cu DU) S2 a6 a7 _ c6 _ c7 w7 (Ag.mono (Ag.keep HR6.out fun q hq => hb7.block q hq.2) fun q hq => zD) (Ag.mono HR7.out fun q hq => hq.2))
     generalize hq : decide (Cu DU = S2) = q at *
     have HQ := hid hq
     clear hq;clear hr hr2;go_wp2_with fail;refine HEQ.out.mono ?_
     rintro r w8 ⟨rfl, rfl⟩;have HRF := hid (Ag.mono (S' := fun q => w.heap.size ≤ q ∧ q < w7.heap.size) (Ag.keep HR5.out fun q hq => (hb7.block q zD).trans (hb6.block q hq.2)) fun q hq => ⟨zD, zD⟩)
     go_wp2;go_ret2
     rw [HQ.out]
     exact ⟨_, rfl, HRF.out, HST7.out⟩
    ·have dt : decide (su.k = 0) = false := Ab ht
     rw [An ht]
     clear ht;dsimp only;go_enter Tryz.func119, Tryz.ntmps119
     go_wp2_with fail;refine HA.out.mono ?_
     rintro r w0 ⟨rfl, rfl⟩;go_wp2_with fail;refine HI.out.mono ?_
     rintro r w1 ⟨rfl, hst1⟩;have HST1 := hid hst1
     have HBY := hid (hBY.out w1 hst1.1)
     clear hst1;go_wp2_with fail;refine HBY.out.mono ?_
     rintro r w2 ⟨rfl, hst2⟩;have HST2 := hid (Av.trans HST1.out.2 hst2)
     have hG := Ax w2 hst2.1
     rw [dk] at hG
     have HG := hid hG
     clear hst2 hG dk;go_wp2_with fail;refine HG.out.mono ?_
     rintro r w3 ⟨rfl, hb3⟩;have HST3 := hid (HST2.out.then hb3)
     have hs3 := HST3.out.size
     have HC := hid (hUN.out w3 HST3.out.1)
     go_wp2_with fail;refine HC.out.mono ?_
     rintro r w4 ⟨v, rfl, hr, hst4⟩;obtain ⟨aD, cD, hv, hr2, _⟩ := AE hr
     simp only [Ap, AD] at hv
     subst hv;have HR4 := hid hr2
     have hs4 := hst4.size
     have HST4 := hid (Av.trans HST3.out.2 hst4)
     have hG4 := Ax w4 hst4.1
     rw [dt] at hG4
     have HG4 := hid hG4
     clear hr hr2 hst4 hG4 dt;go_wp2_with fail;refine HG4.out.mono ?_
     rintro r w5 ⟨rfl, hb5⟩;have HST5 := hid (HST4.out.then hb5)
     have hs5 := hb5.size
     go_wp2;go_ret2
     exact ⟨_, rfl, Cd rfl rfl zD, HST5.out⟩
   ·have d1 : ((y.toNat : Int) == 1) = false := by rw [beq_eq_false_iff_ne]; omega
    rw [An h1]
    clear h0 h1;have dt : decide (F1.k = 0) = false := Ab hfk
    dsimp only;go_enter Tryz.func119, Tryz.ntmps119
    go_wp2_with fail;refine HA.out.mono ?_
    rintro r w0 ⟨rfl, rfl⟩;go_wp2_with fail;refine HI.out.mono ?_
    rintro r w1 ⟨rfl, hst1⟩;have HST1 := hid hst1
    have HBY := hid (hBY.out w1 hst1.1)
    clear hst1;go_wp2_with fail;refine HBY.out.mono ?_
    rintro r w2 ⟨rfl, hst2⟩;have HST2 := hid (Av.trans HST1.out.2 hst2)
    have hG := Ax w2 hst2.1
    rw [dk] at hG
    have HG := hid hG
    clear hst2 hG dk;go_wp2_with fail;refine HG.out.mono ?_
    rintro r w3 ⟨rfl, hb3⟩;have HST3 := hid (HST2.out.then hb3)
    have hs3 := HST3.out.size
    have HAT3 := hid (BI w3 HST3.out.1)
    go_wp2_with fail;refine HAT3.out.mono ?_
    rintro r w3' ⟨rfl, rfl⟩;have HC := hid (hFL.out w3 HST3.out.1)
    go_wp2_with fail;refine HC.out.mono ?_
    rintro r w4 ⟨rfl, hst4⟩;have HST4 := hid (Av.trans HST3.out.2 hst4)
    have hG4 := Ax w4 hst4.1
    rw [dt] at hG4
    have HG4 := hid hG4
    clear hst4 hG4 dt;go_wp2_with fail;refine HG4.out.mono ?_
    rintro r w5 ⟨rfl, hb5⟩;have HST5 := hid (HST4.out.then hb5)
    go_wp2;go_ret2
    exact ⟨_, rfl, Cd rfl rfl zD, HST5.out⟩
 ·have dk : decide (se.k = 0) = false := Ab hk
  rw [An hk]
  clear hk hb1;dsimp only;go_enter Tryz.func119, Tryz.ntmps119
  go_wp2_with fail;refine HA.out.mono ?_
  rintro r w0 ⟨rfl, rfl⟩;go_wp2_with fail;refine HI.out.mono ?_
  rintro r w1 ⟨rfl, hst1⟩;have HST1 := hid hst1
  have HBY := hid (hBY.out w1 hst1.1)
  clear hst1;go_wp2_with fail;refine HBY.out.mono ?_
  rintro r w2 ⟨rfl, hst2⟩;have HST2 := hid (Av.trans HST1.out.2 hst2)
  have hG := Ax w2 hst2.1
  rw [dk] at hG
  have HG := hid hG
  clear hst2 hG dk;go_wp2_with fail;refine HG.out.mono ?_
  rintro r w3 ⟨rfl, hb3⟩;have HST3 := hid (HST2.out.then hb3)
  have hs3 := HST3.out.size
  go_wp2;go_ret2
  exact ⟨_, rfl, Cd rfl rfl zD, HST3.out⟩
def Rs.strict (s : Rs × List UInt8 × Bool) : Rs × List UInt8 := if s.1.k = 0 then (if s.2.2 = true then (s.1, s.2.1) else (s.1.fail 12 s.1.p, [])) else (s.1, [])
theorem MF (w : World) {g : Nat} {B : List UInt8} {a : Option Addr} {s : Rs} (h : AK w g B a s) (q : Bool) (p : Nat) :
  Calls Tryz.prog 197 #[.bool q, .func (Fn.func 180) #[.pointer (some ⟨g, 0, none⟩)] #[], .int .i64 (p : Int)] w fun r w' => r = .returned (.tuple #[]) ∧ Av w g B a (if q = true then s else s.fail 12 p) w' := by
 have HF := hid (Bf w h 12 p zD)
 have HH := hid h
 clear h;cases q
 ·rw [An zO]
  go_enter Tryz.func197, Tryz.ntmps197
  go_wp2_with fail;refine HF.out.mono ?_
  rintro r w1 ⟨rfl, hst⟩;have HST := hid hst
  clear hst;go_wp2;go_end0
  exact ⟨rfl, HST.out⟩
 ·rw [Ak rfl]
  go_enter Tryz.func197, Tryz.ntmps197
  go_wp2;go_end0
  exact ⟨rfl, Av.refl HH.out⟩
theorem PB (w : World) {g : Nat} {B : List UInt8} {a : Option Addr} {s : Rs} (h : AK w g B a s) (hB : B.length ≤ 1000000000) (most : Int) (hm : -9223372036854775808 ≤ most ∧ most ≤ 9223372036854775807) :
  Calls Tryz.prog 117 #[.pointer (some ⟨g, 0, none⟩), .int .i64 most] w fun r w' => ∃ v, r = .returned v ∧ Ag.r (fun q => w.heap.size ≤ q ∧ q < w'.heap.size) w' [v] (Rs.strict (s.loose B most)).2 ∧ Av w g B a (Rs.strict (s.loose B most)).1 w' := by
 have HLS := hid (JD w h hB most hm)
 have hgl := h.blk.lt
 unfold Rs.strict;generalize s.loose B most = L at *
 obtain ⟨s1, D, q⟩ := L
 dsimp only at *;have hfk := Rs.Be (s := s1) (c := 12) (at_ := (s1.p : Int)) zD
 have hfb : s1.k ≠ 0 → s1.fail 12 s1.p = s1 := fun hk => Rs.Bw hk
 have hSC := hid (fun (W : World) (h : AK W g B a s1) => MF W h q s1.p)
 clear h;by_cases hk : s1.k = 0
 ·rw [Ak hk]
  cases q
  ·have d1 : decide ((s1.fail 12 s1.p).k = 0) = false := Ab hfk
   rw [An zO]
   rw [An zO] at hSC
   generalize s1.fail 12 s1.p = s2 at *
   clear hk hfk hfb;go_enter Tryz.func117, Tryz.ntmps117
   go_wp2_with fail;refine HLS.out.mono ?_
   rintro r w1 ⟨v, rfl, hr, hst⟩;obtain ⟨aD, cD, hv, hr2, _⟩ := AE hr
   simp only [Ap, AD] at hv
   subst hv;have HST := hid hst
   have HR := hid hr2
   have hs1 := hst.size
   have HAT := hid (BI w1 hst.1)
   have HSC := hid (hSC.out w1 hst.1)
   clear hr hr2 hst;go_wp2_with fail;refine HAT.out.mono ?_
   rintro r w1' ⟨rfl, rfl⟩;go_wp2_with fail;refine HSC.out.mono ?_
   rintro r w2 ⟨rfl, hst2⟩;have HST2 := hid (Av.trans HST.out.2 hst2)
   have HRK := hid (Ag.mono (S' := fun q => w.heap.size ≤ q ∧ q < w2.heap.size) (Ag.keep HR.out fun q hq => hst2.2.block q hq.2 zD) fun q hq => ⟨hq.1, Ah hq.2 hst2.size⟩)
   have hG := Ax w2 hst2.1
   rw [d1] at hG
   have HG := hid hG
   clear hst2 hG d1;go_wp2_with fail;refine HG.out.mono ?_
   rintro r w3 ⟨rfl, hb3⟩;have HST3 := hid (HST2.out.then hb3)
   go_wp2;go_ret;exact ⟨_, rfl, Cd rfl rfl zD, HST3.out⟩
  ·have d1 : decide (s1.k = 0) = true := Ac hk
   rw [Ak rfl]
   rw [Ak rfl] at hSC
   clear hk hfk hfb;go_enter Tryz.func117, Tryz.ntmps117
   go_wp2_with fail;refine HLS.out.mono ?_
   rintro r w1 ⟨v, rfl, hr, hst⟩;obtain ⟨aD, cD, hv, hr2, _⟩ := AE hr
   simp only [Ap, AD] at hv
   subst hv;have HST := hid hst
   have HR := hid hr2
   have hs1 := hst.size
   have HAT := hid (BI w1 hst.1)
   have HSC := hid (hSC.out w1 hst.1)
   clear hr hr2 hst;go_wp2_with fail;refine HAT.out.mono ?_
   rintro r w1' ⟨rfl, rfl⟩;go_wp2_with fail;refine HSC.out.mono ?_
   rintro r w2 ⟨rfl, hst2⟩;have HST2 := hid (Av.trans HST.out.2 hst2)
   have HRK := hid (Ag.mono (S' := fun q => w.heap.size ≤ q ∧ q < w2.heap.size) (Ag.keep HR.out fun q hq => hst2.2.block q hq.2 zD) fun q hq => ⟨hq.1, Ah hq.2 hst2.size⟩)
   have hG := Ax w2 hst2.1
   rw [d1] at hG
   have HG := hid hG
   clear hst2 hG d1;go_wp2_with fail;refine HG.out.mono ?_
   rintro r w3 ⟨rfl, hb3⟩;have HST3 := hid (HST2.out.then hb3)
   have HRK3 := hid (Ag.mono (S' := fun q => w.heap.size ≤ q ∧ q < w3.heap.size) (Ag.keep HRK.out fun q hq => hb3.block q hq.2) fun q hq => ⟨hq.1, Ah hq.2 hb3.size⟩)
   go_wp2;go_ret;exact ⟨_, rfl, HRK3.out, HST3.out⟩
 ·rw [An hk]
  have hfb2 := hfb hk
  have d1 : decide (s1.k = 0) = false := Ab hk
  have hSC2 : Hid (∀ (W : World) (h : AK W g B a s1), Calls Tryz.prog 197 #[.bool q, .func (Fn.func 180) #[.pointer (some ⟨g, 0, none⟩)] #[], .int .i64 (s1.p : Int)] W fun r w' => r = .returned (.tuple #[]) ∧ Av W g B a s1 w') := hid (fun W h => by
   have := hSC.out W h
   rw [hfb2] at this
   cases q
   ·rw [An zO] at this; exact this
   ·rw [Ak rfl] at this; exact this)
  clear hk hfk hfb hfb2 hSC;have hSC := hSC2
  clear hSC2;cases q;all_goals
   go_enter Tryz.func117, Tryz.ntmps117
   go_wp2_with fail;refine HLS.out.mono ?_
   rintro r w1 ⟨v, rfl, hr, hst⟩;obtain ⟨aD, cD, hv, hr2, _⟩ := AE hr
   simp only [Ap, AD] at hv
   subst hv;have HST := hid hst
   have HR := hid hr2
   have hs1 := hst.size
   have HAT := hid (BI w1 hst.1)
   have HSC := hid (hSC.out w1 hst.1)
   clear hr hr2 hst;go_wp2_with fail;refine HAT.out.mono ?_
   rintro r w1' ⟨rfl, rfl⟩;go_wp2_with fail;refine HSC.out.mono ?_
   rintro r w2 ⟨rfl, hst2⟩;have HST2 := hid (Av.trans HST.out.2 hst2)
   have HRK := hid (Ag.mono (S' := fun q => w.heap.size ≤ q ∧ q < w2.heap.size) (Ag.keep HR.out fun q hq => hst2.2.block q hq.2 zD) fun q hq => ⟨hq.1, Ah hq.2 hst2.size⟩)
   have hG := Ax w2 hst2.1
   rw [d1] at hG
   have HG := hid hG
   clear hst2 hG d1;go_wp2_with fail;refine HG.out.mono ?_
   rintro r w3 ⟨rfl, hb3⟩;have HST3 := hid (HST2.out.then hb3)
   go_wp2;go_ret;exact ⟨_, rfl, Cd rfl rfl zD, HST3.out⟩
def KA (r : Rs × List UInt8) : List UInt8 × Nat × Int × Int := if r.1.k = 0 then (r.2, r.1.p, 0, 0) else ([], 0, r.1.k, r.1.f)
end Go.Proofs.YtlbffbkbkajciaaGreat
namespace Go.Bs
open Go.RowKit
def Cw (c : Nat) : Nat := if c % 2 = 1 then (c / 2) ^^^ 2197175160 else c / 2
def Dc (c : Nat) : Nat := Cw (Cw (Cw (Cw c)))
def FE (c : Nat) (x : UInt8) : Nat := Dc (Dc (c ^^^ x.toNat))
def Dl (c : Nat) (D : List UInt8) : Nat := D.foldl FE c
def CS (D : List UInt8) : Nat := 4294967295 - Dl 4294967295 D
theorem Ii {a b : Nat} (ha : a < 4294967296) (hb : b < 4294967296) : a ^^^ b < 4294967296 := Nat.xor_lt_two_pow (n := 32) ha hb
theorem Fl {c : Nat} (h : c < 4294967296) : Cw c < 4294967296 := by
 unfold Cw;split
 ·exact Ii zD zP
 ·omega
theorem JW {c : Nat} (h : c < 4294967296) : Dc c < 4294967296 := Fl (Fl (Fl (Fl h)))
theorem Ib {c : Nat} {x : UInt8} (h : c < 4294967296) : FE c x < 4294967296 := JW (JW (Ii h zBs))
theorem Ja : ∀ (D : List UInt8) {c : Nat}, c < 4294967296 → Dl c D < 4294967296
 | [], c, h => h
 | x :: D, c, h => Ja D (Ib h)
theorem G9 (D : List UInt8) : CS D < 4294967296 := by unfold CS; omega
theorem GF (a d : Nat) : (a ^^^ 2 * d) % 2 = a % 2 := by
 have h := Nat.xor_mod_two_pow (a := a) (b := 2 * d) (n := 1)
 rw [Nat.pow_one, show 2 * d % 2 = 0 by omega, Nat.xor_zero] at h
 exact h
theorem FD (a d : Nat) : Cw (a ^^^ 2 * d) = Cw a ^^^ d := by
 have h1 := GF a d
 have h2 : (a ^^^ 2 * d) / 2 = a / 2 ^^^ d := by rw [Nat.xor_div_two]; congr 1; omega
 unfold Cw;rw [h1, h2]
 split
 ·rw [Nat.xor_assoc, Nat.xor_assoc, Nat.xor_comm d]
 ·rfl
theorem SN (a h : Nat) : Dc (a ^^^ 16 * h) = Dc a ^^^ h := by
 unfold Dc;rw [show 16 * h = 2 * (2 * (2 * (2 * h))) by omega, FD, FD, FD, FD]
theorem T7 (h l : Nat) (hl : l < 16) : l ^^^ 16 * h = 16 * h + l := by
 have h1 : (l ^^^ 16 * h) / 2 = l / 2 ^^^ 8 * h := by rw [Nat.xor_div_two]; congr 1; omega
 have h2 : (l / 2 ^^^ 8 * h) / 2 = l / 4 ^^^ 4 * h := by rw [Nat.xor_div_two]; congr 1 <;> omega
 have h3 : (l / 4 ^^^ 4 * h) / 2 = l / 8 ^^^ 2 * h := by rw [Nat.xor_div_two]; congr 1 <;> omega
 have h4 : (l / 8 ^^^ 2 * h) / 2 = h := by
  rw [Nat.xor_div_two, show l / 8 / 2 = 0 by omega, show 2 * h / 2 = h by omega, Nat.zero_xor]
 have g1 : (l ^^^ 16 * h) % 2 = l % 2 := by rw [show 16 * h = 2 * (8 * h) by omega]; exact GF _ _
 have g2 : (l / 2 ^^^ 8 * h) % 2 = l / 2 % 2 := by rw [show 8 * h = 2 * (4 * h) by omega]; exact GF _ _
 have g3 : (l / 4 ^^^ 4 * h) % 2 = l / 4 % 2 := by rw [show 4 * h = 2 * (2 * h) by omega]; exact GF _ _
 have g4 : (l / 8 ^^^ 2 * h) % 2 = l / 8 % 2 := GF _ _
 omega
theorem Rc (c : Nat) : c / 16 ^^^ Dc (c % 16) = Dc c := by
 have h := SN (c % 16) (c / 16)
 rw [T7 _ _ zD, show 16 * (c / 16) + c % 16 = c by omega] at h
 rw [h, Nat.xor_comm]
def GC (k : Nat) : Array Value := ((List.range 16).map fun j => Value.int .u32 ((if j < k then Dc j else 0 : Nat) : Int)).toArray
theorem Cr (k j : Nat) (hj : j < 16) : (GC k)[j]? = some (.int .u32 ((if j < k then Dc j else 0 : Nat) : Int)) := by
 simp [GC, hj]
theorem RF (k : Nat) (hk : k < 16) : (GC k).setIfInBounds k (.int .u32 (Dc k : Int)) = GC (k + 1) := by
 apply Array.ext_getElem?
 intro j;rw [Array.getElem?_setIfInBounds]
 by_cases hj : j < 16
 ·rw [Cr _ _ hj, Cr _ _ hj]
  by_cases e : k = j
  ·subst e; simp [GC, hk]
  ·rw [An e]
   congr 2
   by_cases h : j < k
   ·rw [Ak h, Ak zD]
   ·rw [An h, An zD]
 ·have h1 : ∀ m, (GC m)[j]? = none := fun m => by simp [GC]; omega
  rw [h1, h1]
  split <;> simp [GC]; omega
def GA : Nat → Nat → Nat
 | 0, c => c
 | n + 1, c => Cw (GA n c)
theorem Ky {c : Nat} (h : c < 4294967296) : ∀ n, GA n c < 4294967296
 | 0 => h
 | n + 1 => Fl (Ky h n)
theorem NY {c : Nat} (h : c < 4294967296) : bits BinOp.and IntKind.u32 (c : Int) 1 = ((c % 2 : Nat) : Int) := by
 have := u32_and_nat c 1 h zP
 rw [nat_mask1] at this
 exact this
theorem LZ {c : Nat} (h : c < 4294967296) : bits BinOp.and IntKind.u32 (c : Int) 15 = ((c % 16 : Nat) : Int) := by
 have := u32_and_nat c 15 h zP
 rw [nat_mask4] at this
 exact this
theorem Ni {c : Nat} (h : c < 4294967296) : bits BinOp.xor IntKind.u32 ((c : Int) / 2) 2197175160 = ((c / 2 ^^^ 2197175160 : Nat) : Int) := by
 have := u32_xor_nat (c / 2) 2197175160 zD zP
 rw [← this]
 rfl
theorem Tj {c : Nat} (h : c < 4294967296) : bits BinOp.xor IntKind.u32 IntKind.u32.max (c : Int) = ((4294967295 - c : Nat) : Int) := by
 have e : IntKind.u32.max = ((4294967295 : Nat) : Int) := rfl
 rw [e, u32_xor_nat _ _ zP h]
 have h1 : 4294967295 ^^^ c = 4294967295 - c := by
  have h2 := BitVec.toNat_not (x := BitVec.ofNat 32 c)
  rw [BitVec.not_def, BitVec.toNat_xor, BitVec.toNat_allOnes, BitVec.toNat_ofNat, Gw zD] at h2
  exact h2
 rw [h1]
end Go.Bs
namespace Go.Proofs.YtlbffbkbkajciaaGreat
open Go.RowKit Go.Bs Go.Maps
theorem SM (c : Nat) (hc : c < 4294967296) (w : World) :
  Calls Tryz.prog 271 #[.int .u32 c] w fun r w' => r = .returned (.int .u32 (Cw c)) ∧ w = w' := by
 by_cases h : c % 2 = 1
 ·have d1 : (bits BinOp.and IntKind.u32 (c : Int) 1 == 1) = true := by rw [NY hc]; simp; omega
  have hff : Hid ((Cw c : Int) = bits BinOp.xor IntKind.u32 ((c : Int) / 2) 2197175160) := hid (by rw [Ni hc]; unfold Cw; rw [Ak h])
  clear h;go_enter Tryz.func271, Tryz.ntmps271
  go_wp2;go_ret;exact ⟨zI, rfl⟩
 ·have d1 : (bits BinOp.and IntKind.u32 (c : Int) 1 == 1) = false := by rw [NY hc]; simp; omega
  have hff : Hid ((Cw c : Int) = (c : Int) / 2) := hid (by unfold Cw; rw [An h]; rfl)
  clear h;go_enter Tryz.func271, Tryz.ntmps271
  go_wp2;go_ret;exact ⟨zI, rfl⟩
theorem Rb (w : World) : Calls Tryz.prog 230 #[] w fun r w' => r = .returned (.int .u32 4294967295) ∧ w = w' := by
 go_enter Tryz.func230, Tryz.ntmps230
 go_wp2;go_ret;exact ⟨rfl, rfl⟩
theorem Tu (c : Nat) (hc : c < 4294967296) (w : World) :
  Calls Tryz.prog 228 #[.int .u32 c] w fun r w' => r = .returned (.int .u32 ((4294967295 - c : Nat) : Int)) ∧ w = w' := by
 have hff := hid (Tj hc)
 go_enter Tryz.func228, Tryz.ntmps228
 go_wp2;go_ret;exact ⟨by rw [← hff.out]; rfl, rfl⟩
theorem MH {w wo : World} {B g : Nat} (h : Below B w wo) (hg : B ≤ g) (v0 v1 v2 v3 v4 v5 v6 v7 v8 v9 v10 v11 v12 v13 v14 v15 : Value) : Below B w (((((((((((((((((wo).setCell ⟨g, 0, none⟩ v0).setCell ⟨g, 1, none⟩ v1).setCell ⟨g, 2, none⟩ v2).setCell ⟨g, 3, none⟩ v3).setCell ⟨g, 4, none⟩ v4).setCell ⟨g, 5, none⟩ v5).setCell ⟨g, 6, none⟩ v6).setCell ⟨g, 7, none⟩ v7).setCell ⟨g, 8, none⟩ v8).setCell ⟨g, 9, none⟩ v9).setCell ⟨g, 10, none⟩ v10).setCell ⟨g, 11, none⟩ v11).setCell ⟨g, 12, none⟩ v12).setCell ⟨g, 13, none⟩ v13).setCell ⟨g, 14, none⟩ v14).setCell ⟨g, 15, none⟩ v15) :=
 ((((((((((((((((h).setCell (p := ⟨g, 0, none⟩) hg v0).setCell (p := ⟨g, 1, none⟩) hg v1).setCell (p := ⟨g, 2, none⟩) hg v2).setCell (p := ⟨g, 3, none⟩) hg v3).setCell (p := ⟨g, 4, none⟩) hg v4).setCell (p := ⟨g, 5, none⟩) hg v5).setCell (p := ⟨g, 6, none⟩) hg v6).setCell (p := ⟨g, 7, none⟩) hg v7).setCell (p := ⟨g, 8, none⟩) hg v8).setCell (p := ⟨g, 9, none⟩) hg v9).setCell (p := ⟨g, 10, none⟩) hg v10).setCell (p := ⟨g, 11, none⟩) hg v11).setCell (p := ⟨g, 12, none⟩) hg v12).setCell (p := ⟨g, 13, none⟩) hg v13).setCell (p := ⟨g, 14, none⟩) hg v14).setCell (p := ⟨g, 15, none⟩) hg v15
theorem RG : GC 16 = #[.int .u32 (Dc 0 : Nat), .int .u32 (Dc 1 : Nat), .int .u32 (Dc 2 : Nat), .int .u32 (Dc 3 : Nat), .int .u32 (Dc 4 : Nat), .int .u32 (Dc 5 : Nat), .int .u32 (Dc 6 : Nat), .int .u32 (Dc 7 : Nat), .int .u32 (Dc 8 : Nat), .int .u32 (Dc 9 : Nat), .int .u32 (Dc 10 : Nat), .int .u32 (Dc 11 : Nat), .int .u32 (Dc 12 : Nat), .int .u32 (Dc 13 : Nat), .int .u32 (Dc 14 : Nat), .int .u32 (Dc 15 : Nat)] := rfl
theorem Ra (w : World) :
  Calls Tryz.prog 254 #[] w fun r w' => r = .returned (.agg (GC 16)) ∧ Below w.heap.size w w' := by
 go_enter Tryz.func254, Tryz.ntmps254
 go_wp2_with fail;refine FO (fun W => Below w.heap.size w W ∧ W.heap.size = w.heap.size + 2 ∧ Blk W w.heap.size 240 (GC 0) ∧ Blk W (w.heap.size + 1) 240 (GC 0)) ⟨zB, zO, (Blk.new w _ _).alloc _, Blk.Uf w _ _ _⟩ ?_
 intro W ⟨hbW, hzW, q0, q1⟩;have Q0 := hid q0; have Q1 := hid q1; have HZ := hid hzW
 clear q0 q1 hzW;go_loopw [4] (fun i wr => ∃ k : Nat, k ≤ 16 ∧ i = .int .i64 k ∧ Tch (· = w.heap.size + 1) W wr ∧ Blk wr (w.heap.size + 1) 240 (GC k)) (fun i _ => 16 - (intOf i).toNat)
 case atStart => exact ⟨0, zD, rfl, Tch.refl _ _, Q1.out⟩
 case round =>
  obtain ⟨k, hk, rfl, ht, hB⟩ := hrel
  obtain ⟨wo, hwo⟩ : ∃ wo : World, wo = wr := ⟨_, rfl⟩
  subst hwo;have HT := hid ht; have HB := hid hB
  clear ht hB;by_cases hlt : k < 16
  ·have i1 : (k : Int) < 16 := by omega
   have e1 : (k : Int) % 4294967296 = k := zD
   go_wp2_with fail;go_loopw [3, 9] (fun c j w' => ∃ n : Nat, n ≤ 4 ∧ j = .int .i64 n ∧ c = .int .u32 (GA n k : Nat) ∧ w' = wo) (fun _ j _ => 4 - (intOf j).toNat)
   case atStart => exact ⟨0, zD, rfl, by simp [GA, e1], rfl⟩
   case round =>
    obtain ⟨n, hn, rfl, rfl, rfl⟩ := hrel
    by_cases hl4 : n < 4
    ·have i2 : (n : Int) < 4 := by omega
     have HS := hid (SM (GA n k) (Ky zD n) wr)
     go_wp2_with fail;refine HS.out.mono ?_
     rintro r w1 ⟨rfl, rfl⟩;go_wp2;go_roundw
     case rel => exact ⟨n + 1, zD, zW, rfl, trivial⟩
     case measure => simp [intOf]; omega
    ·obtain rfl : n = 4 := by omega
     have hB2 : Blk (wr.setCell ⟨w.heap.size + 1, k, none⟩ (.int .u32 (GA 4 k : Nat))) (w.heap.size + 1) 240 (GC (k + 1)) := by
      rw [← RF k hlt]; exact HB.out.set k _
     have c9 : wr.cell? ⟨w.heap.size + 1, k, none⟩ = some (.int .u32 ((if k < k then Dc k else 0 : Nat) : Int)) := (HB.out.cell k).trans (Cr k k hlt)
     have f9 := HB.out.free k
     have HB2 := hid hB2
     have HT2 := hid (HT.out.setCell (p := ⟨w.heap.size + 1, k, none⟩) (fun _ => rfl) (.int .u32 (GA 4 k : Nat)))
     clear hB2;go_wp2;go_roundw
     case rel => exact ⟨k + 1, zD, zW, HT2.out, HB2.out⟩
     case measure => simp [intOf]; omega
  ·obtain rfl : k = 16 := by omega
   obtain ⟨v0, v1, v2, v3, v4, v5, v6, v7, v8, v9, v10, v11, v12, v13, v14, v15, hv⟩ : ∃ v0 v1 v2 v3 v4 v5 v6 v7 v8 v9 v10 v11 v12 v13 v14 v15 : Nat, GC 16 = #[Value.int .u32 (v0 : Int), Value.int .u32 (v1 : Int), Value.int .u32 (v2 : Int), Value.int .u32 (v3 : Int), Value.int .u32 (v4 : Int), Value.int .u32 (v5 : Int), Value.int .u32 (v6 : Int), Value.int .u32 (v7 : Int), Value.int .u32 (v8 : Int), Value.int .u32 (v9 : Int), Value.int .u32 (v10 : Int), Value.int .u32 (v11 : Int), Value.int .u32 (v12 : Int), Value.int .u32 (v13 : Int), Value.int .u32 (v14 : Int), Value.int .u32 (v15 : Int)] := ⟨_, _, _, _, _, _, _, _, _, _, _, _, _, _, _, _, RG⟩
   have hB9 := HB.out
   rw [hv] at hB9
   have HV := hid hv
   have hB0 : Blk wo w.heap.size 240 (GC 0) := Q0.out.tch HT.out zO
   have y0 : wo.cell? ⟨w.heap.size + 1, 0, none⟩ = some (.int .u32 (v0 : Int)) := hB9.cell 0
   have z0 : wo.cell? ⟨w.heap.size, 0, none⟩ = some (.int .u32 0) := (hB0.cell 0).trans (Cr 0 0 zP)
   have f0 := hB0.free 0
   have y1 : wo.cell? ⟨w.heap.size + 1, 1, none⟩ = some (.int .u32 (v1 : Int)) := hB9.cell 1
   have z1 : wo.cell? ⟨w.heap.size, 1, none⟩ = some (.int .u32 0) := (hB0.cell 1).trans (Cr 0 1 zP)
   have f1 := hB0.free 1
   have y2 : wo.cell? ⟨w.heap.size + 1, 2, none⟩ = some (.int .u32 (v2 : Int)) := hB9.cell 2
   have z2 : wo.cell? ⟨w.heap.size, 2, none⟩ = some (.int .u32 0) := (hB0.cell 2).trans (Cr 0 2 zP)
   have f2 := hB0.free 2
   have y3 : wo.cell? ⟨w.heap.size + 1, 3, none⟩ = some (.int .u32 (v3 : Int)) := hB9.cell 3
   have z3 : wo.cell? ⟨w.heap.size, 3, none⟩ = some (.int .u32 0) := (hB0.cell 3).trans (Cr 0 3 zP)
   have f3 := hB0.free 3
   have y4 : wo.cell? ⟨w.heap.size + 1, 4, none⟩ = some (.int .u32 (v4 : Int)) := hB9.cell 4
   have z4 : wo.cell? ⟨w.heap.size, 4, none⟩ = some (.int .u32 0) := (hB0.cell 4).trans (Cr 0 4 zP)
   have f4 := hB0.free 4
   have y5 : wo.cell? ⟨w.heap.size + 1, 5, none⟩ = some (.int .u32 (v5 : Int)) := hB9.cell 5
   have z5 : wo.cell? ⟨w.heap.size, 5, none⟩ = some (.int .u32 0) := (hB0.cell 5).trans (Cr 0 5 zP)
   have f5 := hB0.free 5
   have y6 : wo.cell? ⟨w.heap.size + 1, 6, none⟩ = some (.int .u32 (v6 : Int)) := hB9.cell 6
   have z6 : wo.cell? ⟨w.heap.size, 6, none⟩ = some (.int .u32 0) := (hB0.cell 6).trans (Cr 0 6 zP)
   have f6 := hB0.free 6
   have y7 : wo.cell? ⟨w.heap.size + 1, 7, none⟩ = some (.int .u32 (v7 : Int)) := hB9.cell 7
   have z7 : wo.cell? ⟨w.heap.size, 7, none⟩ = some (.int .u32 0) := (hB0.cell 7).trans (Cr 0 7 zP)
   have f7 := hB0.free 7
   have y8 : wo.cell? ⟨w.heap.size + 1, 8, none⟩ = some (.int .u32 (v8 : Int)) := hB9.cell 8
   have z8 : wo.cell? ⟨w.heap.size, 8, none⟩ = some (.int .u32 0) := (hB0.cell 8).trans (Cr 0 8 zP)
   have f8 := hB0.free 8
   have y9 : wo.cell? ⟨w.heap.size + 1, 9, none⟩ = some (.int .u32 (v9 : Int)) := hB9.cell 9
   have z9 : wo.cell? ⟨w.heap.size, 9, none⟩ = some (.int .u32 0) := (hB0.cell 9).trans (Cr 0 9 zP)
   have f9 := hB0.free 9
   have y10 : wo.cell? ⟨w.heap.size + 1, 10, none⟩ = some (.int .u32 (v10 : Int)) := hB9.cell 10
   have z10 : wo.cell? ⟨w.heap.size, 10, none⟩ = some (.int .u32 0) := (hB0.cell 10).trans (Cr 0 10 zP)
   have f10 := hB0.free 10
   have y11 : wo.cell? ⟨w.heap.size + 1, 11, none⟩ = some (.int .u32 (v11 : Int)) := hB9.cell 11
   have z11 : wo.cell? ⟨w.heap.size, 11, none⟩ = some (.int .u32 0) := (hB0.cell 11).trans (Cr 0 11 zP)
   have f11 := hB0.free 11
   have y12 : wo.cell? ⟨w.heap.size + 1, 12, none⟩ = some (.int .u32 (v12 : Int)) := hB9.cell 12
   have z12 : wo.cell? ⟨w.heap.size, 12, none⟩ = some (.int .u32 0) := (hB0.cell 12).trans (Cr 0 12 zP)
   have f12 := hB0.free 12
   have y13 : wo.cell? ⟨w.heap.size + 1, 13, none⟩ = some (.int .u32 (v13 : Int)) := hB9.cell 13
   have z13 : wo.cell? ⟨w.heap.size, 13, none⟩ = some (.int .u32 0) := (hB0.cell 13).trans (Cr 0 13 zP)
   have f13 := hB0.free 13
   have y14 : wo.cell? ⟨w.heap.size + 1, 14, none⟩ = some (.int .u32 (v14 : Int)) := hB9.cell 14
   have z14 : wo.cell? ⟨w.heap.size, 14, none⟩ = some (.int .u32 0) := (hB0.cell 14).trans (Cr 0 14 zP)
   have f14 := hB0.free 14
   have y15 : wo.cell? ⟨w.heap.size + 1, 15, none⟩ = some (.int .u32 (v15 : Int)) := hB9.cell 15
   have z15 : wo.cell? ⟨w.heap.size, 15, none⟩ = some (.int .u32 0) := (hB0.cell 15).trans (Cr 0 15 zP)
   have f15 := hB0.free 15
   clear hB9 hv HB;clear hB0;go_wp2;refine Ai (v := .agg #[Value.int .u32 (v0 : Int), Value.int .u32 (v1 : Int), Value.int .u32 (v2 : Int), Value.int .u32 (v3 : Int), Value.int .u32 (v4 : Int), Value.int .u32 (v5 : Int), Value.int .u32 (v6 : Int), Value.int .u32 (v7 : Int), Value.int .u32 (v8 : Int), Value.int .u32 (v9 : Int), Value.int .u32 (v10 : Int), Value.int .u32 (v11 : Int), Value.int .u32 (v12 : Int), Value.int .u32 (v13 : Int), Value.int .u32 (v14 : Int), Value.int .u32 (v15 : Int)]) (by simp [results, Tryz.results254, go_sem, z0, z1, z2, z3, z4, z5, z6, z7, z8, z9, z10, z11, z12, z13, z14, z15]) rfl ⟨by rw [HV.out], ?_⟩
   have hb2 : Below w.heap.size W wo := HT.out.BE (by have := HZ.out; omega) (by intro b _ e; omega)
   have hb3 := hbW.trans hb2
   exact MH hb3 (Al _) (.int .u32 (v0 : Int)) (.int .u32 (v1 : Int)) (.int .u32 (v2 : Int)) (.int .u32 (v3 : Int)) (.int .u32 (v4 : Int)) (.int .u32 (v5 : Int)) (.int .u32 (v6 : Int)) (.int .u32 (v7 : Int)) (.int .u32 (v8 : Int)) (.int .u32 (v9 : Int)) (.int .u32 (v10 : Int)) (.int .u32 (v11 : Int)) (.int .u32 (v12 : Int)) (.int .u32 (v13 : Int)) (.int .u32 (v14 : Int)) (.int .u32 (v15 : Int))
theorem Nn {y : Nat} (h : y < 4294967296) : bits BinOp.xor IntKind.u32 ((y : Int) / 16) ((Dc (y % 16) : Nat) : Int) = ((Dc y : Nat) : Int) := by
 have := u32_xor_nat (y / 16) (Dc (y % 16)) zD (JW zD)
 rw [Rc] at this
 rw [← this]
 rfl
theorem Nw {c : Nat} (h : c < 4294967296) (x : UInt8) : bits BinOp.xor IntKind.u32 (c : Int) ((x.toNat : Int) % 4294967296) = ((c ^^^ x.toNat : Nat) : Int) := by
 have hx := x.toNat_lt
 rw [← u32_xor_nat c x.toNat h zD, show (x.toNat : Int) % 4294967296 = (x.toNat : Int) by omega]
theorem Tv (c : Nat) (hc : c < 4294967296) (D : List UInt8) (ad : Option Addr) (nd cd : Nat) (w : World) (hD : Ag.r (· < w.heap.size) w [.slice ad nd cd] D) :
  Calls Tryz.prog 229 #[.int .u32 c, .slice ad nd cd] w fun r w' => r = .returned (.int .u32 (Dl c D : Nat)) ∧ Below w.heap.size w w' := by
 obtain ⟨rfl, hm, _, _⟩ := AP hD
 have HD := hid hD; clear hD
 go_enter Tryz.func229, Tryz.ntmps229
 go_wp2_with fail;refine (Ra w).mono ?_
 rintro r w1 ⟨rfl, hb1⟩;obtain ⟨v0, v1, v2, v3, v4, v5, v6, v7, v8, v9, v10, v11, v12, v13, v14, v15, hv⟩ : ∃ v0 v1 v2 v3 v4 v5 v6 v7 v8 v9 v10 v11 v12 v13 v14 v15 : Nat, GC 16 = #[Value.int .u32 (v0 : Int), Value.int .u32 (v1 : Int), Value.int .u32 (v2 : Int), Value.int .u32 (v3 : Int), Value.int .u32 (v4 : Int), Value.int .u32 (v5 : Int), Value.int .u32 (v6 : Int), Value.int .u32 (v7 : Int), Value.int .u32 (v8 : Int), Value.int .u32 (v9 : Int), Value.int .u32 (v10 : Int), Value.int .u32 (v11 : Int), Value.int .u32 (v12 : Int), Value.int .u32 (v13 : Int), Value.int .u32 (v14 : Int), Value.int .u32 (v15 : Int)] := ⟨_, _, _, _, _, _, _, _, _, _, _, _, _, _, _, _, RG⟩
 rw [hv]
 have HV := hid hv
 clear hv;go_wp2_with fail;refine FO (fun W => Below w.heap.size w W ∧ w1.heap.size < W.heap.size ∧ Blk W w1.heap.size 240 (GC 16)) ⟨zA, zO, by rw [HV.out]; exact Blk.new w1 _ _⟩ ?_
 intro W ⟨hbW, hzW, hQ⟩;have HQ := hid hQ; clear hQ
 go_wp2_with fail;go_loopw [0, 11] (fun s i wr => ∃ (k d : Nat), k ≤ D.length ∧ i = .int .i64 k ∧ s = .int .u32 d ∧ d < 4294967296 ∧ Hid (Dl c D = Dl d (D.drop k)) ∧ wr = W) (fun _ i _ => D.length - (intOf i).toNat)
 case atStart => exact ⟨0, c, Aj _, rfl, rfl, hc, hid rfl, rfl⟩
 case round =>
  obtain ⟨k, d, hk, rfl, rfl, hd, hf, rfl⟩ := hrel
  by_cases hlt : k < D.length
  ·obtain ⟨b, o, hA, hbb, hx⟩ := Cx (lift HD.out hbW) hlt
   subst hA;have hst := hid (show Dl d (D.drop k) = Dl (FE d D[k]) (D.drop (k + 1)) by rw [AI hlt]; rfl)
   generalize D[k] = x at *
   have i1 : (k : Int) < (D.length : Int) := zD
   have hb1 := hid (Ib (x := x) hd)
   have hcb := hid (show FE d x = Dc (Dc (d ^^^ x.toNat)) from rfl)
   have hy : d ^^^ x.toNat < 4294967296 := Ii hd zBs
   have e1 := Nw hd x
   generalize d ^^^ x.toNat = y at *
   have hz : Dc y < 4294967296 := JW hy
   have e2 := LZ hy
   have e3 := Nn hy
   have m1 : ((y % 16 : Nat) : Int) < 16 := zD
   have c1 : wr.cell? ⟨w1.heap.size, y % 16, none⟩ = some (.int .u32 (Dc (y % 16) : Nat)) := by
    have h := (HQ.out.cell (y % 16)).trans (Cr 16 (y % 16) zD)
    rw [Ak zD] at h; exact h
   generalize Dc (y % 16) = t1 at *
   generalize y % 16 = m at *
   generalize Dc y = z at *
   have e4 := LZ hz
   have e5 := Nn hz
   have m2 : ((z % 16 : Nat) : Int) < 16 := zD
   have c2 : wr.cell? ⟨w1.heap.size, z % 16, none⟩ = some (.int .u32 (Dc (z % 16) : Nat)) := by
    have h := (HQ.out.cell (z % 16)).trans (Cr 16 (z % 16) zD)
    rw [Ak zD] at h; exact h
   generalize Dc (z % 16) = t2 at *
   generalize z % 16 = n at *
   generalize Dc z = q at *
   go_wp2;go_roundw
   case rel => exact ⟨k + 1, q, zD, zW, rfl, by have := hb1.out; rw [hcb.out] at this; exact this, hid (by rw [hf.out, hst.out, hcb.out]), trivial⟩
   case measure => simp [intOf]; omega
  ·obtain rfl : k = D.length := by omega
   have hff : Hid (Dl c D = d) := hid ZM
   go_wp2;go_ret;exact ⟨zI, hbW⟩
theorem Qb (D : List UInt8) (ad : Option Addr) (nd cd : Nat) (w : World) (hD : Ag.r (· < w.heap.size) w [.slice ad nd cd] D) :
  Calls Tryz.prog 179 #[.slice ad nd cd] w fun r w' => r = .returned (.int .u32 (CS D : Nat)) ∧ Below w.heap.size w w' := by
 have HA := hid (Tv 4294967295 zP D ad nd cd w hD)
 have hlt := Ja D (c := 4294967295) zP
 have hff : Hid (CS D = 4294967295 - Dl 4294967295 D) := hid rfl
 generalize Dl 4294967295 D = s at *
 clear hD;go_enter Tryz.func179, Tryz.ntmps179
 go_wp2_with fail;refine (Rb w).mono ?_
 rintro r w1 ⟨rfl, rfl⟩;go_wp2_with fail;refine HA.out.mono ?_
 rintro r w2 ⟨rfl, hb2⟩;go_wp2_with fail;refine (Tu s hlt w2).mono ?_
 rintro r w3 ⟨rfl, rfl⟩;go_wp2;go_ret;exact ⟨zI, hb2⟩
end Go.Proofs.YtlbffbkbkajciaaGreat
namespace Go.Bs
open Go.RowKit
def Cq : Nat → Nat → List UInt8
 | 0, _ => []
 | n + 1, x => UInt8.ofNat (x % 256) :: Cq n (x / 256)
theorem Fj : ∀ (n x : Nat), (Cq n x).length = n
 | 0, _ => rfl
 | n + 1, x => by simp [Cq, Fj n]
theorem GY : ∀ (n x : Nat), Cq (n + 1) x = Cq n x ++ [UInt8.ofNat (x / 256 ^ n % 256)]
 | 0, x => by simp [Cq]
 | n + 1, x => by
  rw [Cq, GY n (x / 256), Cq, Ez, Nat.div_div_eq_div_mul, ER, Nat.mul_comm 256]
end Go.Bs
namespace Go.Proofs.YtlbffbkbkajciaaGreat
open Go.RowKit Go.Bs Go.Maps
theorem QR (x : Nat) (hx : x < 18446744073709551616) (n : Nat) (hn : n ≤ 8) (w : World) :
  Calls Tryz.prog 227 #[.int .u64 x, .int .i64 n] w fun r w' => ∃ v, r = .returned v ∧ w'.ownsRow w.heap.size 5 1 v n (byteCells (Cq n x)) ∧ Below w.heap.size w w' := by
 obtain ⟨i0, hi, hz0, hz1, hz2⟩ := Bq EF
 have d1 : max (n : Int) 0 = n := zD
 have d2 : min (n : Int) 8 = n := zD
 have d3 : (if (n : Int) < 0 then (0 : Int) else n) = n := ZO
 have d4 : (if (8 : Int) < n then (8 : Int) else n) = n := ZO
 go_enter Tryz.func227, Tryz.ntmps227
 go_wp2_with fail;go_loopw [0, 5, 9] (fun y o i wr => ∃ k : Nat, k ≤ n ∧ i = .int .i64 k ∧ y = .int .u64 (x / 256 ^ k : Nat) ∧ wr.ownsRow w.heap.size 5 1 o k (byteCells (Cq k x)) ∧ Below w.heap.size w wr) (fun _ _ i _ => n - (intOf i).toNat)
 case atStart => exact ⟨0, Aj _, rfl, zO, ⟨rfl, .inl ⟨rfl, rfl⟩⟩, Below.refl _ _⟩
 case round =>
  obtain ⟨k, hk, rfl, rfl, hown, hb⟩ := hrel
  have hbs := hb.size
  obtain ⟨aJ, cJ, rfl⟩ := Bh hown
  have HO := hid hown
  clear hown;by_cases hlt : k < n
  ·have i1 : (k : Int) < (n : Int) := by omega
   have hy : x / 256 ^ k < 18446744073709551616 := Nat.lt_of_le_of_lt (Nat.div_le_self _ _) hx
   have hfin := hid (GY k x)
   have hdv : Hid (x / 256 ^ (k + 1) = x / 256 ^ k / 256) := hid (by rw [ER, Nat.div_div_eq_div_mul])
   generalize x / 256 ^ k = y at *
   have hby : Hid ((y : Int) % 256 = ((UInt8.ofNat (y % 256)).toNat : Int)) := hid (by rw [← Dx (by omega)]; omega)
   have e0 : (y : Int) % 256 % 256 = (y : Int) % 256 := zD
   go_wp2_with (at_builtin; go_loud (refine AB rfl _ _ _ rfl w.heap.size 5 i0 (.int .u8 0) 1 1 AU hi hz0 hz1 hz2 rfl zP (.slice aJ k cJ) k (byteCells (Cq k x)) rfl (By HO.out zA) (some ⟨wr.heap.size, 0, none⟩) 1 1 [.int .u8 ((y : Int) % 256)] rfl (B9 wr 5 _ rfl rfl rfl) ZD zQ zD zL ?_; intro v' w1 hown1 hgrow1 hat1; have HG := hid hgrow1; have HO1 := hid hown1; clear hgrow1 hown1 hat1))
   have ho := HO1.out
   rw [hby.out, Da, ← hfin.out] at ho
   have hB : Below w.heap.size w w1 := Below.grown zA HG.out zL (fun g e => (HO.out.lt g e).1)
   have HO2 := hid ho
   clear ho;go_wp2_with fail;go_roundw
   case rel => exact ⟨k + 1, zD, zW, by rw [hdv.out]; go_num, HO2.out, hB⟩
   case measure => simp [intOf]; omega
  ·obtain rfl : k = n := by omega
   go_wp2;go_ret;exact ⟨_, rfl, HO.out, hb⟩
theorem OM (w : World) {g base most : Nat} {J : List UInt8} {a : Option Addr} {c : Nat} (h : Bv w g base most J a c) (x : Nat) (hx : x < 18446744073709551616) (n : Nat) (hn : n ≤ 8) (hfit : J.length + n ≤ most) (hlen : J.length + n ≤ 100000000000000) :
  Calls Tryz.prog 178 #[.pointer (some ⟨g, 0, none⟩), .int .u64 x, .int .i64 n] w fun r w' => r = .returned (.tuple #[]) ∧ Ao w g base most (J ++ Cq n x) a w' := by
 have hl := Fj n x
 have HF := hid (QR x hx n hn w)
 have HP := hid h
 clear h;generalize Cq n x = D at *
 go_enter Tryz.func178, Tryz.ntmps178
 go_wp2_with fail;refine HF.out.mono ?_
 rintro r w1 ⟨v, rfl, ho, hb1⟩;obtain ⟨a1, c1, rfl⟩ := Bh ho
 have HQ := hid (Ep w1 (HP.out.later hb1) D a1 n c1 (G5 hl.symm ho) zD zD)
 clear ho;go_wp2_with fail;refine HQ.out.mono ?_
 rintro r w2 ⟨rfl, hst⟩;have HST := hid (Ao.later hb1 hst)
 clear hst;go_wp2;first | go_end0 | refine Ai (Aq rfl _ _ _) rfl ?_
 exact ⟨rfl, HST.out⟩
theorem toNat_cast {x : Int} (h : 0 ≤ x) : ((x.toNat : Nat) : Int) = x := Int.toNat_of_nonneg h
def CJ (l : List Int) : List UInt8 := (l.map fun x => AH x.toNat).flatten
def D8 (pos : Int) (l : List Int) : List UInt8 := AH l.length ++ CJ (Co pos l)
def EG : Option Int → List BB → List Int
 | _, [] => []
 | p, x :: l => (match p with | none => x.stream | some q => x.stream - q - 1) :: EG (some x.stream) l
def JK (pos : Int) : Option Int → List BB → List UInt8
 | _, [] => []
 | p, x :: l => AH (match p with | none => x.stream | some q => x.stream - q - 1).toNat ++ D8 pos x.backs ++ JK pos (some x.stream) l
def CR (pos : Int) (l : List BB) : List UInt8 := AH l.length ++ JK pos none l
def LC (x : BB) : Prop := (0 ≤ x.stream ∧ x.stream ≤ 18446744073709551615) ∧ ∀ y ∈ x.backs, 0 ≤ y
theorem QT : CJ [] = [] := rfl
theorem Fg (x : Int) (l : List Int) : CJ (x :: l) = AH x.toNat ++ CJ l := by simp [CJ]
theorem Lw (l l' : List Int) : CJ (l ++ l') = CJ l ++ CJ l' := by simp [CJ]
theorem Hz (l : List Int) (k : Nat) (h : k < l.length) : CJ (l.take (k + 1)) = CJ (l.take k) ++ AH l[k].toNat := by
 rw [A6 h, Lw, Fg, QT, List.append_nil]
theorem G7 (l : List Int) : (CJ l).length ≤ 10 * l.length := by
 induction l with
 | nil => simp [CJ]
 | cons x l ih =>
  rw [Fg, Am, A7]
  have := (A2 x.toNat).1
  omega
theorem FJ (l : List Int) (k : Nat) : (CJ (l.take k)).length ≤ (CJ l).length := by
 have : CJ l = CJ (l.take k) ++ CJ (l.drop k) := by rw [← Lw, Fs]
 rw [this, Am]; omega
theorem Hs : ∀ (p : Int) (l : List Int), (Co p l).length = l.length
 | _, [] => rfl
 | p, x :: l => by simp only [Co, A7, Hs x l]
theorem Ik : ∀ (p : Option Int) (l : List BB), (EG p l).length = l.length
 | _, [] => rfl
 | p, x :: l => by simp only [EG, A7, Ik _ l]
theorem J3 {x : Nat} (h : x < 128) : (AH x).length = 1 := by rw [F8 h]; rfl
theorem Pm (pos : Int) (l : List Int) (h : l.length < 128) : (D8 pos l).length ≤ 1 + 10 * l.length := by
 have := G7 (Co pos l)
 rw [Hs] at this
 unfold D8;rw [Am, J3 h]
 omega
theorem CQ {α : Type} {A : Rp α} {w w1 : World} {g : Nat} {a a1 : Option Addr} {cs : List Value} {x : α} (ht : Tch (CT g a) w w1) (ha : a1.map Addr.block = a.map Addr.block ∨ ∃ q, a1.map Addr.block = some q ∧ w.heap.size ≤ q)
  (h : A.r (fun q => q < w.heap.size ∧ ¬ CT g a q) w cs x) : A.r (fun q => q < w1.heap.size ∧ ¬ CT g a1 q) w1 cs x :=
 A.mono (A.keep h fun q hq => ht.block q hq.1 hq.2) fun q hq => ⟨Ah hq.1 ht.size, DK ha hq.1 hq.2⟩
theorem Ej {α : Type} {A : Rp α} {w w1 : World} {g : Nat} {a : Option Addr} {cs : List Value} {x : α} (hb : Below w.heap.size w w1)
  (h : A.r (fun q => q < w.heap.size ∧ ¬ CT g a q) w cs x) : A.r (fun q => q < w1.heap.size ∧ ¬ CT g a q) w1 cs x :=
 A.mono (A.keep h fun q hq => hb.block q hq.1) fun q hq => ⟨Ah hq.1 hb.size, hq.2⟩
theorem G3 {α : Type} {A : Rp α} {w : World} {g : Nat} {a : Option Addr} {cs : List Value} {x : α} (h : A.r (fun q => q < w.heap.size ∧ ¬ CT g a q) w cs x) : A.r (· < w.heap.size) w cs x := A.mono h fun q hq => hq.1
theorem Gd {α : Type} {A : Rp α} {w w1 : World} {g base most : Nat} {J : List UInt8} {a : Option Addr} {c : Nat} {cs : List Value} {x : α} (hp : Bv w g base most J a c) (h : A.r (fun q => w.heap.size ≤ q ∧ q < w1.heap.size) w1 cs x) : A.r (fun q => q < w1.heap.size ∧ ¬ CT g a q) w1 cs x :=
 A.mono h fun q hq => ⟨hq.2, fun hf => by have := (hp.DG hf).2; omega⟩
open Go.RowKit Go.Bs
def Dq (w w' : World) (b : Nat) : Prop := w.heap.size ≤ b ∧ b < w'.heap.size
theorem GI {S : Nat → Prop} {w : World} {a : Option Addr} {n c : Nat} {l : List Int} (h : AQ.r S w [.slice a n c] l) : ∀ x ∈ l, 0 ≤ x ∧ x ≤ 18446744073709551615 := by
 intro x hx;obtain ⟨i, hi, rfl⟩ := List.getElem_of_mem hx
 obtain ⟨b, o, _, _, _, h2⟩ := Cn h hi
 exact h2
theorem SF : (Tryz.prog.info? 151).map (fun i => (i.zero, i.size, i.bytes)) = some (some (.agg #[.int .u64 0, .slice none 0 0]), 2, 32) := zH
theorem B9 {w : World} (W : World) (e : TypeId) (cs : List Value) (hB : w = W.alloc (.cells cs.toArray e)) {g : Nat} (hg : g = W.heap.size) {sz : Nat} (hs : cs.length = sz) : Src w (some ⟨g, 0, none⟩) 1 sz cs := by
 subst hB hg;refine ⟨zD, .inr ⟨_, 0, rfl, fun j u hu => ?_⟩⟩
 rw [Bn, Blk.cell (Blk.new W e cs.toArray)]
 simpa using hu
def N4 (below : Int) (l : List Int) (w : World) (e : Ending) (w' : World) : Prop :=
 ∃ v, e = .returned (.tuple #[v, .bool (Cb below l)]) ∧ AQ.r (fun q => w.heap.size ≤ q ∧ q < w'.heap.size) w' [v] (if Cb below l then Co below l else []) ∧ Below w.heap.size w w'
theorem Qv (below : Int) (l : List Int) (a : Option Addr) (n c : Nat) (w : World) (hb0 : 0 ≤ below ∧ below ≤ 18446744073709551615) (hl : AQ.r (· < w.heap.size) w [.slice a n c] l) (hlen : l.length ≤ 1000000000000) :
  Calls Tryz.prog 215 #[.int .u64 below, .slice a n c] w (N4 below l w) := by
 obtain ⟨rfl, hm, _, _⟩ := AP hl
 obtain ⟨i0, hi, hz0, hz1, hz2⟩ := Bq LF
 have HL := hid hl; clear hl
 go_enter Tryz.func215, Tryz.ntmps215
 go_wp2;go_loopw [0, 6, 11] (fun b v i wr => ∃ k : Nat, k ≤ l.length ∧ i = .int .i64 k ∧ b = .int .u64 (ahead below l k) ∧ 0 ≤ ahead below l k ∧ ahead below l k ≤ 18446744073709551615 ∧ Hid (Cb below l = Cb (ahead below l k) (l.drop k)) ∧
   (∃ xs : List Int, Hid (xs.length = k ∧ (∀ x ∈ xs, 0 ≤ x ∧ x ≤ 18446744073709551615) ∧ Co below l = xs ++ Co (ahead below l k) (l.drop k)) ∧ wr.ownsRow w.heap.size 22 1 v k (xs.map (Value.int .u64))) ∧ Below w.heap.size w wr) (fun _ _ i _ => l.length - (intOf i).toNat)
 case atStart => exact ⟨0, Aj _, rfl, rfl, hb0.1, hb0.2, hid rfl, ⟨[], hid ⟨rfl, zO, rfl⟩, ⟨rfl, .inl ⟨rfl, rfl⟩⟩⟩, Below.refl _ _⟩
 case round =>
  obtain ⟨k, hk, rfl, rfl, ha0, ha1, hf, ⟨xs, hxs, hown⟩, hb⟩ := hrel
  by_cases hlt : k < l.length
  ·obtain ⟨b, o, hA, hbb, hc, hx0, hx1⟩ := Cn HL.out hlt
   subst hA;have q := (hb.cell (p := ⟨b, o + k, none⟩) hbb).trans hc
   clear hc;have hd := hid (AI hlt)
   have hsu := hid (Gu below l k hlt)
   generalize hlk : l[k] = x at *
   clear hlk;generalize ahead below l k = p at *
   by_cases hge : p ≤ x
   ·have hff : Hid (Cb below l = false) := by
     rw [hf.out, hd.out]; exact hid zBb
    go_wp2;go_ret2
    exact ⟨.slice none 0 0, zI, zA4, hb⟩
   ·have hbs := hb.size
    have w1 : 0 ≤ p - x := zD
    have w2 : 0 ≤ p - x - 1 := zD
    go_wp2_with (at_builtin; refine wpList_append_lies _ rfl _ _ _ rfl w.heap.size 22 i0 (.int .u64 0) 1 8 Dr hi hz0 hz1 hz2 rfl zP _ k _ rfl (hown.alloc _) ⟨wr.heap.size, 0, none⟩ 1 1 [.int .u64 (p - x - 1)] rfl rfl (World.news_of_block (Blk.new _ _ _)) ZL zP zQ zD zL _ rfl ?_; intro g1 cap1 w1' hown1 hgrow1 hat1 hlt1)
    go_roundw
    case rel =>
     refine ⟨k + 1, zD, zW, by rw [hsu.out], by rw [hsu.out]; exact hx0, by rw [hsu.out]; exact hx1, ?_, ⟨xs ++ [p - x - 1], ?_, ?_⟩, ?_⟩
     ·rw [hf.out, hd.out, hsu.out]
      exact hid zBj
     ·refine hid ⟨by simp [hxs.out.1], ?_, ?_⟩
      ·intro y hy
       rw [DY, Dd] at hy
       rcases hy with hy | rfl
       ·exact hxs.out.2.1 y hy
       ·omega
      ·rw [hsu.out, hxs.out.2.2, hd.out]
       simp [Co]
     ·rw [C7]; exact hown1
     ·refine Below.grown ?_ hgrow1 zL (fun g e => (hown.lt g e).1)
      exact hb.alloc hbs _
    case measure => simp [intOf]; omega
  ·obtain rfl : k = l.length := by omega
   have hff : Hid (Cb below l = true) := by
    rw [hf.out, Gy]; exact hid rfl
   have hxl := hxs.out.1
   have hst : Hid (Co below l = xs) := hid zBw
   have hv : AQ.r (fun q => w.heap.size ≤ q ∧ q < wr.heap.size) wr [u6] xs := El hxs.out.2.1 hxl.symm hown
   have HV := hid hv; clear hv hxl
   go_wp2;go_ret2
   exact ⟨u6, zI, zBx, hb⟩
theorem Hh : ∀ (l : List Int) (p : Int), Cb p l = true → p ≤ 18446744073709551615 → (∀ x ∈ l, 0 ≤ x) → ∀ y ∈ Co p l, 0 ≤ y ∧ y ≤ 18446744073709551615
 | [], p, _, _, _, y, hy => by simp [Co] at hy
 | x :: l, p, hf, hp, hx, y, hy => by
  simp only [Cb, As, Aw] at hf
  have h0 := hx x zO
  simp only [Co, List.mem_cons] at hy
  rcases hy with rfl | hy
  ·omega
  ·exact Hh l x hf.2 zD (fun z hz => hx z (by simp [hz])) y hy
theorem Q9 (w : World) {g base most : Nat} {J : List UInt8} {a : Option Addr} {c : Nat} (h : Bv w g base most J a c) (pos : Int) (hpos : 0 ≤ pos ∧ pos ≤ 18446744073709551615) (l : List Int) (al : Option Addr) (nl cl : Nat)
  (hl : AQ.r (· < w.heap.size) w [.slice al nl cl] l) (hf : Cb pos l = true) (hlen : l.length ≤ 1000000) (hfit : J.length + (D8 pos l).length ≤ most) (hln2 : J.length + (D8 pos l).length ≤ 100000000000000) :
  Calls Tryz.prog 152 #[.pointer (some ⟨g, 0, none⟩), .int .u64 pos, .slice al nl cl] w fun r w' => r = .returned (.tuple #[]) ∧ Ao w g base most (J ++ D8 pos l) a w' := by
 obtain ⟨rfl, hm, _, _⟩ := AP hl
 have HS := hid (Qv pos l al _ cl w hpos hl zD)
 have hlt := h.len
 have hsl := Hs pos l
 have hnb := G7 (Co pos l)
 have hxs := GI hl
 have hsb := hid (Hh l pos hf hpos.2 (fun x hx => (hxs x hx).1))
 have hvl := A2 l.length
 have hdl : (D8 pos l).length = (AH l.length).length + (CJ (Co pos l)).length := by unfold D8; rw [Am]
 rw [hdl] at hfit hln2
 unfold N4 at HS;rw [hf] at HS
 simp only [if_true] at HS
 unfold D8;have HP := hid h
 have HMO := hid (fun k => FJ (Co pos l) k)
 have HNS := hid (fun (k : Nat) (h : k < (Co pos l).length) => Hz (Co pos l) k h)
 generalize Co pos l = T at *
 generalize hL : l.length = L at *
 have hLL := hid hL
 clear h hl hf hxs hdl hL;go_enter Tryz.func152, Tryz.ntmps152
 go_wp2_with fail;refine HS.out.mono ?_
 rintro r w1 ⟨v, rfl, hr, hb1⟩;obtain ⟨a1, c1, hv, hr2, _⟩ := AE hr
 simp only [Ap, AD] at hv
 subst hv;rw [hsl] at hr2 ⊢
 have HR := hid (Gd HP.out hr2)
 have HP1 := hid (HP.out.later hb1)
 have HV := hid (BG w1 HP1.out L zD zD zD)
 clear hr hr2;go_wp2_with fail;refine HV.out.mono ?_
 rintro r w2 ⟨rfl, hst⟩;have HST := hid hst
 clear hst;have hz1 := hb1.size
 go_wp2_with fail;go_loopw [27] (fun i wr => ∃ k : Nat, k ≤ L ∧ i = .int .i64 k ∧ Hid (Ao w1 g base most (J ++ AH L ++ CJ (T.take k)) a wr)) (fun i _ => L - (intOf i).toNat)
 case atStart => exact ⟨0, Aj _, rfl, hid (by simpa [CJ] using HST.out)⟩
 case round =>
  obtain ⟨k, hk, rfl, hp⟩ := hrel
  obtain ⟨a3, c3, hp3, ht3, ha3⟩ := hp.out
  rcases Bo k L with hlt | hge
  ·have hd3 := CQ ht3 ha3 HR.out
   have hkT : k < T.length := zD
   obtain ⟨b, o, hA, hbb, hc, hx0, hx1⟩ := Cn hd3 hkT
   subst hA;have hst := HNS.out k hkT
   have hfk := HMO.out (k + 1)
   rw [hst, Am] at hfk
   have HSK := hid hst
   have hvk := (A2 T[k].toNat).1
   have hJ3 := hp3.len
   simp only [Am] at hJ3
   have hV := BG wr hp3 T[k].toNat zD zS zS
   rw [toNat_cast hx0, Au (J ++ AH L), ← hst] at hV
   have HV3 := hid hV
   have HT3 := hid (And.intro ht3 ha3)
   have i1 : (k : Int) < (L : Int) := zD
   have d1 : decide ((k : Int) < (L : Int)) = true := Ac i1
   clear hV hd3 hst hp3 ht3 ha3 hp hfk hvk hJ3;generalize T[k] = y at *
   go_wp2_with fail;refine HV3.out.mono ?_
   rintro r w5 ⟨rfl, hst5⟩;have HN := hid (Ao.trans (J := J) HT3.out.1 HT3.out.2 hst5)
   clear hst5;go_wp2;go_roundw
   case rel => exact ⟨k + 1, zD, zW, HN⟩
   case measure => simp [intOf]; omega
  ·obtain rfl : k = L := by omega
   have d1 : decide ((k : Int) < (k : Int)) = false := Ab zD
   rw [EU zD] at hp
   have HN := hid (Ao.later hb1 hp.out)
   rw [Au] at HN
   clear hp hp3 ht3 ha3;go_wp2;first | go_end0 | refine Ai (Aq rfl _ _ _) rfl ?_
   exact ⟨rfl, HN.out⟩
theorem Ir : ∀ (l : List Int) (k : Nat) (h : k + 1 < l.length), A1 l = true → l[k] < l[k + 1]
 | [], k, h, _ => by simp at h
 | [x], k, h, _ => by simp at h
 | x :: y :: l, k, h, hr => by
  simp only [A1, As, Aw] at hr
  cases k with
  | zero => exact hr.1
  | succ k => exact Ir (y :: l) k ZZ hr.2
theorem J4 : ∀ (l : List BB) (p : Option Int) (k : Nat) (h : k < l.length), (EG p l)[k]'zAp = if hk : k = 0 then (match p with | none => l[k].stream | some q => l[k].stream - q - 1) else l[k].stream - (l[k - 1]'zD).stream - 1
 | [], p, k, h => by simp at h
 | x :: l, p, 0, h => by cases p <;> simp [EG]
 | x :: l, p, k + 1, h => by
  simp only [EG, AL]
  rw [J4 l (some x.stream) k ZZ]
  cases k with
  | zero => simp
  | succ k => simp
def Gz (pos : Int) (p : Option Int) (l : List BB) : List (List UInt8) := List.zipWith (fun (y : Int) (x : BB) => AH y.toNat ++ D8 pos x.backs) (EG p l) l
theorem H5 (pos : Int) : ∀ (l : List BB) (p : Option Int), JK pos p l = (Gz pos p l).flatten
 | [], p => rfl
 | x :: l, p => by
  simp only [JK, Gz, EG, List.zipWith_cons_cons, IG]
  rw [H5 pos l (some x.stream)]
  rfl
theorem LB (pos : Int) (p : Option Int) (l : List BB) : (Gz pos p l).length = l.length := by simp [Gz, Ik]
theorem Q5 {α : Type} (Z : List (List α)) (k : Nat) (h : k < Z.length) : (Z.take (k + 1)).flatten = (Z.take k).flatten ++ Z[k] := by
 rw [A6 h, DA]; simp
theorem Mw {α : Type} (Z : List (List α)) (k : Nat) : (Z.take k).flatten.length ≤ Z.flatten.length := by
 have : Z.flatten = (Z.take k).flatten ++ (Z.drop k).flatten := by rw [← DA, Fs]
 rw [this, Am]; omega
theorem QW (pos : Int) (l : List BB) (k : Nat) (h : k < l.length) : (Gz pos none l)[k]'(by rw [LB]; exact h) = AH ((EG none l)[k]'zAp).toNat ++ D8 pos l[k].backs := by
 simp [Gz]
theorem OU (w : World) (l : List BB) (al : Option Addr) (nl cl : Nat) (hl : BK.r (· < w.heap.size) w [.slice al nl cl] l) (hri : A1 (l.map BB.stream) = true) (hlen : l.length ≤ 1000000) :
  Calls Tryz.prog 151 #[.slice al nl cl] w fun r w' => ∃ v, r = .returned v ∧ AQ.r (fun q => w.heap.size ≤ q ∧ q < w'.heap.size) w' [v] (EG none l) ∧ Below w.heap.size w w' := by
 obtain ⟨rfl, hm, _, _⟩ := AP hl
 obtain ⟨i0, hi, hz0, hz1, hz2⟩ := Bq LF
 have HL := hid hl
 have hul := Ik none l
 have HU := hid (fun (k : Nat) (h : k < l.length) => J4 l none k h)
 have HRI := hid (fun (k : Nat) (h : k + 1 < l.length) => (by have := Ir (l.map BB.stream) k ZZ hri; simpa using this : l[k].stream < l[k + 1].stream))
 clear hl hri;go_enter Tryz.func151, Tryz.ntmps151
 go_wp2_with fail;go_loopw [3, 9] (fun v i wr => ∃ k : Nat, k ≤ l.length ∧ i = .int .i64 k ∧ wr.ownsRow w.heap.size 22 1 v k (Bx ((EG none l).take k)) ∧ Hid (∀ x ∈ (EG none l).take k, 0 ≤ x ∧ x ≤ 18446744073709551615) ∧ Below w.heap.size w wr) (fun _ i _ => l.length - (intOf i).toNat)
 case atStart => exact ⟨0, Aj _, rfl, ⟨rfl, .inl ⟨rfl, rfl⟩⟩, hid zO, Below.refl _ _⟩
 case round =>
  obtain ⟨k, hk, rfl, hown, hbd, hb⟩ := hrel
  obtain ⟨av, cv, rfl⟩ := Bh hown
  rcases Bo k l.length with hlt | hge
  ·obtain ⟨b, o, hA, hbb, a2, c2, x0, x1, hx, xl⟩ := DR (lift HL.out hb) hlt
   subst hA;have hu := HU.out k hlt
   have i1 : (k : Int) < (l.length : Int) := zD
   have d1 : decide ((k : Int) < (l.length : Int)) = true := Ac i1
   have hbl : b < wr.heap.size := Ck _ _ x0
   have htk : Bx ((EG none l).take (k + 1)) = Bx ((EG none l).take k) ++ [.int .u64 ((EG none l)[k]'zD)] := by
    rw [A6 zD]; unfold Bx; rw [C7]; rfl
   have hnb : ∀ y : Int, (EG none l)[k]'zD = y → (0 ≤ y ∧ y ≤ 18446744073709551615) → ∀ x ∈ (EG none l).take (k + 1), 0 ≤ x ∧ x ≤ 18446744073709551615 := fun y e hy x hx => by
    rw [A6 zD, DY, Dd] at hx
    rcases hx with hx | rfl
    ·exact hbd.out x hx
    ·rw [e]; exact hy
   have HTK := hid htk
   have HNB := hid hnb
   have HO := hid hown
   have hz := hb.size
   rcases DN k with rfl | hk0
   ·rw [dif_pos rfl] at hu
    (try dsimp only at hu)
    rw [hu] at HTK
    have HBD := hid (HNB.out _ hu hx)
    simp only [Nat.zero_mul, BR, Bn] at x0 x1
    have d2 : decide ((0 : Int) < ((0 : Nat) : Int)) = false := zP
    generalize l[0] = y at *
    clear hu htk hnb hbd hown xl hx;go_wp2_with (at_builtin; go_loud (refine AB rfl _ _ _ rfl w.heap.size 22 i0 (.int .u64 0) 1 8 Dr hi hz0 hz1 hz2 rfl zP (.slice av 0 cv) 0 _ rfl (By HO.out zA) (some ⟨wr.heap.size + 1, 0, none⟩) 1 1 [.int .u64 y.stream] rfl (B9 _ 22 _ rfl zO rfl) ZL zQ zD zL ?_; intro v' w3 hown3 hgrow3 hat3; obtain ⟨a3, c3, rfl⟩ := Bh hown3; have HO3 := hid hown3; have hb3 : Below w.heap.size wr w3 := (Below.grown ((by (repeat (first | with_reducible exact Below.refl _ _ | with_reducible assumption | (with_reducible refine Az ?_ _) | (with_reducible refine Below.setCell ?_ zE _) | (with_reducible refine Below.drew ?_) | (with_reducible refine below_drewN ?_ _) | (refine Af zJ ?_))) : Below wr.heap.size wr _).mono hz) hgrow3 zL (fun g e => (HO.out.lt g e).1)); clear hown3 hgrow3 hat3))
    have ho3 := HO3.out
    rw [← HTK.out] at ho3
    have HO4 := hid ho3
    clear ho3 x0 x1;go_roundw
    case rel => exact ⟨1, zD, zW, by simpa using HO4.out, HBD, hb.trans hb3⟩
    case measure => simp [intOf]; omega
   ·obtain ⟨m, rfl⟩ : ∃ m, k = m + 1 := ⟨k - 1, zD⟩
    obtain ⟨b', o', hA', hbb', a3, c3, y0, y1, hy, yl⟩ := DR (lift HL.out hb) (show m < l.length by omega)
    simp only [Bc, DE] at hA'
    obtain ⟨rfl, rfl, _⟩ := hA'
    have hri := HRI.out m hlt
    rw [dif_neg zD] at hu
    simp only [ET] at hu
    rw [hu] at HTK
    have HBD := hid (HNB.out _ hu zD)
    have i1' : (m : Int) + 1 < (l.length : Int) := zD
    have i2 : (m : Int) < (l.length : Int) := zD
    have d2 : decide ((m : Int) + 1 < (l.length : Int)) = true := Ac i1'
    have d3 : decide (m + 1 < l.length) = true := Ac hlt
    generalize l[m + 1] = y at *
    generalize l[m]'zD = z at *
    have w1 : 0 ≤ y.stream - (z.stream + 1) := zD
    have w2 : z.stream + 1 ≤ 18446744073709551615 := zD
    rw [show y.stream - z.stream - 1 = y.stream - (z.stream + 1) by omega] at HTK
    clear hu htk hnb hbd hown xl yl;go_wp2_with (at_builtin; go_loud (refine AB rfl _ _ _ rfl w.heap.size 22 i0 (.int .u64 0) 1 8 Dr hi hz0 hz1 hz2 rfl zP (.slice av (m + 1) cv) (m + 1) _ rfl (By HO.out zA) (some ⟨wr.heap.size + 1, 0, none⟩) 1 1 [.int .u64 (y.stream - (z.stream + 1))] rfl (B9 _ 22 _ rfl zO rfl) ZL zQ zD zL ?_; intro v' w3 hown3 hgrow3 hat3; obtain ⟨a3, c3, rfl⟩ := Bh hown3; have HO3 := hid hown3; have hb3 : Below w.heap.size wr w3 := (Below.grown ((by (repeat (first | with_reducible exact Below.refl _ _ | with_reducible assumption | (with_reducible refine Az ?_ _) | (with_reducible refine Below.setCell ?_ zE _) | (with_reducible refine Below.drew ?_) | (with_reducible refine below_drewN ?_ _) | (refine Af zJ ?_))) : Below wr.heap.size wr _).mono hz) hgrow3 zL (fun g e => (HO.out.lt g e).1)); clear hown3 hgrow3 hat3))
    have ho3 := HO3.out
    rw [← HTK.out] at ho3
    have HO4 := hid ho3
    clear ho3 x0 x1 y0 y1;go_roundw
    case rel => exact ⟨m + 1 + 1, zD, zW, HO4.out, HBD, hb.trans hb3⟩
    case measure => simp [intOf]; omega
  ·obtain rfl : k = l.length := by omega
   have d1 : decide ((l.length : Int) < (l.length : Int)) = false := Ab zD
   have hv := hown
   rw [EU zD] at hv hbd
   have HV := hid (El hbd.out zD hv)
   clear hv hown;go_wp2;go_ret;exact ⟨_, rfl, HV.out, hb⟩
theorem MQ (l : List BB) (hri : A1 (l.map BB.stream) = true) (hx : ∀ x ∈ l, 0 ≤ x.stream ∧ x.stream ≤ 18446744073709551615) : ∀ k, (h : k < l.length) → 0 ≤ (EG none l)[k]'zAp ∧ (EG none l)[k]'zAp ≤ 18446744073709551615 := by
 intro k h;rw [J4 l none k h]
 have hk := hx l[k] (BZ h)
 split
 ·exact hk
 ·rename_i h0
  have h1 := hx (l[k - 1]'zD) (BZ _)
  have h2 := Ir (l.map BB.stream) (k - 1) zL hri
  simp only [List.getElem_map, Nat.sub_add_cancel (show 1 ≤ k by omega)] at h2
  omega
theorem Mt {S : Nat → Prop} {w : World} {a : Option Addr} {n c : Nat} {l : List BB} (h : BK.r S w [.slice a n c] l) : ∀ x ∈ l, LC x := by
 intro x hx;obtain ⟨i, hi, rfl⟩ := List.getElem_of_mem hx
 obtain ⟨b, o, _, _, a2, c2, _, _, hs, xl⟩ := DR h hi
 exact ⟨hs, fun y hy => (GI xl y hy).1⟩
theorem Mv (pos : Int) (l : List BB) (hR : Bl pos l = true) : (JK pos none l).length ≤ 51 * l.length := by
 have key : ∀ (l : List BB) (p : Option Int), (∀ x ∈ l, Cv pos x = true) → (JK pos p l).length ≤ 51 * l.length := by
  intro l;induction l with
  | nil => intro p _; simp [JK]
  | cons x l ih =>
   intro p hx;have h1 := hx x zO
   simp only [Cv, As, Aw] at h1
   have h2 := ih (some x.stream) (fun y hy => hx y (by simp [hy]))
   have h3 := Pm pos x.backs zD
   cases p with
   | none =>
    have h4 := (A2 x.stream.toNat).1
    simp only [JK, Am, A7]
    omega
   | some q =>
    have h4 := (A2 (x.stream - q - 1).toNat).1
    simp only [JK, Am, A7]
    omega
 simp only [Bl, As, Aw, List.all_eq_true] at hR
 exact key l none hR.2.2
theorem Sz (w : World) {g base most : Nat} {J : List UInt8} {a : Option Addr} {c : Nat} (h : Bv w g base most J a c) (pos : Int) (hpos : 0 ≤ pos ∧ pos ≤ 18446744073709551615) (l : List BB) (al : Option Addr) (nl cl : Nat)
  (hl : BK.r (fun q => q < w.heap.size ∧ ¬ CT g a q) w [.slice al nl cl] l) (hR : Bl pos l = true) (hbk : ∀ x ∈ l, x.backs.length ≤ 1000000) (hfit : J.length + (CR pos l).length ≤ most) (hln2 : J.length + (CR pos l).length ≤ 100000000000000) :
  Calls Tryz.prog 72 #[.pointer (some ⟨g, 0, none⟩), .int .u64 pos, .slice al nl cl] w fun r w' => r = .returned (.tuple #[]) ∧ Ao w g base most (J ++ CR pos l) a w' := by
 obtain ⟨rfl, hm, _, _⟩ := AP hl
 have hN := Mt hl
 have HRT := hid (Kw pos l al _ cl w hpos (G3 hl) (fun x hx => zA5))
 have hR' := hR
 simp only [Bl, As, Aw, List.all_eq_true] at hR'
 rw [hR] at HRT
 have hlk : ∀ x ∈ l, Cb pos x.backs = true := fun x hx => by have := hR'.2.2 x hx; simp only [Cv, As] at this; exact this.2
 have HLK := hid hlk
 have HBK := hid hbk
 have hup := hid (MQ l hR'.2.1 (fun x hx => (hN x hx).1))
 have hul := Ik none l
 have hzl := LB pos none l
 have HSP := hid (fun (W : World) (hW : BK.r (· < W.heap.size) W [.slice al l.length cl] l) => OU W l al _ cl hW hR'.2.1 zD)
 have hdl : (CR pos l).length = (AH l.length).length + ((Gz pos none l).flatten).length := by unfold CR; rw [Am, H5]
 rw [hdl] at hfit hln2
 unfold CR;rw [H5]
 have HP := hid h
 have HL := hid hl
 have hvl := A2 l.length
 have HV := hid (fun (W : World) (hW : Below w.heap.size w W) => BG W (h.later hW) l.length zD zD zD)
 have HMO := hid (fun k => Mw (Gz pos none l) k)
 have HNS := hid (fun (k : Nat) (h : k < l.length) => (by have := Q5 (Gz pos none l) k zD; rw [QW pos l k h] at this; exact this : ((Gz pos none l).take (k + 1)).flatten = ((Gz pos none l).take k).flatten ++ (AH ((EG none l)[k]'zAp).toNat ++ D8 pos l[k].backs)))
 generalize Gz pos none l = Z at *
 have hll : l.length ≤ 16 := hR'.1
 clear h hl hR hR' hlk hbk hN hdl;go_enter Tryz.func72, Tryz.ntmps72
 go_wp2_with fail;refine HRT.out.mono ?_
 rintro r w1 ⟨rfl, hb1⟩;go_wp2_with fail;refine (HV.out _ hb1).mono ?_
 rintro r w2 ⟨rfl, a2, c2, hp2, ht2, ha2⟩;have hd2 := CQ ht2 ha2 (Ej hb1 HL.out)
 have HP2 := hid hp2
 have HD2 := hid hd2
 have HT2 := hid (And.intro ht2 ha2)
 clear hp2 hd2 ht2 ha2;go_wp2_with fail;refine (HSP.out w2 (G3 HD2.out)).mono ?_
 rintro r w3 ⟨v3, rfl, hr3, hb3⟩;obtain ⟨a3, c3, hv3, hr3', _⟩ := AE hr3
 simp only [Ap, AD] at hv3
 subst hv3;have HR3 := hid (Gd HP2.out hr3')
 have HD3 := hid (Ej hb3 HD2.out)
 have HP3 := hid (HP2.out.later hb3)
 rw [hul] at HR3 ⊢
 clear hr3 hr3';go_wp2_with fail;go_loopw [22] (fun i wr => ∃ k : Nat, k ≤ l.length ∧ i = .int .i64 k ∧ Hid (Ao w3 g base most (J ++ AH l.length ++ (Z.take k).flatten) a2 wr)) (fun i _ => l.length - (intOf i).toNat)
 case atStart => exact ⟨0, Aj _, rfl, hid (by simpa using Ao.refl HP3.out)⟩
 case round =>
  obtain ⟨k, hk, rfl, hp⟩ := hrel
  obtain ⟨a4, c4, hp4, ht4, ha4⟩ := hp.out
  rcases Bo k l.length with hlt | hge
  ·have hr4 := CQ ht4 ha4 HR3.out
   have hd4 := CQ ht4 ha4 HD3.out
   obtain ⟨b, o, hA, hbb, hc, hx0, hx1⟩ := Cn hr4 (show k < (EG none l).length by omega)
   obtain ⟨b', o', hA', hbb', a5, c5, y0, y1, hs, yl⟩ := DR hd4 hlt
   subst hA hA';have hst := HNS.out k hlt
   have hfk := HMO.out (k + 1)
   rw [hst, Am, Am] at hfk
   have hvk := (A2 ((EG none l)[k]'zD).toNat).1
   have hJ4 := hp4.len
   simp only [Am] at hJ4
   have hV := BG wr hp4 ((EG none l)[k]'zD).toNat zD zS zS
   rw [toNat_cast hx0] at hV
   have HV4 := hid hV
   have HT4 := hid (And.intro ht4 ha4)
   have HYL := hid yl
   have HST := hid hst
   have HFK := hid hfk
   have hfl := HLK.out l[k] (BZ hlt)
   have hbl := HBK.out l[k] (BZ hlt)
   have HFL := hid hfl
   have HDY := hid (And.intro hbb' y1)
   have i1 : (k : Int) < (l.length : Int) := zD
   have d1 : decide ((k : Int) < (l.length : Int)) = true := Ac i1
   clear hV hr4 hd4 hst hp4 ht4 ha4 hp hfk hvk hJ4 hfl y0 yl y1 hbb';generalize (EG none l)[k]'zD = u at *
   generalize l[k] = y at *
   go_wp2_with fail;refine HV4.out.mono ?_
   rintro r w5 ⟨rfl, a6, c6, hp5, ht5, ha5⟩;have Y1 : w5.cell? ⟨b', o' + k * 2 + 1, none⟩ = some (.slice a5 y.backs.length c5) := (ht5.cell (p := ⟨b', o' + k * 2 + 1, none⟩) HDY.out.1.1 HDY.out.1.2).trans HDY.out.2
   have hy5 := G3 (CQ ht5 ha5 HYL.out)
   have HD5 := hid (Q9 w5 hp5 pos hpos y.backs a5 _ c5 hy5 HFL.out hbl zBl zBl)
   have HT5 := hid (And.intro ht5 ha5)
   clear hy5 hp5 ht5 ha5 hc;go_wp2_with fail;refine HD5.out.mono ?_
   rintro r w6 ⟨rfl, hst6⟩;have hn := Ao.trans (J := J) HT4.out.1 HT4.out.2 (Ao.trans (J := J) HT5.out.1 HT5.out.2 hst6)
   rw [Au, Au (J ++ AH l.length), ← HST.out] at hn
   have HN := hid hn
   clear hst6 hn Y1;go_wp2;go_roundw
   case rel => exact ⟨k + 1, zD, zW, HN⟩
   case measure => simp [intOf]; omega
  ·obtain rfl : k = l.length := by omega
   have d1 : decide ((l.length : Int) < (l.length : Int)) = false := Ab zD
   rw [EU zD] at hp
   have hn := Ao.later hb1 (Ao.trans (J := J) HT2.out.1 HT2.out.2 (Ao.later hb3 hp.out))
   rw [Au] at hn
   have HN := hid hn
   clear hp hp4 ht4 ha4 hn;go_wp2;first | go_end0 | refine Ai (Aq rfl _ _ _) rfl ?_
   exact ⟨rfl, HN.out⟩
theorem KF (w : World) {g base most : Nat} {J : List UInt8} {a : Option Addr} {c : Nat} (h : Bv w g base most J a c) (x : Nat) (hx : x < 18446744073709551616) (hfit : J.length + (AH x).length ≤ most) (hlen : J.length + (AH x).length ≤ 100000000000000) :
  Calls Tryz.prog 146 #[.pointer (some ⟨g, 0, none⟩), .int .u64 x, .bool true] w fun r w' => r = .returned (.tuple #[]) ∧ Ao w g base most (J ++ AH x) a w' := by
 have HV := hid (BG w h x hx hfit hlen)
 clear h;go_enter Tryz.func146, Tryz.ntmps146
 go_wp2_with fail;refine HV.out.mono ?_
 rintro r w1 ⟨rfl, hst⟩;have HST := hid hst
 clear hst;go_wp2;first | go_end0 | refine Ai (Aq rfl _ _ _) rfl ?_
 exact ⟨rfl, HST.out⟩
theorem LO (w : World) {g base most : Nat} {J : List UInt8} {a : Option Addr} {c : Nat} (h : Bv w g base most J a c) (x : Nat) (hx : epR (x : Int) = true) (hfit : J.length + (AH x).length ≤ most) (hlen : J.length + (AH x).length ≤ 100000000000000) :
  Calls Tryz.prog 111 #[.pointer (some ⟨g, 0, none⟩), .int .u64 x] w fun r w' => r = .returned (.tuple #[]) ∧ Ao w g base most (J ++ AH x) a w' := by
 have hx' := hx
 simp only [epR, Aw] at hx'
 have HR := hid (Ey (x : Int) w)
 rw [hx] at HR
 have HV := hid (KF w h x zD hfit hlen)
 clear h hx hx';go_enter Tryz.func111, Tryz.ntmps111
 go_wp2_with fail;refine HR.out.mono ?_
 rintro r w1 ⟨rfl, rfl⟩;go_wp2_with fail;refine HV.out.mono ?_
 rintro r w1 ⟨rfl, hst⟩;have HST := hid hst
 clear hst;go_wp2;first | go_end0 | refine Ai (Aq rfl _ _ _) rfl ?_
 exact ⟨rfl, HST.out⟩
theorem MA (w : World) {g base most : Nat} {J : List UInt8} {a : Option Addr} {c : Nat} (h : Bv w g base most J a c) (x : Nat) (hx : poR (x : Int) = true) (hfit : J.length + (AH x).length ≤ most) (hlen : J.length + (AH x).length ≤ 100000000000000) :
  Calls Tryz.prog 64 #[.pointer (some ⟨g, 0, none⟩), .int .u64 x] w fun r w' => r = .returned (.tuple #[]) ∧ Ao w g base most (J ++ AH x) a w' := by
 have hx' := hx
 simp only [poR, Aw] at hx'
 have HR := hid (I7 (x : Int) w)
 rw [hx] at HR
 have HV := hid (KF w h x zD hfit hlen)
 clear h hx hx';go_enter Tryz.func64, Tryz.ntmps64
 go_wp2_with fail;refine HR.out.mono ?_
 rintro r w1 ⟨rfl, rfl⟩;go_wp2_with fail;refine HV.out.mono ?_
 rintro r w1 ⟨rfl, hst⟩;have HST := hid hst
 clear hst;go_wp2;first | go_end0 | refine Ai (Aq rfl _ _ _) rfl ?_
 exact ⟨rfl, HST.out⟩
theorem D9 {w : World} {g : Nat} {t : TypeId} {v0 v1 v2 : Value} (h : Blk w g t #[v0, v1, v2]) : w.cell? ⟨g, 0, none⟩ = some v0 ∧ w.cell? ⟨g, 1, none⟩ = some v1 ∧ w.cell? ⟨g, 2, none⟩ = some v2 ∧ w.frozen? ⟨g, 0, none⟩ = false ∧ w.frozen? ⟨g, 1, none⟩ = false ∧ w.frozen? ⟨g, 2, none⟩ = false ∧ g < w.heap.size :=
 ⟨h.cell 0, h.cell 1, h.cell 2, h.free 0, h.free 1, h.free 2, h.lt⟩
theorem Gq {S : Nat → Prop} {w : World} {a : Option Addr} {m c : Nat} {l : List UInt8} (hl : l = []) (hm : m = 0) (hc : c ≤ 9223372036854775807) : Ag.r S w [.slice a m c] l := by
 subst hl hm;exact A3 (xs := []) rfl (Aj _) hc (.inl rfl)
theorem Nj (w : World) {g base most : Nat} {J : List UInt8} {a : Option Addr} {c : Nat} (h : Bv w g base most J a c) (k : Int) :
  Calls Tryz.prog 60 #[.pointer (some ⟨g, 0, none⟩), .int .i64 k] w fun r w' => r = .returned (.tuple #[]) ∧ Blk w' g 87 #[.int .i64 most, .slice a J.length c, .int .i64 k] ∧ Tch (· = g) w w' := by
 have HC := hid (Iv w h)
 have HB := hid h.blk
 have c2 : w.cell? ⟨g, 2, none⟩ = some (.int .i64 0) := h.blk.cell 2
 have f2 := h.blk.free 2
 have hgl := h.blk.lt
 clear h;go_enter Tryz.func60, Tryz.ntmps60
 go_wp2_with fail;refine HC.out.mono ?_
 rintro r w1 ⟨rfl, rfl⟩;go_wp2;first | go_end0 | refine Ai (Aq rfl _ _ _) rfl ?_
 exact ⟨rfl, HB.out.set 2 _, Tch.setCell (F := (· = g)) (p := ⟨g, 2, none⟩) (Tch.refl _ _) (fun _ => rfl) _⟩
theorem K2 (w : World) {g : Nat} {v0 v1 : Value} {k : Int} (hk : k ≠ 0) (h : Blk w g 87 #[v0, v1, .int .i64 k]) :
  Calls Tryz.prog 17 #[.pointer (some ⟨g, 0, none⟩)] w fun r w' => r = .returned (.tuple #[.slice none 0 0, .int .i64 k]) ∧ w = w' := by
 have HC : Hid (Calls Tryz.prog 79 #[.pointer (some ⟨g, 0, none⟩)] w fun r w' => r = .returned (.int .i64 k) ∧ w = w') := hid (by
  have c2 : w.cell? ⟨g, 2, none⟩ = some (.int .i64 k) := h.cell 2
  clear h;go_enter Tryz.func79, Tryz.ntmps79
  go_wp2;go_ret;exact ⟨rfl, rfl⟩)
 have d1 : (k == (0 : Int)) = false := by simp [hk]
 have d2 : (k != (0 : Int)) = true := by simp [hk]
 clear h hk;go_enter Tryz.func17, Tryz.ntmps17
 go_wp2_with fail;refine HC.out.mono ?_
 rintro r w1 ⟨rfl, rfl⟩;go_wp2;go_ret2
 exact ⟨rfl, rfl⟩
def Ih (w : World) (base : Nat) (v : Value) (L : List UInt8) : Prop := w.ownsRow base 5 1 v L.length (byteCells L)
theorem KO (l l' : List UInt8) : byteCells l ++ byteCells l' = byteCells (l ++ l') := zAd
theorem Ih.app {w : World} {base : Nat} {v : Value} {L D : List UInt8} (h : w.ownsRow base 5 1 v (L.length + D.length) (byteCells L ++ byteCells D)) : Ih w base v (L ++ D) := by
 unfold Ih;rw [Am, ← KO]
 exact h
theorem Ih.low {w : World} {b b' : Nat} {v : Value} {L : List UInt8} (h : Ih w b v L) (hb : b' ≤ b) : Ih w b' v L := by
 obtain ⟨h1, h2⟩ := h
 refine ⟨h1, ?_⟩
 rcases h2 with h2 | ⟨g, cap, cur, e1, e2, e3⟩
 ·exact .inl h2
 ·exact .inr ⟨g, cap, cur, e1, zD, e3⟩
theorem Ih.read {w : World} {b : Nat} {v : Value} {L : List UInt8} (h : Ih w b v L) : Ag.r (fun q => b ≤ q ∧ q < w.heap.size) w [v] L := Cp rfl h
theorem Ih.form {w : World} {b : Nat} {v : Value} {L : List UInt8} (h : Ih w b v L) : ∃ a c, v = .slice a L.length c := Bh h
theorem K1 (w : World) {g base most : Nat} {J : List UInt8} {a : Option Addr} {c : Nat} (h : Bv w g base most J a c) :
  Calls Tryz.prog 17 #[.pointer (some ⟨g, 0, none⟩)] w fun r w' => ∃ v, r = .returned (.tuple #[v, .int .i64 0]) ∧ Ih w' w.heap.size v J ∧ Below w.heap.size w w' := by
 obtain ⟨i0, hi, hz0, hz1, hz2⟩ := Bq EF
 have HC := hid (Iv w h)
 have hB := Cp rfl h.own
 obtain ⟨_, hm, _, _⟩ := AP hB
 have HD := hid (Ag.mono hB (S' := (· < w.heap.size)) fun q hq => hq.2)
 have HONE := hid (BV J)
 have c1 : w.cell? ⟨g, 1, none⟩ = some (.slice a J.length c) := h.blk.cell 1
 have hg1 := h.blk.lt
 have hle := h.le; have hmo := h.most; have hle14 := h.len
 clear h hB;go_enter Tryz.func17, Tryz.ntmps17
 go_wp2_with fail;refine HC.out.mono ?_
 rintro r w0 ⟨rfl, rfl⟩;go_wp2_with (at_builtin; go_loud (refine AB rfl _ _ _ rfl w.heap.size 5 i0 (.int .u8 0) 1 1 AU hi hz0 hz1 hz2 rfl zP _ 0 [] rfl (Em _ (Al _) rfl) a J.length c (byteCells J) rfl (CZ (lift HD.out zB)) HONE.out zQ zD zO ?_; intro v' w1 hown1 hgrow1 hat1; rw [Bn, A8] at hown1; obtain ⟨a', c', rfl⟩ := Bh hown1; have HG := hid hgrow1; have HO := hid hown1; clear hgrow1 hown1 hat1))
 have hb1 : Below w.heap.size w w1 := Below.grown zB HG.out zO (fun g e => by
  have e' : some w.heap.size = some g := e
  injection e' with e'
  omega)
 go_ret2
 exact ⟨_, rfl, HO.out, hb1⟩
end Go.Proofs.YtlbffbkbkajciaaGreat
