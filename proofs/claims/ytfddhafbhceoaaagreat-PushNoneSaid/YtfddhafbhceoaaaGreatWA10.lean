/- Needed by pushNone_walk, part 10: texts put together by shake.py; no condition. -/
import Derived.Deep.Cut
import Derived.Test.YtfddhafbhceoaaaGreatWA9
import Derived.Deep.CutRange
import Derived.Deep.RegionHeld3
import Derived.Test.YtfddhafbhceoaaaGreatWA7
import Derived.Test.YtfddhafbhceoaaaGreatWA5
import Derived.Test.YtfddhafbhceoaaaGreatWA4
import Derived.Test.YtfddhafbhceoaaaGreatWA2
import Derived.Test.YtfddhafbhceoaaaGreatWA1
import Derived.Test.YtfddhafbhceoaaaGreatWA8
import Derived.Test.YtfddhafbhceoaaaGreatWA3
import Derived.Lib.SlBytesConst
import Derived.Deep.AppendLies
import Derived.Deep.RegionLaw
import Derived.Test.YtfddhafbhceoaaaGreatWA6
import Derived.Laws.Bits64
namespace Go.Proofs.YtfddhafbhceoaaaGreat
open Go.RowKit Go.Bs Go.Maps
set_option linter.unusedVariables false
set_option linter.unusedSimpArgs false

theorem msgIn_no {S : Nat → Prop} {w : World} : MsgIn S w noMsg none 0 none 0 none 0 none 0 :=
  ⟨⟨by decide, by decide⟩, inU_zero, inU_zero, inU_zero, ⟨by decide, by decide⟩, ⟨by decide, by decide⟩, inU_zero, inU_zero, inU_zero, inU_zero, rSl_mk (xs := []) rfl (Nat.zero_le _) (Nat.zero_le _) (.inl rfl), rSl_mk (xs := []) rfl (Nat.zero_le _) (Nat.zero_le _) (.inl rfl), rSl_mk (xs := []) rfl (Nat.zero_le _) (Nat.zero_le _) (.inl rfl), rSl_mk (xs := []) rfl (Nat.zero_le _) (Nat.zero_le _) (.inl rfl)⟩
/-- A function value that reads bodies. -/
structure RdrF (B : List UInt8) (fn : Nat) (blk : Rs → Rs × List UInt8 × Bool) (fl : Rs → Bool → Bool) : Prop where
  ent : ∀ (xs : Array Value) (W : World), (callFunc fn xs).run Tryz.prog W = .ok (.enter fn xs) W
  call : ∀ (w : World) (g : Nat) (a : Option Addr) (s s1 : Rs) (m : Msg) (q : Bool) (k : Int), RdAt w g B a s → inI k → s.body B blk k = (s1, m, q) → Calls Tryz.prog fn #[.pointer (some ⟨g, 0, none⟩), .int .i64 k] w fun r w' => ∃ a1 a1' a2 a2' a3 a3' a4 a4', r = .returned (.tuple #[.agg #[.int .i64 m.kind, .int .u64 m.epoch, .int .u64 m.seq, .int .u64 m.pos, .int .i64 m.count, .int .i64 m.state, .slice a1 m.streams.length a1', .slice a2 m.links.length a2', .slice a3 m.data.length a3', .int .u64 m.sea.epoch, .int .u64 m.sea.node, .int .u64 m.sea.tail, .int .u64 m.proj.epoch, .slice a4 m.proj.stripes.length a4'], .bool (fl s1 q)]) ∧ MsgIn (fun q => w.heap.size ≤ q ∧ q < w'.heap.size) w' m a1 a1' a2 a2' a3 a3' a4 a4' ∧ RdStep w g B a s1 w'
theorem rdr_strict {B : List UInt8} (hB : B.length ≤ 1000000000) : RdrF B 116 (blkS B) (fun s _ => decide (s.k = 0)) :=
  ⟨fun xs W => by go_simp, fun w g a s s1 m q k h hk hZ => rpc_strict w h hB k hk hZ⟩
/-- What a payload's first byte leaves. -/
def Rs.kd (s : Rs) (y : Int) : Rs := if 1 ≤ y ∧ y ≤ 14 then s else s.fail 7 0
/-- The message of a payload, or the fault. -/
def payRd (B : List UInt8) (blk : Rs → Rs × List UInt8 × Bool) (fl : Rs → Bool → Bool) : Msg × Bool × Int × Int :=
  let u := (⟨0, 0, 0⟩ : Rs).byte B
  let e := (u.1.kd (u.2.toNat : Int)).ep B
  let n := e.1.num B
  if n.1.k = 0 then
    let t := n.1.body B blk (u.2.toNat : Int)
    let z := t.1.fin B.length
    if z.k = 0 then (⟨t.2.1.kind, (e.2 : Int), (n.2 : Int), t.2.1.pos, t.2.1.count, t.2.1.state, t.2.1.streams, t.2.1.links, t.2.1.data, t.2.1.sea, t.2.1.proj⟩, fl t.1 t.2.2, 0, 0) else (noMsg, false, z.k, z.f)
  else (noMsg, false, n.1.k, n.1.f)
theorem MsgIn.put {S : Nat → Prop} {w : World} {m : Msg} {a1 : Option Addr} {c1 : Nat} {a2 : Option Addr} {c2 : Nat} {a3 : Option Addr} {c3 : Nat} {a4 : Option Addr} {c4 : Nat} {e n : Int} (h : MsgIn S w m a1 c1 a2 c2 a3 c3 a4 c4) (he : inU e) (hn : inU n) : MsgIn S w ⟨m.kind, e, n, m.pos, m.count, m.state, m.streams, m.links, m.data, m.sea, m.proj⟩ a1 c1 a2 c2 a3 c3 a4 c4 :=
  ⟨h.kind, he, hn, h.pos, h.count, h.state, h.sealE, h.sealN, h.sealT, h.projE, h.streams, h.links, h.data, h.stripes⟩
/-- A payload as far as it is read. -/
structure PayI (w : World) (B : List UInt8) (a : Option Addr) (s : Rs) (W : World) : Prop where
  rd : RdAt W (w.heap.size + 1 + 1) B a s
  mb : Blk W w.heap.size 45 zeroCells
  fb : Blk W (w.heap.size + 1) 65 #[.int .i64 0, .int .i64 0]
  bl : Below w.heap.size w W
section
variable {w W W' : World} {B : List UInt8} {a : Option Addr} {s s' : Rs}
theorem PayI.step (h : PayI w B a s W) (k : RdStep W (w.heap.size + 1 + 1) B a s' W') : PayI w B a s' W' :=
  ⟨k.1, h.mb.tch k.2 (by omega), h.fb.tch k.2 (by omega), h.bl.trans (k.2.to_below h.bl.size fun b hb e => by omega)⟩
theorem PayI.row (h : PayI w B a s W) (hb : Below W.heap.size W W') : PayI w B a s W' :=
  ⟨h.rd.later hb, h.mb.later hb, h.fb.later hb, h.bl.trans (hb.mono h.bl.size)⟩
theorem pay_put {M F : Nat} {v0 v1 v2 v3 v4 v5 v6 v7 v8 v9 v10 v11 v12 v13 k f : Value} (hm : Blk W M 45 zeroCells) (hf : Blk W F 65 #[.int .i64 0, .int .i64 0]) (hne : F ≠ M) :
    Blk (((((((((((((((((W).setCell ⟨M, 0, none⟩ (v0)).setCell ⟨M, 1, none⟩ (v1)).setCell ⟨M, 2, none⟩ (v2)).setCell ⟨M, 3, none⟩ (v3)).setCell ⟨M, 4, none⟩ (v4)).setCell ⟨M, 5, none⟩ (v5)).setCell ⟨M, 6, none⟩ (v6)).setCell ⟨M, 7, none⟩ (v7)).setCell ⟨M, 8, none⟩ (v8)).setCell ⟨M, 9, none⟩ (v9)).setCell ⟨M, 10, none⟩ (v10)).setCell ⟨M, 11, none⟩ (v11)).setCell ⟨M, 12, none⟩ (v12)).setCell ⟨M, 13, none⟩ (v13)).setCell ⟨F, 0, none⟩ (k)).setCell ⟨F, 1, none⟩ (f)) M 45 #[v0, v1, v2, v3, v4, v5, v6, v7, v8, v9, v10, v11, v12, v13] ∧ Blk (((((((((((((((((W).setCell ⟨M, 0, none⟩ (v0)).setCell ⟨M, 1, none⟩ (v1)).setCell ⟨M, 2, none⟩ (v2)).setCell ⟨M, 3, none⟩ (v3)).setCell ⟨M, 4, none⟩ (v4)).setCell ⟨M, 5, none⟩ (v5)).setCell ⟨M, 6, none⟩ (v6)).setCell ⟨M, 7, none⟩ (v7)).setCell ⟨M, 8, none⟩ (v8)).setCell ⟨M, 9, none⟩ (v9)).setCell ⟨M, 10, none⟩ (v10)).setCell ⟨M, 11, none⟩ (v11)).setCell ⟨M, 12, none⟩ (v12)).setCell ⟨M, 13, none⟩ (v13)).setCell ⟨F, 0, none⟩ (k)).setCell ⟨F, 1, none⟩ (f)) F 65 #[k, f] ∧ Tch (fun b => b = M ∨ b = F) W (((((((((((((((((W).setCell ⟨M, 0, none⟩ (v0)).setCell ⟨M, 1, none⟩ (v1)).setCell ⟨M, 2, none⟩ (v2)).setCell ⟨M, 3, none⟩ (v3)).setCell ⟨M, 4, none⟩ (v4)).setCell ⟨M, 5, none⟩ (v5)).setCell ⟨M, 6, none⟩ (v6)).setCell ⟨M, 7, none⟩ (v7)).setCell ⟨M, 8, none⟩ (v8)).setCell ⟨M, 9, none⟩ (v9)).setCell ⟨M, 10, none⟩ (v10)).setCell ⟨M, 11, none⟩ (v11)).setCell ⟨M, 12, none⟩ (v12)).setCell ⟨M, 13, none⟩ (v13)).setCell ⟨F, 0, none⟩ (k)).setCell ⟨F, 1, none⟩ (f)) := by
  have h1 := ((((((((((((((hm.set 0 v0).set 1 v1).set 2 v2).set 3 v3).set 4 v4).set 5 v5).set 6 v6).set 7 v7).set 8 v8).set 9 v9).set 10 v10).set 11 v11).set 12 v12).set 13 v13)
  simp only [zeroCells, List.setIfInBounds_toArray, List.set_cons_zero, List.set_cons_succ] at h1
  have h2 := tch14 (W := W) (R := M) (u0 := v0) (u1 := v1) (u2 := v2) (u3 := v3) (u4 := v4) (u5 := v5) (u6 := v6) (u7 := v7) (u8 := v8) (u9 := v9) (u10 := v10) (u11 := v11) (u12 := v12) (u13 := v13)
  have h3 := hf.tch h2 hne
  generalize ((((((((((((((W).setCell ⟨M, 0, none⟩ (v0)).setCell ⟨M, 1, none⟩ (v1)).setCell ⟨M, 2, none⟩ (v2)).setCell ⟨M, 3, none⟩ (v3)).setCell ⟨M, 4, none⟩ (v4)).setCell ⟨M, 5, none⟩ (v5)).setCell ⟨M, 6, none⟩ (v6)).setCell ⟨M, 7, none⟩ (v7)).setCell ⟨M, 8, none⟩ (v8)).setCell ⟨M, 9, none⟩ (v9)).setCell ⟨M, 10, none⟩ (v10)).setCell ⟨M, 11, none⟩ (v11)).setCell ⟨M, 12, none⟩ (v12)).setCell ⟨M, 13, none⟩ (v13) = V at *
  have h4 := (h3.set 0 k).set 1 f
  simp only [List.setIfInBounds_toArray, List.set_cons_zero, List.set_cons_succ] at h4
  refine ⟨(h1.far (by exact hne.symm) _).far (by exact hne.symm) _, h4, ?_⟩
  refine Tch.setCell (F := fun b => b = M ∨ b = F) (p := ⟨F, 1, none⟩) ?_ (fun _ => .inr rfl) f
  refine Tch.setCell (F := fun b => b = M ∨ b = F) (p := ⟨F, 0, none⟩) ?_ (fun _ => .inr rfl) k
  exact h2.mono fun b _ e => .inl e
end

set_option maxRecDepth 100000 in
set_option maxHeartbeats 6400000 in
theorem rpc_read (w : World) (B : List UInt8) (a : Option Addr) (c0 c : Nat) (hl : rBytes.r (· < w.heap.size) w [.slice a c0 c] B) (hB : B.length ≤ 1000000000) (fn : Nat) (blk : Rs → Rs × List UInt8 × Bool) (fl : Rs → Bool → Bool) (hR : RdrF B fn blk fl) {x : Msg} {qx : Bool} {kx fx : Int} (hZ : payRd B blk fl = (x, qx, kx, fx)) :
    Calls Tryz.prog 177 #[.slice a c0 c, .func (Fn.func fn) #[] #[]] w fun r w' => ∃ a1 a1' a2 a2' a3 a3' a4 a4', r = .returned (.tuple #[.agg #[.int .i64 x.kind, .int .u64 x.epoch, .int .u64 x.seq, .int .u64 x.pos, .int .i64 x.count, .int .i64 x.state, .slice a1 x.streams.length a1', .slice a2 x.links.length a2', .slice a3 x.data.length a3', .int .u64 x.sea.epoch, .int .u64 x.sea.node, .int .u64 x.sea.tail, .int .u64 x.proj.epoch, .slice a4 x.proj.stripes.length a4'], .bool qx, .agg #[.int .i64 kx, .int .i64 fx]]) ∧ MsgIn (fun q => w.heap.size ≤ q ∧ q < w'.heap.size) w' x a1 a1' a2 a2' a3 a3' a4 a4' ∧ Below w.heap.size w w' := by
  obtain ⟨rfl, hmx, hcc, hcm⟩ := sl_len hl
  have HN := hid (rd_new ((w.alloc (.cells #[.int .i64 0, .int .u64 0, .int .u64 0, .int .u64 0, .int .i64 0, .int .i64 0, .slice none 0 0, .slice none 0 0, .slice none 0 0, .int .u64 0, .int .u64 0, .int .u64 0, .int .u64 0, .slice none 0 0] 45)).alloc (.cells #[.int .i64 0, .int .i64 0] 65)) B a _ c (lift hl (by (repeat (first | with_reducible exact Below.refl _ _ | with_reducible assumption | (with_reducible refine below_alloc ?_ _) | (with_reducible refine Below.setCell ?_ (by first | omega | (simp; done) | (simp; omega)) _) | (with_reducible refine Below.drew ?_) | (with_reducible refine below_drewN ?_ _) | (refine below_then (by with_reducible assumption) ?_))))))
  have hHR := hid hR
  unfold payRd at hZ
  have HB0 := hid (fun (W : World) (h : RdAt W (w.heap.size + 1 + 1) B a ⟨0, 0, 0⟩) => rd_byte W h)
  generalize (⟨0, 0, 0⟩ : Rs).byte B = U at *
  obtain ⟨u, yb⟩ := U
  dsimp only at HB0 hZ
  have hy := yb.toNat_lt
  generalize yb.toNat = y at *

  have HKR := hid (fun (W : World) => kind_right (y : Int) W)
  have HFL := hid (fun (W : World) (h : RdAt W (w.heap.size + 1 + 1) B a u) => rd_fail W h 7 0 (by omega))
  obtain ⟨KG, hKG⟩ : ∃ KG, KG = decide (1 ≤ (y : Int) ∧ (y : Int) ≤ 14) := ⟨_, rfl⟩
  rw [← hKG] at HKR
  have hK1 : (KG = true → u.kd (y : Int) = u) ∧ (KG = false → u.kd (y : Int) = u.fail 7 0) :=
    ⟨fun e => if_pos (of_decide_eq_true (hKG.symm.trans e)), fun e => if_neg (of_decide_eq_false (hKG.symm.trans e))⟩
  have HK1 := hid hK1
  clear hK1 hKG hR
  generalize u.kd (y : Int) = s1 at *
  have HE := hid (fun (W : World) (h : RdAt W (w.heap.size + 1 + 1) B a s1) => epoch_read W h hB)
  have hue : inU ((s1.ep B).2 : Int) := Rs.ep_u
  generalize s1.ep B = E at *
  obtain ⟨s2, e⟩ := E
  dsimp only at HE hZ hue
  have HV := hid (fun (W : World) (h : RdAt W (w.heap.size + 1 + 1) B a s2) => varint_read W h (by omega))
  have hun : inU ((s2.num B).2 : Int) := by
    have := Rs.num_small (B := B) (s := s2)
    unfold inU
    exact ⟨by omega, by omega⟩
  generalize s2.num B = V0 at *
  obtain ⟨s3, n⟩ := V0
  dsimp only at HV hZ hun
  have HUE := hid hue
  have HUN := hid hun
  have HZ := hid hZ
  have HY : inI (y : Int) := ⟨by omega, by omega⟩
  have HYI := hid HY
  clear hue hun hZ HY hl
  go_enter Tryz.func177, Tryz.ntmps177
  go_wp2_with fail
  refine HN.out.mono ?_
  rintro r w1 ⟨rfl, hrd, hb1⟩
  have I1 : PayI w B a ⟨0, 0, 0⟩ w1 := ⟨by simpa using hrd, Blk.later (by (repeat (first | assumption | exact Blk.newAt _ _ _ (by first | (simp; done) | (simp; omega)) | refine Blk.alloc ?_ _ | refine Blk.drew ?_ | refine Blk.drewN ?_ _ | refine Blk.far ?_ (by first | (simp; done) | (simp; omega)) _))) hb1, Blk.later (by (repeat (first | assumption | exact Blk.newAt _ _ _ (by first | (simp; done) | (simp; omega)) | refine Blk.alloc ?_ _ | refine Blk.drew ?_ | refine Blk.drewN ?_ _ | refine Blk.far ?_ (by first | (simp; done) | (simp; omega)) _))) hb1, by (repeat (first | with_reducible exact Below.refl _ _ | with_reducible assumption | (with_reducible refine below_alloc ?_ _) | (with_reducible refine Below.setCell ?_ (by first | omega | (simp; done) | (simp; omega)) _) | (with_reducible refine Below.drew ?_) | (with_reducible refine below_drewN ?_ _) | (refine below_then (by with_reducible assumption) ?_)))⟩
  have HI1 := hid I1
  clear I1 hrd hb1
  simp
  go_wp2_with fail
  refine (HB0.out _ HI1.out.rd).mono ?_
  rintro r w2 ⟨rfl, hst⟩
  have HI2 := hid (HI1.out.step hst)
  clear hst HI1
  go_wp2_with fail
  refine (HKR.out _).mono ?_
  rintro r w2' ⟨rfl, rfl⟩
  go_upto_if 21 with (fail)
  go_cut [] from 22 to 23 (fun V => Hid (PayI w B a s1 V))
  case first =>
    have hk1 := HK1.out
    cases KG
    · rw [← hk1.2 rfl] at HFL
      go_wp2_with fail
      refine (HFL.out _ HI2.out.rd).mono ?_
      rintro r w3 ⟨rfl, hst⟩
      have HI3 := hid (HI2.out.step hst)
      clear hst HI2
      go_wp2_with fail
      go_meet
      case rel => exact HI3
    · have HI3 := hid (PayI.row HI2.out (Below.refl _ _))
      rw [← hk1.1 rfl] at HI3
      go_wp2_with fail
      go_meet
      case rel => exact HI3
  case rest =>
    have HI3 := hcut
    obtain ⟨w30, hwn⟩ : ∃ W : World, W = wc := ⟨_, rfl⟩
    subst hwn
    clear hcut HI2
    go_wp2_with fail
    refine (HE.out _ HI3.out.rd).mono ?_
    rintro r w4 ⟨rfl, hst⟩
    have HI4 := hid (HI3.out.step hst)
    clear hst HI3
    go_wp2_with fail
    refine (HV.out _ HI4.out.rd).mono ?_
    rintro r w5 ⟨rfl, hst⟩
    have HI5 := hid (HI4.out.step hst)
    clear hst HI4
    have HF := hid (fun (W : World) (h : RdAt W (w.heap.size + 1 + 1) B a s3) => rd_fault W h)
    by_cases hk : s3.k = 0
    · have hz := HZ.out
      rw [if_pos hk] at hz
      have HG := hid (fun (V : World) (hV : RdAt V (w.heap.size + 1 + 1) B a s3) => (by have := rd_good V hV; rw [decide_eq_true hk] at this; exact this : Calls Tryz.prog 112 #[.pointer (some ⟨(w.heap.size + 1 + 1), 0, none⟩)] V fun r w' => r = .returned (.bool true) ∧ Below V.heap.size V w'))
      generalize hT : s3.body B blk (y : Int) = T at *
      obtain ⟨s4, m, q⟩ := T
      dsimp only at hz
      have HC := hid (fun (W : World) (h : RdAt W (w.heap.size + 1 + 1) B a s3) => hHR.out.call W _ a s3 s4 m q (y : Int) h HYI.out hT)
      have HFN := hid (fun (W : World) (h : RdAt W (w.heap.size + 1 + 1) B a s4) => rd_end W h)
      generalize s4.fin B.length = s5 at *
      generalize fl s4 q = b at *
      have HZ2 := hid hz
      have HF5 := hid (fun (W : World) (h : RdAt W (w.heap.size + 1 + 1) B a s5) => rd_fault W h)
      have HGF := hid (fun (W : World) => fault_good W s5.k s5.f)
      clear hz hk hT HZ
      go_wp2_with fail
      refine (HG.out _ HI5.out.rd).mono ?_
      rintro r w6 ⟨rfl, hb6⟩
      have HI6 := hid (HI5.out.row hb6)
      clear hb6 HI5
      go_wp2_with fail
      rw [hHR.out.ent]
      refine (HC.out _ HI6.out.rd).mono ?_
      rintro r w7 ⟨a1, a1', a2, a2', a3, a3', a4, a4', rfl, hm7, hst⟩
      have HI7 := hid (HI6.out.step hst)
      have X7 := hid (MsgIn.keepS hm7 (fun q hq => rfl) (fun q hq => (⟨by have := hq.1; have := HI6.out.rd.blk.lt; omega, hq.2⟩ : w.heap.size + 1 + 1 < q ∧ q < w7.heap.size)))
      have l7 := HI7.out.rd.blk.lt
      have E8 : Blk (w7.alloc (.cells #[.int .i64 m.kind, .int .u64 m.epoch, .int .u64 m.seq, .int .u64 m.pos, .int .i64 m.count, .int .i64 m.state, .slice a1 m.streams.length a1', .slice a2 m.links.length a2', .slice a3 m.data.length a3', .int .u64 m.sea.epoch, .int .u64 m.sea.node, .int .u64 m.sea.tail, .int .u64 m.proj.epoch, .slice a4 m.proj.stripes.length a4'] 45)) w7.heap.size 45 #[.int .i64 m.kind, .int .u64 m.epoch, .int .u64 m.seq, .int .u64 m.pos, .int .i64 m.count, .int .i64 m.state, .slice a1 m.streams.length a1', .slice a2 m.links.length a2', .slice a3 m.data.length a3', .int .u64 m.sea.epoch, .int .u64 m.sea.node, .int .u64 m.sea.tail, .int .u64 m.proj.epoch, .slice a4 m.proj.stripes.length a4'] := Blk.newAt _ _ _ rfl
      have hb8 : Below w7.heap.size w7 (w7.alloc (.cells #[.int .i64 m.kind, .int .u64 m.epoch, .int .u64 m.seq, .int .u64 m.pos, .int .i64 m.count, .int .i64 m.state, .slice a1 m.streams.length a1', .slice a2 m.links.length a2', .slice a3 m.data.length a3', .int .u64 m.sea.epoch, .int .u64 m.sea.node, .int .u64 m.sea.tail, .int .u64 m.proj.epoch, .slice a4 m.proj.stripes.length a4'] 45)) := by (repeat (first | with_reducible exact Below.refl _ _ | with_reducible assumption | (with_reducible refine below_alloc ?_ _) | (with_reducible refine Below.setCell ?_ (by first | omega | (simp; done) | (simp; omega)) _) | (with_reducible refine Below.drew ?_) | (with_reducible refine below_drewN ?_ _) | (refine below_then (by with_reducible assumption) ?_)))
      have HI8 := hid (HI7.out.row hb8)
      have X8 := hid (MsgIn.keepS X7.out (fun q hq => hb8.block q hq.2) (fun q hq => (⟨hq.1, hq.2⟩ : w.heap.size + 1 + 1 < q ∧ q < w7.heap.size)))
      have l8 : w7.heap.size < ((w7.alloc (.cells #[.int .i64 m.kind, .int .u64 m.epoch, .int .u64 m.seq, .int .u64 m.pos, .int .i64 m.count, .int .i64 m.state, .slice a1 m.streams.length a1', .slice a2 m.links.length a2', .slice a3 m.data.length a3', .int .u64 m.sea.epoch, .int .u64 m.sea.node, .int .u64 m.sea.tail, .int .u64 m.proj.epoch, .slice a4 m.proj.stripes.length a4'] 45))).heap.size := by simp
      clear hst hm7 hb8 HI6 HI7 X7
      go_wp2_with fail
      generalize (w7.alloc (.cells #[.int .i64 m.kind, .int .u64 m.epoch, .int .u64 m.seq, .int .u64 m.pos, .int .i64 m.count, .int .i64 m.state, .slice a1 m.streams.length a1', .slice a2 m.links.length a2', .slice a3 m.data.length a3', .int .u64 m.sea.epoch, .int .u64 m.sea.node, .int .u64 m.sea.tail, .int .u64 m.proj.epoch, .slice a4 m.proj.stripes.length a4'] 45)) = w8 at *
      refine (HFN.out _ HI8.out.rd).mono ?_
      rintro r w9 ⟨rfl, hst⟩
      have E9 := hid (E8.tch hst.2 (by omega))
      have X9 := hid (MsgIn.keepS X8.out (fun q hq => hst.2.block q (by omega) (by omega)) (fun q hq => hq))
      have HI9 := hid (HI8.out.step hst)
      have l9 := Nat.lt_of_lt_of_le l8 hst.2.size
      clear hst HI8 X8 E8
      go_wp2_with fail
      refine (HF5.out _ HI9.out.rd).mono ?_
      rintro r w10 ⟨rfl, hb10⟩
      have E10 := hid (E9.out.later hb10)
      have X10 := hid (MsgIn.keepS X9.out (fun q hq => hb10.block q (by omega)) (fun q hq => hq))
      have HI10 := hid (HI9.out.row hb10)
      have l10 := Nat.lt_of_lt_of_le l9 hb10.size
      have F11 : Blk (w10.alloc (.cells #[.int .i64 s5.k, .int .i64 s5.f] 65)) w10.heap.size 65 #[.int .i64 s5.k, .int .i64 s5.f] := Blk.newAt _ _ _ rfl
      have hb11 : Below w10.heap.size w10 (w10.alloc (.cells #[.int .i64 s5.k, .int .i64 s5.f] 65)) := by (repeat (first | with_reducible exact Below.refl _ _ | with_reducible assumption | (with_reducible refine below_alloc ?_ _) | (with_reducible refine Below.setCell ?_ (by first | omega | (simp; done) | (simp; omega)) _) | (with_reducible refine Below.drew ?_) | (with_reducible refine below_drewN ?_ _) | (refine below_then (by with_reducible assumption) ?_)))
      have HF11 := hid F11
      have E11 := hid (E10.out.later hb11)
      have X11 := hid (MsgIn.keepS X10.out (fun q hq => hb11.block q (by omega)) (fun q hq => hq))
      have HI11 := hid (HI10.out.row hb11)
      have l11 : w10.heap.size < ((w10.alloc (.cells #[.int .i64 s5.k, .int .i64 s5.f] 65))).heap.size := by simp
      obtain ⟨f0, f1, f2, f3, f4⟩ := f_blk F11
      clear hb10 HI9 X9 E9 hb11 HI10 X10 E10 F11
      go_wp2_with fail
      generalize (w10.alloc (.cells #[.int .i64 s5.k, .int .i64 s5.f] 65)) = w11 at *
      by_cases hk5 : s5.k = 0
      · have hz := HZ2.out
        rw [if_pos hk5] at hz
        rw [decide_eq_true hk5] at HGF
        simp only [Prod.mk.injEq] at hz
        obtain ⟨rfl, rfl, rfl, rfl⟩ := hz
        clear HZ2 hk5
        refine (HGF.out _).mono ?_
        rintro r w12 ⟨rfl, hb12⟩
        have E12 := E11.out.later hb12
        have X12 := hid (MsgIn.keepS X11.out (fun q hq => hb12.block q (by omega)) (fun q hq => hq))
        have HI12 := hid (HI11.out.row hb12)
        have l12 := Nat.lt_of_lt_of_le l11 hb12.size
        obtain ⟨y0, y1, y2, y3, y4, y5, y6, y7, y8, y9, y10, y11, y12, y13, ly⟩ := mm_blk E12
        obtain ⟨g0, g1, g2, g3, g4, g5, g6, g7, g8, g9, g10, g11, g12, g13⟩ := m_free E12
        clear hb12 HI11 X11 E11 f0 f1 f2 f3 f4
        go_upto_region 15 with (fail)
        have E13 : Blk ((w12.setCell ⟨w7.heap.size, 1, none⟩ (.int .u64 (e : Int))).setCell ⟨w7.heap.size, 2, none⟩ (.int .u64 (n : Int))) w7.heap.size 45 #[.int .i64 m.kind, .int .u64 (e : Int), .int .u64 (n : Int), .int .u64 m.pos, .int .i64 m.count, .int .i64 m.state, .slice a1 m.streams.length a1', .slice a2 m.links.length a2', .slice a3 m.data.length a3', .int .u64 m.sea.epoch, .int .u64 m.sea.node, .int .u64 m.sea.tail, .int .u64 m.proj.epoch, .slice a4 m.proj.stripes.length a4'] := by
          have := (E12.set 1 (.int .u64 (e : Int))).set 2 (.int .u64 (n : Int))
          simp only [List.setIfInBounds_toArray, List.set_cons_zero, List.set_cons_succ] at this
          exact this
        have ht13 : Tch (· = w7.heap.size) w12 ((w12.setCell ⟨w7.heap.size, 1, none⟩ (.int .u64 (e : Int))).setCell ⟨w7.heap.size, 2, none⟩ (.int .u64 (n : Int))) := by
          refine Tch.setCell (F := (· = w7.heap.size)) (p := ⟨w7.heap.size, 2, none⟩) ?_ (fun _ => rfl) _
          refine Tch.setCell (F := (· = w7.heap.size)) (p := ⟨w7.heap.size, 1, none⟩) ?_ (fun _ => rfl) _
          exact Tch.refl _ _
        generalize ((w12.setCell ⟨w7.heap.size, 1, none⟩ (.int .u64 (e : Int))).setCell ⟨w7.heap.size, 2, none⟩ (.int .u64 (n : Int))) = w13 at *
        have hM := HI12.out.mb.tch ht13 (by omega)
        have hF := HI12.out.fb.tch ht13 (by omega)
        have hbl := HI12.out.bl.trans (ht13.to_below HI12.out.bl.size fun b hb e => by omega)
        have X13 := hid (MsgIn.keepS X12.out (fun q hq => ht13.block q (by omega) (by omega)) (fun q hq => hq))
        clear y0 y1 y2 y3 y4 y5 y6 y7 y8 y9 y10 y11 y12 y13 ly g0 g1 g2 g3 g4 g5 g6 g7 g8 g9 g10 g11 g12 g13 E12 HI12 X12
        have l13 := Nat.lt_of_lt_of_le l12 ht13.size
        obtain ⟨y0, y1, y2, y3, y4, y5, y6, y7, y8, y9, y10, y11, y12, y13, ly⟩ := mm_blk E13
        obtain ⟨r0, r1, r2, r3, r4, r5, r6, r7, r8, r9, r10, r11, r12, r13, lr⟩ := mm_blk hM
        obtain ⟨g0, g1, g2, g3, g4, g5, g6, g7, g8, g9, g10, g11, g12, g13⟩ := m_free hM
        obtain ⟨f0, f1, f2, f3, f4⟩ := f_blk hF
        clear ht13
        go_wp2_with fail
        have hput := pay_put (k := .int .i64 0) (f := .int .i64 0) (v0 := .int .i64 m.kind) (v1 := .int .u64 (e : Int)) (v2 := .int .u64 (n : Int)) (v3 := .int .u64 m.pos) (v4 := .int .i64 m.count) (v5 := .int .i64 m.state) (v6 := .slice a1 m.streams.length a1') (v7 := .slice a2 m.links.length a2') (v8 := .slice a3 m.data.length a3') (v9 := .int .u64 m.sea.epoch) (v10 := .int .u64 m.sea.node) (v11 := .int .u64 m.sea.tail) (v12 := .int .u64 m.proj.epoch) (v13 := .slice a4 m.proj.stripes.length a4') hM hF (by omega)
        refine post_world (fun W => Blk W w.heap.size 45 #[.int .i64 m.kind, .int .u64 (e : Int), .int .u64 (n : Int), .int .u64 m.pos, .int .i64 m.count, .int .i64 m.state, .slice a1 m.streams.length a1', .slice a2 m.links.length a2', .slice a3 m.data.length a3', .int .u64 m.sea.epoch, .int .u64 m.sea.node, .int .u64 m.sea.tail, .int .u64 m.proj.epoch, .slice a4 m.proj.stripes.length a4'] ∧ Blk W (w.heap.size + 1) 65 #[.int .i64 0, .int .i64 0] ∧ Tch (fun b => b = w.heap.size ∨ b = w.heap.size + 1) w13 W) hput ?_
        intro W5 ⟨q5, p5, ht5⟩
        obtain ⟨n0, n1, n2, n3, n4, n5, n6, n7, n8, n9, n10, n11, n12, n13, ln⟩ := mm_blk q5
        obtain ⟨p0, p1, p2, p3, p4⟩ := f_blk p5
        have hz5 := ht5.size
        refine bodyPost_ret (v := .tuple #[.agg #[.int .i64 m.kind, .int .u64 (e : Int), .int .u64 (n : Int), .int .u64 m.pos, .int .i64 m.count, .int .i64 m.state, .slice a1 m.streams.length a1', .slice a2 m.links.length a2', .slice a3 m.data.length a3', .int .u64 m.sea.epoch, .int .u64 m.sea.node, .int .u64 m.sea.tail, .int .u64 m.proj.epoch, .slice a4 m.proj.stripes.length a4'], .bool b, .agg #[.int .i64 0, .int .i64 0]]) (by simp [results, Tryz.results177, go_sem, n0, n1, n2, n3, n4, n5, n6, n7, n8, n9, n10, n11, n12, n13, p0, p1]) rfl ⟨a1, a1', a2, a2', a3, a3', a4, a4', rfl, MsgIn.put (MsgIn.keepS X13.out (fun q hq => ht5.block q (by omega) (by omega)) (fun q hq => ⟨by omega, by omega⟩)) HUE.out HUN.out, hbl.trans (ht5.to_below hbl.size fun b hb e => by omega)⟩
      · have hz := HZ2.out
        rw [if_neg hk5] at hz
        rw [decide_eq_false hk5] at HGF
        simp only [Prod.mk.injEq] at hz
        obtain ⟨rfl, rfl, rfl, rfl⟩ := hz
        clear HZ2 hk5
        refine (HGF.out _).mono ?_
        rintro r w12 ⟨rfl, hb12⟩
        have HI12 := hid (HI11.out.row hb12)
        have hF12 := HF11.out.later hb12
        have hF12d := hF12.drew
        have l12 := Nat.lt_of_lt_of_le l11 hb12.size
        have hM := HI12.out.mb.drew
        have hF := HI12.out.fb.drew
        have hbl := HI12.out.bl.drew
        have SK := hid (fun (w' : World) (h0 : Blk w' w10.heap.size 65 #[.int .i64 s5.k, .int .i64 s5.f]) => (⟨h0.cell 0, h0.cell 1⟩ : w'.cell? ⟨w10.heap.size, 0, none⟩ = some (.int .i64 s5.k) ∧ w'.cell? ⟨w10.heap.size, 1, none⟩ = some (.int .i64 s5.f)))
        have HS := hid (SK.out w12 hF12)
        obtain ⟨r0, r1, r2, r3, r4, r5, r6, r7, r8, r9, r10, r11, r12, r13, lr⟩ := mm_blk hM
        obtain ⟨g0, g1, g2, g3, g4, g5, g6, g7, g8, g9, g10, g11, g12, g13⟩ := m_free hM
        obtain ⟨f0', f1', f2', f3', f4'⟩ := f_blk hF
        clear hb12 HI11 X11 E11 f0 f1 f2 f3 f4
        go_wp2_with fail
        refine wp_region_held_drew (S := fun w' => w'.cell? ⟨w10.heap.size, 0, none⟩ = some (.int .i64 s5.k) ∧ w'.cell? ⟨w10.heap.size, 1, none⟩ = some (.int .i64 s5.f)) (by kernel_rfl) HS.out (fun hHeld => ?_)
        refine wpAnyH_take (i := 0) (oi := _) (v := ?_) rfl (by decide +kernel) (by decide +kernel) (by decide +kernel) (fun _ _ _ h => h) (Or.inl ⟨by rfl, ?_⟩) (by assumption) ?_
        rotate_left
        · (intro w hSw; (try dsimp only at hSw); go_simp <;> with_reducible rfl)
        (try simp only [Act.put, List.setIfInBounds_toArray, List.set_cons_zero, List.set_cons_succ])
        refine wpAnyH_take (i := 1) (oi := _) (v := ?_) rfl (by decide +kernel) (by decide +kernel) (by decide +kernel) (fun _ _ _ h => h) (Or.inl ⟨by rfl, ?_⟩) (by assumption) ?_
        rotate_left
        · (intro w hSw; (try dsimp only at hSw); go_simp <;> with_reducible rfl)
        (try simp only [Act.put, List.setIfInBounds_toArray, List.set_cons_zero, List.set_cons_succ])
        generalize w12.drew = wd at *
        refine wpAnyH_ready (rs := [2]) (by decide +kernel) (by simp) ?_
        refine AllReadyH.cons (o := _) rfl (fun K hK => ?_) AllReadyH.nil
        go_simp
        refine hK.out _ _ ?_ (fun hHeld => ?_)
        · exact SK.out _ (by repeat (first | with_reducible assumption | with_reducible refine Blk.drew ?_ | with_reducible refine Blk.far ?_ (by dsimp only; omega) _))
        clear hK K
        (try simp only [Act.put, List.setIfInBounds_toArray, List.set_cons_zero, List.set_cons_succ])
        refine wpAnyH_take (i := 3) (oi := _) (v := ?_) rfl (by decide +kernel) (by decide +kernel) (by decide +kernel) (fun _ _ _ h => h) (Or.inl ⟨by rfl, ?_⟩) (by assumption) ?_
        rotate_left
        · (intro w hSw; (try dsimp only at hSw); go_simp <;> with_reducible rfl)
        (try simp only [Act.put, List.setIfInBounds_toArray, List.set_cons_zero, List.set_cons_succ])
        refine wpAnyH_ready (rs := [4]) (by decide +kernel) (by simp) ?_
        refine AllReadyH.cons (o := _) rfl (fun K hK => ?_) AllReadyH.nil
        go_simp
        refine hK.out _ _ ?_ (fun hHeld => ?_)
        · exact SK.out _ (by repeat (first | with_reducible assumption | with_reducible refine Blk.drew ?_ | with_reducible refine Blk.far ?_ (by dsimp only; omega) _))
        clear hK K
        (try simp only [Act.put, List.setIfInBounds_toArray, List.set_cons_zero, List.set_cons_succ])
        (try simp only [List.getElem_toArray, List.getElem_cons_zero, List.getElem_cons_succ, Act.put, List.setIfInBounds_toArray, List.set_cons_zero, List.set_cons_succ])
        refine wpAnyH_done (by kernel_rfl) ?_ _
        go_wp2_with fail
        have hput := pay_put (k := .int .i64 s5.k) (f := .int .i64 s5.f) (v0 := .int .i64 0) (v1 := .int .u64 0) (v2 := .int .u64 0) (v3 := .int .u64 0) (v4 := .int .i64 0) (v5 := .int .i64 0) (v6 := .slice none 0 0) (v7 := .slice none 0 0) (v8 := .slice none 0 0) (v9 := .int .u64 0) (v10 := .int .u64 0) (v11 := .int .u64 0) (v12 := .int .u64 0) (v13 := .slice none 0 0) hM hF (by omega)
        refine post_world (fun W => Blk W w.heap.size 45 #[.int .i64 0, .int .u64 0, .int .u64 0, .int .u64 0, .int .i64 0, .int .i64 0, .slice none 0 0, .slice none 0 0, .slice none 0 0, .int .u64 0, .int .u64 0, .int .u64 0, .int .u64 0, .slice none 0 0] ∧ Blk W (w.heap.size + 1) 65 #[.int .i64 s5.k, .int .i64 s5.f] ∧ Tch (fun b => b = w.heap.size ∨ b = w.heap.size + 1) wd W) hput ?_
        intro W5 ⟨q5, p5, ht5⟩
        obtain ⟨n0, n1, n2, n3, n4, n5, n6, n7, n8, n9, n10, n11, n12, n13, ln⟩ := mm_blk q5
        obtain ⟨p0, p1, p2, p3, p4⟩ := f_blk p5
        refine bodyPost_ret (v := .tuple #[.agg #[.int .i64 0, .int .u64 0, .int .u64 0, .int .u64 0, .int .i64 0, .int .i64 0, .slice none 0 0, .slice none 0 0, .slice none 0 0, .int .u64 0, .int .u64 0, .int .u64 0, .int .u64 0, .slice none 0 0], .bool false, .agg #[.int .i64 s5.k, .int .i64 s5.f]]) (by simp [results, Tryz.results177, go_sem, n0, n1, n2, n3, n4, n5, n6, n7, n8, n9, n10, n11, n12, n13, p0, p1]) rfl ⟨none, 0, none, 0, none, 0, none, 0, rfl, msgIn_no, hbl.trans (ht5.to_below hbl.size fun b hb e => by omega)⟩
    · have hz := HZ.out
      rw [if_neg hk] at hz
      simp only [Prod.mk.injEq] at hz
      obtain ⟨rfl, rfl, rfl, rfl⟩ := hz
      have HG := hid (fun (V : World) (hV : RdAt V (w.heap.size + 1 + 1) B a s3) => (by have := rd_good V hV; rw [decide_eq_false hk] at this; exact this : Calls Tryz.prog 112 #[.pointer (some ⟨(w.heap.size + 1 + 1), 0, none⟩)] V fun r w' => r = .returned (.bool false) ∧ Below V.heap.size V w'))
      clear hk HZ
      go_wp2_with fail
      refine (HG.out _ HI5.out.rd).mono ?_
      rintro r w6 ⟨rfl, hb6⟩
      have HI6 := hid (HI5.out.row hb6)
      clear hb6 HI5
      go_wp2_with fail
      refine (HF.out _ HI6.out.rd).mono ?_
      rintro r w12 ⟨rfl, hb12⟩
      have HI12 := hid (HI6.out.row hb12)
      have hM := HI12.out.mb
      have hF := HI12.out.fb
      have hbl := HI12.out.bl
      obtain ⟨r0, r1, r2, r3, r4, r5, r6, r7, r8, r9, r10, r11, r12, r13, lr⟩ := mm_blk hM
      obtain ⟨g0, g1, g2, g3, g4, g5, g6, g7, g8, g9, g10, g11, g12, g13⟩ := m_free hM
      obtain ⟨f0, f1, f2, f3, f4⟩ := f_blk hF
      clear hb12 HI6
      go_wp2_with fail
      have hput := pay_put (k := .int .i64 s3.k) (f := .int .i64 s3.f) (v0 := .int .i64 0) (v1 := .int .u64 0) (v2 := .int .u64 0) (v3 := .int .u64 0) (v4 := .int .i64 0) (v5 := .int .i64 0) (v6 := .slice none 0 0) (v7 := .slice none 0 0) (v8 := .slice none 0 0) (v9 := .int .u64 0) (v10 := .int .u64 0) (v11 := .int .u64 0) (v12 := .int .u64 0) (v13 := .slice none 0 0) hM hF (by omega)
      refine post_world (fun W => Blk W w.heap.size 45 #[.int .i64 0, .int .u64 0, .int .u64 0, .int .u64 0, .int .i64 0, .int .i64 0, .slice none 0 0, .slice none 0 0, .slice none 0 0, .int .u64 0, .int .u64 0, .int .u64 0, .int .u64 0, .slice none 0 0] ∧ Blk W (w.heap.size + 1) 65 #[.int .i64 s3.k, .int .i64 s3.f] ∧ Tch (fun b => b = w.heap.size ∨ b = w.heap.size + 1) w12 W) hput ?_
      intro W5 ⟨q5, p5, ht5⟩
      obtain ⟨n0, n1, n2, n3, n4, n5, n6, n7, n8, n9, n10, n11, n12, n13, ln⟩ := mm_blk q5
      obtain ⟨p0, p1, p2, p3, p4⟩ := f_blk p5
      refine bodyPost_ret (v := .tuple #[.agg #[.int .i64 0, .int .u64 0, .int .u64 0, .int .u64 0, .int .i64 0, .int .i64 0, .slice none 0 0, .slice none 0 0, .slice none 0 0, .int .u64 0, .int .u64 0, .int .u64 0, .int .u64 0, .slice none 0 0], .bool false, .agg #[.int .i64 s3.k, .int .i64 s3.f]]) (by simp [results, Tryz.results177, go_sem, n0, n1, n2, n3, n4, n5, n6, n7, n8, n9, n10, n11, n12, n13, p0, p1]) rfl ⟨none, 0, none, 0, none, 0, none, 0, rfl, msgIn_no, hbl.trans (ht5.to_below hbl.size fun b hb e => by omega)⟩

/-- The front of some bytes: its bounds. -/
theorem getR_frame {B : List UInt8} {m : Int} : (getR ((⟨0, 0, 0⟩ : Rs).frame B m)).2.1 ≤ B.length ∧ (getR ((⟨0, 0, 0⟩ : Rs).frame B m)).1.length ≤ 2097152 := by
  have h0 : (⟨0, 0, 0⟩ : Rs).ok B.length := ⟨Nat.zero_le _, fun _ => rfl⟩
  have h1 := Rs.blob_ok h0 (min m 2097152)
  have h2 := Rs.take_ok h1 4
  have h3 := Rs.int_le (B := B) (s := ⟨0, 0, 0⟩) (m := min m 2097152)
  have h4 : ((⟨0, 0, 0⟩ : Rs).blob B (min m 2097152)).2.length ≤ 2097152 := by
    unfold Rs.blob
    have := Rs.take_len (B := B) (s := ((⟨0, 0, 0⟩ : Rs).int B (min m 2097152)).1) (n := (((⟨0, 0, 0⟩ : Rs).int B (min m 2097152)).2 : Int))
    omega
  have h5 : ((⟨0, 0, 0⟩ : Rs).frame B m).1.ok B.length := by
    unfold Rs.frame
    dsimp only
    split
    · exact h2
    · exact Rs.fail_ok h2 (by omega)
  have h6 : ((⟨0, 0, 0⟩ : Rs).frame B m).2.length ≤ 2097152 := by
    unfold Rs.frame
    dsimp only
    generalize (if crcSum (Rs.blob B ⟨0, 0, 0⟩ (min m 2097152)).2 = _ then _ else _ : Rs) = r
    by_cases hr : r.k = 0
    · rw [if_pos hr]; exact h4
    · rw [if_neg hr]; simp
  unfold getR
  split
  · exact ⟨h5.le, h6⟩
  · exact ⟨Nat.zero_le _, by simp⟩
theorem fault_shiftW (w : World) (k f b : Int) (hk : k ≠ 0) : Calls Tryz.prog 117 #[.agg #[.int .i64 k, .int .i64 f], .int .i64 b] w fun r w' => r = .returned (.agg #[.int .i64 k, .int .i64 (wrap64 (f + b))]) ∧ Below w.heap.size w w' := by
  obtain ⟨v, hv⟩ : ∃ v, wrap64 (f + b) = v := ⟨_, rfl⟩
  rw [hv]
  have HV := hid hv
  clear hv
  go_enter Tryz.func117, Tryz.ntmps117
  go_wp2_with fail
  rw [HV.out]
  refine (fault_at _ k v hk).mono ?_
  rintro r w1 ⟨rfl, hb1⟩
  have B1 : Blk w1 (w.heap.size + 1) 65 #[.int .i64 0, .int .i64 0] := Blk.later (by (repeat (first | assumption | exact Blk.newAt _ _ _ (by first | (simp; done) | (simp; omega)) | refine Blk.alloc ?_ _ | refine Blk.drew ?_ | refine Blk.drewN ?_ _ | refine Blk.far ?_ (by first | (simp; done) | (simp; omega)) _))) hb1
  obtain ⟨y0, y1, g0, g1, l1⟩ := f_blk B1
  have hbw : Below w.heap.size w w1 := by (repeat (first | with_reducible exact Below.refl _ _ | with_reducible assumption | (with_reducible refine below_alloc ?_ _) | (with_reducible refine Below.setCell ?_ (by first | omega | (simp; done) | (simp; omega)) _) | (with_reducible refine Below.drew ?_) | (with_reducible refine below_drewN ?_ _) | (refine below_then (by with_reducible assumption) ?_)))
  clear B1 hb1
  go_wp2
  refine bodyPost_ret (v := .agg #[.int .i64 k, .int .i64 v]) (by simp [results, Tryz.results117, go_sem, y0, y1, g0, g1, l1]) rfl ⟨rfl, by (repeat (first | with_reducible exact Below.refl _ _ | with_reducible assumption | (with_reducible refine below_alloc ?_ _) | (with_reducible refine Below.setCell ?_ (by first | omega | (simp; done) | (simp; omega)) _) | (with_reducible refine Below.drew ?_) | (with_reducible refine below_drewN ?_ _) | (refine below_then (by with_reducible assumption) ?_)))⟩
/-- The message that bytes begin with, or the fault. -/
def getMsg (B : List UInt8) (blk : List UInt8 → Rs → Rs × List UInt8 × Bool) (fl : Rs → Bool → Bool) : Msg × Bool × Nat × Int × Int :=
  let g := getR ((⟨0, 0, 0⟩ : Rs).frame B 2097152)
  if g.2.2.1 = 0 then
    let t := payRd g.1 (blk g.1) fl
    if t.2.2.1 = 0 then (t.1, t.2.1, g.2.1, 0, 0) else (noMsg, false, 0, t.2.2.1, wrap64 (t.2.2.2 + ((g.2.1 : Int) - 4 - (g.1.length : Int))))
  else (noMsg, false, 0, g.2.2.1, g.2.2.2)
/-- What a function with a message and a fault as results has beside its work. -/
structure OutI (w W : World) : Prop where
  mb : Blk W w.heap.size 45 zeroCells
  fb : Blk W (w.heap.size + 1) 65 #[.int .i64 0, .int .i64 0]
  bl : Below w.heap.size w W
section
variable {w W W' : World}
theorem OutI.row (h : OutI w W) (hb : Below W.heap.size W W') : OutI w W' :=
  ⟨h.mb.later hb, h.fb.later hb, h.bl.trans (hb.mono h.bl.size)⟩
theorem OutI.tch (h : OutI w W) {g : Nat} (hg : w.heap.size + 1 < g) (hb : Tch (· = g) W W') : OutI w W' :=
  ⟨h.mb.tch hb (by omega), h.fb.tch hb (by omega), h.bl.trans (hb.to_below h.bl.size fun b hb e => by omega)⟩
end

set_option maxRecDepth 100000 in
set_option maxHeartbeats 6400000 in
theorem rpc_get (w : World) (B : List UInt8) (a : Option Addr) (c0 c : Nat) (hl : rBytes.r (· < w.heap.size) w [.slice a c0 c] B) (hB : B.length ≤ 1000000000) (fn : Nat) (blk : List UInt8 → Rs → Rs × List UInt8 × Bool) (fl : Rs → Bool → Bool) (hR : ∀ P : List UInt8, P.length ≤ 1000000000 → RdrF P fn (blk P) fl) {x : Msg} {qx : Bool} {nx : Nat} {kx fx : Int} (hZ : getMsg B blk fl = (x, qx, nx, kx, fx)) :
    Calls Tryz.prog 115 #[.slice a c0 c, .func (Fn.func fn) #[] #[]] w fun r w' => ∃ a1 a1' a2 a2' a3 a3' a4 a4', r = .returned (.tuple #[.agg #[.int .i64 x.kind, .int .u64 x.epoch, .int .u64 x.seq, .int .u64 x.pos, .int .i64 x.count, .int .i64 x.state, .slice a1 x.streams.length a1', .slice a2 x.links.length a2', .slice a3 x.data.length a3', .int .u64 x.sea.epoch, .int .u64 x.sea.node, .int .u64 x.sea.tail, .int .u64 x.proj.epoch, .slice a4 x.proj.stripes.length a4'], .bool qx, .int .i64 (nx : Int), .agg #[.int .i64 kx, .int .i64 fx]]) ∧ MsgIn (fun q => w.heap.size ≤ q ∧ q < w'.heap.size) w' x a1 a1' a2 a2' a3 a3' a4 a4' ∧ Below w.heap.size w w' := by
  obtain ⟨rfl, hmx, hcc, hcm⟩ := sl_len hl
  have hFG := frame_get ((w.alloc (.cells #[.int .i64 0, .int .u64 0, .int .u64 0, .int .u64 0, .int .i64 0, .int .i64 0, .slice none 0 0, .slice none 0 0, .slice none 0 0, .int .u64 0, .int .u64 0, .int .u64 0, .int .u64 0, .slice none 0 0] 45)).alloc (.cells #[.int .i64 0, .int .i64 0] 65)) B a _ c (lift hl (by (repeat (first | with_reducible exact Below.refl _ _ | with_reducible assumption | (with_reducible refine below_alloc ?_ _) | (with_reducible refine Below.setCell ?_ (by first | omega | (simp; done) | (simp; omega)) _) | (with_reducible refine Below.drew ?_) | (with_reducible refine below_drewN ?_ _) | (refine below_then (by with_reducible assumption) ?_))))) hB 2097152 ⟨by decide, by decide⟩
  unfold getMsg at hZ
  obtain ⟨hG1, hG2⟩ := getR_frame (B := B) (m := 2097152)
  generalize getR ((⟨0, 0, 0⟩ : Rs).frame B 2097152) = G at *
  obtain ⟨D, n, k1, f1⟩ := G
  dsimp only at hFG hZ hG1 hG2
  have HFG := hid hFG
  have HGD := hid (fun (W : World) => fault_good W k1 f1)
  have hz00 : w.heap.size < (((w.alloc (.cells #[.int .i64 0, .int .u64 0, .int .u64 0, .int .u64 0, .int .i64 0, .int .i64 0, .slice none 0 0, .slice none 0 0, .slice none 0 0, .int .u64 0, .int .u64 0, .int .u64 0, .int .u64 0, .slice none 0 0] 45)).alloc (.cells #[.int .i64 0, .int .i64 0] 65))).heap.size := by simp; omega
  clear hFG hl
  go_enter Tryz.func115, Tryz.ntmps115
  go_wp2_with fail
  refine HFG.out.mono ?_
  rintro r w1 ⟨v, rfl, hr, hb1⟩
  obtain ⟨aD, cD, hv, hr2, _⟩ := sl_form hr
  simp only [List.cons.injEq, and_true] at hv
  subst hv
  have I1 : OutI w w1 := ⟨Blk.later (by (repeat (first | assumption | exact Blk.newAt _ _ _ (by first | (simp; done) | (simp; omega)) | refine Blk.alloc ?_ _ | refine Blk.drew ?_ | refine Blk.drewN ?_ _ | refine Blk.far ?_ (by first | (simp; done) | (simp; omega)) _))) hb1, Blk.later (by (repeat (first | assumption | exact Blk.newAt _ _ _ (by first | (simp; done) | (simp; omega)) | refine Blk.alloc ?_ _ | refine Blk.drew ?_ | refine Blk.drewN ?_ _ | refine Blk.far ?_ (by first | (simp; done) | (simp; omega)) _))) hb1, by (repeat (first | with_reducible exact Below.refl _ _ | with_reducible assumption | (with_reducible refine below_alloc ?_ _) | (with_reducible refine Below.setCell ?_ (by first | omega | (simp; done) | (simp; omega)) _) | (with_reducible refine Below.drew ?_) | (with_reducible refine below_drewN ?_ _) | (refine below_then (by with_reducible assumption) ?_)))⟩
  have hlow1 : w.heap.size + 1 < w1.heap.size := I1.fb.lt
  have hr3 := rBytes.mono hr2 (S' := (· < w1.heap.size)) (fun q hq => hq.2)
  have F2 : Blk (w1.alloc (.cells #[.int .i64 k1, .int .i64 f1] 65)) w1.heap.size 65 #[.int .i64 k1, .int .i64 f1] := Blk.newAt _ _ _ rfl
  have hb2 : Below w1.heap.size w1 (w1.alloc (.cells #[.int .i64 k1, .int .i64 f1] 65)) := by (repeat (first | with_reducible exact Below.refl _ _ | with_reducible assumption | (with_reducible refine below_alloc ?_ _) | (with_reducible refine Below.setCell ?_ (by first | omega | (simp; done) | (simp; omega)) _) | (with_reducible refine Below.drew ?_) | (with_reducible refine below_drewN ?_ _) | (refine below_then (by with_reducible assumption) ?_)))
  have HI2 := hid (I1.row hb2)
  have HD2 := hid (lift hr3 hb2)
  have l2 : w1.heap.size < ((w1.alloc (.cells #[.int .i64 k1, .int .i64 f1] 65))).heap.size := by simp
  have HF2 := hid F2
  obtain ⟨f0, f1', f2, f3, f4⟩ := f_blk F2
  clear hr hr2 hr3 hb1 hb2 I1 F2
  go_wp2_with fail
  generalize (w1.alloc (.cells #[.int .i64 k1, .int .i64 f1] 65)) = w2 at *
  by_cases hk1 : k1 = 0
  · rw [if_pos hk1] at hZ
    rw [decide_eq_true hk1] at HGD
    generalize hT : payRd D (blk D) fl = T at *
    obtain ⟨m, q, k2, f2x⟩ := T
    dsimp only at hZ
    have HZ := hid hZ
    have HC := hid (fun (W : World) (h : rBytes.r (· < W.heap.size) W [.slice aD D.length cD] D) => rpc_read W D aD _ cD h (by omega) fn (blk D) fl (hR D (by omega)) hT)
    have HG2 := hid (fun (W : World) => fault_good W k2 f2x)
    clear hk1 hZ hT hR
    refine (HGD.out _).mono ?_
    rintro r w3 ⟨rfl, hb3⟩
    have HI3 := hid (HI2.out.row hb3)
    have HD3 := hid (lift HD2.out hb3)
    have HF3 := hid (HF2.out.later hb3)
    have l3 := Nat.lt_of_lt_of_le l2 hb3.size
    clear hb3 HI2 HD2 HF2 f0 f1' f2 f3 f4
    go_wp2_with fail
    refine (HC.out _ HD3.out).mono ?_
    rintro r w4 ⟨a1, a1', a2, a2', a3, a3', a4, a4', rfl, hm4, hb4⟩
    have HI4 := hid (HI3.out.row hb4)
    have HF4 := hid (HF3.out.later hb4)
    have l4 := Nat.lt_of_lt_of_le l3 hb4.size
    have X4 := hid (MsgIn.keepS hm4 (fun q hq => rfl) (fun q hq => (⟨by omega, hq.2⟩ : w1.heap.size < q ∧ q < w4.heap.size)))
    obtain ⟨f0, f1', f2, f3, f4⟩ := f_blk HF4.out
    clear hm4 hb4 HI3 HF3 HD3
    go_upto_region 5 with (fail)
    have hz5 : w4.heap.size < ((((w4.setCell ⟨w1.heap.size, 0, none⟩ (.int .i64 k2)).setCell ⟨w1.heap.size, 1, none⟩ (.int .i64 f2x)).alloc (.cells #[.int .i64 m.kind, .int .u64 m.epoch, .int .u64 m.seq, .int .u64 m.pos, .int .i64 m.count, .int .i64 m.state, .slice a1 m.streams.length a1', .slice a2 m.links.length a2', .slice a3 m.data.length a3', .int .u64 m.sea.epoch, .int .u64 m.sea.node, .int .u64 m.sea.tail, .int .u64 m.proj.epoch, .slice a4 m.proj.stripes.length a4'] 45))).heap.size := by simp
    have F5 : Blk (((w4.setCell ⟨w1.heap.size, 0, none⟩ (.int .i64 k2)).setCell ⟨w1.heap.size, 1, none⟩ (.int .i64 f2x)).alloc (.cells #[.int .i64 m.kind, .int .u64 m.epoch, .int .u64 m.seq, .int .u64 m.pos, .int .i64 m.count, .int .i64 m.state, .slice a1 m.streams.length a1', .slice a2 m.links.length a2', .slice a3 m.data.length a3', .int .u64 m.sea.epoch, .int .u64 m.sea.node, .int .u64 m.sea.tail, .int .u64 m.proj.epoch, .slice a4 m.proj.stripes.length a4'] 45)) w1.heap.size 65 #[.int .i64 k2, .int .i64 f2x] := by
      have := (HF4.out.set 0 (.int .i64 k2)).set 1 (.int .i64 f2x)
      simp only [List.setIfInBounds_toArray, List.set_cons_zero, List.set_cons_succ] at this
      exact this.alloc _
    have ht4 : Tch (· = w1.heap.size) w4 ((w4.setCell ⟨w1.heap.size, 0, none⟩ (.int .i64 k2)).setCell ⟨w1.heap.size, 1, none⟩ (.int .i64 f2x)) := by
      refine Tch.setCell (F := (· = w1.heap.size)) (p := ⟨w1.heap.size, 1, none⟩) ?_ (fun _ => rfl) _
      refine Tch.setCell (F := (· = w1.heap.size)) (p := ⟨w1.heap.size, 0, none⟩) ?_ (fun _ => rfl) _
      exact Tch.refl _ _
    have hszs : ((w4.setCell ⟨w1.heap.size, 0, none⟩ (.int .i64 k2)).setCell ⟨w1.heap.size, 1, none⟩ (.int .i64 f2x)).heap.size = w4.heap.size := by simp
    have E5 : Blk (((w4.setCell ⟨w1.heap.size, 0, none⟩ (.int .i64 k2)).setCell ⟨w1.heap.size, 1, none⟩ (.int .i64 f2x)).alloc (.cells #[.int .i64 m.kind, .int .u64 m.epoch, .int .u64 m.seq, .int .u64 m.pos, .int .i64 m.count, .int .i64 m.state, .slice a1 m.streams.length a1', .slice a2 m.links.length a2', .slice a3 m.data.length a3', .int .u64 m.sea.epoch, .int .u64 m.sea.node, .int .u64 m.sea.tail, .int .u64 m.proj.epoch, .slice a4 m.proj.stripes.length a4'] 45)) w4.heap.size 45 #[.int .i64 m.kind, .int .u64 m.epoch, .int .u64 m.seq, .int .u64 m.pos, .int .i64 m.count, .int .i64 m.state, .slice a1 m.streams.length a1', .slice a2 m.links.length a2', .slice a3 m.data.length a3', .int .u64 m.sea.epoch, .int .u64 m.sea.node, .int .u64 m.sea.tail, .int .u64 m.proj.epoch, .slice a4 m.proj.stripes.length a4'] := by
      have := Blk.newAt ((w4.setCell ⟨w1.heap.size, 0, none⟩ (.int .i64 k2)).setCell ⟨w1.heap.size, 1, none⟩ (.int .i64 f2x)) 45 #[.int .i64 m.kind, .int .u64 m.epoch, .int .u64 m.seq, .int .u64 m.pos, .int .i64 m.count, .int .i64 m.state, .slice a1 m.streams.length a1', .slice a2 m.links.length a2', .slice a3 m.data.length a3', .int .u64 m.sea.epoch, .int .u64 m.sea.node, .int .u64 m.sea.tail, .int .u64 m.proj.epoch, .slice a4 m.proj.stripes.length a4'] rfl
      rw [hszs] at this
      exact this
    have hb5 : Below ((w4.setCell ⟨w1.heap.size, 0, none⟩ (.int .i64 k2)).setCell ⟨w1.heap.size, 1, none⟩ (.int .i64 f2x)).heap.size ((w4.setCell ⟨w1.heap.size, 0, none⟩ (.int .i64 k2)).setCell ⟨w1.heap.size, 1, none⟩ (.int .i64 f2x)) (((w4.setCell ⟨w1.heap.size, 0, none⟩ (.int .i64 k2)).setCell ⟨w1.heap.size, 1, none⟩ (.int .i64 f2x)).alloc (.cells #[.int .i64 m.kind, .int .u64 m.epoch, .int .u64 m.seq, .int .u64 m.pos, .int .i64 m.count, .int .i64 m.state, .slice a1 m.streams.length a1', .slice a2 m.links.length a2', .slice a3 m.data.length a3', .int .u64 m.sea.epoch, .int .u64 m.sea.node, .int .u64 m.sea.tail, .int .u64 m.proj.epoch, .slice a4 m.proj.stripes.length a4'] 45)) := (Below.refl _ _).alloc (Nat.le_refl _) _
    have HI5 := hid ((HI4.out.tch hlow1 ht4).row hb5)
    have X5 := hid (MsgIn.keepS X4.out (fun q hq => (hb5.block q (by rw [hszs]; exact hq.2)).trans (ht4.block q hq.2 (by omega))) (fun q hq => hq))
    clear HI4 X4 HF4 ht4 hb5 hszs f0 f1' f2 f3 f4
    generalize (((w4.setCell ⟨w1.heap.size, 0, none⟩ (.int .i64 k2)).setCell ⟨w1.heap.size, 1, none⟩ (.int .i64 f2x)).alloc (.cells #[.int .i64 m.kind, .int .u64 m.epoch, .int .u64 m.seq, .int .u64 m.pos, .int .i64 m.count, .int .i64 m.state, .slice a1 m.streams.length a1', .slice a2 m.links.length a2', .slice a3 m.data.length a3', .int .u64 m.sea.epoch, .int .u64 m.sea.node, .int .u64 m.sea.tail, .int .u64 m.proj.epoch, .slice a4 m.proj.stripes.length a4'] 45)) = w5 at *
    obtain ⟨f0, f1', f2, f3, f4⟩ := f_blk F5
    have HF5 := hid F5
    have HE5 := hid E5
    clear F5 E5
    go_wp2_with fail
    by_cases hk2 : k2 = 0
    · have hz := HZ.out
      rw [if_pos hk2] at hz
      rw [decide_eq_true hk2] at HG2
      simp only [Prod.mk.injEq] at hz
      obtain ⟨rfl, rfl, rfl, rfl, rfl⟩ := hz
      clear hk2 HZ
      refine (HG2.out _).mono ?_
      rintro r w6 ⟨rfl, hb6⟩
      have HI6 := hid (HI5.out.row hb6)
      have hE6 := HE5.out.later hb6
      have l6 := Nat.lt_of_lt_of_le hz5 hb6.size
      have X6 := hid (MsgIn.keepS X5.out (fun q hq => hb6.block q (by omega)) (fun q hq => hq))
      have hM := HI6.out.mb
      have hF := HI6.out.fb
      have hbl := HI6.out.bl
      obtain ⟨y0, y1, y2, y3, y4, y5, y6, y7, y8, y9, y10, y11, y12, y13, ly⟩ := mm_blk hE6
      obtain ⟨r0, r1, r2, r3, r4, r5, r6, r7, r8, r9, r10, r11, r12, r13, lr⟩ := mm_blk hM
      obtain ⟨g0, g1, g2, g3, g4, g5, g6, g7, g8, g9, g10, g11, g12, g13⟩ := m_free hM
      clear f0 f1' f2 f3 f4
      obtain ⟨f0, f1', f2, f3, f4⟩ := f_blk hF
      clear hb6 HI5 X5 HE5 HF5
      go_wp2_with fail
      have hput := pay_put (k := .int .i64 0) (f := .int .i64 0) (v0 := .int .i64 m.kind) (v1 := .int .u64 m.epoch) (v2 := .int .u64 m.seq) (v3 := .int .u64 m.pos) (v4 := .int .i64 m.count) (v5 := .int .i64 m.state) (v6 := .slice a1 m.streams.length a1') (v7 := .slice a2 m.links.length a2') (v8 := .slice a3 m.data.length a3') (v9 := .int .u64 m.sea.epoch) (v10 := .int .u64 m.sea.node) (v11 := .int .u64 m.sea.tail) (v12 := .int .u64 m.proj.epoch) (v13 := .slice a4 m.proj.stripes.length a4') hM hF (by omega)
      refine post_world (fun W => Blk W w.heap.size 45 #[.int .i64 m.kind, .int .u64 m.epoch, .int .u64 m.seq, .int .u64 m.pos, .int .i64 m.count, .int .i64 m.state, .slice a1 m.streams.length a1', .slice a2 m.links.length a2', .slice a3 m.data.length a3', .int .u64 m.sea.epoch, .int .u64 m.sea.node, .int .u64 m.sea.tail, .int .u64 m.proj.epoch, .slice a4 m.proj.stripes.length a4'] ∧ Blk W (w.heap.size + 1) 65 #[.int .i64 0, .int .i64 0] ∧ Tch (fun b => b = w.heap.size ∨ b = w.heap.size + 1) w6 W) hput ?_
      intro W5 ⟨q5, p5, ht5⟩
      obtain ⟨n0, n1, n2, n3, n4, n5, n6, n7, n8, n9, n10, n11, n12, n13, ln⟩ := mm_blk q5
      obtain ⟨p0, p1, p2, p3, p4⟩ := f_blk p5
      have hz5 := ht5.size
      refine bodyPost_ret (v := .tuple #[.agg #[.int .i64 m.kind, .int .u64 m.epoch, .int .u64 m.seq, .int .u64 m.pos, .int .i64 m.count, .int .i64 m.state, .slice a1 m.streams.length a1', .slice a2 m.links.length a2', .slice a3 m.data.length a3', .int .u64 m.sea.epoch, .int .u64 m.sea.node, .int .u64 m.sea.tail, .int .u64 m.proj.epoch, .slice a4 m.proj.stripes.length a4'], .bool q, .int .i64 (n : Int), .agg #[.int .i64 0, .int .i64 0]]) (by simp [results, Tryz.results115, go_sem, n0, n1, n2, n3, n4, n5, n6, n7, n8, n9, n10, n11, n12, n13, p0, p1]) rfl ⟨a1, a1', a2, a2', a3, a3', a4, a4', rfl, MsgIn.keepS X6.out (fun q hq => ht5.block q (by omega) (by omega)) (fun q hq => ⟨by omega, by omega⟩), hbl.trans (ht5.to_below hbl.size fun b hb e => by omega)⟩
    · have hz := HZ.out
      rw [if_neg hk2] at hz
      rw [decide_eq_false hk2] at HG2
      simp only [Prod.mk.injEq] at hz
      obtain ⟨rfl, rfl, rfl, rfl, hfx⟩ := hz
      have HS := hid (fun (W : World) => fault_shiftW W k2 f2x ((n : Int) - 4 - (D.length : Int)) hk2)
      rw [hfx] at HS
      have n1 : (n : Int) ≤ 1000000000 := by omega
      have n2 : (D.length : Int) ≤ 2097152 := by omega
      clear hk2 HZ hfx
      refine (HG2.out _).mono ?_
      rintro r w6 ⟨rfl, hb6⟩
      have HI6 := hid (HI5.out.row hb6)
      have hF6 := HF5.out.later hb6
      clear f0 f1' f2 f3 f4
      obtain ⟨f0, f1', f2, f3, f4⟩ := f_blk hF6
      clear hb6 HI5 X5 HE5 HF5
      go_wp2_with fail
      refine (HS.out _).mono ?_
      rintro r w7 ⟨rfl, hb7⟩
      have HI7 := hid (HI6.out.row hb7)
      have hM := HI7.out.mb
      have hF := HI7.out.fb
      have hbl := HI7.out.bl
      obtain ⟨r0, r1, r2, r3, r4, r5, r6, r7, r8, r9, r10, r11, r12, r13, lr⟩ := mm_blk hM
      obtain ⟨g0, g1, g2, g3, g4, g5, g6, g7, g8, g9, g10, g11, g12, g13⟩ := m_free hM
      clear f0 f1' f2 f3 f4
      obtain ⟨f0, f1', f2, f3, f4⟩ := f_blk hF
      clear hb7 HI6
      go_wp2_with fail
      have hput := pay_put (k := .int .i64 k2) (f := .int .i64 fx) (v0 := .int .i64 0) (v1 := .int .u64 0) (v2 := .int .u64 0) (v3 := .int .u64 0) (v4 := .int .i64 0) (v5 := .int .i64 0) (v6 := .slice none 0 0) (v7 := .slice none 0 0) (v8 := .slice none 0 0) (v9 := .int .u64 0) (v10 := .int .u64 0) (v11 := .int .u64 0) (v12 := .int .u64 0) (v13 := .slice none 0 0) hM hF (by omega)
      refine post_world (fun W => Blk W w.heap.size 45 #[.int .i64 0, .int .u64 0, .int .u64 0, .int .u64 0, .int .i64 0, .int .i64 0, .slice none 0 0, .slice none 0 0, .slice none 0 0, .int .u64 0, .int .u64 0, .int .u64 0, .int .u64 0, .slice none 0 0] ∧ Blk W (w.heap.size + 1) 65 #[.int .i64 k2, .int .i64 fx] ∧ Tch (fun b => b = w.heap.size ∨ b = w.heap.size + 1) w7 W) hput ?_
      intro W5 ⟨q5, p5, ht5⟩
      obtain ⟨n0, n1, n2, n3, n4, n5, n6, n7, n8, n9, n10, n11, n12, n13, ln⟩ := mm_blk q5
      obtain ⟨p0, p1, p2, p3, p4⟩ := f_blk p5
      have hz5 := ht5.size
      refine bodyPost_ret (v := .tuple #[.agg #[.int .i64 0, .int .u64 0, .int .u64 0, .int .u64 0, .int .i64 0, .int .i64 0, .slice none 0 0, .slice none 0 0, .slice none 0 0, .int .u64 0, .int .u64 0, .int .u64 0, .int .u64 0, .slice none 0 0], .bool false, .int .i64 0, .agg #[.int .i64 k2, .int .i64 fx]]) (by simp [results, Tryz.results115, go_sem, n0, n1, n2, n3, n4, n5, n6, n7, n8, n9, n10, n11, n12, n13, p0, p1]) rfl ⟨none, 0, none, 0, none, 0, none, 0, rfl, msgIn_no, hbl.trans (ht5.to_below hbl.size fun b hb e => by omega)⟩
  · rw [if_neg hk1] at hZ
    rw [decide_eq_false hk1] at HGD
    simp only [Prod.mk.injEq] at hZ
    obtain ⟨rfl, rfl, rfl, rfl, rfl⟩ := hZ
    clear hk1 hR
    refine (HGD.out _).mono ?_
    rintro r w12 ⟨rfl, hb12⟩
    have HI12 := hid (HI2.out.row hb12)
    have hF12 := HF2.out.later hb12
    have hF12d := hF12.drew
    have l12 := Nat.lt_of_lt_of_le l2 hb12.size
    have hM := HI12.out.mb.drew
    have hF := HI12.out.fb.drew
    have hbl := HI12.out.bl.drew
    have SK := hid (fun (w' : World) (h0 : Blk w' w1.heap.size 65 #[.int .i64 k1, .int .i64 f1]) => (⟨h0.cell 0, h0.cell 1⟩ : w'.cell? ⟨w1.heap.size, 0, none⟩ = some (.int .i64 k1) ∧ w'.cell? ⟨w1.heap.size, 1, none⟩ = some (.int .i64 f1)))
    have HS := hid (SK.out w12 hF12)
    obtain ⟨r0, r1, r2, r3, r4, r5, r6, r7, r8, r9, r10, r11, r12, r13, lr⟩ := mm_blk hM
    obtain ⟨g0, g1, g2, g3, g4, g5, g6, g7, g8, g9, g10, g11, g12, g13⟩ := m_free hM
    obtain ⟨z0, z1, z2, z3, z4⟩ := f_blk hF
    clear hb12 HI2 f0 f1' f2 f3 f4 HD2 HF2
    go_wp2_with fail
    refine wp_region_held_drew (S := fun w' => w'.cell? ⟨w1.heap.size, 0, none⟩ = some (.int .i64 k1) ∧ w'.cell? ⟨w1.heap.size, 1, none⟩ = some (.int .i64 f1)) (by kernel_rfl) HS.out (fun hHeld => ?_)
    refine wpAnyH_take (i := 0) (oi := _) (v := ?_) rfl (by decide +kernel) (by decide +kernel) (by decide +kernel) (fun _ _ _ h => h) (Or.inl ⟨by rfl, ?_⟩) (by assumption) ?_
    rotate_left
    · (intro w hSw; (try dsimp only at hSw); go_simp <;> with_reducible rfl)
    (try simp only [Act.put, List.setIfInBounds_toArray, List.set_cons_zero, List.set_cons_succ])
    refine wpAnyH_take (i := 1) (oi := _) (v := ?_) rfl (by decide +kernel) (by decide +kernel) (by decide +kernel) (fun _ _ _ h => h) (Or.inl ⟨by rfl, ?_⟩) (by assumption) ?_
    rotate_left
    · (intro w hSw; (try dsimp only at hSw); go_simp <;> with_reducible rfl)
    (try simp only [Act.put, List.setIfInBounds_toArray, List.set_cons_zero, List.set_cons_succ])
    generalize w12.drew = wd at *
    refine wpAnyH_ready (rs := [2]) (by decide +kernel) (by simp) ?_
    refine AllReadyH.cons (o := _) rfl (fun K hK => ?_) AllReadyH.nil
    go_simp
    refine hK.out _ _ ?_ (fun hHeld => ?_)
    · exact SK.out _ (by repeat (first | with_reducible assumption | with_reducible refine Blk.drew ?_ | with_reducible refine Blk.far ?_ (by dsimp only; omega) _))
    clear hK K
    (try simp only [Act.put, List.setIfInBounds_toArray, List.set_cons_zero, List.set_cons_succ])
    refine wpAnyH_take (i := 3) (oi := _) (v := ?_) rfl (by decide +kernel) (by decide +kernel) (by decide +kernel) (fun _ _ _ h => h) (Or.inl ⟨by rfl, ?_⟩) (by assumption) ?_
    rotate_left
    · (intro w hSw; (try dsimp only at hSw); go_simp <;> with_reducible rfl)
    (try simp only [Act.put, List.setIfInBounds_toArray, List.set_cons_zero, List.set_cons_succ])
    refine wpAnyH_take (i := 4) (oi := _) (v := ?_) rfl (by decide +kernel) (by decide +kernel) (by decide +kernel) (fun _ _ _ h => h) (Or.inl ⟨by rfl, ?_⟩) (by assumption) ?_
    rotate_left
    · (intro w hSw; (try dsimp only at hSw); go_simp <;> with_reducible rfl)
    (try simp only [Act.put, List.setIfInBounds_toArray, List.set_cons_zero, List.set_cons_succ])
    refine wpAnyH_ready (rs := [5]) (by decide +kernel) (by simp) ?_
    refine AllReadyH.cons (o := _) rfl (fun K hK => ?_) AllReadyH.nil
    go_simp
    refine hK.out _ _ ?_ (fun hHeld => ?_)
    · exact SK.out _ (by repeat (first | with_reducible assumption | with_reducible refine Blk.drew ?_ | with_reducible refine Blk.far ?_ (by dsimp only; omega) _))
    clear hK K
    (try simp only [Act.put, List.setIfInBounds_toArray, List.set_cons_zero, List.set_cons_succ])
    (try simp only [List.getElem_toArray, List.getElem_cons_zero, List.getElem_cons_succ, Act.put, List.setIfInBounds_toArray, List.set_cons_zero, List.set_cons_succ])
    refine wpAnyH_done (by kernel_rfl) ?_ _
    go_wp2_with fail
    have hput := pay_put (k := .int .i64 k1) (f := .int .i64 f1) (v0 := .int .i64 0) (v1 := .int .u64 0) (v2 := .int .u64 0) (v3 := .int .u64 0) (v4 := .int .i64 0) (v5 := .int .i64 0) (v6 := .slice none 0 0) (v7 := .slice none 0 0) (v8 := .slice none 0 0) (v9 := .int .u64 0) (v10 := .int .u64 0) (v11 := .int .u64 0) (v12 := .int .u64 0) (v13 := .slice none 0 0) hM hF (by omega)
    refine post_world (fun W => Blk W w.heap.size 45 #[.int .i64 0, .int .u64 0, .int .u64 0, .int .u64 0, .int .i64 0, .int .i64 0, .slice none 0 0, .slice none 0 0, .slice none 0 0, .int .u64 0, .int .u64 0, .int .u64 0, .int .u64 0, .slice none 0 0] ∧ Blk W (w.heap.size + 1) 65 #[.int .i64 k1, .int .i64 f1] ∧ Tch (fun b => b = w.heap.size ∨ b = w.heap.size + 1) wd W) hput ?_
    intro W5 ⟨q5, p5, ht5⟩
    obtain ⟨n0, n1, n2, n3, n4, n5, n6, n7, n8, n9, n10, n11, n12, n13, ln⟩ := mm_blk q5
    obtain ⟨p0, p1, p2, p3, p4⟩ := f_blk p5
    have hz5 := ht5.size
    refine bodyPost_ret (v := .tuple #[.agg #[.int .i64 0, .int .u64 0, .int .u64 0, .int .u64 0, .int .i64 0, .int .i64 0, .slice none 0 0, .slice none 0 0, .slice none 0 0, .int .u64 0, .int .u64 0, .int .u64 0, .int .u64 0, .slice none 0 0], .bool false, .int .i64 0, .agg #[.int .i64 k1, .int .i64 f1]]) (by simp [results, Tryz.results115, go_sem, n0, n1, n2, n3, n4, n5, n6, n7, n8, n9, n10, n11, n12, n13, p0, p1]) rfl ⟨none, 0, none, 0, none, 0, none, 0, rfl, msgIn_no, hbl.trans (ht5.to_below hbl.size fun b hb e => by omega)⟩

/-- What is read strictly, and loosely. -/
abbrev flS : Rs → Bool → Bool := fun s _ => decide (s.k = 0)
def getMS (B : List UInt8) := getMsg B (fun P => blkS P) flS

set_option maxRecDepth 100000 in
set_option maxHeartbeats 6400000 in
theorem rpc_getS (w : World) (B : List UInt8) (a : Option Addr) (c0 c : Nat) (hl : rBytes.r (· < w.heap.size) w [.slice a c0 c] B) (hB : B.length ≤ 1000000000) {m : Msg} {q : Bool} {n : Nat} {k f : Int} (hZ : getMS B = (m, q, n, k, f)) :
    Calls Tryz.prog 66 #[.slice a c0 c] w fun r w' => ∃ a1 a1' a2 a2' a3 a3' a4 a4', r = .returned (.tuple #[.agg #[.int .i64 m.kind, .int .u64 m.epoch, .int .u64 m.seq, .int .u64 m.pos, .int .i64 m.count, .int .i64 m.state, .slice a1 m.streams.length a1', .slice a2 m.links.length a2', .slice a3 m.data.length a3', .int .u64 m.sea.epoch, .int .u64 m.sea.node, .int .u64 m.sea.tail, .int .u64 m.proj.epoch, .slice a4 m.proj.stripes.length a4'], .int .i64 (n : Int), .agg #[.int .i64 k, .int .i64 f]]) ∧ MsgIn (fun q => w.heap.size ≤ q ∧ q < w'.heap.size) w' m a1 a1' a2 a2' a3 a3' a4 a4' ∧ Below w.heap.size w w' := by
  obtain ⟨rfl, hmx, hcc, hcm⟩ := sl_len hl
  have HGT := hid (rpc_get ((w.alloc (.cells #[.int .i64 0, .int .u64 0, .int .u64 0, .int .u64 0, .int .i64 0, .int .i64 0, .slice none 0 0, .slice none 0 0, .slice none 0 0, .int .u64 0, .int .u64 0, .int .u64 0, .int .u64 0, .slice none 0 0] 45)).alloc (.cells #[.int .i64 0, .int .i64 0] 65)) B a _ c (lift hl (by (repeat (first | with_reducible exact Below.refl _ _ | with_reducible assumption | (with_reducible refine below_alloc ?_ _) | (with_reducible refine Below.setCell ?_ (by first | omega | (simp; done) | (simp; omega)) _) | (with_reducible refine Below.drew ?_) | (with_reducible refine below_drewN ?_ _) | (refine below_then (by with_reducible assumption) ?_))))) hB _ _ _ (fun P h => rdr_strict h) hZ)
  have hz00 : w.heap.size + 1 < (((w.alloc (.cells #[.int .i64 0, .int .u64 0, .int .u64 0, .int .u64 0, .int .i64 0, .int .i64 0, .slice none 0 0, .slice none 0 0, .slice none 0 0, .int .u64 0, .int .u64 0, .int .u64 0, .int .u64 0, .slice none 0 0] 45)).alloc (.cells #[.int .i64 0, .int .i64 0] 65))).heap.size := by simp
  clear hl hZ
  go_enter Tryz.func66, Tryz.ntmps66
  go_wp2_with fail
  refine HGT.out.mono ?_
  rintro r w1 ⟨a1, a1', a2, a2', a3, a3', a4, a4', rfl, hm1, hb1⟩
  have I1 : OutI w w1 := ⟨Blk.later (by (repeat (first | assumption | exact Blk.newAt _ _ _ (by first | (simp; done) | (simp; omega)) | refine Blk.alloc ?_ _ | refine Blk.drew ?_ | refine Blk.drewN ?_ _ | refine Blk.far ?_ (by first | (simp; done) | (simp; omega)) _))) hb1, Blk.later (by (repeat (first | assumption | exact Blk.newAt _ _ _ (by first | (simp; done) | (simp; omega)) | refine Blk.alloc ?_ _ | refine Blk.drew ?_ | refine Blk.drewN ?_ _ | refine Blk.far ?_ (by first | (simp; done) | (simp; omega)) _))) hb1, by (repeat (first | with_reducible exact Below.refl _ _ | with_reducible assumption | (with_reducible refine below_alloc ?_ _) | (with_reducible refine Below.setCell ?_ (by first | omega | (simp; done) | (simp; omega)) _) | (with_reducible refine Below.drew ?_) | (with_reducible refine below_drewN ?_ _) | (refine below_then (by with_reducible assumption) ?_)))⟩
  have hlow1 : w.heap.size + 1 < w1.heap.size := I1.fb.lt
  have E2 : Blk ((w1.alloc (.cells #[.int .i64 m.kind, .int .u64 m.epoch, .int .u64 m.seq, .int .u64 m.pos, .int .i64 m.count, .int .i64 m.state, .slice a1 m.streams.length a1', .slice a2 m.links.length a2', .slice a3 m.data.length a3', .int .u64 m.sea.epoch, .int .u64 m.sea.node, .int .u64 m.sea.tail, .int .u64 m.proj.epoch, .slice a4 m.proj.stripes.length a4'] 45)).alloc (.cells #[.int .i64 k, .int .i64 f] 65)) w1.heap.size 45 #[.int .i64 m.kind, .int .u64 m.epoch, .int .u64 m.seq, .int .u64 m.pos, .int .i64 m.count, .int .i64 m.state, .slice a1 m.streams.length a1', .slice a2 m.links.length a2', .slice a3 m.data.length a3', .int .u64 m.sea.epoch, .int .u64 m.sea.node, .int .u64 m.sea.tail, .int .u64 m.proj.epoch, .slice a4 m.proj.stripes.length a4'] := by (repeat (first | assumption | exact Blk.newAt _ _ _ (by first | (simp; done) | (simp; omega)) | refine Blk.alloc ?_ _ | refine Blk.drew ?_ | refine Blk.drewN ?_ _ | refine Blk.far ?_ (by first | (simp; done) | (simp; omega)) _))
  have F2 : Blk ((w1.alloc (.cells #[.int .i64 m.kind, .int .u64 m.epoch, .int .u64 m.seq, .int .u64 m.pos, .int .i64 m.count, .int .i64 m.state, .slice a1 m.streams.length a1', .slice a2 m.links.length a2', .slice a3 m.data.length a3', .int .u64 m.sea.epoch, .int .u64 m.sea.node, .int .u64 m.sea.tail, .int .u64 m.proj.epoch, .slice a4 m.proj.stripes.length a4'] 45)).alloc (.cells #[.int .i64 k, .int .i64 f] 65)) (w1.heap.size + 1) 65 #[.int .i64 k, .int .i64 f] := by (repeat (first | assumption | exact Blk.newAt _ _ _ (by first | (simp; done) | (simp; omega)) | refine Blk.alloc ?_ _ | refine Blk.drew ?_ | refine Blk.drewN ?_ _ | refine Blk.far ?_ (by first | (simp; done) | (simp; omega)) _))
  have hb2 : Below w1.heap.size w1 ((w1.alloc (.cells #[.int .i64 m.kind, .int .u64 m.epoch, .int .u64 m.seq, .int .u64 m.pos, .int .i64 m.count, .int .i64 m.state, .slice a1 m.streams.length a1', .slice a2 m.links.length a2', .slice a3 m.data.length a3', .int .u64 m.sea.epoch, .int .u64 m.sea.node, .int .u64 m.sea.tail, .int .u64 m.proj.epoch, .slice a4 m.proj.stripes.length a4'] 45)).alloc (.cells #[.int .i64 k, .int .i64 f] 65)) := by (repeat (first | with_reducible exact Below.refl _ _ | with_reducible assumption | (with_reducible refine below_alloc ?_ _) | (with_reducible refine Below.setCell ?_ (by first | omega | (simp; done) | (simp; omega)) _) | (with_reducible refine Below.drew ?_) | (with_reducible refine below_drewN ?_ _) | (refine below_then (by with_reducible assumption) ?_)))
  have HI2 := hid (I1.row hb2)
  have X2 := hid (MsgIn.keepS (S' := fun q => w.heap.size + 1 < q ∧ q < w1.heap.size) hm1 (fun q hq => hb2.block q hq.2) (fun q hq => ⟨by omega, hq.2⟩))
  have l2 : w1.heap.size + 1 < (((w1.alloc (.cells #[.int .i64 m.kind, .int .u64 m.epoch, .int .u64 m.seq, .int .u64 m.pos, .int .i64 m.count, .int .i64 m.state, .slice a1 m.streams.length a1', .slice a2 m.links.length a2', .slice a3 m.data.length a3', .int .u64 m.sea.epoch, .int .u64 m.sea.node, .int .u64 m.sea.tail, .int .u64 m.proj.epoch, .slice a4 m.proj.stripes.length a4'] 45)).alloc (.cells #[.int .i64 k, .int .i64 f] 65))).heap.size := by simp
  obtain ⟨y0, y1, y2, y3, y4, y5, y6, y7, y8, y9, y10, y11, y12, y13, ly⟩ := mm_blk E2
  obtain ⟨f0, f1, f2, f3, f4⟩ := f_blk F2
  clear hm1 hb1 hb2 I1
  go_wp2_with fail
  generalize ((w1.alloc (.cells #[.int .i64 m.kind, .int .u64 m.epoch, .int .u64 m.seq, .int .u64 m.pos, .int .i64 m.count, .int .i64 m.state, .slice a1 m.streams.length a1', .slice a2 m.links.length a2', .slice a3 m.data.length a3', .int .u64 m.sea.epoch, .int .u64 m.sea.node, .int .u64 m.sea.tail, .int .u64 m.proj.epoch, .slice a4 m.proj.stripes.length a4'] 45)).alloc (.cells #[.int .i64 k, .int .i64 f] 65)) = w2 at *
  have hM := HI2.out.mb.drew
  have hF := HI2.out.fb.drew
  have hbl := HI2.out.bl.drew
  have hEd := (E2).drew
  have hFd := (F2).drew
  have XD := hid (MsgIn.keepS (w' := w2.drew) X2.out (fun q hq => rfl) (fun q hq => hq))
  have ld : w1.heap.size + 1 < w2.drew.heap.size := l2
  have SK := hid (fun (w' : World) (h1 : Blk w' w1.heap.size 45 #[.int .i64 m.kind, .int .u64 m.epoch, .int .u64 m.seq, .int .u64 m.pos, .int .i64 m.count, .int .i64 m.state, .slice a1 m.streams.length a1', .slice a2 m.links.length a2', .slice a3 m.data.length a3', .int .u64 m.sea.epoch, .int .u64 m.sea.node, .int .u64 m.sea.tail, .int .u64 m.proj.epoch, .slice a4 m.proj.stripes.length a4']) (h2 : Blk w' (w1.heap.size + 1) 65 #[.int .i64 k, .int .i64 f]) => (⟨h1.cell 0, h1.cell 1, h1.cell 2, h1.cell 3, h1.cell 4, h1.cell 5, h1.cell 6, h1.cell 7, h1.cell 8, h1.cell 9, h1.cell 10, h1.cell 11, h1.cell 12, h1.cell 13, h2.cell 0, h2.cell 1⟩ : w'.cell? ⟨w1.heap.size, 0, none⟩ = some (.int .i64 m.kind) ∧ w'.cell? ⟨w1.heap.size, 1, none⟩ = some (.int .u64 m.epoch) ∧ w'.cell? ⟨w1.heap.size, 2, none⟩ = some (.int .u64 m.seq) ∧ w'.cell? ⟨w1.heap.size, 3, none⟩ = some (.int .u64 m.pos) ∧ w'.cell? ⟨w1.heap.size, 4, none⟩ = some (.int .i64 m.count) ∧ w'.cell? ⟨w1.heap.size, 5, none⟩ = some (.int .i64 m.state) ∧ w'.cell? ⟨w1.heap.size, 6, none⟩ = some (.slice a1 m.streams.length a1') ∧ w'.cell? ⟨w1.heap.size, 7, none⟩ = some (.slice a2 m.links.length a2') ∧ w'.cell? ⟨w1.heap.size, 8, none⟩ = some (.slice a3 m.data.length a3') ∧ w'.cell? ⟨w1.heap.size, 9, none⟩ = some (.int .u64 m.sea.epoch) ∧ w'.cell? ⟨w1.heap.size, 10, none⟩ = some (.int .u64 m.sea.node) ∧ w'.cell? ⟨w1.heap.size, 11, none⟩ = some (.int .u64 m.sea.tail) ∧ w'.cell? ⟨w1.heap.size, 12, none⟩ = some (.int .u64 m.proj.epoch) ∧ w'.cell? ⟨w1.heap.size, 13, none⟩ = some (.slice a4 m.proj.stripes.length a4') ∧ w'.cell? ⟨(w1.heap.size + 1), 0, none⟩ = some (.int .i64 k) ∧ w'.cell? ⟨(w1.heap.size + 1), 1, none⟩ = some (.int .i64 f)))
  have HS := hid (SK.out w2 E2 F2)
  obtain ⟨r0, r1, r2, r3, r4, r5, r6, r7, r8, r9, r10, r11, r12, r13, lr⟩ := mm_blk hM
  obtain ⟨g0, g1, g2, g3, g4, g5, g6, g7, g8, g9, g10, g11, g12, g13⟩ := m_free hM
  obtain ⟨z0, z1, z2, z3, z4⟩ := f_blk hF
  (try clear y0 y1 y2 y3 y4 y5 y6 y7 y8 y9 y10 y11 y12 y13 ly)
  (try clear f0 f1 f2 f3 f4)
  go_wp2_with fail
  refine wp_region_held_drew (S := fun w' => w'.cell? ⟨w1.heap.size, 0, none⟩ = some (.int .i64 m.kind) ∧ w'.cell? ⟨w1.heap.size, 1, none⟩ = some (.int .u64 m.epoch) ∧ w'.cell? ⟨w1.heap.size, 2, none⟩ = some (.int .u64 m.seq) ∧ w'.cell? ⟨w1.heap.size, 3, none⟩ = some (.int .u64 m.pos) ∧ w'.cell? ⟨w1.heap.size, 4, none⟩ = some (.int .i64 m.count) ∧ w'.cell? ⟨w1.heap.size, 5, none⟩ = some (.int .i64 m.state) ∧ w'.cell? ⟨w1.heap.size, 6, none⟩ = some (.slice a1 m.streams.length a1') ∧ w'.cell? ⟨w1.heap.size, 7, none⟩ = some (.slice a2 m.links.length a2') ∧ w'.cell? ⟨w1.heap.size, 8, none⟩ = some (.slice a3 m.data.length a3') ∧ w'.cell? ⟨w1.heap.size, 9, none⟩ = some (.int .u64 m.sea.epoch) ∧ w'.cell? ⟨w1.heap.size, 10, none⟩ = some (.int .u64 m.sea.node) ∧ w'.cell? ⟨w1.heap.size, 11, none⟩ = some (.int .u64 m.sea.tail) ∧ w'.cell? ⟨w1.heap.size, 12, none⟩ = some (.int .u64 m.proj.epoch) ∧ w'.cell? ⟨w1.heap.size, 13, none⟩ = some (.slice a4 m.proj.stripes.length a4') ∧ w'.cell? ⟨(w1.heap.size + 1), 0, none⟩ = some (.int .i64 k) ∧ w'.cell? ⟨(w1.heap.size + 1), 1, none⟩ = some (.int .i64 f)) (by kernel_rfl) HS.out (fun hHeld => ?_)
  refine wpAnyH_take (i := 0) (oi := _) (v := ?_) rfl (by decide +kernel) (by decide +kernel) (by decide +kernel) (fun _ _ _ h => h) (Or.inl ⟨by rfl, ?_⟩) (by assumption) ?_
  rotate_left
  · (intro w hSw; (try dsimp only at hSw); go_simp <;> with_reducible rfl)
  (try simp only [Act.put, List.setIfInBounds_toArray, List.set_cons_zero, List.set_cons_succ])
  refine wpAnyH_take (i := 1) (oi := _) (v := ?_) rfl (by decide +kernel) (by decide +kernel) (by decide +kernel) (fun _ _ _ h => h) (Or.inl ⟨by rfl, ?_⟩) (by assumption) ?_
  rotate_left
  · (intro w hSw; (try dsimp only at hSw); go_simp <;> with_reducible rfl)
  (try simp only [Act.put, List.setIfInBounds_toArray, List.set_cons_zero, List.set_cons_succ])
  refine wpAnyH_take (i := 2) (oi := _) (v := ?_) rfl (by decide +kernel) (by decide +kernel) (by decide +kernel) (fun _ _ _ h => h) (Or.inl ⟨by rfl, ?_⟩) (by assumption) ?_
  rotate_left
  · (intro w hSw; (try dsimp only at hSw); go_simp <;> with_reducible rfl)
  (try simp only [Act.put, List.setIfInBounds_toArray, List.set_cons_zero, List.set_cons_succ])
  generalize w2.drew = wd at *
  refine wpAnyH_ready (rs := [3]) (by decide +kernel) (by simp) ?_
  refine AllReadyH.cons (o := _) rfl (fun K hK => ?_) AllReadyH.nil
  go_simp
  refine hK.out _ _ ?_ (fun hHeld => ?_)
  · exact SK.out _ (by repeat (first | with_reducible assumption | with_reducible refine Blk.drew ?_ | with_reducible refine Blk.far ?_ (by dsimp only; omega) _)) (by repeat (first | with_reducible assumption | with_reducible refine Blk.drew ?_ | with_reducible refine Blk.far ?_ (by dsimp only; omega) _))
  clear hK K
  (try simp only [Act.put, List.setIfInBounds_toArray, List.set_cons_zero, List.set_cons_succ])
  refine wpAnyH_take (i := 4) (oi := _) (v := ?_) rfl (by decide +kernel) (by decide +kernel) (by decide +kernel) (fun _ _ _ h => h) (Or.inl ⟨by rfl, ?_⟩) (by assumption) ?_
  rotate_left
  · (intro w hSw; (try dsimp only at hSw); go_simp <;> with_reducible rfl)
  (try simp only [Act.put, List.setIfInBounds_toArray, List.set_cons_zero, List.set_cons_succ])
  refine wpAnyH_ready (rs := [5]) (by decide +kernel) (by simp) ?_
  refine AllReadyH.cons (o := _) rfl (fun K hK => ?_) AllReadyH.nil
  go_simp
  refine hK.out _ _ ?_ (fun hHeld => ?_)
  · exact SK.out _ (by repeat (first | with_reducible assumption | with_reducible refine Blk.drew ?_ | with_reducible refine Blk.far ?_ (by dsimp only; omega) _)) (by repeat (first | with_reducible assumption | with_reducible refine Blk.drew ?_ | with_reducible refine Blk.far ?_ (by dsimp only; omega) _))
  clear hK K
  (try simp only [Act.put, List.setIfInBounds_toArray, List.set_cons_zero, List.set_cons_succ])
  (try simp only [List.getElem_toArray, List.getElem_cons_zero, List.getElem_cons_succ, Act.put, List.setIfInBounds_toArray, List.set_cons_zero, List.set_cons_succ])
  refine wpAnyH_done (by kernel_rfl) ?_ _
  go_wp2_with fail
  have hput := pay_put (k := .int .i64 k) (f := .int .i64 f) (v0 := .int .i64 m.kind) (v1 := .int .u64 m.epoch) (v2 := .int .u64 m.seq) (v3 := .int .u64 m.pos) (v4 := .int .i64 m.count) (v5 := .int .i64 m.state) (v6 := .slice a1 m.streams.length a1') (v7 := .slice a2 m.links.length a2') (v8 := .slice a3 m.data.length a3') (v9 := .int .u64 m.sea.epoch) (v10 := .int .u64 m.sea.node) (v11 := .int .u64 m.sea.tail) (v12 := .int .u64 m.proj.epoch) (v13 := .slice a4 m.proj.stripes.length a4') hM hF (by omega)
  refine post_world (fun W => Blk W w.heap.size 45 #[.int .i64 m.kind, .int .u64 m.epoch, .int .u64 m.seq, .int .u64 m.pos, .int .i64 m.count, .int .i64 m.state, .slice a1 m.streams.length a1', .slice a2 m.links.length a2', .slice a3 m.data.length a3', .int .u64 m.sea.epoch, .int .u64 m.sea.node, .int .u64 m.sea.tail, .int .u64 m.proj.epoch, .slice a4 m.proj.stripes.length a4'] ∧ Blk W (w.heap.size + 1) 65 #[.int .i64 k, .int .i64 f] ∧ Tch (fun b => b = w.heap.size ∨ b = w.heap.size + 1) wd W) hput ?_
  intro W5 ⟨q5, p5, ht5⟩
  obtain ⟨n0, n1, n2, n3, n4, n5, n6, n7, n8, n9, n10, n11, n12, n13, ln⟩ := mm_blk q5
  obtain ⟨p0, p1, p2, p3, p4⟩ := f_blk p5
  have hz5 := ht5.size
  refine bodyPost_ret (v := .tuple #[.agg #[.int .i64 m.kind, .int .u64 m.epoch, .int .u64 m.seq, .int .u64 m.pos, .int .i64 m.count, .int .i64 m.state, .slice a1 m.streams.length a1', .slice a2 m.links.length a2', .slice a3 m.data.length a3', .int .u64 m.sea.epoch, .int .u64 m.sea.node, .int .u64 m.sea.tail, .int .u64 m.proj.epoch, .slice a4 m.proj.stripes.length a4'], .int .i64 (n : Int), .agg #[.int .i64 k, .int .i64 f]]) (by simp [results, Tryz.results66, go_sem, n0, n1, n2, n3, n4, n5, n6, n7, n8, n9, n10, n11, n12, n13, p0, p1]) rfl ⟨a1, a1', a2, a2', a3, a3', a4, a4', rfl, MsgIn.keepS XD.out (fun q hq => ht5.block q (by omega) (by omega)) (fun q hq => ⟨by omega, by omega⟩), hbl.trans (ht5.to_below hbl.size fun b hb e => by omega)⟩


theorem own_lt2 {W : World} {lo : Nat} {e : TypeId} {sz n : Nat} {v : Value} {xs : List Value} (h : W.ownsRow lo e sz v n xs) : ∀ b, v.ownBlock = some b → lo ≤ b ∧ b < W.heap.size := fun b hv => h.lt b hv

theorem m_blk {w : World} {g : Nat} {t : TypeId} {v0 v1 v2 v3 v4 v5 v6 v7 v8 v9 v10 v11 v12 v13 : Value} (h : Blk w g t #[v0, v1, v2, v3, v4, v5, v6, v7, v8, v9, v10, v11, v12, v13]) :
    w.cell? ⟨g, 0, none⟩ = some v0 ∧ w.cell? ⟨g, 1, none⟩ = some v1 ∧ w.cell? ⟨g, 2, none⟩ = some v2 ∧ w.cell? ⟨g, 3, none⟩ = some v3 ∧ w.cell? ⟨g, 4, none⟩ = some v4 ∧ w.cell? ⟨g, 5, none⟩ = some v5 ∧ w.cell? ⟨g, 6, none⟩ = some v6 ∧ w.cell? ⟨g, 7, none⟩ = some v7 ∧ w.cell? ⟨g, 8, none⟩ = some v8 ∧ w.cell? ⟨g, 9, none⟩ = some v9 ∧ w.cell? ⟨g, 10, none⟩ = some v10 ∧ w.cell? ⟨g, 11, none⟩ = some v11 ∧ w.cell? ⟨g, 12, none⟩ = some v12 ∧ w.cell? ⟨g, 13, none⟩ = some v13 ∧ g < w.heap.size :=
  ⟨h.cell 0, h.cell 1, h.cell 2, h.cell 3, h.cell 4, h.cell 5, h.cell 6, h.cell 7, h.cell 8, h.cell 9, h.cell 10, h.cell 11, h.cell 12, h.cell 13, h.lt⟩


theorem msg_mild {m : Msg} (h : msgR m = true) : (∀ x ∈ m.links, x.backs.length ≤ 1000000) ∧ m.data.length ≤ 1048576 := by
  refine ⟨?_, (msgR_parts h).data⟩
  unfold msgR at h
  simp only [Bool.and_eq_true] at h
  have h5 := h.2.2.2.2.2.1
  cases hh : hasK m.kind 16
  · rw [hh] at h5
    have := List.length_eq_zero_iff.1 (of_decide_eq_true h5)
    rw [this]
    simp
  · rw [hh] at h5
    have h6 : linksR m.pos m.links = true := h5
    simp only [linksR, Bool.and_eq_true, List.all_eq_true] at h6
    intro x hx
    have := h6.2.2 x hx
    simp only [linkR, Bool.and_eq_true, decide_eq_true_eq] at this
    omega

theorem msg_nums {S : Nat → Prop} {w : World} {m : Msg} {a1 : Option Addr} {c1 : Nat} {a2 : Option Addr} {c2 : Nat} {a3 : Option Addr} {c3 : Nat} {a4 : Option Addr} {c4 : Nat} (h : MsgIn S w m a1 c1 a2 c2 a3 c3 a4 c4) : MsgN m := by
  refine ⟨h.pos, u64s_bounds h.streams, fun x hx => ?_, h.sealN.1, h.sealT.1, fun z hz x hx => ?_⟩
  · obtain ⟨i, hi, rfl⟩ := List.getElem_of_mem hx
    obtain ⟨b, o, hA, hbb, p1, q1, hc0, hc1, hst, hd⟩ := link_at h.links hi
    exact ⟨hst, fun y hy => (u64s_bounds hd y hy).1⟩
  · obtain ⟨i, hi, rfl⟩ := List.getElem_of_mem hz
    obtain ⟨b, o, hA, hbb, p1, q1, hc0, hc1, hc2, ub0, ub1, hd1⟩ := stripe_at h.stripes hi
    obtain ⟨j, hj, rfl⟩ := List.getElem_of_mem hx
    obtain ⟨b', o', hA', hbb', p2, q2, hc3, hd2⟩ := set_at hd1 hj
    exact u64s_bounds hd2
end Go.Proofs.YtfddhafbhceoaaaGreat
namespace Go.Bs
def rpcR (m : Msg) : Bool := msgR m && epR m.epoch
end Go.Bs
namespace Go.Proofs.YtfddhafbhceoaaaGreat
open Go.RowKit Go.Bs Go.Maps
set_option linter.unusedVariables false
set_option linter.unusedSimpArgs false

def payB (m : Msg) : List UInt8 := [UInt8.ofNat m.kind.toNat] ++ varB m.epoch.toNat ++ varB m.seq.toNat ++ msgB m
def payBytes (m : Msg) : List UInt8 × Int := if rpcR m = true then (payB m, 0) else ([], 3)
theorem payB_len {m : Msg} (h : rpcR m = true) : (payB m).length ≤ 49021 + m.data.length := by
  simp only [rpcR, Bool.and_eq_true] at h
  have h1 := msgB_len h.1
  have h2 := (varB_len m.epoch.toNat).1
  have h3 := (varB_len m.seq.toNat).1
  unfold payB
  simp only [List.length_append, List.length_cons, List.length_nil]
  omega

set_option maxRecDepth 100000 in
set_option maxHeartbeats 6400000 in
theorem rpc_right (m : Msg) (a1 : Option Addr) (c1 : Nat) (a2 : Option Addr) (c2 : Nat) (a3 : Option Addr) (c3 : Nat) (a4 : Option Addr) (c4 : Nat) (w : World) (hm : MsgIn (· < w.heap.size) w m a1 c1 a2 c2 a3 c3 a4 c4) (hbk : ∀ x ∈ m.links, x.backs.length ≤ 1000000) :
    Calls Tryz.prog 158 #[.agg #[.int .i64 m.kind, .int .u64 m.epoch, .int .u64 m.seq, .int .u64 m.pos, .int .i64 m.count, .int .i64 m.state, .slice a1 m.streams.length c1, .slice a2 m.links.length c2, .slice a3 m.data.length c3, .int .u64 m.sea.epoch, .int .u64 m.sea.node, .int .u64 m.sea.tail, .int .u64 m.proj.epoch, .slice a4 m.proj.stripes.length c4]] w fun r w' => r = .returned (.bool (rpcR m)) ∧ Below w.heap.size w w' := by
  have HB := hid (fun (W : World) (hW : Below w.heap.size w W) => body_right m a1 c1 a2 c2 a3 c3 a4 c4 W (MsgIn.lift hm hW) (fun x hx => by have := hbk x hx; omega))
  have HE := hid (fun W : World => epoch_right m.epoch W)
  have hr : rpcR m = (msgR m && epR m.epoch) := rfl
  have HBX : Hid (Blk (w.alloc (.cells #[.int .i64 m.kind, .int .u64 m.epoch, .int .u64 m.seq, .int .u64 m.pos, .int .i64 m.count, .int .i64 m.state, .slice a1 m.streams.length c1, .slice a2 m.links.length c2, .slice a3 m.data.length c3, .int .u64 m.sea.epoch, .int .u64 m.sea.node, .int .u64 m.sea.tail, .int .u64 m.proj.epoch, .slice a4 m.proj.stripes.length c4] 45)) w.heap.size 45 #[.int .i64 m.kind, .int .u64 m.epoch, .int .u64 m.seq, .int .u64 m.pos, .int .i64 m.count, .int .i64 m.state, .slice a1 m.streams.length c1, .slice a2 m.links.length c2, .slice a3 m.data.length c3, .int .u64 m.sea.epoch, .int .u64 m.sea.node, .int .u64 m.sea.tail, .int .u64 m.proj.epoch, .slice a4 m.proj.stripes.length c4]) := hid (Blk.new w _ _)
  have hb0 : Below w.heap.size w (w.alloc (.cells #[.int .i64 m.kind, .int .u64 m.epoch, .int .u64 m.seq, .int .u64 m.pos, .int .i64 m.count, .int .i64 m.state, .slice a1 m.streams.length c1, .slice a2 m.links.length c2, .slice a3 m.data.length c3, .int .u64 m.sea.epoch, .int .u64 m.sea.node, .int .u64 m.sea.tail, .int .u64 m.proj.epoch, .slice a4 m.proj.stripes.length c4] 45)) := by (repeat (first | exact Below.refl _ _ | assumption | (refine below_alloc ?_ _) | (refine Below.setCell ?_ (by first | omega | (simp; done) | (simp; omega)) _) | (refine Below.drew ?_) | (refine below_drewN ?_ _) | (refine below_then (by assumption) ?_)))
  generalize rpcR m = R at *
  generalize msgR m = M at *
  generalize epR m.epoch = E at *
  clear hm
  go_enter Tryz.func158, Tryz.ntmps158
  go_wp2_with fail
  generalize (w.alloc (.cells #[.int .i64 m.kind, .int .u64 m.epoch, .int .u64 m.seq, .int .u64 m.pos, .int .i64 m.count, .int .i64 m.state, .slice a1 m.streams.length c1, .slice a2 m.links.length c2, .slice a3 m.data.length c3, .int .u64 m.sea.epoch, .int .u64 m.sea.node, .int .u64 m.sea.tail, .int .u64 m.proj.epoch, .slice a4 m.proj.stripes.length c4] 45)) = w0 at *
  refine (HB.out _ hb0).mono ?_
  rintro r w1 ⟨rfl, hb1⟩
  have hb01 := below_then hb1 hb0
  have y1 : w1.cell? ⟨w.heap.size, 1, none⟩ = some (.int .u64 m.epoch) := (HBX.out.later hb1).cell 1
  cases M
  · have hff : Hid (R = false) := hid (by rw [hr]; rfl)
    clear hr
    go_wp2_with fail
    go_ret
    exact ⟨by rw [hff.out]; rfl, hb01⟩
  · have hff : Hid (R = E) := hid (by rw [hr]; rfl)
    clear hr
    go_wp2_with fail
    refine (HE.out _).mono ?_
    rintro r w2 ⟨rfl, rfl⟩
    go_wp2_with fail
    go_ret
    exact ⟨by rw [hff.out]; rfl, hb01⟩

theorem rp_laterM {α : Type} (A : Rp α) {lo : Nat} {w w' : World} {cs : List Value} {x : α} (h : A.r (fun q => lo ≤ q ∧ q < w.heap.size) w cs x) (hb : Below w.heap.size w w') : A.r (fun q => lo ≤ q ∧ q < w.heap.size) w' cs x :=
  A.keep h fun q hq => hb.block q hq.2
theorem varB_ep {e : Int} (h : 1 ≤ e ∧ e < 4611686018427387904) : (varB e.toNat).length ≤ 9 := by
  have key : ∀ f x, (varF f x).length ≤ f + 1 := by
    intro f
    induction f with
    | zero => intro x; simp [varF]
    | succ f ih => intro x; simp only [varF]; split <;> simp; exact ih _
  have he : varF 8 e.toNat = varF 9 e.toNat := varF_more 8 9 _ (by have : (128 : Nat) ^ 9 = 9223372036854775808 := (by decide); omega) (by omega)
  unfold varB
  rw [← he]
  exact key 8 _
theorem pen_fail0 (w : World) {g base most : Nat} {J : List UInt8} {a : Option Addr} {c : Nat} (h : PenAt w g base most J a c) :
    Calls Tryz.prog 164 #[.pointer (some ⟨g, 0, none⟩), .int .i64 0] w fun r w' => r = .returned (.tuple #[]) ∧ PenStep w g base most J a w' :=
  (pen_fail w h 0).mono fun r w' ⟨h1, h2, h3⟩ => ⟨h1, a, c, ⟨h2, own_keep h.own fun q hq => h3.block q (h.own.lt q hq).2 (fun e => h.ne (by rw [hq, e])), h.ne, h.lo, h.le, h.most, h.len⟩, h3.mono fun b _ e => .inl e, .inl rfl⟩


theorem Rs.frame_put {B P rest : List UInt8} {p : Nat} (h : B.drop p = frameB P ++ rest) (hp : p ≤ B.length) (hP : P.length ≤ 2097152) : (⟨p, 0, 0⟩ : Rs).frame B 2097152 = (⟨p + (frameB P).length, 0, 0⟩, P) := by
  unfold frameB at h
  rw [List.append_assoc] at h
  have h1 := Rs.blob_pre (m := min 2097152 2097152) (by omega) h hp (by omega)
  have h2 := drop_more h
  have hr := drop_room h hp
  have h3 := Rs.take_pre h2 (by omega)
  rw [fixedB_len] at h3
  have h4 : (⟨p + (blobB P).length, 0, 0⟩ : Rs).take B 4 = (⟨p + (blobB P).length + 4, 0, 0⟩, fixedB 4 (crcSum P)) := h3
  have h5 : crcSum P = fixN (fixedB 4 (crcSum P)) := by
    rw [fixN_fixedB]
    have := crcSum_lt P
    omega
  unfold Rs.frame
  rw [h1]
  dsimp only
  rw [h4]
  dsimp only
  rw [if_pos h5, if_pos rfl, frameB_len, Nat.add_assoc]
/-- The frame of a payload, got. -/
theorem get_frame {P rest : List UInt8} {blk : List UInt8 → Rs → Rs × List UInt8 × Bool} {fl : Rs → Bool → Bool} (hP : P.length ≤ 2097152) : getMsg (frameB P ++ rest) blk fl = (if (payRd P (blk P) fl).2.2.1 = 0 then ((payRd P (blk P) fl).1, (payRd P (blk P) fl).2.1, (frameB P).length, 0, 0) else (noMsg, false, 0, (payRd P (blk P) fl).2.2.1, wrap64 ((payRd P (blk P) fl).2.2.2 + (((frameB P).length : Int) - 4 - (P.length : Int))))) := by
  have h := Rs.frame_put (B := frameB P ++ rest) (P := P) (rest := rest) (p := 0) (by rw [List.drop_zero]) (Nat.zero_le _) hP
  unfold getMsg
  rw [h]
  unfold getR
  dsimp only
  rw [if_pos rfl]
  dsimp only
  rw [if_pos rfl, Nat.zero_add]
theorem blkL_putm {D : List UInt8} (hD : D.length ≤ 1048576) (B : List UInt8) (q : Nat) (rest : List UInt8) (h1 : q ≤ B.length) (h2 : B.drop q = blockB D ++ rest) : blkL B ⟨q, 0, 0⟩ = (⟨q + (blockB D).length, 0, 0⟩, D, true) :=
  Rs.loose_block h2 h1 hD (by omega)
theorem blkS_putm {D : List UInt8} (hD : D.length ≤ 1048576) (B : List UInt8) (q : Nat) (rest : List UInt8) (h1 : q ≤ B.length) (h2 : B.drop q = blockB D ++ rest) : blkS B ⟨q, 0, 0⟩ = (⟨q + (blockB D).length, 0, 0⟩, D, true) := by
  have := blkL_putm hD B q rest h1 h2
  unfold blkL at this
  unfold blkS
  rw [this]
  rfl
/-- What is put is read. -/
theorem payR_put {m : Msg} {blk : List UInt8 → Rs → Rs × List UInt8 × Bool} {fl : Rs → Bool → Bool} (hN : MsgN m) (hr : rpcR m = true) (hs : inU m.seq)
    (hblk : ∀ (B : List UInt8) (q : Nat) (rest : List UInt8), q ≤ B.length → B.drop q = blockB m.data ++ rest → blk B ⟨q, 0, 0⟩ = (⟨q + (blockB m.data).length, 0, 0⟩, m.data, true)) (hfl : ∀ p, fl ⟨p, 0, 0⟩ true = true) :
    payRd (payB m) (blk (payB m)) fl = (m, true, 0, 0) := by
  simp only [rpcR, Bool.and_eq_true] at hr
  obtain ⟨hr, he⟩ := hr
  obtain ⟨hs0, hs1⟩ := hs
  have hkd : 1 ≤ m.kind ∧ m.kind ≤ 14 := by
    have := hr
    unfold msgR at this
    simp only [Bool.and_eq_true, decide_eq_true_eq] at this
    exact this.1
  have he2 : 1 ≤ m.epoch ∧ m.epoch < 4611686018427387904 := by simpa [epR] using he
  have hB : payB m = UInt8.ofNat m.kind.toNat :: (varB m.epoch.toNat ++ (varB m.seq.toNat ++ (msgB m ++ []))) := by
    unfold payB
    simp
  generalize payB m = B at *
  have h1 := Rs.byte_pre (B := B) (p := 0) (by rw [List.drop_zero]; exact hB) (Nat.zero_le _)
  rw [Nat.zero_add] at h1
  have d1 : B.drop 1 = varB m.epoch.toNat ++ (varB m.seq.toNat ++ (msgB m ++ [])) := by rw [hB]; rfl
  have hy : ((UInt8.ofNat m.kind.toNat).toNat : Int) = m.kind := by
    rw [UInt8.toNat_ofNat']
    omega
  have h2 := Rs.ep_putm he d1
  have d2 := drop_more d1
  have h3 := Rs.num_varB (x := m.seq.toNat) (by omega) d2
  have d3 := drop_more d2
  have hle1 : 1 ≤ B.length := by rw [hB]; simp
  have r1 := drop_room d1 hle1
  have r2 := drop_room d2 (by simp at r1; omega)
  have hp3 : 1 + (varB m.epoch.toNat).length + (varB m.seq.toNat).length ≤ B.length := by omega
  have h4 := Rs.body_put (B := B) (rest := []) (m := ({ m with epoch := 0, seq := 0 } : Msg)) (blk := blk B) ⟨hN.pos, hN.streams, hN.links, hN.node, hN.tail, hN.proj⟩ hr rfl rfl (by exact d3) hp3 (fun q rest h1 h2 => hblk _ q rest h1 h2)
  have r3 := drop_room d3 hp3
  have hml : (msgB ({ m with epoch := 0, seq := 0 } : Msg)).length = (msgB m).length := rfl
  have h5 : ((⟨1 + (varB m.epoch.toNat).length + (varB m.seq.toNat).length + (msgB m).length, 0, 0⟩ : Rs).fin B.length) = ⟨1 + (varB m.epoch.toNat).length + (varB m.seq.toNat).length + (msgB m).length, 0, 0⟩ := by
    unfold Rs.fin
    rw [if_neg]
    simp at r3
    dsimp only
    omega
  have hkk : ((⟨1, 0, 0⟩ : Rs).kd m.kind) = ⟨1, 0, 0⟩ := if_pos hkd
  rw [hml] at h4
  dsimp only at h4
  unfold payRd
  rw [h1]
  dsimp only
  rw [hy, hkk, h2]
  dsimp only
  rw [h3]
  dsimp only
  rw [if_pos rfl, h4]
  dsimp only
  rw [h5]
  dsimp only
  rw [if_pos rfl, hfl, toNat_cast (by omega), toNat_cast hs0]
theorem payS_put {m : Msg} (hN : MsgN m) (hr : rpcR m = true) (hs : inU m.seq) (hd : m.data.length ≤ 1048576) : payRd (payB m) (blkS (payB m)) flS = (m, true, 0, 0) :=
  payR_put (blk := fun P => blkS P) hN hr hs (fun B q rest h1 h2 => blkS_putm hd B q rest h1 h2) (fun p => rfl)
end Go.Proofs.YtfddhafbhceoaaaGreat
namespace Go.Bs
open Go.RowKit
set_option linter.unusedVariables false
structure MarkD where
  pos : Int
  count : Int
  at_ : Int
def rMark : Rp MarkD := rBy (fun m => (m.pos, m.count, m.at_)) (rPair (rInt .u64) (rPair (rInt .i64) (rInt .i64)))
def rMarks : Rp (List MarkD) := rSl 3 rMark
structure MarkN (m : MarkD) : Prop where
  p : 0 ≤ m.pos ∧ m.pos ≤ 18446744073709551615
  c : -9223372036854775808 ≤ m.count ∧ m.count ≤ 9223372036854775807
  a : -9223372036854775808 ≤ m.at_ ∧ m.at_ ≤ 9223372036854775807
theorem i64_wf {n : Int} (h : -9223372036854775808 ≤ n ∧ n ≤ 9223372036854775807) : (Lit.int .i64 n).wf = true := by
  simp [Lit.wf, IntKind.min, IntKind.max, IntKind.signed, IntKind.bits]; omega
theorem mark_mk {S : Nat → Prop} {w : World} {x : MarkD} (h : MarkN x) : rMark.r S w [.int .u64 x.pos, .int .i64 x.count, .int .i64 x.at_] x :=
  ⟨[_], [_, _], rfl, ⟨rfl, u64_wf h.p⟩, [_], [_], rfl, ⟨rfl, i64_wf h.c⟩, ⟨rfl, i64_wf h.a⟩⟩
end Go.Bs
namespace Go.Proofs.YtfddhafbhceoaaaGreat
open Go.RowKit Go.Bs Go.Maps
set_option linter.unusedVariables false
set_option linter.unusedSimpArgs false

end Go.Proofs.YtfddhafbhceoaaaGreat
namespace Go.Bs
open Go.RowKit
set_option linter.unusedVariables false
end Go.Bs
namespace Go.Proofs.YtfddhafbhceoaaaGreat
open Go.RowKit Go.Bs Go.Maps
set_option linter.unusedVariables false
set_option linter.unusedSimpArgs false

theorem PenStep.at {w1 w : World} {g base most : Nat} {J : List UInt8} {a : Option Addr} (h : PenStep w1 g base most J a w) : ∃ a' c', PenAt w g base most J a' c' ∧ (∀ (J' : List UInt8) (w' : World), PenStep w g base most J' a' w' → PenStep w1 g base most J' a w') := by
  obtain ⟨a', c', h1, h2, h3⟩ := h
  exact ⟨a', c', h1, fun J' w' k => PenStep.trans (J := J) h2 h3 k⟩
theorem PenStep.blk {w1 w : World} {g base most : Nat} {J : List UInt8} {a : Option Addr} (h : PenStep w1 g base most J a w) {b : Nat} {t : TypeId} {cs : Array Value} (hB : Blk w1 b t cs) (hn : ¬ PenF g a b) : Blk w b t cs := by
  obtain ⟨a', c', h1, h2, h3⟩ := h
  exact hB.tch h2 hn
theorem PenStep.tch {w1 w : World} {g base most : Nat} {J : List UInt8} {a : Option Addr} (h : PenStep w1 g base most J a w) : Tch (PenF g a) w1 w := by
  obtain ⟨a', c', h1, h2, h3⟩ := h
  exact h2

end Go.Proofs.YtfddhafbhceoaaaGreat
namespace Go.Bs
open Go.RowKit
set_option linter.unusedVariables false
structure FootD where
  ep : Int
  n : Int
  en : Int
  first : Int
  fin : Int
  at_ : Int
  size : Int
def FootD.val (f : FootD) : Array Value := #[.int .u64 f.ep, .int .i64 f.n, .int .i64 f.en, .int .u64 f.first, .int .u64 f.fin, .int .i64 f.at_, .int .i64 f.size]
end Go.Bs
namespace Go.Proofs.YtfddhafbhceoaaaGreat
open Go.RowKit Go.Bs Go.Maps
set_option linter.unusedVariables false
set_option linter.unusedSimpArgs false


def markC (m : MarkD) : List Value := [.int .u64 m.pos, .int .i64 m.count, .int .i64 m.at_]
/-- An own row of marks. -/
structure MarksAt (w : World) (base : Nat) (v : Value) (M : List MarkD) : Prop where
  own : w.ownsRow base 88 3 v M.length (M.map markC).flatten
  nat : ∀ m ∈ M, MarkN m
theorem MarksAt.nil {w : World} {base : Nat} : MarksAt w base (.slice none 0 0) [] := ⟨⟨rfl, .inl ⟨rfl, rfl⟩⟩, by simp⟩
theorem MarksAt.read {w : World} {base : Nat} {v : Value} {M : List MarkD} (h : MarksAt w base v M) : rMarks.r (fun q => base ≤ q ∧ q < w.heap.size) w [v] M :=
  OwnEls.slice (Nat.le_refl _) ⟨M.map markC, h.own, by simp, by intro cs hcs; obtain ⟨m, _, rfl⟩ := List.mem_map.1 hcs; rfl, fun i cs x hi hx => by
    rw [List.getElem?_map, hx] at hi
    simp at hi
    subst hi
    exact mark_mk (h.nat x (List.mem_of_getElem? hx))⟩

def segZ : List Value := [.int .u64 0, .int .i64 0, .int .i64 0, .int .u64 0, .int .u64 0, .int .i64 0, .int .i64 0]
/-- The writer's memory: the argument's box, the result's cells, what has been written. -/
structure SegI (w W : World) (ep : Int) (a : Option Addr) (n c : Nat) (J : List UInt8) (M : List MarkD) (aJ : Option Addr) (cJ : Nat) (aM : Option Addr) (cM : Nat) : Prop where
  below : Below w.heap.size w W
  bx : Blk W w.heap.size 63 #[.int .u64 ep, .slice a n c]
  br : Blk W (w.heap.size + 1) 135 (.slice none 0 0 :: .slice none 0 0 :: segZ).toArray
  x : Blk W (w.heap.size + 2) 135 (.slice aJ J.length cJ :: .slice aM M.length cM :: segZ).toArray
  j : OwnB W (w.heap.size + 3) (.slice aJ J.length cJ) J
  m : MarksAt W (w.heap.size + 3) (.slice aM M.length cM) M
section
variable {w W : World} {ep : Int} {a : Option Addr} {n c : Nat} {J : List UInt8} {M : List MarkD} {aJ : Option Addr} {cJ : Nat} {aM : Option Addr} {cM : Nat}
theorem MarksAt.below {W W' : World} {b : Nat} {v : Value} {M : List MarkD} (h : MarksAt W b v M) (hb : Below W.heap.size W W') : MarksAt W' b v M := ⟨own_below h.own hb, h.nat⟩
theorem SegI.later (h : SegI w W ep a n c J M aJ cJ aM cM) {W' : World} (hb : Below W.heap.size W W') : SegI w W' ep a n c J M aJ cJ aM cM :=
  ⟨below_then hb h.below, h.bx.later hb, h.br.later hb, h.x.later hb, own_below h.j hb, h.m.below hb⟩
theorem SegI.ne (h : SegI w W ep a n c J M aJ cJ aM cM) : ∀ b, (Value.slice aJ J.length cJ).ownBlock = some b → (Value.slice aM M.length cM).ownBlock ≠ some b := own_ne h.j h.m.own (by decide)
theorem SegI.far {v : Value} {u : Nat} {xs : List Value} {e : TypeId} {sz : Nat} (h : W.ownsRow (w.heap.size + 3) e sz v u xs) {b : Nat} (hb : b < w.heap.size + 3) : v.ownBlock ≠ some b := fun e => by have := (own_lt h b e).1; omega
end

theorem MarksAt.row {w : World} {base : Nat} {v : Value} {M : List MarkD} (h : MarksAt w base v M) : rMarks.r (fun q => v.ownBlock = some q) w [v] M := by
  have hF : OwnElsF (fun _ => False) rMark base 88 3 w v M (M.map markC) := ⟨h.own, by simp, by intro cs hcs; obtain ⟨m, _, rfl⟩ := List.mem_map.1 hcs; rfl, fun i cs x hi hx => by
    rw [List.getElem?_map, hx] at hi
    simp at hi
    subst hi
    exact mark_mk (h.nat x (List.mem_of_getElem? hx))⟩
  exact rMarks.mono (OwnElsF.slice hF) fun q hq => hq.resolve_left id

def rpcBytes (m : Msg) : List UInt8 × Int := if rpcR m = true then (frameB (payB m), 0) else ([], 3)
theorem rpcBytes_len {m : Msg} (h : rpcR m = true) : (frameB (payB m)).length ≤ 49035 + m.data.length := by
  have h1 := payB_len h
  have h2 := (varB_len (payB m).length).1
  rw [frameB_len, blobB_len]
  omega

end Go.Proofs.YtfddhafbhceoaaaGreat
namespace Go.Bs
open Go.RowKit
end Go.Bs
namespace Go.Proofs.YtfddhafbhceoaaaGreat
open Go.RowKit Go.Bs Go.Maps
set_option linter.unusedVariables false
set_option linter.unusedSimpArgs false

def allB (l : List Msg) : List UInt8 := (l.map fun m => frameB (payB m)).flatten

theorem payB_most {m : Msg} (h : rpcR m = true) : (payB m).length ≤ 2097152 := by
  have h1 := rpcBytes_len h
  have h2 : m.data.length ≤ 1048576 := (msg_mild (by simp only [rpcR, Bool.and_eq_true] at h; exact h.1)).2
  rw [frameB_len, blobB_len] at h1
  omega
theorem frameB_low (P : List UInt8) : 5 ≤ (frameB P).length := by
  have := (varB_len P.length).2
  rw [frameB_len, blobB_len]
  omega
theorem get_back {m : Msg} {rest : List UInt8} (hN : MsgN m) (hr : rpcR m = true) (hs : inU m.seq) : getMS (frameB (payB m) ++ rest) = (m, true, (frameB (payB m)).length, 0, 0) := by
  have hd : m.data.length ≤ 1048576 := (msg_mild (by simp only [rpcR, Bool.and_eq_true] at hr; exact hr.1)).2
  unfold getMS
  rw [get_frame (blk := fun P => blkS P) (payB_most hr)]
  have h := payS_put hN hr hs hd
  rw [h]
  rfl
theorem msg_mk {S : Nat → Prop} {w : World} {m : Msg} {a1 : Option Addr} {c1 : Nat} {a2 : Option Addr} {c2 : Nat} {a3 : Option Addr} {c3 : Nat} {a4 : Option Addr} {c4 : Nat} (h : MsgIn S w m a1 c1 a2 c2 a3 c3 a4 c4) : rMsg.r S w (msgCells m a1 c1 a2 c2 a3 c3 a4 c4) m :=
  ⟨[_], _, rfl, ⟨rfl, i64_wf h.kind⟩, [_], _, rfl, ⟨rfl, u64_wf h.epoch⟩, [_], _, rfl, ⟨rfl, u64_wf h.seq⟩, [_], _, rfl, ⟨rfl, u64_wf h.pos⟩, [_], _, rfl, ⟨rfl, i64_wf h.count⟩, [_], _, rfl, ⟨rfl, i64_wf h.state⟩, [_], _, rfl, h.streams, [_], _, rfl, h.links, [_], _, rfl, h.data, [_, _, _], _, rfl,
    ⟨[_], _, rfl, ⟨rfl, u64_wf h.sealE⟩, [_], _, rfl, ⟨rfl, u64_wf h.sealN⟩, rfl, u64_wf h.sealT⟩, [_], _, rfl, ⟨rfl, u64_wf h.projE⟩, h.stripes⟩
/-- The document's reader of a payload, as far as it has come. -/
structure PayJ (w : World) (B : List UInt8) (a : Option Addr) (c g : Nat) (s : Rs) (W : World) : Prop where
  cb : Blk W g 91 #[.slice a B.length c, .int .i64 (s.p : Int), .int .i64 s.k, .int .i64 s.f]
  mb : Blk W w.heap.size 45 zeroCells
  fb : Blk W (w.heap.size + 1) 65 #[.int .i64 0, .int .i64 0]
  bl : Below w.heap.size w W
  ok : s.ok B.length
  lg : w.heap.size + 1 < g
section
variable {w W W' : World} {B : List UInt8} {a : Option Addr} {c g : Nat} {s s' : Rs}
theorem set4_tch : Tch (· = g) W ((((W.setCell ⟨g, 0, none⟩ (.slice a B.length c)).setCell ⟨g, 1, none⟩ (.int .i64 (s'.p : Int))).setCell ⟨g, 2, none⟩ (.int .i64 s'.k)).setCell ⟨g, 3, none⟩ (.int .i64 s'.f)) :=
  Tch.setCell (F := (· = g)) (p := ⟨g, 3, none⟩) (Tch.setCell (F := (· = g)) (p := ⟨g, 2, none⟩) (Tch.setCell (F := (· = g)) (p := ⟨g, 1, none⟩) (Tch.setCell (F := (· = g)) (p := ⟨g, 0, none⟩) (Tch.refl _ _) (fun _ => rfl) _) (fun _ => rfl) _) (fun _ => rfl) _) (fun _ => rfl) _
theorem PayJ.row (h : PayJ w B a c g s W) (hb : Below W.heap.size W W') : PayJ w B a c g s W' :=
  ⟨h.cb.later hb, h.mb.later hb, h.fb.later hb, below_then hb h.bl, h.ok, h.lg⟩
theorem PayJ.set (h : PayJ w B a c g s W) (ok : s'.ok B.length) : PayJ w B a c g s' ((((W.setCell ⟨g, 0, none⟩ (.slice a B.length c)).setCell ⟨g, 1, none⟩ (.int .i64 (s'.p : Int))).setCell ⟨g, 2, none⟩ (.int .i64 s'.k)).setCell ⟨g, 3, none⟩ (.int .i64 s'.f)) := by
  have hl := h.lg
  exact ⟨(((h.cb.set 0 _).set 1 _).set 2 _).set 3 _, h.mb.tch set4_tch (by omega), h.fb.tch set4_tch (by omega), h.bl.trans (set4_tch.to_below h.bl.size fun b hb e => by omega), ok, h.lg⟩
end

/-! The length of a frame, as far as it is there. -/
theorem vget_app : ∀ (l r : List UInt8) (i x : Nat), (vget i x l).2.2 ≠ 1 → vget i x (l ++ r) = vget i x l
  | [], r, i, x, h => absurd rfl h
  | c :: l, r, i, x, h => by
    rw [List.cons_append]
    unfold vget at h ⊢
    split at h
    · rename_i h1
      rw [if_pos h1, if_pos h1]
    · rename_i h1
      rw [if_neg h1, if_neg h1]
      split at h
      · rename_i h2
        rw [if_pos h2, if_pos h2]
      · rename_i h2
        rw [if_neg h2, if_neg h2]
        split at h
        · rename_i h3
          rw [if_pos h3, if_pos h3]
        · rename_i h3
          rw [if_neg h3, if_neg h3]
          exact vget_app l r _ _ h
/-- The length's number at the front of bytes. -/
def intD (D : List UInt8) : Rs × Nat := (⟨0, 0, 0⟩ : Rs).int D 2097152
theorem intD_is (D : List UInt8) : intD D = (if 2097152 < (vget 0 0 D).1 then ((⟨(vget 0 0 D).2.1, (vget 0 0 D).2.2, if (vget 0 0 D).2.2 = 0 then 0 else if (vget 0 0 D).2.2 = 1 then D.length else ((vget 0 0 D).2.1 : Int) - 1⟩ : Rs).fail 2 0, 0) else (⟨(vget 0 0 D).2.1, (vget 0 0 D).2.2, if (vget 0 0 D).2.2 = 0 then 0 else if (vget 0 0 D).2.2 = 1 then D.length else ((vget 0 0 D).2.1 : Int) - 1⟩, (vget 0 0 D).1)) := by
  unfold intD Rs.int Rs.most
  rw [if_pos (by decide)]
  have e : (⟨0, 0, 0⟩ : Rs).num D = (⟨(vget 0 0 D).2.1, (vget 0 0 D).2.2, if (vget 0 0 D).2.2 = 0 then 0 else if (vget 0 0 D).2.2 = 1 then D.length else ((vget 0 0 D).2.1 : Int) - 1⟩, (vget 0 0 D).1) := by
    unfold Rs.num
    rw [if_pos rfl]
    dsimp only
    rw [List.drop_zero, Nat.zero_add]
    simp only [Int.natCast_zero, Int.zero_add]
  rw [e]
  rfl
theorem vget_bad0 : ∀ (l : List UInt8) (i x : Nat), (vget i x l).2.2 ≠ 0 → (vget i x l).1 = 0
  | [], i, x, h => rfl
  | c :: l, i, x, h => by
    unfold vget at h ⊢
    split
    · rfl
    · rename_i h1
      rw [if_neg h1] at h
      split
      · rfl
      · rename_i h2
        rw [if_neg h2] at h
        split
        · rename_i h3
          rw [if_pos h3] at h
          exact absurd rfl h
        · rename_i h3
          rw [if_neg h3] at h
          exact vget_bad0 l _ _ h
theorem intD_short (D : List UInt8) : (intD D).1.k = 1 ↔ (vget 0 0 D).2.2 = 1 := by
  rw [intD_is]
  have h0 := vget_bad0 D 0 0
  split
  · rename_i h
    constructor
    · intro e
      exfalso
      by_cases hk : (vget 0 0 D).2.2 = 0
      · unfold Rs.fail at e
        rw [if_pos hk] at e
        have e2 : (2 : Int) = 1 := e
        omega
      · rw [h0 hk] at h
        omega
    · intro e
      have := h0 (by rw [e]; decide)
      omega
  · exact Iff.rfl
theorem intD_app {D : List UInt8} (h : (intD D).1.k ≠ 1) (E : List UInt8) : intD (D ++ E) = intD D := by
  have hv : (vget 0 0 D).2.2 ≠ 1 := fun e => h ((intD_short D).2 e)
  rw [intD_is, intD_is, vget_app D E 0 0 hv]
  simp only [if_neg hv]
theorem intD_nil : (intD []).1.k = 1 := by
  rw [intD_short]
  rfl
/-- How many bytes a frame has, by its length; 0: it can't be told. -/
def wholeN (D : List UInt8) : Nat := if (intD D).1.k = 0 then (varB (intD D).2).length + (intD D).2 + 4 else 0
theorem wholeN_pos {D : List UInt8} : 0 < wholeN D ↔ (intD D).1.k = 0 := by
  unfold wholeN
  split
  · rename_i h
    exact ⟨fun _ => h, fun _ => by omega⟩
  · rename_i h
    exact ⟨fun h2 => absurd h2 (by omega), fun h2 => absurd h2 h⟩
theorem wholeN_app {D : List UInt8} (h : (intD D).1.k ≠ 1) (E : List UInt8) : wholeN (D ++ E) = wholeN D := by
  unfold wholeN
  rw [intD_app h]
theorem intD_used {D : List UInt8} (h : (intD D).1.k = 0) : D = varB (intD D).2 ++ D.drop (varB (intD D).2).length ∧ (varB (intD D).2).length ≤ D.length ∧ (intD D).2 ≤ 2097152 := by
  obtain ⟨h1, h2, _⟩ := Rs.int_canon (B := D) (s := ⟨0, 0, 0⟩) (m := 2097152) ⟨Nat.zero_le _, fun _ => rfl⟩ h
  have h1' : D = varB (intD D).2 ++ D.drop (intD D).1.p := h1
  have h2' : ((intD D).2 : Int) ≤ 2097152 := h2
  generalize intD D = I at h1' h2' ⊢
  have h3 : D.drop (varB I.2).length = D.drop I.1.p := by
    have := congrArg (List.drop (varB I.2).length) h1'
    rw [List.drop_left] at this
    exact this
  rw [h3]
  refine ⟨h1', ?_, by omega⟩
  have := congrArg List.length h1'
  rw [List.length_append] at this
  omega
/-- A beginning of a row that is not all there, as it grows. -/
theorem intD_take {D : List UInt8} {j : Nat} (h : (intD (D.take j)).1.k ≠ 1) : intD (D.take j) = intD D := by
  have := intD_app h (D.drop j)
  rw [List.take_append_drop] at this
  exact this.symm
theorem wholeN_take {D : List UInt8} {j : Nat} (h : (intD (D.take j)).1.k ≠ 1) : wholeN (D.take j) = wholeN D := by
  unfold wholeN
  rw [intD_take h]
theorem intD_take_long {D : List UInt8} {j : Nat} (h0 : (intD D).1.k = 0) (hj : (varB (intD D).2).length ≤ j) : (intD (D.take j)).1.k = 0 := by
  obtain ⟨h1, h2, h3⟩ := intD_used h0
  have e : (intD (D.take j)) = (⟨0 + (varB (intD D).2).length, 0, 0⟩, (intD D).2) := by
    refine Rs.int_pre (by omega) (rest := (D.drop (varB (intD D).2).length).take (j - (varB (intD D).2).length)) ?_ (by omega)
    rw [List.drop_zero]
    conv => lhs; rw [h1]
    rw [List.take_append, List.take_of_length_le hj]
  rw [e]

/-! A parser. -/
/-- What a parser tells of messages. -/
structure Ev where
  kind : Int
  at_ : Int
  code : Int
  msg : Msg
  deriving DecidableEq
structure PSt where
  buf : List UInt8
  first : Nat
  fed : Nat
  need : Nat
  ended : Int
def evItem (p : Nat) (m : Msg) : Ev := ⟨1, p, 0, m⟩
def evBad (at_ code : Int) : Ev := ⟨4, at_, code, noMsg⟩
/-- One byte more. -/
def stepP (s : PSt) (b : UInt8) : PSt × List Ev :=
  let D := s.buf ++ [b]
  let n := if 0 < s.need then s.need else wholeN D
  if 0 < n then
    if D.length < n then (⟨D, s.first, s.fed + 1, n, 0⟩, [])
    else
      let g := getMS D
      if g.2.2.2.1 = 0 then (⟨[], s.fed + 1, s.fed + 1, 0, 0⟩, [evItem s.first g.1])
      else (⟨[], s.first, s.fed + 1, n, 4⟩, [evBad (wrap64 (g.2.2.2.2 + (s.first : Int))) g.2.2.2.1])
  else if (intD D).1.k = 1 then (⟨D, s.first, s.fed + 1, 0, 0⟩, [])
  else (⟨[], s.first, s.fed + 1, 0, 4⟩, [evBad (wrap64 ((intD D).1.f + (s.first : Int))) (intD D).1.k])
/-- Some bytes more. -/
def feedP (s : PSt) : List UInt8 → PSt × List Ev
  | [] => (s, [])
  | b :: l => if (stepP s b).1.ended = 0 then ((feedP (stepP s b).1 l).1, (stepP s b).2 ++ (feedP (stepP s b).1 l).2) else stepP s b
theorem feedP_cons (s : PSt) (b : UInt8) (l : List UInt8) : feedP s (b :: l) = (if (stepP s b).1.ended = 0 then ((feedP (stepP s b).1 l).1, (stepP s b).2 ++ (feedP (stepP s b).1 l).2) else stepP s b) := rfl
theorem feedP_nil (s : PSt) : feedP s [] = (s, []) := rfl
theorem feedP_app : ∀ (s : PSt) (l r : List UInt8), s.ended = 0 → feedP s (l ++ r) = (if (feedP s l).1.ended = 0 then ((feedP (feedP s l).1 r).1, (feedP s l).2 ++ (feedP (feedP s l).1 r).2) else feedP s l)
  | s, [], r, h0 => by
    rw [List.nil_append, feedP_nil, if_pos h0]
    rfl
  | s, b :: l, r, h0 => by
    rw [List.cons_append, feedP_cons, feedP_cons]
    by_cases h : (stepP s b).1.ended = 0
    · have ih := feedP_app (stepP s b).1 l r h
      rw [if_pos h, if_pos h, ih]
      dsimp only
      by_cases h2 : (feedP (stepP s b).1 l).1.ended = 0
      · rw [if_pos h2, if_pos h2]
        dsimp only
        rw [List.append_assoc]
      · rw [if_neg h2, if_neg h2]
    · rw [if_neg h, if_neg h, if_neg h]

/-- A beginning of a frame that is not told yet. -/
def QuietP (D : List UInt8) : Prop := (intD D).1.k = 1 ∨ (0 < wholeN D ∧ D.length < wholeN D)
/-- A parser that holds a beginning of a frame. -/
def holdP (at_ : Nat) (E : List UInt8) : PSt := ⟨E, at_, at_ + E.length, wholeN E, 0⟩
theorem wholeN_nil : wholeN [] = 0 := by
  unfold wholeN
  rw [if_neg (by rw [intD_nil]; decide)]
theorem wholeN_short {D : List UInt8} (h : (intD D).1.k = 1) : wholeN D = 0 := by
  unfold wholeN
  rw [if_neg (by rw [h]; decide)]
theorem holdP_e (p : Nat) (E : List UInt8) : (holdP p E).ended = 0 := rfl
/-- What one byte more makes of it. -/
def verdP (at_ : Nat) (D : List UInt8) : PSt × List Ev :=
  if 0 < wholeN D then
    if D.length < wholeN D then (holdP at_ D, [])
    else
      if (getMS D).2.2.2.1 = 0 then (holdP (at_ + D.length) [], [evItem at_ (getMS D).1])
      else (⟨[], at_, at_ + D.length, wholeN D, 4⟩, [evBad (wrap64 ((getMS D).2.2.2.2 + (at_ : Int))) (getMS D).2.2.2.1])
  else if (intD D).1.k = 1 then (holdP at_ D, [])
  else (⟨[], at_, at_ + D.length, 0, 4⟩, [evBad (wrap64 ((intD D).1.f + (at_ : Int))) (intD D).1.k])
theorem step_hold {at_ : Nat} {E : List UInt8} {b : UInt8} : stepP (holdP at_ E) b = verdP at_ (E ++ [b]) := by
  have hn : (if 0 < wholeN E then wholeN E else wholeN (E ++ [b])) = wholeN (E ++ [b]) := by
    split
    · rename_i h
      exact (wholeN_app (by rw [wholeN_pos.1 h]; decide) _).symm
    · rfl
  have hl : at_ + (E ++ [b]).length = at_ + E.length + 1 := by rw [List.length_append]; rfl
  unfold stepP verdP holdP
  dsimp only
  rw [hn, hl]
  by_cases h1 : 0 < wholeN (E ++ [b])
  · rw [if_pos h1, if_pos h1]
    by_cases h2 : (E ++ [b]).length < wholeN (E ++ [b])
    · rw [if_pos h2, if_pos h2]
    · rw [if_neg h2, if_neg h2]
      by_cases h3 : (getMS (E ++ [b])).2.2.2.1 = 0
      · rw [if_pos h3, if_pos h3, wholeN_nil]
        rfl
      · rw [if_neg h3, if_neg h3]
  · rw [if_neg h1, if_neg h1]
    by_cases h2 : (intD (E ++ [b])).1.k = 1
    · rw [if_pos h2, if_pos h2, wholeN_short h2]
    · rw [if_neg h2, if_neg h2]
theorem verd_quiet {at_ : Nat} {D : List UInt8} (h : QuietP D) : verdP at_ D = (holdP at_ D, []) := by
  unfold verdP
  rcases h with h | ⟨h1, h2⟩
  · rw [if_neg (by rw [wholeN_short h]; decide), if_pos h]
  · rw [if_pos h1, if_pos h2]
theorem quiet_take {D : List UInt8} (h : QuietP D) (j : Nat) : QuietP (D.take j) := by
  by_cases hk : (intD (D.take j)).1.k = 1
  · exact .inl hk
  · have e := intD_take hk
    rcases h with h | ⟨h1, h2⟩
    · rw [← e] at h
      exact absurd h hk
    · refine .inr ?_
      rw [wholeN_take hk]
      have := List.length_take_le' j D
      exact ⟨h1, by omega⟩
/-- What is quiet to its end is held. -/
theorem feed_quiet (at_ : Nat) : ∀ (E D : List UInt8), (∀ j, j ≤ D.length → QuietP (E ++ D.take j)) → feedP (holdP at_ E) D = (holdP at_ (E ++ D), [])
  | E, [], h => by
    rw [feedP_nil, List.append_nil]
  | E, b :: l, h => by
    have h1 := h 1 (by simp)
    rw [List.take_succ_cons, List.take_zero] at h1
    have ih := feed_quiet at_ (E ++ [b]) l (fun j hj => by
      have := h (j + 1) (by simp; omega)
      rw [List.take_succ_cons] at this
      rw [List.append_assoc]
      exact this)
    rw [feedP_cons, step_hold, verd_quiet h1]
    dsimp only
    rw [if_pos (holdP_e _ _), ih, List.append_assoc]
    rfl
theorem feed_held {at_ : Nat} {D : List UInt8} (h : QuietP D) : feedP (holdP at_ []) D = (holdP at_ D, []) :=
  feed_quiet at_ [] D (fun j hj => quiet_take h j)
/-- The byte that ends the quiet. -/
theorem feed_to {at_ j : Nat} {D : List UInt8} (hj : 0 < j) (hl : j ≤ D.length) (h : ∀ i, i < j → QuietP (D.take i)) :
    feedP (holdP at_ []) D = (if (verdP at_ (D.take j)).1.ended = 0 then ((feedP (verdP at_ (D.take j)).1 (D.drop j)).1, (verdP at_ (D.take j)).2 ++ (feedP (verdP at_ (D.take j)).1 (D.drop j)).2) else verdP at_ (D.take j)) := by
  obtain ⟨i, rfl⟩ : ∃ i, j = i + 1 := ⟨j - 1, by omega⟩
  have hi : i < D.length := by omega
  have e1 : D = D.take i ++ (D[i] :: D.drop (i + 1)) := by
    rw [List.getElem_cons_drop, List.take_append_drop]
  have e2 : D.take (i + 1) = D.take i ++ [D[i]] := (List.take_append_getElem hi).symm
  have hq := feed_held (at_ := at_) (h i (by omega))
  have ha := feedP_app (holdP at_ []) (D.take i) (D[i] :: D.drop (i + 1)) rfl
  rw [← e1, hq] at ha
  dsimp only at ha
  rw [if_pos (holdP_e _ _), List.nil_append] at ha
  rw [ha, feedP_cons, step_hold, ← e2]
/-- The document's events, frame by frame. -/
def pushD (S : List UInt8) : Nat → Nat → List Ev × Nat × Int
  | 0, p => ([], p, 0)
  | f + 1, p =>
    if p < S.length then
      if wholeN (S.drop p) = 0 ∧ (intD (S.drop p)).1.k ≠ 1 then ([evBad (wrap64 ((intD (S.drop p)).1.f + (p : Int))) (intD (S.drop p)).1.k], p, 4)
      else if wholeN (S.drop p) = 0 ∨ (S.drop p).length < wholeN (S.drop p) then ([], p, 0)
      else
        if (getMS ((S.drop p).take (wholeN (S.drop p)))).2.2.2.1 = 0 then
          (evItem p (getMS ((S.drop p).take (wholeN (S.drop p)))).1 :: (pushD S f (p + wholeN (S.drop p))).1, (pushD S f (p + wholeN (S.drop p))).2)
        else ([evBad (wrap64 ((getMS ((S.drop p).take (wholeN (S.drop p)))).2.2.2.2 + (p : Int))) (getMS ((S.drop p).take (wholeN (S.drop p)))).2.2.2.1], p, 4)
    else ([], p, 0)
theorem pushD_succ (S : List UInt8) (f p : Nat) : pushD S (f + 1) p = (if p < S.length then
      if wholeN (S.drop p) = 0 ∧ (intD (S.drop p)).1.k ≠ 1 then ([evBad (wrap64 ((intD (S.drop p)).1.f + (p : Int))) (intD (S.drop p)).1.k], p, 4)
      else if wholeN (S.drop p) = 0 ∨ (S.drop p).length < wholeN (S.drop p) then ([], p, 0)
      else
        if (getMS ((S.drop p).take (wholeN (S.drop p)))).2.2.2.1 = 0 then
          (evItem p (getMS ((S.drop p).take (wholeN (S.drop p)))).1 :: (pushD S f (p + wholeN (S.drop p))).1, (pushD S f (p + wholeN (S.drop p))).2)
        else ([evBad (wrap64 ((getMS ((S.drop p).take (wholeN (S.drop p)))).2.2.2.2 + (p : Int))) (getMS ((S.drop p).take (wholeN (S.drop p)))).2.2.2.1], p, 4)
    else ([], p, 0)) := rfl
theorem least (P : Nat → Prop) [DecidablePred P] : ∀ n, P n → ∃ j, j ≤ n ∧ P j ∧ ∀ i, i < j → ¬ P i
  | 0, h => ⟨0, Nat.le_refl _, h, fun i hi => absurd hi (Nat.not_lt_zero _)⟩
  | n + 1, h => by
    by_cases hq : ∃ i, i ≤ n ∧ P i
    · obtain ⟨i, hi, hp⟩ := hq
      obtain ⟨j, h1, h2, h3⟩ := least P i hp
      exact ⟨j, by omega, h2, h3⟩
    · exact ⟨n + 1, Nat.le_refl _, h, fun i hi hp => hq ⟨i, by omega, hp⟩⟩
/-- Fed from the beginning of a frame on. -/
theorem feed_doc (S : List UInt8) : ∀ (f p : Nat), p ≤ S.length → S.length - p < f →
    (feedP (holdP p []) (S.drop p)).2 = (pushD S f p).1 ∧
    ((pushD S f p).2.2 = 0 → (feedP (holdP p []) (S.drop p)).1 = holdP (pushD S f p).2.1 (S.drop (pushD S f p).2.1) ∧ (pushD S f p).2.1 ≤ S.length) ∧
    ((pushD S f p).2.2 ≠ 0 → (pushD S f p).2.2 = 4 ∧ (feedP (holdP p []) (S.drop p)).1.ended = 4 ∧ (feedP (holdP p []) (S.drop p)).1.buf = [] ∧ (feedP (holdP p []) (S.drop p)).1.fed ≤ S.length)
  | 0, p, hp, hf => absurd hf (Nat.not_lt_zero _)
  | f + 1, p, hp, hf => by
    rw [pushD_succ]
    by_cases h0 : p < S.length
    · rw [if_pos h0]
      have hDl : (S.drop p).length = S.length - p := List.length_drop
      have hds : ∀ j, (S.drop p).drop j = S.drop (p + j) := fun j => List.drop_drop
      generalize hD : S.drop p = D at *
      by_cases h1 : wholeN D = 0 ∧ (intD D).1.k ≠ 1
      · rw [if_pos h1]
        have hP : (fun j => ¬ (intD (D.take j)).1.k = 1) D.length := by
          show ¬ (intD (D.take D.length)).1.k = 1
          rw [List.take_of_length_le (Nat.le_refl _)]
          exact h1.2
        obtain ⟨j, g1, g2, g3⟩ := least (fun j => ¬ (intD (D.take j)).1.k = 1) D.length hP
        have hj : 0 < j := Nat.pos_of_ne_zero (fun e => g2 (by rw [e, List.take_zero]; exact intD_nil))
        have hl : (D.take j).length = j := by rw [List.length_take]; omega
        have hv : verdP p (D.take j) = (⟨[], p, p + j, 0, 4⟩, [evBad (wrap64 ((intD D).1.f + (p : Int))) (intD D).1.k]) := by
          unfold verdP
          rw [wholeN_take g2, if_neg (by rw [h1.1]; decide), if_neg g2, intD_take g2, hl]
        rw [feed_to hj g1 (fun i hi => .inl (Decidable.of_not_not (g3 i hi))), hv]
        dsimp only
        rw [if_neg (by decide)]
        exact ⟨rfl, fun h => absurd h (by decide), fun _ => ⟨rfl, rfl, rfl, by dsimp only; omega⟩⟩
      · rw [if_neg h1]
        by_cases h2 : wholeN D = 0 ∨ D.length < wholeN D
        · rw [if_pos h2]
          have hq : QuietP D := by
            rcases h2 with h2 | h2
            · exact .inl (Decidable.of_not_not (fun h => h1 ⟨h2, h⟩))
            · exact .inr ⟨by omega, h2⟩
          rw [feed_held hq]
          exact ⟨rfl, fun _ => ⟨by dsimp only; rw [hD], hp⟩, fun h => absurd rfl h⟩
        · rw [if_neg h2]
          have hn : 0 < wholeN D := by omega
          have hk := wholeN_pos.1 hn
          have hle : wholeN D ≤ D.length := by omega
          have hv3 : (varB (intD D).2).length ≤ wholeN D := by
            unfold wholeN
            rw [if_pos hk]
            omega
          have hl : (D.take (wholeN D)).length = wholeN D := by rw [List.length_take]; omega
          have hkt : (intD (D.take (wholeN D))).1.k ≠ 1 := by rw [intD_take_long hk hv3]; decide
          have hwt := wholeN_take hkt
          have hq : ∀ i, i < wholeN D → QuietP (D.take i) := fun i hi => by
            by_cases hki : (intD (D.take i)).1.k = 1
            · exact .inl hki
            · refine .inr ?_
              rw [wholeN_take hki, List.length_take]
              omega
          have hv : verdP p (D.take (wholeN D)) = (if (getMS (D.take (wholeN D))).2.2.2.1 = 0 then (holdP (p + wholeN D) [], [evItem p (getMS (D.take (wholeN D))).1])
              else (⟨[], p, p + wholeN D, wholeN D, 4⟩, [evBad (wrap64 ((getMS (D.take (wholeN D))).2.2.2.2 + (p : Int))) (getMS (D.take (wholeN D))).2.2.2.1])) := by
            unfold verdP
            rw [hwt, if_pos hn, hl, if_neg (by omega)]
          rw [feed_to hn hle hq, hv]
          by_cases h3 : (getMS (D.take (wholeN D))).2.2.2.1 = 0
          · rw [if_pos h3, if_pos h3]
            have ih := feed_doc S f (p + wholeN D) (by omega) (by omega)
            rw [← hds] at ih
            dsimp only
            rw [if_pos (holdP_e _ _)]
            dsimp only
            rw [List.singleton_append, ih.1]
            exact ⟨rfl, ih.2.1, ih.2.2⟩
          · rw [if_neg h3, if_neg h3]
            dsimp only
            rw [if_neg (by decide)]
            exact ⟨rfl, fun h => absurd h (by decide), fun _ => ⟨rfl, rfl, rfl, by dsimp only; omega⟩⟩
    · rw [if_neg h0]
      have e : S.drop p = [] := List.drop_eq_nil_of_le (by omega)
      rw [e, feedP_nil]
      exact ⟨rfl, fun _ => ⟨rfl, hp⟩, fun h => absurd rfl h⟩

/-- The end. -/
def closeP (s : PSt) : PSt × List Ev :=
  if s.ended = 0 then (⟨[], s.first, s.fed, s.need, if s.buf = [] then 2 else 3⟩, [⟨if s.buf = [] then 2 else 3, s.fed, if s.buf = [] then 0 else 1, noMsg⟩])
  else (s, [])
/-- Fed, if it is not ended. -/
def feedO (s : PSt) (l : List UInt8) : PSt × List Ev := if s.ended = 0 then feedP s l else (s, [])
def newP : PSt := ⟨[], 0, 0, 0, 0⟩
theorem newP_hold : newP = holdP 0 [] := by
  unfold newP holdP
  rw [wholeN_nil]
  rfl
def allE (S : List UInt8) : List Ev := (feedP newP S).2 ++ (closeP (feedP newP S).1).2
/-- The document's events. -/
def docE (S : List UInt8) (closed : Bool) : List Ev :=
  (pushD S (S.length + 1) 0).1 ++ (if closed = true ∧ (pushD S (S.length + 1) 0).2.2 = 0 then [if (pushD S (S.length + 1) 0).2.1 < S.length then ⟨3, S.length, 1, noMsg⟩ else ⟨2, S.length, 0, noMsg⟩] else [])
theorem all_doc (S : List UInt8) : allE S = docE S true := by
  have hd := feed_doc S (S.length + 1) 0 (Nat.zero_le _) (by omega)
  rw [List.drop_zero, ← newP_hold] at hd
  obtain ⟨h1, h2, h3⟩ := hd
  unfold allE docE
  rw [h1]
  congr 1
  by_cases h : (pushD S (S.length + 1) 0).2.2 = 0
  · obtain ⟨e, hq⟩ := h2 h
    rw [e, if_pos ⟨rfl, h⟩]
    unfold closeP holdP
    dsimp only
    rw [if_pos rfl, List.length_drop]
    generalize (pushD S (S.length + 1) 0).2.1 = q at *
    by_cases hl : q < S.length
    · have hne : S.drop q ≠ [] := fun e => by
        have := congrArg List.length e
        rw [List.length_drop, List.length_nil] at this
        omega
      have hn : q + (S.length - q) = S.length := by omega
      rw [if_neg hne, if_neg hne, if_pos hl, hn]
    · have he : S.drop q = [] := List.drop_eq_nil_of_le (by omega)
      have hn : q + (S.length - q) = S.length := by omega
      rw [if_pos he, if_pos he, if_neg hl, hn]
  · obtain ⟨_, e, _⟩ := h3 h
    rw [if_neg (fun hh => h hh.2)]
    unfold closeP
    rw [if_neg (by rw [e]; decide)]
/-- The frame of a payload has as many bytes as its length says. -/
theorem wholeN_frame {P rest : List UInt8} (hP : P.length ≤ 2097152) : wholeN (frameB P ++ rest) = (frameB P).length ∧ (intD (frameB P ++ rest)).1.k = 0 := by
  have e : intD (frameB P ++ rest) = (⟨0 + (varB P.length).length, 0, 0⟩, P.length) := by
    unfold intD
    refine Rs.int_pre (by omega) (rest := P ++ (fixedB 4 (crcSum P) ++ rest)) ?_ (by omega)
    rw [List.drop_zero]
    unfold frameB blobB
    simp only [List.append_assoc]
  refine ⟨?_, by rw [e]⟩
  unfold wholeN
  rw [e]
  dsimp only
  rw [if_pos rfl, frameB_len, blobB_len]
theorem quiet_part {F : List UInt8} {j : Nat} (hF : wholeN F = F.length) (hj : j < F.length) : QuietP (F.take j) := by
  by_cases hk : (intD (F.take j)).1.k = 1
  · exact .inl hk
  · refine .inr ?_
    rw [wholeN_take hk, List.length_take]
    omega
/-- Messages, placed one behind the other. -/
def placeE : Nat → List Msg → List Ev
  | _, [] => []
  | p, m :: l => evItem p m :: placeE (p + (frameB (payB m)).length) l
theorem pushD_all (S : List UInt8) : ∀ (l : List Msg) (rest : List UInt8) (f p : Nat), (∀ m ∈ l, MsgN m ∧ rpcR m = true ∧ inU m.seq) → S.drop p = allB l ++ rest → p ≤ S.length → l.length ≤ f →
    pushD S f p = (placeE p l ++ (pushD S (f - l.length) (p + (allB l).length)).1, (pushD S (f - l.length) (p + (allB l).length)).2)
  | [], rest, f, p, _, h, hp, _ => by
    simp [allB, placeE]
  | m :: l, rest, 0, p, _, _, _, hf => absurd hf (Nat.not_succ_le_zero _)
  | m :: l, rest, f + 1, p, hl, h, hp, hf => by
    obtain ⟨hN, hR, hs⟩ := hl m (List.mem_cons_self ..)
    have e : allB (m :: l) = frameB (payB m) ++ allB l := by simp [allB]
    rw [e, List.append_assoc] at h
    have h5 := frameB_low (payB m)
    have hr := drop_room h hp
    have h2 := drop_more h
    have ih := pushD_all S l rest f (p + (frameB (payB m)).length) (fun x hx => hl x (List.mem_cons_of_mem _ hx)) h2 (by omega) (by simp at hf; omega)
    have hg := get_back (rest := []) hN hR hs
    rw [List.append_nil] at hg
    obtain ⟨w1, w2⟩ := wholeN_frame (rest := allB l ++ rest) (payB_most hR)
    rw [pushD_succ, if_pos (by omega), h, w1, if_neg (by omega), List.length_append, if_neg (by omega), List.take_left' rfl, hg]
    dsimp only
    rw [if_pos rfl, ih, e, List.length_append, List.length_cons, Nat.add_sub_add_right, Nat.add_assoc]
    rfl
end Go.Proofs.YtfddhafbhceoaaaGreat
