/- Mini: Needed by rpcTells_walk, part 11: texts put together by shake.py; no condition. -/
import Derived.Test.YtlbffbkbkajciaaGreatZR4
import Derived.Test.YtlbffbkbkajciaaGreatZR2
import Derived.Test.YtlbffbkbkajciaaGreatZR10
import Derived.Test.YtlbffbkbkajciaaGreatZR8
import Derived.Test.YtlbffbkbkajciaaGreatZR6
import Derived.Test.YtlbffbkbkajciaaGreatZR5
import Derived.Test.YtlbffbkbkajciaaGreatZR1
import Derived.Test.YtlbffbkbkajciaaGreatZR9
import Derived.Test.YtlbffbkbkajciaaGreatZR7
set_option linter.unusedVariables false
set_option linter.unusedSimpArgs false
set_option maxRecDepth 100000
set_option maxHeartbeats 6400000
namespace Go.Bs
theorem zA9{p:Prop}(h:p:=by (try simp only [Ag]); have := Vx (X := (DH m.sea)) hh; omega):p:=h
theorem zA7{p:Prop}(h:p:=by (try simp only [Ag]); have := Vx (X := (DI m.proj)) hh; omega):p:=h
theorem zA6{p:Prop}(h:p:=by (try simp only [Ag]); have := Vx (X := (Bp m.data)) hh; omega):p:=h
theorem zA3{p:Prop}(h:p:=by (try simp only [Ag]); have := Vx (X := (D4 m.streams)) hh; omega):p:=h
theorem zA2{p:Prop}(h:p:=by (try simp only [Ag]); have := Vx (X := (Ay m.pos.toNat)) hh; omega):p:=h
theorem zA0{p:Prop}(h:p:=by (try simp only [Ag]); have := Vx (X := (Ay m.count.toNat)) hh; omega):p:=h
theorem zAy{p:Prop}(h:p:=by rw [hf.out, hst.out]; simp [h3]):p:=h
theorem zAw{p:Prop}(h:p:=by (try simp only [Ag]); have := Vx (X := (Cx m.pos m.links)) hh; omega):p:=h
theorem zAo{p:Prop}(h:p:=by (try simp only [Ag]); have := Vx (X := ([UInt8.ofNat m.state.toNat])) hh; omega):p:=h
theorem ZQ{p:Prop}(h:p:=by rw [hf.out, Vh _ _ l k (.inl (by omega))]; simp only [decide_eq_decide]; omega):p:=h
theorem ZP{p:Prop}(h:p:=by rw [hf.out, Vh _ _ l k (.inr (by omega))]; simp only [decide_eq_decide]; omega):p:=h
theorem ZH{p:Prop}(h:p:=by rw [Ag]; omega):p:=h
end Go.Bs
namespace Go.Proofs.YtlbffbkbkajciaaGreat
open Go.RowKit Go.Bs Go.Maps
theorem A2.tr {S S' : Nat → Prop} {w w' : World} {m : Msg} {a1 c1 a2 c2 a3 c3 a4 c4} (f : ∀ {α : Type} (A : Rp α) (cs : List Value) (x : α), A.r S w cs x → A.r S' w' cs x) (h : A2 S w m a1 c1 a2 c2 a3 c3 a4 c4) : A2 S' w' m a1 c1 a2 c2 a3 c3 a4 c4 :=
 ⟨h.kind, h.epoch, h.seq, h.pos, h.count, h.state, h.sealE, h.sealN, h.sealT, h.projE, f _ _ _ h.streams, f _ _ _ h.links, f _ _ _ h.data, f _ _ _ h.stripes⟩
structure Gw (w : World) (g base most : Nat) (J : List UInt8) (a : Option Addr) (c A B : Nat) (m : Msg) (a1 : Option Addr) (c1 : Nat) (a2 : Option Addr) (c2 : Nat) (a3 : Option Addr) (c3 : Nat) (a4 : Option Addr) (c4 : Nat) : Prop where
 pen : BR w g base most J a c
 pa : Blk w A 38 #[.pointer (some ⟨g, 0, none⟩)]
 pb : Blk w B 32 #[.int .i64 m.kind, .int .u64 m.epoch, .int .u64 m.seq, .int .u64 m.pos, .int .i64 m.count, .int .i64 m.state, .slice a1 m.streams.length c1, .slice a2 m.links.length c2, .slice a3 m.data.length c3, .int .u64 m.sea.epoch, .int .u64 m.sea.node, .int .u64 m.sea.tail, .int .u64 m.proj.epoch, .slice a4 m.proj.stripes.length c4]
 na : ¬ Dr g a A
 nb : ¬ Dr g a B
 data : A2 (fun q => q < w.heap.size ∧ ¬ Dr g a q) w m a1 c1 a2 c2 a3 c3 a4 c4
theorem Gw.later {w : World} {g base most : Nat} {J : List UInt8} {a : Option Addr} {c A B : Nat} {m : Msg} {a1 : Option Addr} {c1 : Nat} {a2 : Option Addr} {c2 : Nat} {a3 : Option Addr} {c3 : Nat} {a4 : Option Addr} {c4 : Nat} (h : Gw w g base most J a c A B m a1 c1 a2 c2 a3 c3 a4 c4) {w' : World} (hb : Below w.heap.size w w') : Gw w' g base most J a c A B m a1 c1 a2 c2 a3 c3 a4 c4 :=
 ⟨h.pen.later hb, h.pa.later hb, h.pb.later hb, h.na, h.nb, A2.tr (fun A cs x hx => Fg hb hx) h.data⟩
theorem Gw.step {w : World} {g base most : Nat} {J : List UInt8} {a : Option Addr} {c A B : Nat} {m : Msg} {a1 : Option Addr} {c1 : Nat} {a2 : Option Addr} {c2 : Nat} {a3 : Option Addr} {c3 : Nat} {a4 : Option Addr} {c4 : Nat} (h : Gw w g base most J a c A B m a1 c1 a2 c2 a3 c3 a4 c4) {w' : World} {J' : List UInt8} (k : At w g base most J' a w') : ∃ a' c', Gw w' g base most J' a' c' A B m a1 c1 a2 c2 a3 c3 a4 c4 ∧ Tch (Dr g a) w w' ∧ (a'.map Addr.block = a.map Addr.block ∨ ∃ q, a'.map Addr.block = some q ∧ w.heap.size ≤ q) := by
 obtain ⟨a', c', k1, k2, k3⟩ := k
 exact ⟨a', c', ⟨k1, h.pa.tch k2 h.na, h.pb.tch k2 h.nb, Ex k3 h.pa.lt h.na, Ex k3 h.pb.lt h.nb, A2.tr (fun A cs x hx => Dk k2 k3 hx) h.data⟩, k2, k3⟩
theorem A2.low {g : Nat} {a : Option Addr} {w : World} {m : Msg} {a1 c1 a2 c2 a3 c3 a4 c4} (h : A2 (fun q => q < w.heap.size ∧ ¬ Dr g a q) w m a1 c1 a2 c2 a3 c3 a4 c4) : A2 (· < w.heap.size) w m a1 c1 a2 c2 a3 c3 a4 c4 := A2.tr (fun A cs x hx => Iv hx) h
theorem UE {w : World} {g base most : Nat} {J : List UInt8} {a : Option Addr} {c A B : Nat} {m : Msg} {a1 : Option Addr} {c1 : Nat} {a2 : Option Addr} {c2 : Nat} {a3 : Option Addr} {c3 : Nat} {a4 : Option Addr} {c4 : Nat} (h : Gw w g base most J a c A B m a1 c1 a2 c2 a3 c3 a4 c4) (hR : poR m.pos = true) (hfit : J.length + (Ay m.pos.toNat).length ≤ most) (hln : J.length + (Ay m.pos.toNat).length ≤ 100000000000000) :
  Calls Tryz.prog 63 #[.pointer (some ⟨A, 0, none⟩), .pointer (some ⟨B, 0, none⟩)] w fun r w' => r = .returned (.tuple #[]) ∧ At w g base most (J ++ (Ay m.pos.toNat)) a w' := by
 have hp := h.data.pos
 have HV := hid (by have := NT w h.pen m.pos.toNat (by rw [toNat_cast hp.1]; exact hR) hfit hln; rw [toNat_cast hp.1] at this; exact this : Calls Tryz.prog 64 #[.pointer (some ⟨g, 0, none⟩), .int .u64 m.pos] w fun r w' => r = .returned (.tuple #[]) ∧ At w g base most (J ++ Ay m.pos.toNat) a w')
 have p0 : w.cell? ⟨A, 0, none⟩ = some (.pointer (some ⟨g, 0, none⟩)) := h.pa.cell 0
 have y3 : w.cell? ⟨B, 3, none⟩ = some (.int .u64 m.pos) := h.pb.cell 3
 clear h;go_enter Tryz.func63, Tryz.ntmps63
 go_wp2_with fail;refine HV.out.mono ?_
 rintro r w1 ⟨rfl, hst⟩;have HST := hid hst
 clear hst;go_wp2_with fail;first | go_end0 | refine Al (Aw rfl _ _ _) rfl ?_
 exact ⟨rfl, HST.out⟩
theorem So {w : World} {g base most : Nat} {J : List UInt8} {a : Option Addr} {c A B : Nat} {m : Msg} {a1 : Option Addr} {c1 : Nat} {a2 : Option Addr} {c2 : Nat} {a3 : Option Addr} {c3 : Nat} {a4 : Option Addr} {c4 : Nat} (h : Gw w g base most J a c A B m a1 c1 a2 c2 a3 c3 a4 c4) (hR : 1 ≤ m.count ∧ m.count ≤ 65536) (hfit : J.length + (Ay m.count.toNat).length ≤ most) (hln : J.length + (Ay m.count.toNat).length ≤ 100000000000000) :
  Calls Tryz.prog 65 #[.pointer (some ⟨A, 0, none⟩), .pointer (some ⟨B, 0, none⟩)] w fun r w' => r = .returned (.tuple #[]) ∧ At w g base most (J ++ (Ay m.count.toNat)) a w' := by
 have hc0 : 0 ≤ m.count := zC
 have hc1 : m.count ≤ 65536 := hR.2
 have HV := hid (by have := B6 w h.pen m.count.toNat zC hfit hln; rw [toNat_cast hc0] at this; exact this : Calls Tryz.prog 66 #[.pointer (some ⟨g, 0, none⟩), .int .u64 m.count] w fun r w' => r = .returned (.tuple #[]) ∧ At w g base most (J ++ Ay m.count.toNat) a w')
 have p0 : w.cell? ⟨A, 0, none⟩ = some (.pointer (some ⟨g, 0, none⟩)) := h.pa.cell 0
 have y4 : w.cell? ⟨B, 4, none⟩ = some (.int .i64 m.count) := h.pb.cell 4
 clear h;go_enter Tryz.func65, Tryz.ntmps65
 go_wp2_with fail;refine HV.out.mono ?_
 rintro r w1 ⟨rfl, hst⟩;have HST := hid hst
 clear hst;go_wp2_with fail;first | go_end0 | refine Al (Aw rfl _ _ _) rfl ?_
 exact ⟨rfl, HST.out⟩
theorem Sk {w : World} {g base most : Nat} {J : List UInt8} {a : Option Addr} {c A B : Nat} {m : Msg} {a1 : Option Addr} {c1 : Nat} {a2 : Option Addr} {c2 : Nat} {a3 : Option Addr} {c3 : Nat} {a4 : Option Addr} {c4 : Nat} (h : Gw w g base most J a c A B m a1 c1 a2 c2 a3 c3 a4 c4) (hR : 1 ≤ m.state ∧ m.state ≤ 20) (hfit : J.length + ([UInt8.ofNat m.state.toNat]).length ≤ most) (hln : J.length + ([UInt8.ofNat m.state.toNat]).length ≤ 100000000000000) :
  Calls Tryz.prog 67 #[.pointer (some ⟨A, 0, none⟩), .pointer (some ⟨B, 0, none⟩)] w fun r w' => r = .returned (.tuple #[]) ∧ At w g base most (J ++ ([UInt8.ofNat m.state.toNat])) a w' := by
 have hc0 : 0 ≤ m.state := zC
 have hc1 : m.state ≤ 20 := hR.2
 have he : m.state = ((UInt8.ofNat m.state.toNat).toNat : Int) := by
  have := D6 (x := m.state.toNat) zC
  rw [toNat_cast hc0] at this
  exact this
 have HV := hid (fun (W : World) (hW : Below w.heap.size w W) (ad : Option Addr) (hD : Ah.r (· < W.heap.size) W [.slice ad 1 1] [UInt8.ofNat m.state.toNat]) => Fl W (h.pen.later hW) [UInt8.ofNat m.state.toNat] ad 1 1 hD hfit hln)
 have HL := hid (fun W : World => (by have := K9 W (UInt8.ofNat m.state.toNat); rw [← he] at this; exact this : Ah.r (· < (W.alloc (.cells #[.int .u8 m.state] 5)).heap.size) (W.alloc (.cells #[.int .u8 m.state] 5)) [.slice (some ⟨W.heap.size, 0, none⟩) 1 1] [UInt8.ofNat m.state.toNat]))
 have p0 : w.cell? ⟨A, 0, none⟩ = some (.pointer (some ⟨g, 0, none⟩)) := h.pa.cell 0
 have y5 : w.cell? ⟨B, 5, none⟩ = some (.int .i64 m.state) := h.pb.cell 5
 clear h he;go_enter Tryz.func67, Tryz.ntmps67
 go_wp2_with fail;refine (HV.out _ zA _ (HL.out w)).mono ?_
 rintro r w1 ⟨rfl, hst⟩;have HST := hid (At.later (w := w) zA hst)
 clear hst;go_wp2_with fail;first | go_end0 | refine Al (Aw rfl _ _ _) rfl ?_
 exact ⟨rfl, HST.out⟩
theorem OK {w : World} {g base most : Nat} {J : List UInt8} {a : Option Addr} {c A B : Nat} {m : Msg} {a1 : Option Addr} {c1 : Nat} {a2 : Option Addr} {c2 : Nat} {a3 : Option Addr} {c3 : Nat} {a4 : Option Addr} {c4 : Nat} (h : Gw w g base most J a c A B m a1 c1 a2 c2 a3 c3 a4 c4) (hR : m.streams.length ≤ 16 ∧ Ba m.streams = true) (hfit : J.length + (D4 m.streams).length ≤ most) (hln : J.length + (D4 m.streams).length ≤ 100000000000000) :
  Calls Tryz.prog 69 #[.pointer (some ⟨A, 0, none⟩), .pointer (some ⟨B, 0, none⟩)] w fun r w' => r = .returned (.tuple #[]) ∧ At w g base most (J ++ (D4 m.streams)) a w' := by
 have hsl : (D4 m.streams).length = (Ay m.streams.length).length + (Gg m.streams).length := by unfold D4; rw [Ag]
 rw [hsl] at hfit hln
 have hl16 := hR.1
 have HV := hid (B6 w h.pen m.streams.length zC zC zC)
 have HZ := hid (fun (W : World) (a' : Option Addr) (c' : Nat) (hW : Gw W g base most (J ++ Ay m.streams.length) a' c' A B m a1 c1 a2 c2 a3 c3 a4 c4) => IE W hW.pen m.streams a1 _ c1 (A2.low hW.data).streams hR.2 zC ZH ZH)
 have HI := hid h
 have p0 : w.cell? ⟨A, 0, none⟩ = some (.pointer (some ⟨g, 0, none⟩)) := h.pa.cell 0
 have y6 : w.cell? ⟨B, 6, none⟩ = some (.slice a1 m.streams.length c1) := h.pb.cell 6
 clear h;have hsb : D4 m.streams = Ay m.streams.length ++ Gg m.streams := rfl
 go_enter Tryz.func69, Tryz.ntmps69
 go_wp2_with fail;refine HV.out.mono ?_
 rintro r w1 ⟨rfl, hst⟩;obtain ⟨a', c', hi1, ht1, ha1⟩ := HI.out.step hst
 have HT := hid (And.intro ht1 ha1)
 have HZ1 := hid (HZ.out _ _ _ hi1)
 have q0 : w1.cell? ⟨A, 0, none⟩ = some (.pointer (some ⟨g, 0, none⟩)) := hi1.pa.cell 0
 have q6 : w1.cell? ⟨B, 6, none⟩ = some (.slice a1 m.streams.length c1) := hi1.pb.cell 6
 clear hst hi1 ht1 ha1 p0 y6;go_wp2_with fail;refine HZ1.out.mono ?_
 rintro r w2 ⟨rfl, hst⟩;have hn := At.trans (J := J) HT.out.1 HT.out.2 hst
 rw [Av, ← hsb] at hn
 have HST := hid hn
 clear hst hn;go_wp2_with fail;first | go_end0 | refine Al (Aw rfl _ _ _) rfl ?_
 exact ⟨rfl, HST.out⟩
theorem Sl {w : World} {g base most : Nat} {J : List UInt8} {a : Option Addr} {c A B : Nat} {m : Msg} {a1 : Option Addr} {c1 : Nat} {a2 : Option Addr} {c2 : Nat} {a3 : Option Addr} {c3 : Nat} {a4 : Option Addr} {c4 : Nat} (h : Gw w g base most J a c A B m a1 c1 a2 c2 a3 c3 a4 c4) (hbk : ∀ x ∈ m.links, x.backs.length ≤ 1000000) (hR : BK m.pos m.links = true) (hfit : J.length + (Cx m.pos m.links).length ≤ most) (hln : J.length + (Cx m.pos m.links).length ≤ 100000000000000) :
  Calls Tryz.prog 71 #[.pointer (some ⟨A, 0, none⟩), .pointer (some ⟨B, 0, none⟩)] w fun r w' => r = .returned (.tuple #[]) ∧ At w g base most (J ++ (Cx m.pos m.links)) a w' := by
 have HV := hid (TX w h.pen m.pos h.data.pos m.links a2 _ c2 h.data.links hR hbk hfit hln)
 have p0 : w.cell? ⟨A, 0, none⟩ = some (.pointer (some ⟨g, 0, none⟩)) := h.pa.cell 0
 have y3 : w.cell? ⟨B, 3, none⟩ = some (.int .u64 m.pos) := h.pb.cell 3
 have y7 : w.cell? ⟨B, 7, none⟩ = some (.slice a2 m.links.length c2) := h.pb.cell 7
 clear h;go_enter Tryz.func71, Tryz.ntmps71
 go_wp2_with fail;refine HV.out.mono ?_
 rintro r w1 ⟨rfl, hst⟩;have HST := hid hst
 clear hst;go_wp2_with fail;first | go_end0 | refine Al (Aw rfl _ _ _) rfl ?_
 exact ⟨rfl, HST.out⟩
theorem Ts {w : World} {g base most : Nat} {J : List UInt8} {a : Option Addr} {c A B : Nat} {m : Msg} {a1 : Option Addr} {c1 : Nat} {a2 : Option Addr} {c2 : Nat} {a3 : Option Addr} {c3 : Nat} {a4 : Option Addr} {c4 : Nat} (h : Gw w g base most J a c A B m a1 c1 a2 c2 a3 c3 a4 c4) (hR : Ev m.sea = true) (hfit : J.length + (DH m.sea).length ≤ most) (hln : J.length + (DH m.sea).length ≤ 100000000000000) :
  Calls Tryz.prog 75 #[.pointer (some ⟨A, 0, none⟩), .pointer (some ⟨B, 0, none⟩)] w fun r w' => r = .returned (.tuple #[]) ∧ At w g base most (J ++ (DH m.sea)) a w' := by
 have HV := hid (LA w h.pen m.sea h.data.sealE h.data.sealN h.data.sealT hR hfit hln)
 have p0 : w.cell? ⟨A, 0, none⟩ = some (.pointer (some ⟨g, 0, none⟩)) := h.pa.cell 0
 have y9 : w.cell? ⟨B, 9, none⟩ = some (.int .u64 m.sea.epoch) := h.pb.cell 9
 have y10 : w.cell? ⟨B, 10, none⟩ = some (.int .u64 m.sea.node) := h.pb.cell 10
 have y11 : w.cell? ⟨B, 11, none⟩ = some (.int .u64 m.sea.tail) := h.pb.cell 11
 clear h;go_enter Tryz.func75, Tryz.ntmps75
 go_wp2_with fail;refine HV.out.mono ?_
 rintro r w1 ⟨rfl, hst⟩;have HST := hid hst
 clear hst;go_wp2_with fail;first | go_end0 | refine Al (Aw rfl _ _ _) rfl ?_
 exact ⟨rfl, HST.out⟩
theorem Tt {w : World} {g base most : Nat} {J : List UInt8} {a : Option Addr} {c A B : Nat} {m : Msg} {a1 : Option Addr} {c1 : Nat} {a2 : Option Addr} {c2 : Nat} {a3 : Option Addr} {c3 : Nat} {a4 : Option Addr} {c4 : Nat} (h : Gw w g base most J a c A B m a1 c1 a2 c2 a3 c3 a4 c4) (hR : CA m.proj = true) (hfit : J.length + (DI m.proj).length ≤ most) (hln : J.length + (DI m.proj).length ≤ 100000000000000) :
  Calls Tryz.prog 77 #[.pointer (some ⟨A, 0, none⟩), .pointer (some ⟨B, 0, none⟩)] w fun r w' => r = .returned (.tuple #[]) ∧ At w g base most (J ++ (DI m.proj)) a w' := by
 have hPR := fun (W : World) (hW : Below w.heap.size w W) => LH m.proj.epoch m.proj.stripes a4 _ c4 W (lift (A2.low h.data).stripes hW)
 rw [show (⟨m.proj.epoch, m.proj.stripes⟩ : El) = m.proj from rfl, hR] at hPR
 have HV := hid (LI w h.pen m.proj a4 _ c4 h.data.projE h.data.stripes hPR hR hfit hln)
 clear hPR;have p0 : w.cell? ⟨A, 0, none⟩ = some (.pointer (some ⟨g, 0, none⟩)) := h.pa.cell 0
 have y12 : w.cell? ⟨B, 12, none⟩ = some (.int .u64 m.proj.epoch) := h.pb.cell 12
 have y13 : w.cell? ⟨B, 13, none⟩ = some (.slice a4 m.proj.stripes.length c4) := h.pb.cell 13
 clear h;go_enter Tryz.func77, Tryz.ntmps77
 go_wp2_with fail;refine HV.out.mono ?_
 rintro r w1 ⟨rfl, hst⟩;have HST := hid hst
 clear hst;go_wp2_with fail;first | go_end0 | refine Al (Aw rfl _ _ _) rfl ?_
 exact ⟨rfl, HST.out⟩
theorem Tx {w : World} {g base most : Nat} {J : List UInt8} {a : Option Addr} {c A B : Nat} {m : Msg} {a1 : Option Addr} {c1 : Nat} {a2 : Option Addr} {c2 : Nat} {a3 : Option Addr} {c3 : Nat} {a4 : Option Addr} {c4 : Nat} (h : Gw w g base most J a c A B m a1 c1 a2 c2 a3 c3 a4 c4) (X : List UInt8) (HC : AK m.kind 1 = true → ∀ W : World, Below w.heap.size w W → Calls Tryz.prog 63 #[.pointer (some ⟨A, 0, none⟩), .pointer (some ⟨B, 0, none⟩)] W fun r w' => r = .returned (.tuple #[]) ∧ At W g base most (J ++ X) a w') :
  Calls Tryz.prog 61 #[.int .i64 1, .func (Fn.func 63) #[] #[.pointer (some ⟨A, 0, none⟩), .pointer (some ⟨B, 0, none⟩)], .pointer (some ⟨B, 0, none⟩)] w fun r w' => r = .returned (.tuple #[]) ∧ At w g base most (J ++ AV (AK m.kind 1) X) a w' := by
 have HH := hid (Da m.kind 1 zS w)
 have HCC := hid HC
 have HP := hid h.pen
 have y0 : w.cell? ⟨B, 0, none⟩ = some (.int .i64 m.kind) := h.pb.cell 0
 clear h HC;generalize AK m.kind 1 = H at *
 go_enter Tryz.func61, Tryz.ntmps61
 go_wp2_with fail;refine HH.out.mono ?_
 rintro r w1 ⟨rfl, hb1⟩;have HB := hid hb1
 clear hb1;cases H
 ·go_wp2_with fail
  first | go_end0 | refine Al (Aw rfl _ _ _) rfl ?_
  refine ⟨rfl, ?_⟩
  have := At.later HB.out (At.refl (HP.out.later HB.out))
  simpa [AV] using this
 ·have HD := hid (HCC.out rfl w1 HB.out)
  go_wp2_with fail;refine HD.out.mono ?_
  rintro r w2 ⟨rfl, hst⟩;have HST := hid (At.later HB.out hst)
  clear hst;go_wp2_with fail;first | go_end0 | refine Al (Aw rfl _ _ _) rfl ?_
  exact ⟨rfl, HST.out⟩
theorem Tw {w : World} {g base most : Nat} {J : List UInt8} {a : Option Addr} {c A B : Nat} {m : Msg} {a1 : Option Addr} {c1 : Nat} {a2 : Option Addr} {c2 : Nat} {a3 : Option Addr} {c3 : Nat} {a4 : Option Addr} {c4 : Nat} (h : Gw w g base most J a c A B m a1 c1 a2 c2 a3 c3 a4 c4) (X : List UInt8) (HC : AK m.kind 2 = true → ∀ W : World, Below w.heap.size w W → Calls Tryz.prog 65 #[.pointer (some ⟨A, 0, none⟩), .pointer (some ⟨B, 0, none⟩)] W fun r w' => r = .returned (.tuple #[]) ∧ At W g base most (J ++ X) a w') :
  Calls Tryz.prog 61 #[.int .i64 2, .func (Fn.func 65) #[] #[.pointer (some ⟨A, 0, none⟩), .pointer (some ⟨B, 0, none⟩)], .pointer (some ⟨B, 0, none⟩)] w fun r w' => r = .returned (.tuple #[]) ∧ At w g base most (J ++ AV (AK m.kind 2) X) a w' := by
 have HH := hid (Da m.kind 2 zS w)
 have HCC := hid HC
 have HP := hid h.pen
 have y0 : w.cell? ⟨B, 0, none⟩ = some (.int .i64 m.kind) := h.pb.cell 0
 clear h HC;generalize AK m.kind 2 = H at *
 go_enter Tryz.func61, Tryz.ntmps61
 go_wp2_with fail;refine HH.out.mono ?_
 rintro r w1 ⟨rfl, hb1⟩;have HB := hid hb1
 clear hb1;cases H
 ·go_wp2_with fail
  first | go_end0 | refine Al (Aw rfl _ _ _) rfl ?_
  refine ⟨rfl, ?_⟩
  have := At.later HB.out (At.refl (HP.out.later HB.out))
  simpa [AV] using this
 ·have HD := hid (HCC.out rfl w1 HB.out)
  go_wp2_with fail;refine HD.out.mono ?_
  rintro r w2 ⟨rfl, hst⟩;have HST := hid (At.later HB.out hst)
  clear hst;go_wp2_with fail;first | go_end0 | refine Al (Aw rfl _ _ _) rfl ?_
  exact ⟨rfl, HST.out⟩
theorem Tv {w : World} {g base most : Nat} {J : List UInt8} {a : Option Addr} {c A B : Nat} {m : Msg} {a1 : Option Addr} {c1 : Nat} {a2 : Option Addr} {c2 : Nat} {a3 : Option Addr} {c3 : Nat} {a4 : Option Addr} {c4 : Nat} (h : Gw w g base most J a c A B m a1 c1 a2 c2 a3 c3 a4 c4) (X : List UInt8) (HC : AK m.kind 4 = true → ∀ W : World, Below w.heap.size w W → Calls Tryz.prog 67 #[.pointer (some ⟨A, 0, none⟩), .pointer (some ⟨B, 0, none⟩)] W fun r w' => r = .returned (.tuple #[]) ∧ At W g base most (J ++ X) a w') :
  Calls Tryz.prog 61 #[.int .i64 4, .func (Fn.func 67) #[] #[.pointer (some ⟨A, 0, none⟩), .pointer (some ⟨B, 0, none⟩)], .pointer (some ⟨B, 0, none⟩)] w fun r w' => r = .returned (.tuple #[]) ∧ At w g base most (J ++ AV (AK m.kind 4) X) a w' := by
 have HH := hid (Da m.kind 4 zS w)
 have HCC := hid HC
 have HP := hid h.pen
 have y0 : w.cell? ⟨B, 0, none⟩ = some (.int .i64 m.kind) := h.pb.cell 0
 clear h HC;generalize AK m.kind 4 = H at *
 go_enter Tryz.func61, Tryz.ntmps61
 go_wp2_with fail;refine HH.out.mono ?_
 rintro r w1 ⟨rfl, hb1⟩;have HB := hid hb1
 clear hb1;cases H
 ·go_wp2_with fail
  first | go_end0 | refine Al (Aw rfl _ _ _) rfl ?_
  refine ⟨rfl, ?_⟩
  have := At.later HB.out (At.refl (HP.out.later HB.out))
  simpa [AV] using this
 ·have HD := hid (HCC.out rfl w1 HB.out)
  go_wp2_with fail;refine HD.out.mono ?_
  rintro r w2 ⟨rfl, hst⟩;have HST := hid (At.later HB.out hst)
  clear hst;go_wp2_with fail;first | go_end0 | refine Al (Aw rfl _ _ _) rfl ?_
  exact ⟨rfl, HST.out⟩
theorem Tu {w : World} {g base most : Nat} {J : List UInt8} {a : Option Addr} {c A B : Nat} {m : Msg} {a1 : Option Addr} {c1 : Nat} {a2 : Option Addr} {c2 : Nat} {a3 : Option Addr} {c3 : Nat} {a4 : Option Addr} {c4 : Nat} (h : Gw w g base most J a c A B m a1 c1 a2 c2 a3 c3 a4 c4) (X : List UInt8) (HC : AK m.kind 8 = true → ∀ W : World, Below w.heap.size w W → Calls Tryz.prog 69 #[.pointer (some ⟨A, 0, none⟩), .pointer (some ⟨B, 0, none⟩)] W fun r w' => r = .returned (.tuple #[]) ∧ At W g base most (J ++ X) a w') :
  Calls Tryz.prog 61 #[.int .i64 8, .func (Fn.func 69) #[] #[.pointer (some ⟨A, 0, none⟩), .pointer (some ⟨B, 0, none⟩)], .pointer (some ⟨B, 0, none⟩)] w fun r w' => r = .returned (.tuple #[]) ∧ At w g base most (J ++ AV (AK m.kind 8) X) a w' := by
 have HH := hid (Da m.kind 8 zS w)
 have HCC := hid HC
 have HP := hid h.pen
 have y0 : w.cell? ⟨B, 0, none⟩ = some (.int .i64 m.kind) := h.pb.cell 0
 clear h HC;generalize AK m.kind 8 = H at *
 go_enter Tryz.func61, Tryz.ntmps61
 go_wp2_with fail;refine HH.out.mono ?_
 rintro r w1 ⟨rfl, hb1⟩;have HB := hid hb1
 clear hb1;cases H
 ·go_wp2_with fail
  first | go_end0 | refine Al (Aw rfl _ _ _) rfl ?_
  refine ⟨rfl, ?_⟩
  have := At.later HB.out (At.refl (HP.out.later HB.out))
  simpa [AV] using this
 ·have HD := hid (HCC.out rfl w1 HB.out)
  go_wp2_with fail;refine HD.out.mono ?_
  rintro r w2 ⟨rfl, hst⟩;have HST := hid (At.later HB.out hst)
  clear hst;go_wp2_with fail;first | go_end0 | refine Al (Aw rfl _ _ _) rfl ?_
  exact ⟨rfl, HST.out⟩
theorem Sn {w : World} {g base most : Nat} {J : List UInt8} {a : Option Addr} {c A B : Nat} {m : Msg} {a1 : Option Addr} {c1 : Nat} {a2 : Option Addr} {c2 : Nat} {a3 : Option Addr} {c3 : Nat} {a4 : Option Addr} {c4 : Nat} (h : Gw w g base most J a c A B m a1 c1 a2 c2 a3 c3 a4 c4) (X : List UInt8) (HC : AK m.kind 16 = true → ∀ W : World, Below w.heap.size w W → Calls Tryz.prog 71 #[.pointer (some ⟨A, 0, none⟩), .pointer (some ⟨B, 0, none⟩)] W fun r w' => r = .returned (.tuple #[]) ∧ At W g base most (J ++ X) a w') :
  Calls Tryz.prog 61 #[.int .i64 16, .func (Fn.func 71) #[] #[.pointer (some ⟨A, 0, none⟩), .pointer (some ⟨B, 0, none⟩)], .pointer (some ⟨B, 0, none⟩)] w fun r w' => r = .returned (.tuple #[]) ∧ At w g base most (J ++ AV (AK m.kind 16) X) a w' := by
 have HH := hid (Da m.kind 16 zS w)
 have HCC := hid HC
 have HP := hid h.pen
 have y0 : w.cell? ⟨B, 0, none⟩ = some (.int .i64 m.kind) := h.pb.cell 0
 clear h HC;generalize AK m.kind 16 = H at *
 go_enter Tryz.func61, Tryz.ntmps61
 go_wp2_with fail;refine HH.out.mono ?_
 rintro r w1 ⟨rfl, hb1⟩;have HB := hid hb1
 clear hb1;cases H
 ·go_wp2_with fail
  first | go_end0 | refine Al (Aw rfl _ _ _) rfl ?_
  refine ⟨rfl, ?_⟩
  have := At.later HB.out (At.refl (HP.out.later HB.out))
  simpa [AV] using this
 ·have HD := hid (HCC.out rfl w1 HB.out)
  go_wp2_with fail;refine HD.out.mono ?_
  rintro r w2 ⟨rfl, hst⟩;have HST := hid (At.later HB.out hst)
  clear hst;go_wp2_with fail;first | go_end0 | refine Al (Aw rfl _ _ _) rfl ?_
  exact ⟨rfl, HST.out⟩
theorem Sm {w : World} {g base most : Nat} {J : List UInt8} {a : Option Addr} {c A B : Nat} {m : Msg} {a1 : Option Addr} {c1 : Nat} {a2 : Option Addr} {c2 : Nat} {a3 : Option Addr} {c3 : Nat} {a4 : Option Addr} {c4 : Nat} (h : Gw w g base most J a c A B m a1 c1 a2 c2 a3 c3 a4 c4) (X : List UInt8) (HC : AK m.kind 64 = true → ∀ W : World, Below w.heap.size w W → Calls Tryz.prog 75 #[.pointer (some ⟨A, 0, none⟩), .pointer (some ⟨B, 0, none⟩)] W fun r w' => r = .returned (.tuple #[]) ∧ At W g base most (J ++ X) a w') :
  Calls Tryz.prog 61 #[.int .i64 64, .func (Fn.func 75) #[] #[.pointer (some ⟨A, 0, none⟩), .pointer (some ⟨B, 0, none⟩)], .pointer (some ⟨B, 0, none⟩)] w fun r w' => r = .returned (.tuple #[]) ∧ At w g base most (J ++ AV (AK m.kind 64) X) a w' := by
 have HH := hid (Da m.kind 64 zS w)
 have HCC := hid HC
 have HP := hid h.pen
 have y0 : w.cell? ⟨B, 0, none⟩ = some (.int .i64 m.kind) := h.pb.cell 0
 clear h HC;generalize AK m.kind 64 = H at *
 go_enter Tryz.func61, Tryz.ntmps61
 go_wp2_with fail;refine HH.out.mono ?_
 rintro r w1 ⟨rfl, hb1⟩;have HB := hid hb1
 clear hb1;cases H
 ·go_wp2_with fail
  first | go_end0 | refine Al (Aw rfl _ _ _) rfl ?_
  refine ⟨rfl, ?_⟩
  have := At.later HB.out (At.refl (HP.out.later HB.out))
  simpa [AV] using this
 ·have HD := hid (HCC.out rfl w1 HB.out)
  go_wp2_with fail;refine HD.out.mono ?_
  rintro r w2 ⟨rfl, hst⟩;have HST := hid (At.later HB.out hst)
  clear hst;go_wp2_with fail;first | go_end0 | refine Al (Aw rfl _ _ _) rfl ?_
  exact ⟨rfl, HST.out⟩
theorem Qj {w : World} {g base most : Nat} {J : List UInt8} {a : Option Addr} {c A B : Nat} {m : Msg} {a1 : Option Addr} {c1 : Nat} {a2 : Option Addr} {c2 : Nat} {a3 : Option Addr} {c3 : Nat} {a4 : Option Addr} {c4 : Nat} (h : Gw w g base most J a c A B m a1 c1 a2 c2 a3 c3 a4 c4) (X : List UInt8) (HC : AK m.kind 128 = true → ∀ W : World, Below w.heap.size w W → Calls Tryz.prog 77 #[.pointer (some ⟨A, 0, none⟩), .pointer (some ⟨B, 0, none⟩)] W fun r w' => r = .returned (.tuple #[]) ∧ At W g base most (J ++ X) a w') :
  Calls Tryz.prog 61 #[.int .i64 128, .func (Fn.func 77) #[] #[.pointer (some ⟨A, 0, none⟩), .pointer (some ⟨B, 0, none⟩)], .pointer (some ⟨B, 0, none⟩)] w fun r w' => r = .returned (.tuple #[]) ∧ At w g base most (J ++ AV (AK m.kind 128) X) a w' := by
 have HH := hid (Da m.kind 128 zS w)
 have HCC := hid HC
 have HP := hid h.pen
 have y0 : w.cell? ⟨B, 0, none⟩ = some (.int .i64 m.kind) := h.pb.cell 0
 clear h HC;generalize AK m.kind 128 = H at *
 go_enter Tryz.func61, Tryz.ntmps61
 go_wp2_with fail;refine HH.out.mono ?_
 rintro r w1 ⟨rfl, hb1⟩;have HB := hid hb1
 clear hb1;cases H
 ·go_wp2_with fail
  first | go_end0 | refine Al (Aw rfl _ _ _) rfl ?_
  refine ⟨rfl, ?_⟩
  have := At.later HB.out (At.refl (HP.out.later HB.out))
  simpa [AV] using this
 ·have HD := hid (HCC.out rfl w1 HB.out)
  go_wp2_with fail;refine HD.out.mono ?_
  rintro r w2 ⟨rfl, hst⟩;have HST := hid (At.later HB.out hst)
  clear hst;go_wp2_with fail;first | go_end0 | refine Al (Aw rfl _ _ _) rfl ?_
  exact ⟨rfl, HST.out⟩
theorem OT (k : Int) : Dn k ≤ 20 := by unfold Dn; split <;> omega
theorem Vx {h : Bool} {X : List UInt8} (hh : h = true) : (AV h X).length = X.length := by rw [hh]; rfl
theorem Mc (w : World) {g base most : Nat} {J : List UInt8} {a : Option Addr} {c : Nat} (h : BR w g base most J a c) (m : Msg) (a1 : Option Addr) (c1 : Nat) (a2 : Option Addr) (c2 : Nat) (a3 : Option Addr) (c3 : Nat) (a4 : Option Addr) (c4 : Nat) (hd : A2 (fun q => q < w.heap.size ∧ ¬ Dr g a q) w m a1 c1 a2 c2 a3 c3 a4 c4)
  (hbk : ∀ x ∈ m.links, x.backs.length ≤ 1000000) (hR : FE m = true) (hfit : J.length + (EL m).length ≤ most) (hln : J.length + (EL m).length ≤ 100000000000000) :
  Calls Tryz.prog 16 #[.pointer (some ⟨g, 0, none⟩), .agg #[.int .i64 m.kind, .int .u64 m.epoch, .int .u64 m.seq, .int .u64 m.pos, .int .i64 m.count, .int .i64 m.state, .slice a1 m.streams.length c1, .slice a2 m.links.length c2, .slice a3 m.data.length c3, .int .u64 m.sea.epoch, .int .u64 m.sea.node, .int .u64 m.sea.tail, .int .u64 m.proj.epoch, .slice a4 m.proj.stripes.length c4]] w fun r w' => r = .returned (.tuple #[]) ∧ At w g base most (J ++ EL m) a w' := by
 have hml : (EL m).length = (AV (AK m.kind 1) (Ay m.pos.toNat)).length + (AV (AK m.kind 2) (Ay m.count.toNat)).length + (AV (AK m.kind 4) ([UInt8.ofNat m.state.toNat])).length + (AV (AK m.kind 8) (D4 m.streams)).length + (AV (AK m.kind 16) (Cx m.pos m.links)).length + (AV (Ca m.kind m.state) (Bp m.data)).length + (AV (AK m.kind 64) (DH m.sea)).length + (AV (AK m.kind 128) (DI m.proj)).length := by simp only [EL, Ag]
 rw [hml] at hfit hln
 have hmb : EL m = AV (AK m.kind 1) (Ay m.pos.toNat) ++ AV (AK m.kind 2) (Ay m.count.toNat) ++ AV (AK m.kind 4) ([UInt8.ofNat m.state.toNat]) ++ AV (AK m.kind 8) (D4 m.streams) ++ AV (AK m.kind 16) (Cx m.pos m.links) ++ AV (Ca m.kind m.state) (Bp m.data) ++ AV (AK m.kind 64) (DH m.sea) ++ AV (AK m.kind 128) (DI m.proj) := rfl
 have HRT := hid (fun (W : World) (hW : Below w.heap.size w W) => I5 m a1 c1 a2 c2 a3 c3 a4 c4 W (A2.lift (A2.low hd) hW) (fun x hx => zBp))
 rw [hR] at HRT
 have HHD := hid (fun (W : World) => Hm m a1 c1 a2 c2 a3 c3 a4 c4 W)
 have HM := hid (EF hR)
 have HBK := hid hbk
 have HP := hid h
 have HD := hid hd
 have HLT := hid (fun q (hq : Dr g a q) => (h.Eo hq).2)
 have hdl := HM.out.data
 clear h hd hR hbk hml;go_enter Tryz.func16, Tryz.ntmps16
 go_wp2_with fail;refine (HRT.out _ zA).mono ?_
 rintro r w1 ⟨rfl, hb1⟩;have hbw1 : Below w.heap.size w w1 := zA
 have hI1 : Gw w1 g base most J a c w.heap.size (w.heap.size + 1) m a1 c1 a2 c2 a3 c3 a4 c4 := ⟨HP.out.later hbw1, Blk.later ((Blk.newAt w 38 #[.pointer (some ⟨g, 0, none⟩)] rfl).alloc _) hb1, Blk.later (Blk.newAt _ 32 #[.int .i64 m.kind, .int .u64 m.epoch, .int .u64 m.seq, .int .u64 m.pos, .int .i64 m.count, .int .i64 m.state, .slice a1 m.streams.length c1, .slice a2 m.links.length c2, .slice a3 m.data.length c3, .int .u64 m.sea.epoch, .int .u64 m.sea.node, .int .u64 m.sea.tail, .int .u64 m.proj.epoch, .slice a4 m.proj.stripes.length c4] zO) hb1, fun hf => Z3, fun hf => Z3, A2.tr (fun A cs x hx => Fg hbw1 hx) HD.out⟩
 have HBW1 := hid hbw1
 clear hb1 hbw1;have q1_0 : w1.cell? ⟨w.heap.size, 0, none⟩ = some (.pointer (some ⟨g, 0, none⟩)) := hI1.pa.cell 0
 have HC1 := hid (Tx hI1 (Ay m.pos.toNat) (fun hh W hW => UE (hI1.later hW) (HM.out.pos hh) zA2 zA2))
 have HI1 := hid hI1
 clear hI1;go_wp2_with fail;refine HC1.out.mono ?_
 rintro r w2 ⟨rfl, hst⟩;obtain ⟨a2', c2', hI2, ht, ha⟩ := HI1.out.step hst
 have HT1 := hid (And.intro ht ha)
 clear hst ht ha;have q2_0 : w2.cell? ⟨w.heap.size, 0, none⟩ = some (.pointer (some ⟨g, 0, none⟩)) := hI2.pa.cell 0
 have HC2 := hid (Tw hI2 (Ay m.count.toNat) (fun hh W hW => So (hI2.later hW) (HM.out.count hh) zA0 zA0))
 have HI2 := hid hI2
 clear hI2;go_wp2_with fail;refine HC2.out.mono ?_
 rintro r w3 ⟨rfl, hst⟩;obtain ⟨a3', c3', hI3, ht, ha⟩ := HI2.out.step hst
 have HT2 := hid (And.intro ht ha)
 clear hst ht ha;have q3_0 : w3.cell? ⟨w.heap.size, 0, none⟩ = some (.pointer (some ⟨g, 0, none⟩)) := hI3.pa.cell 0
 have HC3 := hid (Tv hI3 ([UInt8.ofNat m.state.toNat]) (fun hh W hW => Sk (hI3.later hW) (by have := HM.out.state hh; have := OT m.kind; omega) zAo zAo))
 have HI3 := hid hI3
 clear hI3;go_wp2_with fail;refine HC3.out.mono ?_
 rintro r w4 ⟨rfl, hst⟩;obtain ⟨a4', c4', hI4, ht, ha⟩ := HI3.out.step hst
 have HT3 := hid (And.intro ht ha)
 clear hst ht ha;have q4_0 : w4.cell? ⟨w.heap.size, 0, none⟩ = some (.pointer (some ⟨g, 0, none⟩)) := hI4.pa.cell 0
 have HC4 := hid (Tu hI4 (D4 m.streams) (fun hh W hW => OK (hI4.later hW) (HM.out.streams hh) zA3 zA3))
 have HI4 := hid hI4
 clear hI4;go_wp2_with fail;refine HC4.out.mono ?_
 rintro r w5 ⟨rfl, hst⟩;obtain ⟨a5', c5', hI5, ht, ha⟩ := HI4.out.step hst
 have HT4 := hid (And.intro ht ha)
 clear hst ht ha;have q5_0 : w5.cell? ⟨w.heap.size, 0, none⟩ = some (.pointer (some ⟨g, 0, none⟩)) := hI5.pa.cell 0
 have HC5 := hid (Sn hI5 (Cx m.pos m.links) (fun hh W hW => Sl (hI5.later hW) HBK.out (HM.out.links hh) zAw zAw))
 have HI5 := hid hI5
 clear hI5;go_wp2_with fail;refine HC5.out.mono ?_
 rintro r w6 ⟨rfl, hst⟩;obtain ⟨a6', c6', hI6, ht, ha⟩ := HI5.out.step hst
 have HT5 := hid (And.intro ht ha)
 clear hst ht ha;have q6_0 : w6.cell? ⟨w.heap.size, 0, none⟩ = some (.pointer (some ⟨g, 0, none⟩)) := hI6.pa.cell 0
 have z6_0 : w6.cell? ⟨w.heap.size + 1, 0, none⟩ = some (.int .i64 m.kind) := hI6.pb.cell 0
 have z6_1 : w6.cell? ⟨w.heap.size + 1, 1, none⟩ = some (.int .u64 m.epoch) := hI6.pb.cell 1
 have z6_2 : w6.cell? ⟨w.heap.size + 1, 2, none⟩ = some (.int .u64 m.seq) := hI6.pb.cell 2
 have z6_3 : w6.cell? ⟨w.heap.size + 1, 3, none⟩ = some (.int .u64 m.pos) := hI6.pb.cell 3
 have z6_4 : w6.cell? ⟨w.heap.size + 1, 4, none⟩ = some (.int .i64 m.count) := hI6.pb.cell 4
 have z6_5 : w6.cell? ⟨w.heap.size + 1, 5, none⟩ = some (.int .i64 m.state) := hI6.pb.cell 5
 have z6_6 : w6.cell? ⟨w.heap.size + 1, 6, none⟩ = some (.slice a1 m.streams.length c1) := hI6.pb.cell 6
 have z6_7 : w6.cell? ⟨w.heap.size + 1, 7, none⟩ = some (.slice a2 m.links.length c2) := hI6.pb.cell 7
 have z6_8 : w6.cell? ⟨w.heap.size + 1, 8, none⟩ = some (.slice a3 m.data.length c3) := hI6.pb.cell 8
 have z6_9 : w6.cell? ⟨w.heap.size + 1, 9, none⟩ = some (.int .u64 m.sea.epoch) := hI6.pb.cell 9
 have z6_10 : w6.cell? ⟨w.heap.size + 1, 10, none⟩ = some (.int .u64 m.sea.node) := hI6.pb.cell 10
 have z6_11 : w6.cell? ⟨w.heap.size + 1, 11, none⟩ = some (.int .u64 m.sea.tail) := hI6.pb.cell 11
 have z6_12 : w6.cell? ⟨w.heap.size + 1, 12, none⟩ = some (.int .u64 m.proj.epoch) := hI6.pb.cell 12
 have z6_13 : w6.cell? ⟨w.heap.size + 1, 13, none⟩ = some (.slice a4 m.proj.stripes.length c4) := hI6.pb.cell 13
 have HI6 := hid hI6
 clear hI6;go_wp2_with fail;refine (HHD.out _).mono ?_
 rintro r v6 ⟨rfl, hb6⟩;have hJ6 := HI6.out.later hb6
 clear z6_0 z6_1 z6_2 z6_3 z6_4 z6_5 z6_6 z6_7 z6_8 z6_9 z6_10 z6_11 z6_12 z6_13;have u6_0 : v6.cell? ⟨w.heap.size, 0, none⟩ = some (.pointer (some ⟨g, 0, none⟩)) := hJ6.pa.cell 0
 have u6_8 : v6.cell? ⟨w.heap.size + 1, 8, none⟩ = some (.slice a3 m.data.length c3) := hJ6.pb.cell 8
 have HK6 : Hid (Ca m.kind m.state = true → Calls Tryz.prog 74 #[.pointer (some ⟨g, 0, none⟩), .slice a3 m.data.length c3] v6 fun r w' => r = .returned (.tuple #[]) ∧ At v6 g base most (J ++ AV (AK m.kind 1) (Ay m.pos.toNat) ++ AV (AK m.kind 2) (Ay m.count.toNat) ++ AV (AK m.kind 4) ([UInt8.ofNat m.state.toNat]) ++ AV (AK m.kind 8) (D4 m.streams) ++ AV (AK m.kind 16) (Cx m.pos m.links) ++ Bp m.data) a6' w') := hid (fun hh => Nh v6 hJ6.pen m.data a3 _ c3 hJ6.data.data hdl zA6 zA6)
 have HJ6 := hid hJ6
 have HB6 := hid hb6
 clear hJ6 hb6;go_upto_if 27 with (fail)
 go_cut [27] from 28 to 31 (fun s27 V => ∃ a' c', Gw V g base most (J ++ AV (AK m.kind 1) (Ay m.pos.toNat) ++ AV (AK m.kind 2) (Ay m.count.toNat) ++ AV (AK m.kind 4) ([UInt8.ofNat m.state.toNat]) ++ AV (AK m.kind 8) (D4 m.streams) ++ AV (AK m.kind 16) (Cx m.pos m.links) ++ AV (Ca m.kind m.state) (Bp m.data)) a' c' w.heap.size (w.heap.size + 1) m a1 c1 a2 c2 a3 c3 a4 c4 ∧ Tch (Dr g a6') v6 V ∧ (a'.map Addr.block = a6'.map Addr.block ∨ ∃ q, a'.map Addr.block = some q ∧ v6.heap.size ≤ q))
 case first =>
  have HK := HK6.out
  have hq : Ca m.kind m.state = true ∨ Ca m.kind m.state = false := by cases Ca m.kind m.state <;> simp
  rcases hq with hq | hq
  ·have HKK := hid (HK hq)
   clear HK;rw [hq]
   go_wp2_with fail;refine HKK.out.mono ?_
   rintro r x1 ⟨rfl, hst⟩;obtain ⟨a', c', hI, ht, ha⟩ := HJ6.out.step hst
   go_wp2_with fail;go_meet
   case rel => exact ⟨a', c', by simpa [AV, hq] using hI, ht, ha⟩
  ·clear HK
   rw [hq]
   go_wp2_with fail;go_meet
   case rel => exact ⟨a6', c6', by simpa [AV, hq] using HJ6.out, Tch.refl _ _, .inl rfl⟩
 case rest =>
 obtain ⟨a7', c7', hI7, ht, ha⟩ := hcut
 obtain ⟨w7, hwn⟩ : ∃ W : World, W = wc := ⟨_, rfl⟩
 subst hwn;have HT6 := hid (And.intro ht ha)
 clear ht ha;have q7_0 : w7.cell? ⟨w.heap.size, 0, none⟩ = some (.pointer (some ⟨g, 0, none⟩)) := hI7.pa.cell 0
 have HC7 := hid (Sm hI7 (DH m.sea) (fun hh W hW => Ts (hI7.later hW) (HM.out.seal_ hh) zA9 zA9))
 have HI7 := hid hI7
 clear hI7;go_wp2_with fail;refine HC7.out.mono ?_
 rintro r w8 ⟨rfl, hst⟩;obtain ⟨a8', c8', hI8, ht, ha⟩ := HI7.out.step hst
 have HT7 := hid (And.intro ht ha)
 clear hst ht ha;have q8_0 : w8.cell? ⟨w.heap.size, 0, none⟩ = some (.pointer (some ⟨g, 0, none⟩)) := hI8.pa.cell 0
 have HC8 := hid (Qj hI8 (DI m.proj) (fun hh W hW => Tt (hI8.later hW) (HM.out.proj hh) zA7 zA7))
 have HI8 := hid hI8
 clear hI8;go_wp2_with fail;refine HC8.out.mono ?_
 rintro r w9 ⟨rfl, hst⟩;obtain ⟨a9', c9', hI9, ht, ha⟩ := HI8.out.step hst
 have HT8 := hid (And.intro ht ha)
 clear hst ht ha;have hn := At.refl hI9.pen
 have hn := At.trans (J := J) HT8.out.1 HT8.out.2 hn
 have hn := At.trans (J := J) HT7.out.1 HT7.out.2 hn
 have hn := At.trans (J := J) HT6.out.1 HT6.out.2 hn
 have hn := At.later HB6.out hn
 have hn := At.trans (J := J) HT5.out.1 HT5.out.2 hn
 have hn := At.trans (J := J) HT4.out.1 HT4.out.2 hn
 have hn := At.trans (J := J) HT3.out.1 HT3.out.2 hn
 have hn := At.trans (J := J) HT2.out.1 HT2.out.2 hn
 have hn := At.trans (J := J) HT1.out.1 HT1.out.2 hn
 have hn := At.later HBW1.out hn
 have HST := hid hn
 clear hn hI9;go_wp2_with fail;first | go_end0 | refine Al (Aw rfl _ _ _) rfl ?_
 refine ⟨rfl, ?_⟩
 have := HST.out
 rw [hmb]
 simpa only [Av] using this
theorem NZ (w : World) {g base most : Nat} {J : List UInt8} {a : Option Addr} {c : Nat} (h : BR w g base most J a c) (m : Msg) (a1 : Option Addr) (c1 : Nat) (a2 : Option Addr) (c2 : Nat) (a3 : Option Addr) (c3 : Nat) (a4 : Option Addr) (c4 : Nat) (hd : A2 (· < w.heap.size) w m a1 c1 a2 c2 a3 c3 a4 c4)
  (hbk : ∀ x ∈ m.links, x.backs.length ≤ 1000000) (hR : FE m = false) :
  Calls Tryz.prog 16 #[.pointer (some ⟨g, 0, none⟩), .agg #[.int .i64 m.kind, .int .u64 m.epoch, .int .u64 m.seq, .int .u64 m.pos, .int .i64 m.count, .int .i64 m.state, .slice a1 m.streams.length c1, .slice a2 m.links.length c2, .slice a3 m.data.length c3, .int .u64 m.sea.epoch, .int .u64 m.sea.node, .int .u64 m.sea.tail, .int .u64 m.proj.epoch, .slice a4 m.proj.stripes.length c4]] w fun r w' => r = .returned (.tuple #[]) ∧ Blk w' g 87 #[.int .i64 most, .slice a J.length c, .int .i64 3] ∧ Tch (· = g) w w' := by
 have HRT := hid (fun (W : World) (hW : Below w.heap.size w W) => I5 m a1 c1 a2 c2 a3 c3 a4 c4 W (A2.lift hd hW) (fun x hx => zBp))
 rw [hR] at HRT
 have HF := hid (fun (W : World) (hW : Below w.heap.size w W) => ON W (h.later hW) 3)
 clear h hd hR hbk;go_enter Tryz.func16, Tryz.ntmps16
 go_wp2_with fail;refine (HRT.out _ zA).mono ?_
 rintro r w1 ⟨rfl, hb1⟩;have hbw1 : Below w.heap.size w w1 := zA
 have p0 := hb1.cell (p := ⟨w.heap.size, 0, none⟩) zJ
 simp at p0
 clear hb1;go_wp2_with fail;refine (HF.out _ hbw1).mono ?_
 rintro r w2 ⟨rfl, hB2, hT2⟩;have HB2 := hid hB2
 have HT2 := hid hT2
 clear hB2 hT2 p0;go_wp2_with fail;first | go_end0 | refine Al (Aw rfl _ _ _) rfl ?_
 exact ⟨rfl, HB2.out, Tch.trans (F := (· = g)) (Tch.Cl hbw1) HT2.out (fun _ _ h => h)⟩
def Jo (m : Msg) : List UInt8 × Int := if FE m = true then (EL m, 0) else ([], 3)
theorem Rk (w : World) (m : Msg) (a1 : Option Addr) (c1 : Nat) (a2 : Option Addr) (c2 : Nat) (a3 : Option Addr) (c3 : Nat) (a4 : Option Addr) (c4 : Nat) (hd : A2 (· < w.heap.size) w m a1 c1 a2 c2 a3 c3 a4 c4) (hbk : ∀ x ∈ m.links, x.backs.length ≤ 1000000) (hln : m.data.length ≤ 10000000000) :
  Calls Tryz.prog 14 #[.agg #[.int .i64 m.kind, .int .u64 m.epoch, .int .u64 m.seq, .int .u64 m.pos, .int .i64 m.count, .int .i64 m.state, .slice a1 m.streams.length c1, .slice a2 m.links.length c2, .slice a3 m.data.length c3, .int .u64 m.sea.epoch, .int .u64 m.sea.node, .int .u64 m.sea.tail, .int .u64 m.proj.epoch, .slice a4 m.proj.stripes.length c4]] w fun r w' => ∃ v, r = .returned (.tuple #[v, .int .i64 (Jo m).2]) ∧ Ah.r (fun q => w.heap.size ≤ q ∧ q < w'.heap.size) w' [v] (Jo m).1 ∧ Below w.heap.size w w' := by
 have HD := hid hd
 have hmo : (65536 : Int) + (m.data.length : Int) = ((65536 + m.data.length : Nat) : Int) := zC
 have HN := hid (fun W : World => (by have := Jk W (65536 + m.data.length) zC; rw [← hmo] at this; exact this : Calls Tryz.prog 15 #[.int .i64 ((65536 : Int) + (m.data.length : Int))] W fun r w' => r = .returned (.pointer (some ⟨W.heap.size, 0, none⟩)) ∧ BR w' W.heap.size W.heap.size (65536 + m.data.length) [] none 0 ∧ Below W.heap.size W w'))
 unfold Jo;have HBX : Hid (Blk (w.alloc (.cells #[.int .i64 m.kind, .int .u64 m.epoch, .int .u64 m.seq, .int .u64 m.pos, .int .i64 m.count, .int .i64 m.state, .slice a1 m.streams.length c1, .slice a2 m.links.length c2, .slice a3 m.data.length c3, .int .u64 m.sea.epoch, .int .u64 m.sea.node, .int .u64 m.sea.tail, .int .u64 m.proj.epoch, .slice a4 m.proj.stripes.length c4] 32)) w.heap.size 32 #[.int .i64 m.kind, .int .u64 m.epoch, .int .u64 m.seq, .int .u64 m.pos, .int .i64 m.count, .int .i64 m.state, .slice a1 m.streams.length c1, .slice a2 m.links.length c2, .slice a3 m.data.length c3, .int .u64 m.sea.epoch, .int .u64 m.sea.node, .int .u64 m.sea.tail, .int .u64 m.proj.epoch, .slice a4 m.proj.stripes.length c4]) := hid (Blk.new w _ _)
 have hb0 : Below w.heap.size w (w.alloc (.cells #[.int .i64 m.kind, .int .u64 m.epoch, .int .u64 m.seq, .int .u64 m.pos, .int .i64 m.count, .int .i64 m.state, .slice a1 m.streams.length c1, .slice a2 m.links.length c2, .slice a3 m.data.length c3, .int .u64 m.sea.epoch, .int .u64 m.sea.node, .int .u64 m.sea.tail, .int .u64 m.proj.epoch, .slice a4 m.proj.stripes.length c4] 32)) := zB
 cases hR : FE m
 ·rw [An zO]
  have HPT := hid (fun (W : World) {g base most : Nat} {a : Option Addr} {c : Nat} (h : BR W g base most [] a c) (hW : Below w.heap.size w W) => NZ W h m a1 c1 a2 c2 a3 c3 a4 c4 (A2.lift HD.out hW) hbk hR)
  clear hd hR hbk hmo;go_enter Tryz.func14, Tryz.ntmps14
  go_wp2_with fail;generalize w.alloc (.cells #[.int .i64 m.kind, .int .u64 m.epoch, .int .u64 m.seq, .int .u64 m.pos, .int .i64 m.count, .int .i64 m.state, .slice a1 m.streams.length c1, .slice a2 m.links.length c2, .slice a3 m.data.length c3, .int .u64 m.sea.epoch, .int .u64 m.sea.node, .int .u64 m.sea.tail, .int .u64 m.proj.epoch, .slice a4 m.proj.stripes.length c4] 32) = w0 at *
  refine (HN.out _).mono ?_
  rintro r w2 ⟨rfl, hp2, hb2⟩;have hB2 := HBX.out.later hb2
  have y0 : w2.cell? ⟨w.heap.size, 0, none⟩ = some (.int .i64 m.kind) := hB2.cell 0
  have y1 : w2.cell? ⟨w.heap.size, 1, none⟩ = some (.int .u64 m.epoch) := hB2.cell 1
  have y2 : w2.cell? ⟨w.heap.size, 2, none⟩ = some (.int .u64 m.seq) := hB2.cell 2
  have y3 : w2.cell? ⟨w.heap.size, 3, none⟩ = some (.int .u64 m.pos) := hB2.cell 3
  have y4 : w2.cell? ⟨w.heap.size, 4, none⟩ = some (.int .i64 m.count) := hB2.cell 4
  have y5 : w2.cell? ⟨w.heap.size, 5, none⟩ = some (.int .i64 m.state) := hB2.cell 5
  have y6 : w2.cell? ⟨w.heap.size, 6, none⟩ = some (.slice a1 m.streams.length c1) := hB2.cell 6
  have y7 : w2.cell? ⟨w.heap.size, 7, none⟩ = some (.slice a2 m.links.length c2) := hB2.cell 7
  have y8 : w2.cell? ⟨w.heap.size, 8, none⟩ = some (.slice a3 m.data.length c3) := hB2.cell 8
  have y9 : w2.cell? ⟨w.heap.size, 9, none⟩ = some (.int .u64 m.sea.epoch) := hB2.cell 9
  have y10 : w2.cell? ⟨w.heap.size, 10, none⟩ = some (.int .u64 m.sea.node) := hB2.cell 10
  have y11 : w2.cell? ⟨w.heap.size, 11, none⟩ = some (.int .u64 m.sea.tail) := hB2.cell 11
  have y12 : w2.cell? ⟨w.heap.size, 12, none⟩ = some (.int .u64 m.proj.epoch) := hB2.cell 12
  have y13 : w2.cell? ⟨w.heap.size, 13, none⟩ = some (.slice a4 m.proj.stripes.length c4) := hB2.cell 13
  have hbw2 := Af hb2 hb0
  have hs1 := hb0.size
  have HP2 := hid (HPT.out w2 hp2 hbw2)
  clear hp2 hB2;go_wp2_with fail;refine HP2.out.mono ?_
  rintro r w3 ⟨rfl, hB3, hT3⟩;have hbw3 : Below w.heap.size w w3 := hbw2.trans (hT3.Cj hbw2.size (fun q _ e => zC))
  have HB := hid (Mp w3 (k := 3) zC hB3)
  clear hB3 hT3 y0 y1 y2 y3 y4 y5 y6 y7 y8 y9 y10 y11 y12 y13;go_wp2_with fail;refine HB.out.mono ?_
  rintro r w4 ⟨rfl, rfl⟩;go_wp2_with fail;go_ret2
  exact ⟨_, rfl, Hk rfl rfl zC, hbw3⟩
 ·rw [Am rfl]
  have hbl := Jp hR
  have HPT := hid (fun (W : World) {g base most : Nat} {a : Option Addr} {c : Nat} (h : BR W g base most [] a c) (hW : A2 (fun q => q < W.heap.size ∧ ¬ Dr g a q) W m a1 c1 a2 c2 a3 c3 a4 c4) (hf : (EL m).length ≤ most) => Mc W h m a1 c1 a2 c2 a3 c3 a4 c4 hW hbk hR (by simpa using hf) zJ)
  have hfit : (EL m).length ≤ 65536 + m.data.length := zC
  generalize EL m = K at *
  clear hd hR hbk hmo hbl;go_enter Tryz.func14, Tryz.ntmps14
  go_wp2_with fail;generalize w.alloc (.cells #[.int .i64 m.kind, .int .u64 m.epoch, .int .u64 m.seq, .int .u64 m.pos, .int .i64 m.count, .int .i64 m.state, .slice a1 m.streams.length c1, .slice a2 m.links.length c2, .slice a3 m.data.length c3, .int .u64 m.sea.epoch, .int .u64 m.sea.node, .int .u64 m.sea.tail, .int .u64 m.proj.epoch, .slice a4 m.proj.stripes.length c4] 32) = w0 at *
  refine (HN.out _).mono ?_
  rintro r w2 ⟨rfl, hp2, hb2⟩;have hB2 := HBX.out.later hb2
  have y0 : w2.cell? ⟨w.heap.size, 0, none⟩ = some (.int .i64 m.kind) := hB2.cell 0
  have y1 : w2.cell? ⟨w.heap.size, 1, none⟩ = some (.int .u64 m.epoch) := hB2.cell 1
  have y2 : w2.cell? ⟨w.heap.size, 2, none⟩ = some (.int .u64 m.seq) := hB2.cell 2
  have y3 : w2.cell? ⟨w.heap.size, 3, none⟩ = some (.int .u64 m.pos) := hB2.cell 3
  have y4 : w2.cell? ⟨w.heap.size, 4, none⟩ = some (.int .i64 m.count) := hB2.cell 4
  have y5 : w2.cell? ⟨w.heap.size, 5, none⟩ = some (.int .i64 m.state) := hB2.cell 5
  have y6 : w2.cell? ⟨w.heap.size, 6, none⟩ = some (.slice a1 m.streams.length c1) := hB2.cell 6
  have y7 : w2.cell? ⟨w.heap.size, 7, none⟩ = some (.slice a2 m.links.length c2) := hB2.cell 7
  have y8 : w2.cell? ⟨w.heap.size, 8, none⟩ = some (.slice a3 m.data.length c3) := hB2.cell 8
  have y9 : w2.cell? ⟨w.heap.size, 9, none⟩ = some (.int .u64 m.sea.epoch) := hB2.cell 9
  have y10 : w2.cell? ⟨w.heap.size, 10, none⟩ = some (.int .u64 m.sea.node) := hB2.cell 10
  have y11 : w2.cell? ⟨w.heap.size, 11, none⟩ = some (.int .u64 m.sea.tail) := hB2.cell 11
  have y12 : w2.cell? ⟨w.heap.size, 12, none⟩ = some (.int .u64 m.proj.epoch) := hB2.cell 12
  have y13 : w2.cell? ⟨w.heap.size, 13, none⟩ = some (.slice a4 m.proj.stripes.length c4) := hB2.cell 13
  have hbw2 := Af hb2 hb0
  have hs1 := hb0.size
  have HPA := hid hp2
  have HP2 := hid (HPT.out w2 hp2 (A2.tr (fun A cs x hx => A.mono (A.keep hx fun q hq => hbw2.block q hq) fun q hq => ⟨by have := hbw2.size; omega, fun hf => by have := (hp2.Eo hf).1; omega⟩) HD.out) hfit)
  clear hp2 hB2;go_wp2_with fail;refine HP2.out.mono ?_
  rintro r w3 ⟨rfl, hst⟩;rw [Bj] at hst
  have hbw3 : Below w.heap.size w w3 := hbw2.trans (HPA.out.below hs1 hbw2.size hst)
  obtain ⟨a9, c9, hp3, _, _⟩ := hst
  have HB := hid (Iw w3 hp3)
  have hs3 := hbw3.size
  clear hp3 y0 y1 y2 y3 y4 y5 y6 y7 y8 y9 y10 y11 y12 y13;go_wp2_with fail;refine HB.out.mono ?_
  rintro r w4 ⟨v, rfl, hv, hb4⟩;have hbe := Af hb4 hbw3
  have HV := hid (Ah.mono (S' := fun q => w.heap.size ≤ q ∧ q < w4.heap.size) hv fun q hq => ⟨zY, hq.2⟩)
  clear hv;go_wp2_with fail;go_ret2
  exact ⟨_, rfl, HV.out, hbe⟩
open Go.RowKit Go.Bs
def OW {α : Type} (K : Nat) (p : α → Bool) (l : List α) : Bool := decide (K < l.length) || (l.take K).any p
def ET {α : Type} (K : Nat) (p : α → Bool) (l : List α) (k : Nat) : Bool := decide (K < l.length) || ((l.take K).drop k).any p
theorem LO {α : Type} {K : Nat} {p : α → Bool} {l : List α} (h : OW K p l = false) : l.length ≤ K ∧ ∀ x ∈ l, p x = false := by
 simp only [OW, Bool.or_eq_false_iff, decide_eq_false_iff_not, List.any_eq_false] at h
 obtain ⟨h1, h2⟩ := h
 rw [CY zC] at h2
 exact ⟨zC, fun x hx => by simpa using h2 x hx⟩
theorem Hd {α : Type} (K : Nat) (p : α → Bool) (l : List α) (k : Nat) (h : k < l.length) (h2 : k < K) : ET K p l k = (p l[k] || ET K p l (k + 1)) := by
 unfold ET;have e : (l.take K)[k]'zJ = l[k] := zO
 rw [AW (show k < (l.take K).length by simp; omega), List.any_cons, e]
 cases decide (K < l.length) <;> cases p l[k] <;> simp
theorem Vh {α : Type} (K : Nat) (p : α → Bool) (l : List α) (k : Nat) (h : l.length ≤ k ∨ K ≤ k) : ET K p l k = decide (K < l.length) := by
 unfold ET;rw [List.drop_of_length_le zJ]
 simp
def He (l : List BM) : Bool := OW 50 (fun x => decide (50 < x.backs.length)) l
theorem QD (l : List BM) (a : Option Addr) (n c : Nat) (w : World) (hl : BU.r (· < w.heap.size) w [.slice a n c] l) :
  Calls Tryz.prog 58 #[.slice a n c] w fun r w' => r = .returned (.bool (He l)) ∧ Below w.heap.size w w' := by
 obtain ⟨rfl, hm, _, _⟩ := AS hl
 have HL := hid hl; clear hl
 go_enter Tryz.func58, Tryz.ntmps58
 go_wp2_with fail;go_loop [3] (fun i => ∃ k : Nat, k ≤ l.length ∧ k ≤ 50 ∧ i = .int .i64 k ∧ Hid (He l = ET 50 (fun x => decide (50 < x.backs.length)) l k)) (fun i => l.length - (intOf i).toNat)
 case atStart => exact ⟨0, Aj _, Aj _, rfl, hid rfl⟩
 case round =>
  obtain ⟨k, hk, hk2, rfl, hf⟩ := hrel
  by_cases hlt : k < l.length
  ·by_cases h450 : k < 50
   ·obtain ⟨b, o, hA, hbb, a1, c1, X0, X1, _, _⟩ := DE HL.out hlt
    subst hA;have hst := hid (Hd 50 (fun x => decide (50 < x.backs.length)) l k hlt h450)
    generalize l[k] = x at *
    generalize x.stream = xs at *
    generalize x.backs.length = n1 at *
    by_cases h3 : 50 < n1
    ·have hff : Hid (He l = true) := hid zAy
     have d3 : decide ((50 : Int) < (n1 : Int)) = true := zJ
     clear h3;go_wp2;go_ret;exact ⟨zH, zB⟩
    ·have hff : Hid (He l = ET 50 (fun x => decide (50 < x.backs.length)) l (k + 1)) := hid zAy
     have d3 : decide ((50 : Int) < (n1 : Int)) = false := zJ
     clear h3;go_wp2;go_round
     case rel => exact ⟨k + 1, zC, zC, zV, hff⟩
     case measure => simp [intOf]; omega
   ·have hff : Hid (He l = decide ((50 : Int) < (l.length : Int))) := hid ZP
    go_wp2;go_ret;exact ⟨zH, zB⟩
  ·have hff : Hid (He l = decide ((50 : Int) < (l.length : Int))) := hid ZQ
   go_wp2;go_ret;exact ⟨zH, zB⟩
def Gq (l : List (List Int)) : Bool := OW 20 (fun x => decide (20 < x.length)) l
def Hf (l : List BD) : Bool := OW 70 (fun x => Gq x.sets) l
def Kb (m : Msg) : Bool := decide (50 < m.streams.length) || (He m.links || (decide (300 < m.data.length) || Hf m.proj.stripes))
structure V8 (m : Msg) : Prop where
 streams : m.streams.length ≤ 50
 links : m.links.length ≤ 50
 backs : ∀ x ∈ m.links, x.backs.length ≤ 50
 data : m.data.length ≤ 300
 stripes : m.proj.stripes.length ≤ 70
 sets : ∀ s ∈ m.proj.stripes, s.sets.length ≤ 20 ∧ ∀ x ∈ s.sets, x.length ≤ 20
theorem Sw {m : Msg} (h : Kb m = false) : V8 m := by
 simp only [Kb, Bool.or_eq_false_iff, decide_eq_false_iff_not] at h
 obtain ⟨h1, h2, h3, h4⟩ := h
 obtain ⟨l1, l2⟩ := LO h2
 obtain ⟨s1, s2⟩ := LO h4
 refine ⟨zC, l1, fun x hx => by have := l2 x hx; simp only [decide_eq_false_iff_not] at this; omega, zC, s1, fun s hs => ?_⟩
 obtain ⟨t1, t2⟩ := LO (s2 s hs)
 exact ⟨t1, fun x hx => by have := t2 x hx; simp only [decide_eq_false_iff_not] at this; omega⟩
theorem QF (lo hp : Int) (l : List (List Int)) (a : Option Addr) (n c : Nat) (w : World) (hl : DW.r (· < w.heap.size) w [.slice a n c] l) :
  Calls Tryz.prog 144 #[.agg #[.int .u64 lo, .int .u64 hp, .slice a n c]] w fun r w' => r = .returned (.bool (Gq l)) ∧ Below w.heap.size w w' := by
 obtain ⟨rfl, hm, _, _⟩ := AS hl
 have hb0 : Below w.heap.size w (w.alloc (.cells #[.int .u64 lo, .int .u64 hp, .slice a l.length c] 155)) := zB
 have x2 : (w.alloc (.cells #[.int .u64 lo, .int .u64 hp, .slice a l.length c] 155)).cell? ⟨w.heap.size, 2, none⟩ = some (.slice a l.length c) := zO
 go_enter Tryz.func144, Tryz.ntmps144
 go_wp2_with fail;generalize w.alloc (.cells #[.int .u64 lo, .int .u64 hp, .slice a l.length c] 155) = w0 at *
 have HL := hid (lift hl hb0)
 clear hl;go_loop [3] (fun i => ∃ k : Nat, k ≤ l.length ∧ k ≤ 20 ∧ i = .int .i64 k ∧ Hid (Gq l = ET 20 (fun x => decide (20 < x.length)) l k)) (fun i => l.length - (intOf i).toNat)
 case atStart => exact ⟨0, Aj _, Aj _, rfl, hid rfl⟩
 case round =>
  obtain ⟨k, hk, hk2, rfl, hf⟩ := hrel
  by_cases hlt : k < l.length
  ·have i1 : (k : Int) < (l.length : Int) := by omega
   have e1 : decide ((k : Int) < (l.length : Int)) = true := Ae i1
   by_cases h20 : k < 20
   ·have e2 : decide ((k : Int) < 20) = true := Ae zC
    obtain ⟨b, o, hA, hbb, ak, ck, X0, _⟩ := EO HL.out hlt
    subst hA;have hst := hid (Hd 20 (fun x => decide (20 < x.length)) l k hlt h20)
    generalize l[k] = x at *
    generalize x.length = n1 at *
    by_cases h3 : 20 < n1
    ·have hff : Hid (Gq l = true) := hid zAy
     have d3 : decide ((20 : Int) < (n1 : Int)) = true := Ae zC
     clear h3;go_wp2_with fail;go_ret;exact ⟨zH, hb0⟩
    ·have hff : Hid (Gq l = ET 20 (fun x => decide (20 < x.length)) l (k + 1)) := hid zAy
     have d3 : decide ((20 : Int) < (n1 : Int)) = false := Ad zC
     clear h3;go_wp2_with fail;go_round
     case rel => exact ⟨k + 1, zC, zC, zV, hff⟩
     case measure => (simp [intOf]; try omega)
   ·have e2 : decide ((k : Int) < 20) = false := Ad zC
    have hff : Hid (Gq l = decide ((20 : Int) < (l.length : Int))) := hid ZP
    go_wp2_with fail;go_ret;exact ⟨zH, hb0⟩
  ·have e1 : decide ((k : Int) < (l.length : Int)) = false := Ad zC
   have hff : Hid (Gq l = decide ((20 : Int) < (l.length : Int))) := hid ZQ
   go_wp2_with fail;go_ret;exact ⟨zH, hb0⟩
theorem QE (ep : Int) (l : List BD) (a : Option Addr) (n c : Nat) (w : World) (hl : Bg.r (· < w.heap.size) w [.slice a n c] l) :
  Calls Tryz.prog 59 #[.agg #[.int .u64 ep, .slice a n c]] w fun r w' => r = .returned (.bool (Hf l)) ∧ Below w.heap.size w w' := by
 obtain ⟨rfl, hm, _, _⟩ := AS hl
 have hb0 : Below w.heap.size w (w.alloc (.cells #[.int .u64 ep, .slice a l.length c] 30)) := zB
 have x1 : (w.alloc (.cells #[.int .u64 ep, .slice a l.length c] 30)).cell? ⟨w.heap.size, 1, none⟩ = some (.slice a l.length c) := zO
 have hs0 : w.heap.size < (w.alloc (.cells #[.int .u64 ep, .slice a l.length c] 30)).heap.size := zO
 go_enter Tryz.func59, Tryz.ntmps59
 go_wp2_with fail;generalize w.alloc (.cells #[.int .u64 ep, .slice a l.length c] 30) = w0 at *
 have HL := hid (lift hl hb0)
 have HB0 := hid hb0
 clear hl hb0;go_loopw [3] (fun i wr => ∃ k : Nat, k ≤ l.length ∧ k ≤ 70 ∧ i = .int .i64 k ∧ Hid (Hf l = ET 70 (fun x => Gq x.sets) l k) ∧ Below w0.heap.size w0 wr) (fun i _ => l.length - (intOf i).toNat)
 case atStart => exact ⟨0, Aj _, Aj _, rfl, hid rfl, Below.refl _ _⟩
 case round =>
  obtain ⟨k, hk, hk2, rfl, hf, hb⟩ := hrel
  have X1 := (hb.cell (p := ⟨w.heap.size, 1, none⟩) hs0).trans x1
  have HBE := hid (HB0.out.trans (hb.mono HB0.out.size))
  by_cases hlt : k < l.length
  ·have i1 : (k : Int) < (l.length : Int) := by omega
   have e1 : decide ((k : Int) < (l.length : Int)) = true := Ae i1
   by_cases h20 : k < 70
   ·have e2 : decide ((k : Int) < 70) = true := Ae zC
    obtain ⟨b, o, hA, hbb, ak, ck, u0, u1, u2, _, _, xl⟩ := DG (lift HL.out hb) hlt
    subst hA;have hst := hid (Hd 70 (fun x => Gq x.sets) l k hlt h20)
    have HC := hid (QF l[k].lo l[k].hi l[k].sets ak _ ck wr xl)
    have HB := hid hb
    clear xl hb;generalize l[k] = x at *
    (try dsimp only at hst)
    cases h3 : Gq x.sets
    ·have hff : Hid (Hf l = ET 70 (fun x => Gq x.sets) l (k + 1)) := hid (by rw [hf.out, hst.out, h3]; simp)
     rw [h3] at HC
     clear h3;go_wp2_with fail;refine HC.out.mono ?_
     rintro r w3 ⟨rfl, hb3⟩;have hbe := Af hb3 HB.out
     go_wp2_with fail;go_roundw
     case rel => exact ⟨k + 1, zC, zC, zV, hff, hbe⟩
     case measure => (simp [intOf]; try omega)
    ·have hff : Hid (Hf l = true) := hid (by rw [hf.out, hst.out, h3]; rfl)
     rw [h3] at HC
     clear h3;go_wp2_with fail;refine HC.out.mono ?_
     rintro r w3 ⟨rfl, hb3⟩;have hbe := Af hb3 HBE.out
     go_wp2_with fail;go_ret;exact ⟨zH, hbe⟩
   ·have e2 : decide ((k : Int) < 70) = false := Ad zC
    have hff : Hid (Hf l = decide ((70 : Int) < (l.length : Int))) := hid ZP
    clear hb;go_wp2_with fail;go_ret;exact ⟨zH, HBE.out⟩
  ·have e1 : decide ((k : Int) < (l.length : Int)) = false := Ad zC
   have hff : Hid (Hf l = decide ((70 : Int) < (l.length : Int))) := hid ZQ
   clear hb;go_wp2_with fail;go_ret;exact ⟨zH, HBE.out⟩
theorem QC (m : Msg) (a1 : Option Addr) (c1 : Nat) (a2 : Option Addr) (c2 : Nat) (a3 : Option Addr) (c3 : Nat) (a4 : Option Addr) (c4 : Nat) (w : World) (hm : A2 (· < w.heap.size) w m a1 c1 a2 c2 a3 c3 a4 c4) :
  Calls Tryz.prog 12 #[.agg #[.int .i64 m.kind, .int .u64 m.epoch, .int .u64 m.seq, .int .u64 m.pos, .int .i64 m.count, .int .i64 m.state, .slice a1 m.streams.length c1, .slice a2 m.links.length c2, .slice a3 m.data.length c3, .int .u64 m.sea.epoch, .int .u64 m.sea.node, .int .u64 m.sea.tail, .int .u64 m.proj.epoch, .slice a4 m.proj.stripes.length c4]] w fun r w' => r = .returned (.bool (Kb m)) ∧ Below w.heap.size w w' := by
 have H23 := hid (fun (W : World) (hW : Below w.heap.size w W) => QD m.links a2 _ c2 W (lift hm.links hW))
 have H20 := hid (fun (W : World) (hW : Below w.heap.size w W) => QE m.proj.epoch m.proj.stripes a4 _ c4 W (lift hm.stripes hW))
 have hl : Kb m = (decide (50 < m.streams.length) || (He m.links || (decide (300 < m.data.length) || Hf m.proj.stripes))) := rfl
 have HBX : Hid (Blk (w.alloc (.cells #[.int .i64 m.kind, .int .u64 m.epoch, .int .u64 m.seq, .int .u64 m.pos, .int .i64 m.count, .int .i64 m.state, .slice a1 m.streams.length c1, .slice a2 m.links.length c2, .slice a3 m.data.length c3, .int .u64 m.sea.epoch, .int .u64 m.sea.node, .int .u64 m.sea.tail, .int .u64 m.proj.epoch, .slice a4 m.proj.stripes.length c4] 32)) w.heap.size 32 #[.int .i64 m.kind, .int .u64 m.epoch, .int .u64 m.seq, .int .u64 m.pos, .int .i64 m.count, .int .i64 m.state, .slice a1 m.streams.length c1, .slice a2 m.links.length c2, .slice a3 m.data.length c3, .int .u64 m.sea.epoch, .int .u64 m.sea.node, .int .u64 m.sea.tail, .int .u64 m.proj.epoch, .slice a4 m.proj.stripes.length c4]) := hid (Blk.new w _ _)
 have hb0 : Below w.heap.size w (w.alloc (.cells #[.int .i64 m.kind, .int .u64 m.epoch, .int .u64 m.seq, .int .u64 m.pos, .int .i64 m.count, .int .i64 m.state, .slice a1 m.streams.length c1, .slice a2 m.links.length c2, .slice a3 m.data.length c3, .int .u64 m.sea.epoch, .int .u64 m.sea.node, .int .u64 m.sea.tail, .int .u64 m.proj.epoch, .slice a4 m.proj.stripes.length c4] 32)) := zB
 generalize Kb m = L at *
 clear hm;by_cases h1 : 50 < m.streams.length
 ·have d1 : decide ((50 : Int) < (m.streams.length : Int)) = true := Ae zC
  have hff : Hid (L = true) := hid (by rw [hl, Ae h1]; rfl)
  clear hl h1;go_enter Tryz.func12, Tryz.ntmps12
  go_wp2_with fail;go_ret;exact ⟨zH, hb0⟩
 ·have d1 : decide ((50 : Int) < (m.streams.length : Int)) = false := Ad zC
  rw [Ad h1, Bool.false_or] at hl
  clear h1;go_enter Tryz.func12, Tryz.ntmps12
  go_wp2_with fail;generalize w.alloc (.cells #[.int .i64 m.kind, .int .u64 m.epoch, .int .u64 m.seq, .int .u64 m.pos, .int .i64 m.count, .int .i64 m.state, .slice a1 m.streams.length c1, .slice a2 m.links.length c2, .slice a3 m.data.length c3, .int .u64 m.sea.epoch, .int .u64 m.sea.node, .int .u64 m.sea.tail, .int .u64 m.proj.epoch, .slice a4 m.proj.stripes.length c4] 32) = w0 at *
  refine (H23.out _ hb0).mono ?_
  rintro r w1 ⟨rfl, hb1⟩;have hb01 := Af hb1 hb0
  cases h2 : He m.links
  ·have X1 := hid (HBX.out.later hb1)
   have y8 : w1.cell? ⟨w.heap.size, 8, none⟩ = some (.slice a3 m.data.length c3) := X1.out.cell 8
   have y12 : w1.cell? ⟨w.heap.size, 12, none⟩ = some (.int .u64 m.proj.epoch) := X1.out.cell 12
   have y13 : w1.cell? ⟨w.heap.size, 13, none⟩ = some (.slice a4 m.proj.stripes.length c4) := X1.out.cell 13
   rw [h2, Bool.false_or] at hl
   clear h2;by_cases h3 : 300 < m.data.length
   ·have d3 : decide ((300 : Int) < (m.data.length : Int)) = true := Ae zC
    have hff : Hid (L = true) := hid (by rw [hl, Ae h3]; rfl)
    clear hl h3;go_wp2_with fail;go_ret;exact ⟨zH, hb01⟩
   ·have d3 : decide ((300 : Int) < (m.data.length : Int)) = false := Ad zC
    have hff : Hid (L = Hf m.proj.stripes) := hid (by rw [hl, Ad h3]; rfl)
    clear hl h3;go_wp2_with fail;refine (H20.out _ hb01).mono ?_
    rintro r w2 ⟨rfl, hb2⟩;have hbe := Af hb2 hb01
    go_wp2_with fail;go_ret;exact ⟨zH, hbe⟩
  ·have hff : Hid (L = true) := hid (by rw [hl, h2]; rfl)
   clear hl h2;go_wp2_with fail;go_ret;exact ⟨zH, hb01⟩
def Bc : Msg := ⟨0, 0, 0, 0, 0, 0, [], [], [], ⟨0, 0, 0⟩, ⟨0, []⟩⟩
theorem Qu {S : Nat → Prop} {w : World} {m : Msg} (hk : inI m.kind) (he : inU m.epoch) (hs : inU m.seq) (hp : inU m.pos) (hc : inI m.count) (ht : inI m.state) (h1 : m.streams = []) (h2 : m.links = []) (h3 : m.data = []) (h4 : inU m.sea.epoch ∧ inU m.sea.node ∧ inU m.sea.tail) (h5 : inU m.proj.epoch) (h6 : m.proj.stripes = []) : A2 S w m none 0 none 0 none 0 none 0 := by
 refine ⟨hk, he, hs, hp, hc, ht, h4.1, h4.2.1, h4.2.2, h5, ?_, ?_, ?_, ?_⟩
 ·rw [h1]; exact Bh (xs := []) rfl (Aj _) (Aj _) (.inl rfl)
 ·rw [h2]; exact Bh (xs := []) rfl (Aj _) (Aj _) (.inl rfl)
 ·rw [h3]; exact Bh (xs := []) rfl (Aj _) (Aj _) (.inl rfl)
 ·rw [h6]; exact Bh (xs := []) rfl (Aj _) (Aj _) (.inl rfl)
theorem Rs.LF {B rest : List UInt8} : ∀ (l : List Int) (prev : Option Int) (p : Nat) (out : List Int), (prev = none ∧ out = [] ∨ ∃ q, prev = some q ∧ 0 ≤ q ∧ out ≠ [] ∧ out.getLastD 0 = q ∧ ∀ x ∈ l.head?, q < x) → Ba l = true → (∀ x ∈ l, 0 ≤ x ∧ x ≤ 18446744073709551615) → B.drop p = Cu (DP prev l) ++ rest → p ≤ B.length →
  Rs.EZ B l.length ⟨p, 0, 0⟩ out = (⟨p + (Cu (DP prev l)).length, 0, 0⟩, out ++ l)
 | [], prev, p, out, _, _, _, _, _ => by simp [Rs.EZ, DP, Cu]
 | x :: l, prev, p, out, hp, hr, hx, h, hl => by
  have h0 := hx x zO
  have hr2 : Ba l = true := by
   cases l with
   | nil => rfl
   | cons y l => simp only [Ba, Ao] at hr; exact hr.2
  have hnx : ∀ y ∈ l.head?, x < y := by
   cases l with
   | nil => simp
   | cons y l => simp only [Ba, Ao, Ar] at hr; intro z hz; simp at hz; subst hz; exact hr.1
  simp only [DP] at h ⊢
  rw [Eh, Av] at h
  have hd := Bi h
  have hro := Bf h hl
  have hrec := Rs.LF l (some x) _ (out ++ [x]) (.inr ⟨x, rfl, h0.1, zO, zO, hnx⟩) hr2 (fun y hy => hx y (by simp [hy])) hd zC
  simp only [AQ, Rs.EZ]
  rcases hp with ⟨rfl, rfl⟩ | ⟨q, rfl, hq0, hne, hq, hlt⟩
  ·dsimp only at h hrec ⊢
   have hN := Rs.Dm (x := x.toNat) zC h
   rw [hN]
   dsimp only;rw [Am rfl, An (fun h => h.1 rfl), Am rfl, toNat_cast h0.1, hrec, Eh, Ag]
   simp [Bw]
  ·have hqx : q < x := hlt x zO
   dsimp only at h hrec ⊢;have hN := Rs.Dm (x := (x - q - 1).toNat) zC h
   rw [hN]
   dsimp only;rw [Am rfl, hq, toNat_cast zC, An zC, An hne, show x - q - 1 + (q + 1) = x by omega, hrec, Eh, Ag]
   simp [Bw]
theorem Rs.UB {B rest : List UInt8} {l : List Int} {O : List (List Int)} {p : Nat} (hn : CT l = true) (ha : Cp l O = true) (hx : ∀ x ∈ l, 0 ≤ x ∧ x ≤ 18446744073709551615) (h : B.drop p = D4 l ++ rest) (hp : p ≤ B.length) :
  (⟨p, 0, 0⟩ : Rs).FT B O = (⟨p + (D4 l).length, 0, 0⟩, l) := by
 unfold CT at hn;simp only [Ao, Ar] at hn
 obtain ⟨⟨h1, h8⟩, hr, hla⟩ := hn
 unfold D4 Gg at h ⊢;rw [Av] at h
 have hi := Rs.FY (m := 8) zC h zC
 have hd := Bi h
 have hro := Bf h hp
 have hR := Rs.LF l none _ [] (.inl ⟨rfl, rfl⟩) hr hx hd zC
 unfold Rs.FT Rs.many;rw [hi]
 dsimp only;rw [An (show ¬ l.length = 0 by omega), hR]
 dsimp only;rw [Bj, Am rfl, An (show ¬ 4294967295 < l.getLastD 0 by omega), Am ha, Ag, Bw]
theorem Lu {L : List (List Int)} : ∀ n, Bv L n = true → ∀ i, i < n → Fu L i = true
 | 0, _, i, hi => absurd hi zC
 | n + 1, h, i, hi => by
  unfold Bv at h;rw [Ao] at h
  by_cases e : i = n
  ·subst e; exact h.2
  ·exact Lu n h.1 i zC
theorem Rs.Oi {B rest : List UInt8} : ∀ (l out : List (List Int)) (p : Nat), (∀ i, out.length ≤ i → i < (out ++ l).length → Fu (out ++ l) i = true) → (∀ x ∈ l, ∀ y ∈ x, 0 ≤ y ∧ y ≤ 18446744073709551615) → B.drop p = Eg l ++ rest → p ≤ B.length →
  Rs.Ft B l.length ⟨p, 0, 0⟩ out = (⟨p + (Eg l).length, 0, 0⟩, out ++ l)
 | [], out, p, _, _, _, _ => by simp [Rs.Ft, Eg]
 | x :: l, out, p, hs, hx, h, hp => by
  have h1 := hs out.length (Ak _) zO
  unfold Fu at h1;rw [show (out ++ x :: l).getD out.length [] = x by simp [G5], List.take_left, Ao] at h1
  have e : Eg (x :: l) = D4 x ++ Eg l := by simp [Eg]
  rw [e, Av] at h
  have hS := Rs.UB h1.1 h1.2 (hx x zO) h hp
  have hd := Bi h
  have hro := Bf h hp
  have e2 : out ++ x :: l = (out ++ [x]) ++ l := zO
  have hrec := Rs.Oi l (out ++ [x]) _ (fun i h1 h2 => by rw [← e2]; rw [← e2] at h2; exact hs i (by rw [Ag] at h1; omega) h2) (fun z hz => hx z (by simp [hz])) hd zC
  simp only [AQ, Rs.Ft]
  rw [hS]
  dsimp only;rw [Am rfl, hrec, e, e2, Ag, Bw]
theorem Rs.IU {B rest : List UInt8} {s : BD} {p : Nat} (hr : Bm s = true) (h0 : 0 ≤ s.lo) (hx : ∀ x ∈ s.sets, ∀ y ∈ x, 0 ≤ y ∧ y ≤ 18446744073709551615) (h : B.drop p = CN s ++ rest) (hp : p ≤ B.length) :
  (⟨p, 0, 0⟩ : Rs).BY B s.lo = (⟨p + (CN s).length, 0, 0⟩, s) := by
 obtain ⟨lo, hi, sets⟩ := s
 unfold Bm at hr;simp only [Ao, Ar] at hr
 obtain ⟨⟨a1, a2, a3, a4⟩, a5⟩ := hr
 dsimp only at *;unfold CN at h ⊢;dsimp only at h ⊢;rw [Av, Av] at h
 have hN := Rs.Dm (x := (hi - lo - 1).toNat) zC h
 have hd := Bi h
 have hro := Bf h hp
 have hI := Rs.FY (m := 8) (x := sets.length) zC hd zC
 have hd2 := Bi hd
 have hro2 := Bf hd zC
 have hS := Rs.Oi sets [] _ (fun i _ hi => by rw [Bj] at hi ⊢; exact Lu _ a5 i hi) hx hd2 zC
 unfold Rs.BY Rs.span Rs.many;dsimp only;rw [An (show ¬ 4611686018427387904 < lo by omega), hN]
 dsimp only;rw [toNat_cast zC, An (show ¬ 4611686018427387904 - min lo 4611686018427387904 ≤ hi - lo - 1 by omega), hI]
 dsimp only;rw [An (show ¬ sets.length = 0 by omega), hS]
 dsimp only;rw [Am rfl, show lo + (hi - lo - 1) + 1 = hi by omega, Bj, Ag, Ag, Bw, Bw, Bw]
theorem Rs.NU {B rest : List UInt8} {p : Nat} {e : Int} (h1 : epR e = true) (h : B.drop p = Ay e.toNat ++ rest) : (⟨p, 0, 0⟩ : Rs).ep B = (⟨p + (Ay e.toNat).length, 0, 0⟩, e.toNat) := by
 have h2 := h1
 simp only [epR, Ar] at h2
 unfold Rs.ep;rw [Rs.Dm zC h]
 dsimp only;rw [Am rfl, toNat_cast zC, Am h1]
theorem Rs.Vo {B rest : List UInt8} {p : Nat} {e : Int} (h0 : 0 ≤ e) (h1 : e ≤ 4611686018427387904) (h : B.drop p = Ay e.toNat ++ rest) : (⟨p, 0, 0⟩ : Rs).tl B = (⟨p + (Ay e.toNat).length, 0, 0⟩, e.toNat) := by
 unfold Rs.tl;rw [Rs.Dm zC h]
 dsimp only;rw [Am rfl, toNat_cast h0, Am (show tlR e = true from Ae h1)]
theorem Rs.TU {B rest : List UInt8} {p m : Nat} {e : Int} (h0 : 0 ≤ e) (h1 : e ≤ m) (hm : m < 18446744073709551616) (h : B.drop p = Ay e.toNat ++ rest) : (⟨p, 0, 0⟩ : Rs).most B m = (⟨p + (Ay e.toNat).length, 0, 0⟩, e.toNat) := by
 unfold Rs.most;rw [Rs.Dm zC h]
 dsimp only;rw [An (show ¬ m < e.toNat by omega)]
theorem Rs.LA {B rest : List UInt8} {s : G1} {p : Nat} (hr : Ev s = true) (h0 : 0 ≤ s.node) (h1 : 0 ≤ s.tail) (h : B.drop p = DH s ++ rest) (hp : p ≤ B.length) :
  (⟨p, 0, 0⟩ : Rs).seal_ B = (⟨p + (DH s).length, 0, 0⟩, s) := by
 obtain ⟨e, n, t⟩ := s
 unfold Ev at hr;simp only [Ao, Ar] at hr
 obtain ⟨a1, a2, a3⟩ := hr
 dsimp only at *;have a4 := a1
 simp only [epR, Ar] at a4
 unfold DH at h ⊢;dsimp only at h ⊢;rw [Av, Av] at h
 have hd := Bi h
 have hd2 := Bi hd
 unfold Rs.seal_;rw [Rs.NU a1 h]
 dsimp only;rw [Rs.TU (m := 4294967295) h0 zC zC hd]
 dsimp only;rw [Rs.Vo h1 a3 hd2]
 dsimp only;rw [Am rfl, toNat_cast zC, toNat_cast h0, toNat_cast h1, Ag, Ag, Bw, Bw, Bw]
theorem Rs.Kt {B rest : List UInt8} : ∀ (l : List BD) (lo : Int) (out : List BD) (p : Nat), 0 ≤ lo → Dp lo l = true → (∀ s ∈ l, ∀ x ∈ s.sets, ∀ y ∈ x, 0 ≤ y ∧ y ≤ 18446744073709551615) → B.drop p = Ck l ++ rest → p ≤ B.length →
  Rs.Dv B l.length ⟨p, 0, 0⟩ lo out = (⟨p + (Ck l).length, 0, 0⟩, 4611686018427387904, out ++ l)
 | [], lo, out, p, _, hc, _, _, _ => by
  simp only [Dp, Ar] at hc
  subst hc;simp [Rs.Dv, Ck]
 | s :: l, lo, out, p, h0, hc, hx, h, hp => by
  simp only [Dp, Ao, Ar] at hc
  obtain ⟨rfl, hr, hc⟩ := hc
  have e : Ck (s :: l) = CN s ++ Ck l := by simp [Ck]
  rw [e, Av] at h
  have hS := Rs.IU hr h0 (hx s zO) h hp
  have hd := Bi h
  have hro := Bf h hp
  have h3 : s.lo < s.hi := by
   unfold Bm at hr;simp only [Ao, Ar] at hr
   exact hr.1.1
  have hrec := Rs.Kt l s.hi (out ++ [s]) _ zC hc (fun z hz => hx z (by simp [hz])) hd zC
  simp only [AQ, Rs.Dv]
  rw [hS]
  dsimp only;rw [Am rfl, hrec, e, Ag, Bw, Av]
  rfl
theorem Rs.LI {B rest : List UInt8} {s : El} {p : Nat} (hr : CA s = true) (hx : ∀ z ∈ s.stripes, ∀ x ∈ z.sets, ∀ y ∈ x, 0 ≤ y ∧ y ≤ 18446744073709551615) (h : B.drop p = DI s ++ rest) (hp : p ≤ B.length) :
  (⟨p, 0, 0⟩ : Rs).Ew B = (⟨p + (DI s).length, 0, 0⟩, s) := by
 obtain ⟨e, l⟩ := s
 unfold CA at hr;simp only [Ao, Ar] at hr
 obtain ⟨a1, ⟨a2, a3⟩, a4⟩ := hr
 dsimp only at *;have a5 := a1
 simp only [epR, Ar] at a5
 unfold DI at h ⊢;dsimp only at h ⊢;rw [Av, Av] at h
 have hd := Bi h
 have hro := Bf h hp
 have hI := Rs.FY (m := 64) (x := l.length) zC hd zC
 have hd2 := Bi hd
 have hro2 := Bf hd zC
 have hS := Rs.Kt l 0 [] _ zC a4 hx hd2 zC
 unfold Rs.Ew Rs.many;rw [Rs.NU a1 h]
 dsimp only;rw [hI]
 dsimp only;rw [An (show ¬ l.length = 0 by omega), hS]
 dsimp only;rw [Am rfl, Am rfl, Bj, toNat_cast zC, Ag, Ag, Bw, Bw, Bw]
def Rs.part {α : Type} (h : Bool) (s : Rs) (f : Rs → Rs × α) (z : α) : Rs × α := if h = true then f s else (s, z)
def Rs.Ht (B : List UInt8) (s : Rs) : Rs × Int := ((s.po B).1, ((s.po B).2 : Int))
def Rs.cnt (B : List UInt8) (s : Rs) : Rs × Int := ((s.many B 65536).1, ((s.many B 65536).2 : Int))
def Rs.stt (B : List UInt8) (k : Int) (s : Rs) : Rs × Int :=
 let x : Int := ((s.byte B).2.toNat : Int)
 (if 1 ≤ x ∧ x ≤ Dn k then (s.byte B).1 else (s.byte B).1.fail 3 s.p, x)
def Rs.Jd (B : List UInt8) (s : Rs) : Rs × List Int := Rs.EZ B (s.int B 16).2 (s.int B 16).1 []
structure Wb where
 pos : Int
 count : Int
 state : Int
 streams : List Int
 links : List BM
def Rs.ahead (B : List UInt8) (k : Int) (s : Rs) : Rs × Wb :=
 let a := Rs.part (AK k 1) s (Rs.Ht B) 0
 let b := Rs.part (AK k 2) a.1 (Rs.cnt B) 0
 let c := Rs.part (AK k 4) b.1 (Rs.stt B k) 0
 let d := Rs.part (AK k 8) c.1 (Rs.Jd B) []
 let e := Rs.part (AK k 16) d.1 (fun t => t.links B a.2) []
 (e.1, ⟨a.2, b.2, c.2, d.2, e.2⟩)
def Rs.body (B : List UInt8) (blk : Rs → Rs × List UInt8 × Bool) (k : Int) (s : Rs) : Rs × Msg × Bool :=
 if 1 ≤ k ∧ k ≤ 14 then
  let e := s.ahead B k
  let f := Rs.part (Ca k e.2.state) e.1 blk ([], true)
  let g := Rs.part (AK k 64) f.1 (Rs.seal_ B) Dw
  let h := Rs.part (AK k 128) g.1 (Rs.Ew B) DL
  if h.1.k = 0 then (h.1, ⟨k, 0, 0, e.2.pos, e.2.count, e.2.state, e.2.streams, e.2.links, f.2.1, g.2, h.2⟩, f.2.2) else (h.1, Bc, false)
 else (s.fail 7 s.p, Bc, false)
section
variable {α : Type} {B : List UInt8} {s : Rs}
theorem Rs.Qn (h : s.k ≠ 0) : s.po B = (s, 0) := by
 unfold Rs.po;rw [Rs.D5 h, An h]
theorem Rs.Qm (h : s.k ≠ 0) : s.Ht B = (s, 0) := by
 unfold Rs.Ht;rw [Rs.Qn h]
 rfl
theorem Rs.Q5 (h : s.k ≠ 0) : s.cnt B = (s, 0) := by
 unfold Rs.cnt;rw [Rs.FF h]
 rfl
theorem Rs.Od (h : s.k ≠ 0) : s.Jd B = (s, []) := by
 unfold Rs.Jd;rw [Rs.Io h]
 rfl
theorem Rs.PN {k : Int} (h : s.k ≠ 0) : s.stt B k = (s, 0) := by
 unfold Rs.stt Rs.byte;rw [Rs.Kv h]
 dsimp only;rw [Rs.Ch h]
 simp
end
theorem Rs.Fy {α : Type} {B rest b : List UInt8} {h : Bool} {f : Rs → Rs × α} {z x : α} {p : Nat} (hb : B.drop p = AV h b ++ rest) (yes : h = true → B.drop p = b ++ rest → f ⟨p, 0, 0⟩ = (⟨p + b.length, 0, 0⟩, x)) (no : h = false → x = z) :
  Rs.part h ⟨p, 0, 0⟩ f z = (⟨p + (AV h b).length, 0, 0⟩, x) := by
 cases h with
 | false => rw [no rfl]; rfl
 | true => exact yes rfl hb
theorem Rs.UF {B rest : List UInt8} {p : Nat} {x : Int} (h0 : 0 ≤ x) (h1 : poR x = true) (h : B.drop p = Ay x.toNat ++ rest) : (⟨p, 0, 0⟩ : Rs).Ht B = (⟨p + (Ay x.toNat).length, 0, 0⟩, x) := by
 have h2 := h1
 simp only [poR, Ar] at h2
 unfold Rs.Ht Rs.po;rw [Rs.Dm zC h]
 dsimp only;rw [Am rfl, toNat_cast h0, Am h1]
 dsimp only;rw [toNat_cast h0]
theorem Rs.U8 {B rest : List UInt8} {p : Nat} {x : Int} (h0 : 1 ≤ x) (h1 : x ≤ 65536) (h : B.drop p = Ay x.toNat ++ rest) : (⟨p, 0, 0⟩ : Rs).cnt B = (⟨p + (Ay x.toNat).length, 0, 0⟩, x) := by
 unfold Rs.cnt Rs.many;rw [Rs.FY (x := x.toNat) (m := 65536) zC h zC]
 dsimp only;rw [An (show ¬ x.toNat = 0 by omega), toNat_cast zC]
theorem Rs.Te {B rest : List UInt8} {p : Nat} {l : List Int} (hl : l.length ≤ 16) (hr : Ba l = true) (hx : ∀ x ∈ l, 0 ≤ x ∧ x ≤ 18446744073709551615) (h : B.drop p = D4 l ++ rest) (hp : p ≤ B.length) : (⟨p, 0, 0⟩ : Rs).Jd B = (⟨p + (D4 l).length, 0, 0⟩, l) := by
 unfold D4 Gg at h ⊢;rw [Av] at h
 have hd := Bi h
 have hro := Bf h hp
 unfold Rs.Jd;rw [Rs.FY (x := l.length) (m := 16) zC h zC]
 dsimp only;rw [Rs.LF l none _ [] (.inl ⟨rfl, rfl⟩) hr hx hd zC, Bj, Ag, Bw]
theorem Rs.Uz {B rest : List UInt8} {p : Nat} {k x : Int} (h0 : 1 ≤ x ∧ x ≤ Dn k) (h : B.drop p = [UInt8.ofNat x.toNat] ++ rest) (hp : p ≤ B.length) : (⟨p, 0, 0⟩ : Rs).stt B k = (⟨p + 1, 0, 0⟩, x) := by
 have hm : Dn k ≤ 20 := by unfold Dn; split <;> omega
 have e : (((UInt8.ofNat x.toNat).toNat : Nat) : Int) = x := by
  rw [F6]
  omega
 unfold Rs.stt;rw [Rs.JD (x := UInt8.ofNat x.toNat) h hp]
 dsimp only;rw [e, Am h0]
def Mj (m : Msg) : List UInt8 :=
 AV (AK m.kind 1) (Ay m.pos.toNat) ++ (AV (AK m.kind 2) (Ay m.count.toNat) ++ (AV (AK m.kind 4) [UInt8.ofNat m.state.toNat] ++
 (AV (AK m.kind 8) (D4 m.streams) ++ AV (AK m.kind 16) (Cx m.pos m.links))))
structure PC (m : Msg) : Prop where
 pos : inU m.pos
 streams : ∀ x ∈ m.streams, 0 ≤ x ∧ x ≤ 18446744073709551615
 links : ∀ x ∈ m.links, (0 ≤ x.stream ∧ x.stream ≤ 18446744073709551615) ∧ ∀ y ∈ x.backs, 0 ≤ y
 node : 0 ≤ m.sea.node
 tail : 0 ≤ m.sea.tail
 proj : ∀ z ∈ m.proj.stripes, ∀ x ∈ z.sets, ∀ y ∈ x, 0 ≤ y ∧ y ≤ 18446744073709551615
theorem Rs.SZ {B rest : List UInt8} {m : Msg} {p : Nat} (hN : PC m)
  (r1 : A7 (AK m.kind 1) (poR m.pos) (decide (m.pos = 0)) = true) (r2 : A7 (AK m.kind 2) (decide (1 ≤ m.count ∧ m.count ≤ 65536)) (decide (m.count = 0)) = true)
  (r3 : A7 (AK m.kind 4) (decide (1 ≤ m.state ∧ m.state ≤ Dn m.kind)) (decide (m.state = 0)) = true) (r4 : A7 (AK m.kind 8) (decide (m.streams.length ≤ 16) && Ba m.streams) (decide (m.streams.length = 0)) = true)
  (r5 : A7 (AK m.kind 16) (BK m.pos m.links) (decide (m.links.length = 0)) = true) (h : B.drop p = Mj m ++ rest) (hp : p ≤ B.length) :
  (⟨p, 0, 0⟩ : Rs).ahead B m.kind = (⟨p + (Mj m).length, 0, 0⟩, ⟨m.pos, m.count, m.state, m.streams, m.links⟩) := by
 obtain ⟨n1, n2, n3, _, _, _⟩ := hN
 unfold Mj at h ⊢;simp only [Av] at h
 have hd1 := Bi h
 have o1 := Bf h hp
 have hd2 := Bi hd1
 have o2 := Bf hd1 zC
 have hd3 := Bi hd2
 have o3 := Bf hd2 zC
 have hd4 := Bi hd3
 have o4 := Bf hd3 zC
 have P1 := Rs.Fy (h := AK m.kind 1) (f := Rs.Ht B) (z := 0) (x := m.pos) h (fun e hb => Rs.UF n1.1 (by rw [e] at r1; exact r1) hb) (fun e => by rw [e] at r1; exact A9 r1)
 have P2 := Rs.Fy (h := AK m.kind 2) (f := Rs.cnt B) (z := 0) (x := m.count) hd1 (fun e hb => by rw [e] at r2; have := A9 r2; exact Rs.U8 this.1 this.2 hb) (fun e => by rw [e] at r2; exact A9 r2)
 have P3 := Rs.Fy (h := AK m.kind 4) (f := Rs.stt B m.kind) (z := 0) (x := m.state) hd2 (fun e hb => by rw [e] at r3; exact Rs.Uz (A9 r3) hb (by omega)) (fun e => by rw [e] at r3; exact A9 r3)
 have P4 := Rs.Fy (h := AK m.kind 8) (f := Rs.Jd B) (z := []) (x := m.streams) hd3 (fun e hb => by rw [e] at r4; have := (Ao _ _).mp r4; exact Rs.Te (A9 this.1) this.2 n2 hb (by omega)) (fun e => by rw [e] at r4; exact List.length_eq_zero_iff.1 (A9 r4))
 have P5 := Rs.Fy (h := AK m.kind 16) (f := fun t => t.links B m.pos) (z := []) (x := m.links) hd4 (fun e hb => by rw [e] at r5; exact Rs.Sy n1.2 r5 n3 hb (by omega)) (fun e => by rw [e] at r5; exact List.length_eq_zero_iff.1 (A9 r5))
 unfold Rs.ahead;rw [P1]
 dsimp only;rw [P2]
 dsimp only;rw [P3]
 dsimp only;rw [P4]
 dsimp only;rw [P5]
 simp only [Ag, Bw]
theorem Rs.Mc {B rest : List UInt8} {m : Msg} {p : Nat} {blk : Rs → Rs × List UInt8 × Bool} (hN : PC m) (hr : FE m = true) (he : m.epoch = 0) (hs : m.seq = 0) (h : B.drop p = EL m ++ rest) (hp : p ≤ B.length)
  (hblk : ∀ q rest', q ≤ B.length → B.drop q = Bp m.data ++ rest' → blk ⟨q, 0, 0⟩ = (⟨q + (Bp m.data).length, 0, 0⟩, m.data, true)) :
  Rs.body B blk m.kind ⟨p, 0, 0⟩ = (⟨p + (EL m).length, 0, 0⟩, m, true) := by
 unfold FE at hr;simp only [Ao] at hr
 obtain ⟨rk, r1, r2, r3, r4, r5, r6, r7, r8⟩ := hr
 have rk := A9 rk
 have e : EL m = Mj m ++ (AV (Ca m.kind m.state) (Bp m.data) ++ (AV (AK m.kind 64) (DH m.sea) ++ AV (AK m.kind 128) (DI m.proj))) := by simp [EL, Mj]
 rw [e] at h ⊢
 simp only [Av] at h
 have hd1 := Bi h
 have o1 := Bf h hp
 have hd2 := Bi hd1
 have o2 := Bf hd1 zC
 have hd3 := Bi hd2
 have o3 := Bf hd2 zC
 have hA := Rs.SZ hN r1 r2 r3 (by simpa using r4) r5 h hp
 have P1 := Rs.Fy (h := Ca m.kind m.state) (f := blk) (z := ([], true)) (x := (m.data, true)) hd1 (fun _ hb => hblk _ _ zC hb) (fun e => by
  rw [e] at r8
  have : m.data.length = 0 := by simpa using r8
  rw [List.length_eq_zero_iff.1 this])
 have P2 := Rs.Fy (h := AK m.kind 64) (f := Rs.seal_ B) (z := Dw) (x := m.sea) hd2 (fun e hb => by rw [e] at r6; exact Rs.LA r6 hN.node hN.tail hb (by omega)) (fun e => by rw [e] at r6; exact A9 r6)
 have P3 := Rs.Fy (h := AK m.kind 128) (f := Rs.Ew B) (z := DL) (x := m.proj) hd3 (fun e hb => by rw [e] at r7; exact Rs.LI r7 hN.proj hb (by omega)) (fun e => by
  rw [e] at r7
  have h7 := (Ao _ _).mp r7
  have h8 := A9 h7.1
  have h9 := List.length_eq_zero_iff.1 (A9 h7.2)
  cases hq : m.proj with
  | mk a b => rw [hq] at h8 h9; dsimp only at h8 h9; rw [h8, h9]; rfl)
 unfold Rs.body;rw [Am rk, hA]
 dsimp only;rw [P1]
 dsimp only;rw [P2]
 dsimp only;rw [P3]
 dsimp only;rw [Am rfl]
 simp only [Ag, Bw]
 obtain ⟨a, b, c, d, e, f, g, h, i, j, k⟩ := m
 dsimp only at he hs;subst he hs;rfl
theorem Rs.TH {α : Type} {h : Bool} {s : Rs} {f : Rs → Rs × α} {z : α} (hk : (Rs.part h s f z).1.k = 0) (hf : (f s).1.k = 0 → s.k = 0) : s.k = 0 := by
 cases h
 ·exact hk
 ·exact hf hk
theorem CC {P : Program} {f : Func} {Q : Ending → World → Prop} {e : Exit} {a : Act} {w : World} (F : World → Prop) (hF : F w) (h : ∀ W, F W → bodyPost P f Q e a W) : bodyPost P f Q e a w := h w hF
theorem size_set (w : World) (p : Addr) (u : Value) : (w.setCell p u).heap.size = w.heap.size := ZT
end Go.Proofs.YtlbffbkbkajciaaGreat
