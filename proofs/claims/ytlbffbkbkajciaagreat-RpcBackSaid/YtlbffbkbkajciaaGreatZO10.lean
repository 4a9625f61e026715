/- Mini: Needed by rpcOnce_walk, part 10: texts put together by shake.py; no condition. -/
import Derived.Test.YtlbffbkbkajciaaGreatZO9
import Derived.Test.YtlbffbkbkajciaaGreatZO7
import Derived.Test.YtlbffbkbkajciaaGreatZO5
import Derived.Test.YtlbffbkbkajciaaGreatZO1
import Derived.Test.YtlbffbkbkajciaaGreatZO6
import Derived.Deep.RegionHeld3
import Derived.Test.YtlbffbkbkajciaaGreatZO4
import Derived.Test.YtlbffbkbkajciaaGreatZO2
import Derived.Test.YtlbffbkbkajciaaGreatZO8
set_option linter.unusedVariables false
set_option linter.unusedSimpArgs false
set_option maxRecDepth 100000
set_option maxHeartbeats 6400000
namespace Go.Bs
theorem zBr{p:Prop}(h:p:=by rw [A7, t2]):p:=h
theorem zA9{p:Prop}(h:p:=by have := hb.1; dsimp only; omega):p:=h
theorem zA6{p:Prop}(h:p:=by have := HUU.out.lt g HUU.out.own; have := HI2.out.lm; dsimp only; omega):p:=h
theorem zAw{p:Prop}(h:p:=by (try simp only [Am]); have := TS (X := (Ef m.sea)) hh; omega):p:=h
theorem zAv{p:Prop}(h:p:=by (try simp only [Am]); have := TS (X := (D4 m.proj)) hh; omega):p:=h
theorem zAu{p:Prop}(h:p:=by (try simp only [Am]); have := TS (X := (Cu m.data)) hh; omega):p:=h
theorem zAq{p:Prop}(h:p:=by (try simp only [Am]); have := TS (X := (Ec m.streams)) hh; omega):p:=h
theorem zAo{p:Prop}(h:p:=by (try simp only [Am]); have := TS (X := (AH m.pos.toNat)) hh; omega):p:=h
theorem zAn{p:Prop}(h:p:=by (try simp only [Am]); have := TS (X := (AH m.count.toNat)) hh; omega):p:=h
theorem zAk{p:Prop}(h:p:=by (try simp only [Am]); have := TS (X := (CR m.pos m.links)) hh; omega):p:=h
theorem zAc{p:Prop}(h:p:=by (try simp only [Am]); have := TS (X := ([UInt8.ofNat m.state.toNat])) hh; omega):p:=h
theorem ZH{p:Prop}(h:p:=by have := HUU.out.lt g HUU.out.own; dsimp only; omega):p:=h
theorem zV{p:Prop}(h:p:=by simp only [Ce, Aa, Ad, Ae]):p:=h
theorem zR{p:Prop}(h:p:=by first | (simp only [Ce, Aa, Ad, Ae]; done) | (simp only [Ce, Aa, Ad, Ae]; rfl)):p:=h
theorem AT:type_of% @List.getElem_cons_zero:=@List.getElem_cons_zero
theorem AX:type_of% @List.getElem_toArray:=@List.getElem_toArray
theorem Cg:type_of% @wp_region_held_drew:=@wp_region_held_drew
end Go.Bs
namespace Go.Proofs.YtlbffbkbkajciaaGreat
open Go.RowKit Go.Bs Go.Maps
theorem AF.tr {S S' : Nat → Prop} {w w' : World} {m : Msg} {a1 c1 a2 c2 a3 c3 a4 c4} (f : ∀ {α : Type} (A : Rp α) (cs : List Value) (x : α), A.r S w cs x → A.r S' w' cs x) (h : AF S w m a1 c1 a2 c2 a3 c3 a4 c4) : AF S' w' m a1 c1 a2 c2 a3 c3 a4 c4 :=
 ⟨h.kind, h.epoch, h.seq, h.pos, h.count, h.state, h.sealE, h.sealN, h.sealT, h.projE, f _ _ _ h.streams, f _ _ _ h.links, f _ _ _ h.data, f _ _ _ h.stripes⟩
structure Fm (w : World) (g base most : Nat) (J : List UInt8) (a : Option Addr) (c A B : Nat) (m : Msg) (a1 : Option Addr) (c1 : Nat) (a2 : Option Addr) (c2 : Nat) (a3 : Option Addr) (c3 : Nat) (a4 : Option Addr) (c4 : Nat) : Prop where
 pen : Bv w g base most J a c
 pa : Blk w A 38 #[.pointer (some ⟨g, 0, none⟩)]
 pb : Blk w B 32 #[.int .i64 m.kind, .int .u64 m.epoch, .int .u64 m.seq, .int .u64 m.pos, .int .i64 m.count, .int .i64 m.state, .slice a1 m.streams.length c1, .slice a2 m.links.length c2, .slice a3 m.data.length c3, .int .u64 m.sea.epoch, .int .u64 m.sea.node, .int .u64 m.sea.tail, .int .u64 m.proj.epoch, .slice a4 m.proj.stripes.length c4]
 na : ¬ CT g a A
 nb : ¬ CT g a B
 data : AF (fun q => q < w.heap.size ∧ ¬ CT g a q) w m a1 c1 a2 c2 a3 c3 a4 c4
theorem Fm.later {w : World} {g base most : Nat} {J : List UInt8} {a : Option Addr} {c A B : Nat} {m : Msg} {a1 : Option Addr} {c1 : Nat} {a2 : Option Addr} {c2 : Nat} {a3 : Option Addr} {c3 : Nat} {a4 : Option Addr} {c4 : Nat} (h : Fm w g base most J a c A B m a1 c1 a2 c2 a3 c3 a4 c4) {w' : World} (hb : Below w.heap.size w w') : Fm w' g base most J a c A B m a1 c1 a2 c2 a3 c3 a4 c4 :=
 ⟨h.pen.later hb, h.pa.later hb, h.pb.later hb, h.na, h.nb, AF.tr (fun A cs x hx => Ej hb hx) h.data⟩
theorem Fm.step {w : World} {g base most : Nat} {J : List UInt8} {a : Option Addr} {c A B : Nat} {m : Msg} {a1 : Option Addr} {c1 : Nat} {a2 : Option Addr} {c2 : Nat} {a3 : Option Addr} {c3 : Nat} {a4 : Option Addr} {c4 : Nat} (h : Fm w g base most J a c A B m a1 c1 a2 c2 a3 c3 a4 c4) {w' : World} {J' : List UInt8} (k : Ao w g base most J' a w') : ∃ a' c', Fm w' g base most J' a' c' A B m a1 c1 a2 c2 a3 c3 a4 c4 ∧ Tch (CT g a) w w' ∧ (a'.map Addr.block = a.map Addr.block ∨ ∃ q, a'.map Addr.block = some q ∧ w.heap.size ≤ q) := by
 obtain ⟨a', c', k1, k2, k3⟩ := k
 exact ⟨a', c', ⟨k1, h.pa.tch k2 h.na, h.pb.tch k2 h.nb, DK k3 h.pa.lt h.na, DK k3 h.pb.lt h.nb, AF.tr (fun A cs x hx => CQ k2 k3 hx) h.data⟩, k2, k3⟩
theorem AF.low {g : Nat} {a : Option Addr} {w : World} {m : Msg} {a1 c1 a2 c2 a3 c3 a4 c4} (h : AF (fun q => q < w.heap.size ∧ ¬ CT g a q) w m a1 c1 a2 c2 a3 c3 a4 c4) : AF (· < w.heap.size) w m a1 c1 a2 c2 a3 c3 a4 c4 := AF.tr (fun A cs x hx => G3 hx) h
theorem Tc {w : World} {g base most : Nat} {J : List UInt8} {a : Option Addr} {c A B : Nat} {m : Msg} {a1 : Option Addr} {c1 : Nat} {a2 : Option Addr} {c2 : Nat} {a3 : Option Addr} {c3 : Nat} {a4 : Option Addr} {c4 : Nat} (h : Fm w g base most J a c A B m a1 c1 a2 c2 a3 c3 a4 c4) (hR : poR m.pos = true) (hfit : J.length + (AH m.pos.toNat).length ≤ most) (hln : J.length + (AH m.pos.toNat).length ≤ 100000000000000) :
  Calls Tryz.prog 63 #[.pointer (some ⟨A, 0, none⟩), .pointer (some ⟨B, 0, none⟩)] w fun r w' => r = .returned (.tuple #[]) ∧ Ao w g base most (J ++ (AH m.pos.toNat)) a w' := by
 have hp := h.data.pos
 have HV := hid (by have := MA w h.pen m.pos.toNat (by rw [toNat_cast hp.1]; exact hR) hfit hln; rw [toNat_cast hp.1] at this; exact this : Calls Tryz.prog 64 #[.pointer (some ⟨g, 0, none⟩), .int .u64 m.pos] w fun r w' => r = .returned (.tuple #[]) ∧ Ao w g base most (J ++ AH m.pos.toNat) a w')
 have p0 : w.cell? ⟨A, 0, none⟩ = some (.pointer (some ⟨g, 0, none⟩)) := h.pa.cell 0
 have y3 : w.cell? ⟨B, 3, none⟩ = some (.int .u64 m.pos) := h.pb.cell 3
 clear h;go_enter Tryz.func63, Tryz.ntmps63
 go_wp2_with fail;refine HV.out.mono ?_
 rintro r w1 ⟨rfl, hst⟩;have HST := hid hst
 clear hst;go_wp2_with fail;first | go_end0 | refine Ai (Aq rfl _ _ _) rfl ?_
 exact ⟨rfl, HST.out⟩
theorem QP {w : World} {g base most : Nat} {J : List UInt8} {a : Option Addr} {c A B : Nat} {m : Msg} {a1 : Option Addr} {c1 : Nat} {a2 : Option Addr} {c2 : Nat} {a3 : Option Addr} {c3 : Nat} {a4 : Option Addr} {c4 : Nat} (h : Fm w g base most J a c A B m a1 c1 a2 c2 a3 c3 a4 c4) (hR : 1 ≤ m.count ∧ m.count ≤ 65536) (hfit : J.length + (AH m.count.toNat).length ≤ most) (hln : J.length + (AH m.count.toNat).length ≤ 100000000000000) :
  Calls Tryz.prog 65 #[.pointer (some ⟨A, 0, none⟩), .pointer (some ⟨B, 0, none⟩)] w fun r w' => r = .returned (.tuple #[]) ∧ Ao w g base most (J ++ (AH m.count.toNat)) a w' := by
 have hc0 : 0 ≤ m.count := zD
 have hc1 : m.count ≤ 65536 := hR.2
 have HV := hid (by have := BG w h.pen m.count.toNat zD hfit hln; rw [toNat_cast hc0] at this; exact this : Calls Tryz.prog 66 #[.pointer (some ⟨g, 0, none⟩), .int .u64 m.count] w fun r w' => r = .returned (.tuple #[]) ∧ Ao w g base most (J ++ AH m.count.toNat) a w')
 have p0 : w.cell? ⟨A, 0, none⟩ = some (.pointer (some ⟨g, 0, none⟩)) := h.pa.cell 0
 have y4 : w.cell? ⟨B, 4, none⟩ = some (.int .i64 m.count) := h.pb.cell 4
 clear h;go_enter Tryz.func65, Tryz.ntmps65
 go_wp2_with fail;refine HV.out.mono ?_
 rintro r w1 ⟨rfl, hst⟩;have HST := hid hst
 clear hst;go_wp2_with fail;first | go_end0 | refine Ai (Aq rfl _ _ _) rfl ?_
 exact ⟨rfl, HST.out⟩
theorem QL {w : World} {g base most : Nat} {J : List UInt8} {a : Option Addr} {c A B : Nat} {m : Msg} {a1 : Option Addr} {c1 : Nat} {a2 : Option Addr} {c2 : Nat} {a3 : Option Addr} {c3 : Nat} {a4 : Option Addr} {c4 : Nat} (h : Fm w g base most J a c A B m a1 c1 a2 c2 a3 c3 a4 c4) (hR : 1 ≤ m.state ∧ m.state ≤ 20) (hfit : J.length + ([UInt8.ofNat m.state.toNat]).length ≤ most) (hln : J.length + ([UInt8.ofNat m.state.toNat]).length ≤ 100000000000000) :
  Calls Tryz.prog 67 #[.pointer (some ⟨A, 0, none⟩), .pointer (some ⟨B, 0, none⟩)] w fun r w' => r = .returned (.tuple #[]) ∧ Ao w g base most (J ++ ([UInt8.ofNat m.state.toNat])) a w' := by
 have hc0 : 0 ≤ m.state := zD
 have hc1 : m.state ≤ 20 := hR.2
 have he : m.state = ((UInt8.ofNat m.state.toNat).toNat : Int) := by
  have := Dx (x := m.state.toNat) zD
  rw [toNat_cast hc0] at this
  exact this
 have HV := hid (fun (W : World) (hW : Below w.heap.size w W) (ad : Option Addr) (hD : Ag.r (· < W.heap.size) W [.slice ad 1 1] [UInt8.ofNat m.state.toNat]) => Ep W (h.pen.later hW) [UInt8.ofNat m.state.toNat] ad 1 1 hD hfit hln)
 have HL := hid (fun W : World => (by have := JU W (UInt8.ofNat m.state.toNat); rw [← he] at this; exact this : Ag.r (· < (W.alloc (.cells #[.int .u8 m.state] 5)).heap.size) (W.alloc (.cells #[.int .u8 m.state] 5)) [.slice (some ⟨W.heap.size, 0, none⟩) 1 1] [UInt8.ofNat m.state.toNat]))
 have p0 : w.cell? ⟨A, 0, none⟩ = some (.pointer (some ⟨g, 0, none⟩)) := h.pa.cell 0
 have y5 : w.cell? ⟨B, 5, none⟩ = some (.int .i64 m.state) := h.pb.cell 5
 clear h he;go_enter Tryz.func67, Tryz.ntmps67
 go_wp2_with fail;refine (HV.out _ zA _ (HL.out w)).mono ?_
 rintro r w1 ⟨rfl, hst⟩;have HST := hid (Ao.later (w := w) zA hst)
 clear hst;go_wp2_with fail;first | go_end0 | refine Ai (Aq rfl _ _ _) rfl ?_
 exact ⟨rfl, HST.out⟩
theorem Ng {w : World} {g base most : Nat} {J : List UInt8} {a : Option Addr} {c A B : Nat} {m : Msg} {a1 : Option Addr} {c1 : Nat} {a2 : Option Addr} {c2 : Nat} {a3 : Option Addr} {c3 : Nat} {a4 : Option Addr} {c4 : Nat} (h : Fm w g base most J a c A B m a1 c1 a2 c2 a3 c3 a4 c4) (hR : m.streams.length ≤ 16 ∧ A1 m.streams = true) (hfit : J.length + (Ec m.streams).length ≤ most) (hln : J.length + (Ec m.streams).length ≤ 100000000000000) :
  Calls Tryz.prog 69 #[.pointer (some ⟨A, 0, none⟩), .pointer (some ⟨B, 0, none⟩)] w fun r w' => r = .returned (.tuple #[]) ∧ Ao w g base most (J ++ (Ec m.streams)) a w' := by
 have hsl : (Ec m.streams).length = (AH m.streams.length).length + (JG m.streams).length := by unfold Ec; rw [Am]
 rw [hsl] at hfit hln
 have hl16 := hR.1
 have HV := hid (BG w h.pen m.streams.length zD zD zD)
 have HZ := hid (fun (W : World) (a' : Option Addr) (c' : Nat) (hW : Fm W g base most (J ++ AH m.streams.length) a' c' A B m a1 c1 a2 c2 a3 c3 a4 c4) => He W hW.pen m.streams a1 _ c1 (AF.low hW.data).streams hR.2 zD (by rw [Am]; omega) (by rw [Am]; omega))
 have HI := hid h
 have p0 : w.cell? ⟨A, 0, none⟩ = some (.pointer (some ⟨g, 0, none⟩)) := h.pa.cell 0
 have y6 : w.cell? ⟨B, 6, none⟩ = some (.slice a1 m.streams.length c1) := h.pb.cell 6
 clear h;have hsb : Ec m.streams = AH m.streams.length ++ JG m.streams := rfl
 go_enter Tryz.func69, Tryz.ntmps69
 go_wp2_with fail;refine HV.out.mono ?_
 rintro r w1 ⟨rfl, hst⟩;obtain ⟨a', c', hi1, ht1, ha1⟩ := HI.out.step hst
 have HT := hid (And.intro ht1 ha1)
 have HZ1 := hid (HZ.out _ _ _ hi1)
 have q0 : w1.cell? ⟨A, 0, none⟩ = some (.pointer (some ⟨g, 0, none⟩)) := hi1.pa.cell 0
 have q6 : w1.cell? ⟨B, 6, none⟩ = some (.slice a1 m.streams.length c1) := hi1.pb.cell 6
 clear hst hi1 ht1 ha1 p0 y6;go_wp2_with fail;refine HZ1.out.mono ?_
 rintro r w2 ⟨rfl, hst⟩;have hn := Ao.trans (J := J) HT.out.1 HT.out.2 hst
 rw [Au, ← hsb] at hn
 have HST := hid hn
 clear hst hn;go_wp2_with fail;first | go_end0 | refine Ai (Aq rfl _ _ _) rfl ?_
 exact ⟨rfl, HST.out⟩
theorem QM {w : World} {g base most : Nat} {J : List UInt8} {a : Option Addr} {c A B : Nat} {m : Msg} {a1 : Option Addr} {c1 : Nat} {a2 : Option Addr} {c2 : Nat} {a3 : Option Addr} {c3 : Nat} {a4 : Option Addr} {c4 : Nat} (h : Fm w g base most J a c A B m a1 c1 a2 c2 a3 c3 a4 c4) (hbk : ∀ x ∈ m.links, x.backs.length ≤ 1000000) (hR : Bl m.pos m.links = true) (hfit : J.length + (CR m.pos m.links).length ≤ most) (hln : J.length + (CR m.pos m.links).length ≤ 100000000000000) :
  Calls Tryz.prog 71 #[.pointer (some ⟨A, 0, none⟩), .pointer (some ⟨B, 0, none⟩)] w fun r w' => r = .returned (.tuple #[]) ∧ Ao w g base most (J ++ (CR m.pos m.links)) a w' := by
 have HV := hid (Sz w h.pen m.pos h.data.pos m.links a2 _ c2 h.data.links hR hbk hfit hln)
 have p0 : w.cell? ⟨A, 0, none⟩ = some (.pointer (some ⟨g, 0, none⟩)) := h.pa.cell 0
 have y3 : w.cell? ⟨B, 3, none⟩ = some (.int .u64 m.pos) := h.pb.cell 3
 have y7 : w.cell? ⟨B, 7, none⟩ = some (.slice a2 m.links.length c2) := h.pb.cell 7
 clear h;go_enter Tryz.func71, Tryz.ntmps71
 go_wp2_with fail;refine HV.out.mono ?_
 rintro r w1 ⟨rfl, hst⟩;have HST := hid hst
 clear hst;go_wp2_with fail;first | go_end0 | refine Ai (Aq rfl _ _ _) rfl ?_
 exact ⟨rfl, HST.out⟩
theorem R3 {w : World} {g base most : Nat} {J : List UInt8} {a : Option Addr} {c A B : Nat} {m : Msg} {a1 : Option Addr} {c1 : Nat} {a2 : Option Addr} {c2 : Nat} {a3 : Option Addr} {c3 : Nat} {a4 : Option Addr} {c4 : Nat} (h : Fm w g base most J a c A B m a1 c1 a2 c2 a3 c3 a4 c4) (hR : Dv m.sea = true) (hfit : J.length + (Ef m.sea).length ≤ most) (hln : J.length + (Ef m.sea).length ≤ 100000000000000) :
  Calls Tryz.prog 75 #[.pointer (some ⟨A, 0, none⟩), .pointer (some ⟨B, 0, none⟩)] w fun r w' => r = .returned (.tuple #[]) ∧ Ao w g base most (J ++ (Ef m.sea)) a w' := by
 have HV := hid (RO w h.pen m.sea h.data.sealE h.data.sealN h.data.sealT hR hfit hln)
 have p0 : w.cell? ⟨A, 0, none⟩ = some (.pointer (some ⟨g, 0, none⟩)) := h.pa.cell 0
 have y9 : w.cell? ⟨B, 9, none⟩ = some (.int .u64 m.sea.epoch) := h.pb.cell 9
 have y10 : w.cell? ⟨B, 10, none⟩ = some (.int .u64 m.sea.node) := h.pb.cell 10
 have y11 : w.cell? ⟨B, 11, none⟩ = some (.int .u64 m.sea.tail) := h.pb.cell 11
 clear h;go_enter Tryz.func75, Tryz.ntmps75
 go_wp2_with fail;refine HV.out.mono ?_
 rintro r w1 ⟨rfl, hst⟩;have HST := hid hst
 clear hst;go_wp2_with fail;first | go_end0 | refine Ai (Aq rfl _ _ _) rfl ?_
 exact ⟨rfl, HST.out⟩
theorem R4 {w : World} {g base most : Nat} {J : List UInt8} {a : Option Addr} {c A B : Nat} {m : Msg} {a1 : Option Addr} {c1 : Nat} {a2 : Option Addr} {c2 : Nat} {a3 : Option Addr} {c3 : Nat} {a4 : Option Addr} {c4 : Nat} (h : Fm w g base most J a c A B m a1 c1 a2 c2 a3 c3 a4 c4) (hR : Cc m.proj = true) (hfit : J.length + (D4 m.proj).length ≤ most) (hln : J.length + (D4 m.proj).length ≤ 100000000000000) :
  Calls Tryz.prog 77 #[.pointer (some ⟨A, 0, none⟩), .pointer (some ⟨B, 0, none⟩)] w fun r w' => r = .returned (.tuple #[]) ∧ Ao w g base most (J ++ (D4 m.proj)) a w' := by
 have hPR := fun (W : World) (hW : Below w.heap.size w W) => Ko m.proj.epoch m.proj.stripes a4 _ c4 W (lift (AF.low h.data).stripes hW)
 rw [show (⟨m.proj.epoch, m.proj.stripes⟩ : Ea) = m.proj from rfl, hR] at hPR
 have HV := hid (Sb w h.pen m.proj a4 _ c4 h.data.projE h.data.stripes hPR hR hfit hln)
 clear hPR;have p0 : w.cell? ⟨A, 0, none⟩ = some (.pointer (some ⟨g, 0, none⟩)) := h.pa.cell 0
 have y12 : w.cell? ⟨B, 12, none⟩ = some (.int .u64 m.proj.epoch) := h.pb.cell 12
 have y13 : w.cell? ⟨B, 13, none⟩ = some (.slice a4 m.proj.stripes.length c4) := h.pb.cell 13
 clear h;go_enter Tryz.func77, Tryz.ntmps77
 go_wp2_with fail;refine HV.out.mono ?_
 rintro r w1 ⟨rfl, hst⟩;have HST := hid hst
 clear hst;go_wp2_with fail;first | go_end0 | refine Ai (Aq rfl _ _ _) rfl ?_
 exact ⟨rfl, HST.out⟩
theorem Sa {w : World} {g base most : Nat} {J : List UInt8} {a : Option Addr} {c A B : Nat} {m : Msg} {a1 : Option Addr} {c1 : Nat} {a2 : Option Addr} {c2 : Nat} {a3 : Option Addr} {c3 : Nat} {a4 : Option Addr} {c4 : Nat} (h : Fm w g base most J a c A B m a1 c1 a2 c2 a3 c3 a4 c4) (X : List UInt8) (HC : Ay m.kind 1 = true → ∀ W : World, Below w.heap.size w W → Calls Tryz.prog 63 #[.pointer (some ⟨A, 0, none⟩), .pointer (some ⟨B, 0, none⟩)] W fun r w' => r = .returned (.tuple #[]) ∧ Ao W g base most (J ++ X) a w') :
  Calls Tryz.prog 61 #[.int .i64 1, .func (Fn.func 63) #[] #[.pointer (some ⟨A, 0, none⟩), .pointer (some ⟨B, 0, none⟩)], .pointer (some ⟨B, 0, none⟩)] w fun r w' => r = .returned (.tuple #[]) ∧ Ao w g base most (J ++ Bg (Ay m.kind 1) X) a w' := by
 have HH := hid (CF m.kind 1 zT w)
 have HCC := hid HC
 have HP := hid h.pen
 have y0 : w.cell? ⟨B, 0, none⟩ = some (.int .i64 m.kind) := h.pb.cell 0
 clear h HC;generalize Ay m.kind 1 = H at *
 go_enter Tryz.func61, Tryz.ntmps61
 go_wp2_with fail;refine HH.out.mono ?_
 rintro r w1 ⟨rfl, hb1⟩;have HB := hid hb1
 clear hb1;cases H
 ·go_wp2_with fail
  first | go_end0 | refine Ai (Aq rfl _ _ _) rfl ?_
  refine ⟨rfl, ?_⟩
  have := Ao.later HB.out (Ao.refl (HP.out.later HB.out))
  simpa [Bg] using this
 ·have HD := hid (HCC.out rfl w1 HB.out)
  go_wp2_with fail;refine HD.out.mono ?_
  rintro r w2 ⟨rfl, hst⟩;have HST := hid (Ao.later HB.out hst)
  clear hst;go_wp2_with fail;first | go_end0 | refine Ai (Aq rfl _ _ _) rfl ?_
  exact ⟨rfl, HST.out⟩
theorem R9 {w : World} {g base most : Nat} {J : List UInt8} {a : Option Addr} {c A B : Nat} {m : Msg} {a1 : Option Addr} {c1 : Nat} {a2 : Option Addr} {c2 : Nat} {a3 : Option Addr} {c3 : Nat} {a4 : Option Addr} {c4 : Nat} (h : Fm w g base most J a c A B m a1 c1 a2 c2 a3 c3 a4 c4) (X : List UInt8) (HC : Ay m.kind 2 = true → ∀ W : World, Below w.heap.size w W → Calls Tryz.prog 65 #[.pointer (some ⟨A, 0, none⟩), .pointer (some ⟨B, 0, none⟩)] W fun r w' => r = .returned (.tuple #[]) ∧ Ao W g base most (J ++ X) a w') :
  Calls Tryz.prog 61 #[.int .i64 2, .func (Fn.func 65) #[] #[.pointer (some ⟨A, 0, none⟩), .pointer (some ⟨B, 0, none⟩)], .pointer (some ⟨B, 0, none⟩)] w fun r w' => r = .returned (.tuple #[]) ∧ Ao w g base most (J ++ Bg (Ay m.kind 2) X) a w' := by
 have HH := hid (CF m.kind 2 zT w)
 have HCC := hid HC
 have HP := hid h.pen
 have y0 : w.cell? ⟨B, 0, none⟩ = some (.int .i64 m.kind) := h.pb.cell 0
 clear h HC;generalize Ay m.kind 2 = H at *
 go_enter Tryz.func61, Tryz.ntmps61
 go_wp2_with fail;refine HH.out.mono ?_
 rintro r w1 ⟨rfl, hb1⟩;have HB := hid hb1
 clear hb1;cases H
 ·go_wp2_with fail
  first | go_end0 | refine Ai (Aq rfl _ _ _) rfl ?_
  refine ⟨rfl, ?_⟩
  have := Ao.later HB.out (Ao.refl (HP.out.later HB.out))
  simpa [Bg] using this
 ·have HD := hid (HCC.out rfl w1 HB.out)
  go_wp2_with fail;refine HD.out.mono ?_
  rintro r w2 ⟨rfl, hst⟩;have HST := hid (Ao.later HB.out hst)
  clear hst;go_wp2_with fail;first | go_end0 | refine Ai (Aq rfl _ _ _) rfl ?_
  exact ⟨rfl, HST.out⟩
theorem R6 {w : World} {g base most : Nat} {J : List UInt8} {a : Option Addr} {c A B : Nat} {m : Msg} {a1 : Option Addr} {c1 : Nat} {a2 : Option Addr} {c2 : Nat} {a3 : Option Addr} {c3 : Nat} {a4 : Option Addr} {c4 : Nat} (h : Fm w g base most J a c A B m a1 c1 a2 c2 a3 c3 a4 c4) (X : List UInt8) (HC : Ay m.kind 4 = true → ∀ W : World, Below w.heap.size w W → Calls Tryz.prog 67 #[.pointer (some ⟨A, 0, none⟩), .pointer (some ⟨B, 0, none⟩)] W fun r w' => r = .returned (.tuple #[]) ∧ Ao W g base most (J ++ X) a w') :
  Calls Tryz.prog 61 #[.int .i64 4, .func (Fn.func 67) #[] #[.pointer (some ⟨A, 0, none⟩), .pointer (some ⟨B, 0, none⟩)], .pointer (some ⟨B, 0, none⟩)] w fun r w' => r = .returned (.tuple #[]) ∧ Ao w g base most (J ++ Bg (Ay m.kind 4) X) a w' := by
 have HH := hid (CF m.kind 4 zT w)
 have HCC := hid HC
 have HP := hid h.pen
 have y0 : w.cell? ⟨B, 0, none⟩ = some (.int .i64 m.kind) := h.pb.cell 0
 clear h HC;generalize Ay m.kind 4 = H at *
 go_enter Tryz.func61, Tryz.ntmps61
 go_wp2_with fail;refine HH.out.mono ?_
 rintro r w1 ⟨rfl, hb1⟩;have HB := hid hb1
 clear hb1;cases H
 ·go_wp2_with fail
  first | go_end0 | refine Ai (Aq rfl _ _ _) rfl ?_
  refine ⟨rfl, ?_⟩
  have := Ao.later HB.out (Ao.refl (HP.out.later HB.out))
  simpa [Bg] using this
 ·have HD := hid (HCC.out rfl w1 HB.out)
  go_wp2_with fail;refine HD.out.mono ?_
  rintro r w2 ⟨rfl, hst⟩;have HST := hid (Ao.later HB.out hst)
  clear hst;go_wp2_with fail;first | go_end0 | refine Ai (Aq rfl _ _ _) rfl ?_
  exact ⟨rfl, HST.out⟩
theorem R5 {w : World} {g base most : Nat} {J : List UInt8} {a : Option Addr} {c A B : Nat} {m : Msg} {a1 : Option Addr} {c1 : Nat} {a2 : Option Addr} {c2 : Nat} {a3 : Option Addr} {c3 : Nat} {a4 : Option Addr} {c4 : Nat} (h : Fm w g base most J a c A B m a1 c1 a2 c2 a3 c3 a4 c4) (X : List UInt8) (HC : Ay m.kind 8 = true → ∀ W : World, Below w.heap.size w W → Calls Tryz.prog 69 #[.pointer (some ⟨A, 0, none⟩), .pointer (some ⟨B, 0, none⟩)] W fun r w' => r = .returned (.tuple #[]) ∧ Ao W g base most (J ++ X) a w') :
  Calls Tryz.prog 61 #[.int .i64 8, .func (Fn.func 69) #[] #[.pointer (some ⟨A, 0, none⟩), .pointer (some ⟨B, 0, none⟩)], .pointer (some ⟨B, 0, none⟩)] w fun r w' => r = .returned (.tuple #[]) ∧ Ao w g base most (J ++ Bg (Ay m.kind 8) X) a w' := by
 have HH := hid (CF m.kind 8 zT w)
 have HCC := hid HC
 have HP := hid h.pen
 have y0 : w.cell? ⟨B, 0, none⟩ = some (.int .i64 m.kind) := h.pb.cell 0
 clear h HC;generalize Ay m.kind 8 = H at *
 go_enter Tryz.func61, Tryz.ntmps61
 go_wp2_with fail;refine HH.out.mono ?_
 rintro r w1 ⟨rfl, hb1⟩;have HB := hid hb1
 clear hb1;cases H
 ·go_wp2_with fail
  first | go_end0 | refine Ai (Aq rfl _ _ _) rfl ?_
  refine ⟨rfl, ?_⟩
  have := Ao.later HB.out (Ao.refl (HP.out.later HB.out))
  simpa [Bg] using this
 ·have HD := hid (HCC.out rfl w1 HB.out)
  go_wp2_with fail;refine HD.out.mono ?_
  rintro r w2 ⟨rfl, hst⟩;have HST := hid (Ao.later HB.out hst)
  clear hst;go_wp2_with fail;first | go_end0 | refine Ai (Aq rfl _ _ _) rfl ?_
  exact ⟨rfl, HST.out⟩
theorem QO {w : World} {g base most : Nat} {J : List UInt8} {a : Option Addr} {c A B : Nat} {m : Msg} {a1 : Option Addr} {c1 : Nat} {a2 : Option Addr} {c2 : Nat} {a3 : Option Addr} {c3 : Nat} {a4 : Option Addr} {c4 : Nat} (h : Fm w g base most J a c A B m a1 c1 a2 c2 a3 c3 a4 c4) (X : List UInt8) (HC : Ay m.kind 16 = true → ∀ W : World, Below w.heap.size w W → Calls Tryz.prog 71 #[.pointer (some ⟨A, 0, none⟩), .pointer (some ⟨B, 0, none⟩)] W fun r w' => r = .returned (.tuple #[]) ∧ Ao W g base most (J ++ X) a w') :
  Calls Tryz.prog 61 #[.int .i64 16, .func (Fn.func 71) #[] #[.pointer (some ⟨A, 0, none⟩), .pointer (some ⟨B, 0, none⟩)], .pointer (some ⟨B, 0, none⟩)] w fun r w' => r = .returned (.tuple #[]) ∧ Ao w g base most (J ++ Bg (Ay m.kind 16) X) a w' := by
 have HH := hid (CF m.kind 16 zT w)
 have HCC := hid HC
 have HP := hid h.pen
 have y0 : w.cell? ⟨B, 0, none⟩ = some (.int .i64 m.kind) := h.pb.cell 0
 clear h HC;generalize Ay m.kind 16 = H at *
 go_enter Tryz.func61, Tryz.ntmps61
 go_wp2_with fail;refine HH.out.mono ?_
 rintro r w1 ⟨rfl, hb1⟩;have HB := hid hb1
 clear hb1;cases H
 ·go_wp2_with fail
  first | go_end0 | refine Ai (Aq rfl _ _ _) rfl ?_
  refine ⟨rfl, ?_⟩
  have := Ao.later HB.out (Ao.refl (HP.out.later HB.out))
  simpa [Bg] using this
 ·have HD := hid (HCC.out rfl w1 HB.out)
  go_wp2_with fail;refine HD.out.mono ?_
  rintro r w2 ⟨rfl, hst⟩;have HST := hid (Ao.later HB.out hst)
  clear hst;go_wp2_with fail;first | go_end0 | refine Ai (Aq rfl _ _ _) rfl ?_
  exact ⟨rfl, HST.out⟩
theorem QN {w : World} {g base most : Nat} {J : List UInt8} {a : Option Addr} {c A B : Nat} {m : Msg} {a1 : Option Addr} {c1 : Nat} {a2 : Option Addr} {c2 : Nat} {a3 : Option Addr} {c3 : Nat} {a4 : Option Addr} {c4 : Nat} (h : Fm w g base most J a c A B m a1 c1 a2 c2 a3 c3 a4 c4) (X : List UInt8) (HC : Ay m.kind 64 = true → ∀ W : World, Below w.heap.size w W → Calls Tryz.prog 75 #[.pointer (some ⟨A, 0, none⟩), .pointer (some ⟨B, 0, none⟩)] W fun r w' => r = .returned (.tuple #[]) ∧ Ao W g base most (J ++ X) a w') :
  Calls Tryz.prog 61 #[.int .i64 64, .func (Fn.func 75) #[] #[.pointer (some ⟨A, 0, none⟩), .pointer (some ⟨B, 0, none⟩)], .pointer (some ⟨B, 0, none⟩)] w fun r w' => r = .returned (.tuple #[]) ∧ Ao w g base most (J ++ Bg (Ay m.kind 64) X) a w' := by
 have HH := hid (CF m.kind 64 zT w)
 have HCC := hid HC
 have HP := hid h.pen
 have y0 : w.cell? ⟨B, 0, none⟩ = some (.int .i64 m.kind) := h.pb.cell 0
 clear h HC;generalize Ay m.kind 64 = H at *
 go_enter Tryz.func61, Tryz.ntmps61
 go_wp2_with fail;refine HH.out.mono ?_
 rintro r w1 ⟨rfl, hb1⟩;have HB := hid hb1
 clear hb1;cases H
 ·go_wp2_with fail
  first | go_end0 | refine Ai (Aq rfl _ _ _) rfl ?_
  refine ⟨rfl, ?_⟩
  have := Ao.later HB.out (Ao.refl (HP.out.later HB.out))
  simpa [Bg] using this
 ·have HD := hid (HCC.out rfl w1 HB.out)
  go_wp2_with fail;refine HD.out.mono ?_
  rintro r w2 ⟨rfl, hst⟩;have HST := hid (Ao.later HB.out hst)
  clear hst;go_wp2_with fail;first | go_end0 | refine Ai (Aq rfl _ _ _) rfl ?_
  exact ⟨rfl, HST.out⟩
theorem OI {w : World} {g base most : Nat} {J : List UInt8} {a : Option Addr} {c A B : Nat} {m : Msg} {a1 : Option Addr} {c1 : Nat} {a2 : Option Addr} {c2 : Nat} {a3 : Option Addr} {c3 : Nat} {a4 : Option Addr} {c4 : Nat} (h : Fm w g base most J a c A B m a1 c1 a2 c2 a3 c3 a4 c4) (X : List UInt8) (HC : Ay m.kind 128 = true → ∀ W : World, Below w.heap.size w W → Calls Tryz.prog 77 #[.pointer (some ⟨A, 0, none⟩), .pointer (some ⟨B, 0, none⟩)] W fun r w' => r = .returned (.tuple #[]) ∧ Ao W g base most (J ++ X) a w') :
  Calls Tryz.prog 61 #[.int .i64 128, .func (Fn.func 77) #[] #[.pointer (some ⟨A, 0, none⟩), .pointer (some ⟨B, 0, none⟩)], .pointer (some ⟨B, 0, none⟩)] w fun r w' => r = .returned (.tuple #[]) ∧ Ao w g base most (J ++ Bg (Ay m.kind 128) X) a w' := by
 have HH := hid (CF m.kind 128 zT w)
 have HCC := hid HC
 have HP := hid h.pen
 have y0 : w.cell? ⟨B, 0, none⟩ = some (.int .i64 m.kind) := h.pb.cell 0
 clear h HC;generalize Ay m.kind 128 = H at *
 go_enter Tryz.func61, Tryz.ntmps61
 go_wp2_with fail;refine HH.out.mono ?_
 rintro r w1 ⟨rfl, hb1⟩;have HB := hid hb1
 clear hb1;cases H
 ·go_wp2_with fail
  first | go_end0 | refine Ai (Aq rfl _ _ _) rfl ?_
  refine ⟨rfl, ?_⟩
  have := Ao.later HB.out (Ao.refl (HP.out.later HB.out))
  simpa [Bg] using this
 ·have HD := hid (HCC.out rfl w1 HB.out)
  go_wp2_with fail;refine HD.out.mono ?_
  rintro r w2 ⟨rfl, hst⟩;have HST := hid (Ao.later HB.out hst)
  clear hst;go_wp2_with fail;first | go_end0 | refine Ai (Aq rfl _ _ _) rfl ?_
  exact ⟨rfl, HST.out⟩
theorem Sv (k : Int) : CK k ≤ 20 := by unfold CK; split <;> omega
theorem TS {h : Bool} {X : List UInt8} (hh : h = true) : (Bg h X).length = X.length := by rw [hh]; rfl
theorem SW (w : World) {g base most : Nat} {J : List UInt8} {a : Option Addr} {c : Nat} (h : Bv w g base most J a c) (m : Msg) (a1 : Option Addr) (c1 : Nat) (a2 : Option Addr) (c2 : Nat) (a3 : Option Addr) (c3 : Nat) (a4 : Option Addr) (c4 : Nat) (hd : AF (fun q => q < w.heap.size ∧ ¬ CT g a q) w m a1 c1 a2 c2 a3 c3 a4 c4)
  (hbk : ∀ x ∈ m.links, x.backs.length ≤ 1000000) (hR : En m = true) (hfit : J.length + (F0 m).length ≤ most) (hln : J.length + (F0 m).length ≤ 100000000000000) :
  Calls Tryz.prog 16 #[.pointer (some ⟨g, 0, none⟩), .agg #[.int .i64 m.kind, .int .u64 m.epoch, .int .u64 m.seq, .int .u64 m.pos, .int .i64 m.count, .int .i64 m.state, .slice a1 m.streams.length c1, .slice a2 m.links.length c2, .slice a3 m.data.length c3, .int .u64 m.sea.epoch, .int .u64 m.sea.node, .int .u64 m.sea.tail, .int .u64 m.proj.epoch, .slice a4 m.proj.stripes.length c4]] w fun r w' => r = .returned (.tuple #[]) ∧ Ao w g base most (J ++ F0 m) a w' := by
 have hml : (F0 m).length = (Bg (Ay m.kind 1) (AH m.pos.toNat)).length + (Bg (Ay m.kind 2) (AH m.count.toNat)).length + (Bg (Ay m.kind 4) ([UInt8.ofNat m.state.toNat])).length + (Bg (Ay m.kind 8) (Ec m.streams)).length + (Bg (Ay m.kind 16) (CR m.pos m.links)).length + (Bg (Bj m.kind m.state) (Cu m.data)).length + (Bg (Ay m.kind 64) (Ef m.sea)).length + (Bg (Ay m.kind 128) (D4 m.proj)).length := by simp only [F0, Am]
 rw [hml] at hfit hln
 have hmb : F0 m = Bg (Ay m.kind 1) (AH m.pos.toNat) ++ Bg (Ay m.kind 2) (AH m.count.toNat) ++ Bg (Ay m.kind 4) ([UInt8.ofNat m.state.toNat]) ++ Bg (Ay m.kind 8) (Ec m.streams) ++ Bg (Ay m.kind 16) (CR m.pos m.links) ++ Bg (Bj m.kind m.state) (Cu m.data) ++ Bg (Ay m.kind 64) (Ef m.sea) ++ Bg (Ay m.kind 128) (D4 m.proj) := rfl
 have HRT := hid (fun (W : World) (hW : Below w.heap.size w W) => Ic m a1 c1 a2 c2 a3 c3 a4 c4 W (AF.lift (AF.low hd) hW) (fun x hx => zA5))
 rw [hR] at HRT
 have HHD := hid (fun (W : World) => Gt m a1 c1 a2 c2 a3 c3 a4 c4 W)
 have HM := hid (Gg hR)
 have HBK := hid hbk
 have HP := hid h
 have HD := hid hd
 have HLT := hid (fun q (hq : CT g a q) => (h.DG hq).2)
 have hdl := HM.out.data
 clear h hd hR hbk hml;go_enter Tryz.func16, Tryz.ntmps16
 go_wp2_with fail;refine (HRT.out _ zA).mono ?_
 rintro r w1 ⟨rfl, hb1⟩;have hbw1 : Below w.heap.size w w1 := zA
 have hI1 : Fm w1 g base most J a c w.heap.size (w.heap.size + 1) m a1 c1 a2 c2 a3 c3 a4 c4 := ⟨HP.out.later hbw1, Blk.later ((Blk.newAt w 38 #[.pointer (some ⟨g, 0, none⟩)] rfl).alloc _) hb1, Blk.later (Blk.newAt _ 32 #[.int .i64 m.kind, .int .u64 m.epoch, .int .u64 m.seq, .int .u64 m.pos, .int .i64 m.count, .int .i64 m.state, .slice a1 m.streams.length c1, .slice a2 m.links.length c2, .slice a3 m.data.length c3, .int .u64 m.sea.epoch, .int .u64 m.sea.node, .int .u64 m.sea.tail, .int .u64 m.proj.epoch, .slice a4 m.proj.stripes.length c4] zO) hb1, fun hf => ZT, fun hf => ZT, AF.tr (fun A cs x hx => Ej hbw1 hx) HD.out⟩
 have HBW1 := hid hbw1
 clear hb1 hbw1;have q1_0 : w1.cell? ⟨w.heap.size, 0, none⟩ = some (.pointer (some ⟨g, 0, none⟩)) := hI1.pa.cell 0
 have HC1 := hid (Sa hI1 (AH m.pos.toNat) (fun hh W hW => Tc (hI1.later hW) (HM.out.pos hh) zAo zAo))
 have HI1 := hid hI1
 clear hI1;go_wp2_with fail;refine HC1.out.mono ?_
 rintro r w2 ⟨rfl, hst⟩;obtain ⟨a2', c2', hI2, ht, ha⟩ := HI1.out.step hst
 have HT1 := hid (And.intro ht ha)
 clear hst ht ha;have q2_0 : w2.cell? ⟨w.heap.size, 0, none⟩ = some (.pointer (some ⟨g, 0, none⟩)) := hI2.pa.cell 0
 have HC2 := hid (R9 hI2 (AH m.count.toNat) (fun hh W hW => QP (hI2.later hW) (HM.out.count hh) zAn zAn))
 have HI2 := hid hI2
 clear hI2;go_wp2_with fail;refine HC2.out.mono ?_
 rintro r w3 ⟨rfl, hst⟩;obtain ⟨a3', c3', hI3, ht, ha⟩ := HI2.out.step hst
 have HT2 := hid (And.intro ht ha)
 clear hst ht ha;have q3_0 : w3.cell? ⟨w.heap.size, 0, none⟩ = some (.pointer (some ⟨g, 0, none⟩)) := hI3.pa.cell 0
 have HC3 := hid (R6 hI3 ([UInt8.ofNat m.state.toNat]) (fun hh W hW => QL (hI3.later hW) (by have := HM.out.state hh; have := Sv m.kind; omega) zAc zAc))
 have HI3 := hid hI3
 clear hI3;go_wp2_with fail;refine HC3.out.mono ?_
 rintro r w4 ⟨rfl, hst⟩;obtain ⟨a4', c4', hI4, ht, ha⟩ := HI3.out.step hst
 have HT3 := hid (And.intro ht ha)
 clear hst ht ha;have q4_0 : w4.cell? ⟨w.heap.size, 0, none⟩ = some (.pointer (some ⟨g, 0, none⟩)) := hI4.pa.cell 0
 have HC4 := hid (R5 hI4 (Ec m.streams) (fun hh W hW => Ng (hI4.later hW) (HM.out.streams hh) zAq zAq))
 have HI4 := hid hI4
 clear hI4;go_wp2_with fail;refine HC4.out.mono ?_
 rintro r w5 ⟨rfl, hst⟩;obtain ⟨a5', c5', hI5, ht, ha⟩ := HI4.out.step hst
 have HT4 := hid (And.intro ht ha)
 clear hst ht ha;have q5_0 : w5.cell? ⟨w.heap.size, 0, none⟩ = some (.pointer (some ⟨g, 0, none⟩)) := hI5.pa.cell 0
 have HC5 := hid (QO hI5 (CR m.pos m.links) (fun hh W hW => QM (hI5.later hW) HBK.out (HM.out.links hh) zAk zAk))
 have HI5 := hid hI5
 clear hI5;go_wp2_with fail;refine HC5.out.mono ?_
 rintro r w6 ⟨rfl, hst⟩;obtain ⟨a6', c6', hI6, ht, ha⟩ := HI5.out.step hst
 have HT5 := hid (And.intro ht ha)
 clear hst ht ha;have q6_0 : w6.cell? ⟨w.heap.size, 0, none⟩ = some (.pointer (some ⟨g, 0, none⟩)) := hI6.pa.cell 0
 have z6_0 : w6.cell? ⟨w.heap.size + 1, 0, none⟩ = some (.int .i64 m.kind) := hI6.pb.cell 0
 have z6_1 : w6.cell? ⟨w.heap.size + 1, 1, none⟩ = some (.int .u64 m.epoch) := hI6.pb.cell 1
 have z6_2 : w6.cell? ⟨w.heap.size + 1, 2, none⟩ = some (.int .u64 m.seq) := hI6.pb.cell 2
 have z6_3 : w6.cell? ⟨w.heap.size + 1, 3, none⟩ = some (.int .u64 m.pos) := hI6.pb.cell 3
 have z6_4 : w6.cell? ⟨w.heap.size + 1, 4, none⟩ = some (.int .i64 m.count) := hI6.pb.cell 4
 have z6_5 : w6.cell? ⟨w.heap.size + 1, 5, none⟩ = some (.int .i64 m.state) := hI6.pb.cell 5
 have z6_6 : w6.cell? ⟨w.heap.size + 1, 6, none⟩ = some (.slice a1 m.streams.length c1) := hI6.pb.cell 6
 have z6_7 : w6.cell? ⟨w.heap.size + 1, 7, none⟩ = some (.slice a2 m.links.length c2) := hI6.pb.cell 7
 have z6_8 : w6.cell? ⟨w.heap.size + 1, 8, none⟩ = some (.slice a3 m.data.length c3) := hI6.pb.cell 8
 have z6_9 : w6.cell? ⟨w.heap.size + 1, 9, none⟩ = some (.int .u64 m.sea.epoch) := hI6.pb.cell 9
 have z6_10 : w6.cell? ⟨w.heap.size + 1, 10, none⟩ = some (.int .u64 m.sea.node) := hI6.pb.cell 10
 have z6_11 : w6.cell? ⟨w.heap.size + 1, 11, none⟩ = some (.int .u64 m.sea.tail) := hI6.pb.cell 11
 have z6_12 : w6.cell? ⟨w.heap.size + 1, 12, none⟩ = some (.int .u64 m.proj.epoch) := hI6.pb.cell 12
 have z6_13 : w6.cell? ⟨w.heap.size + 1, 13, none⟩ = some (.slice a4 m.proj.stripes.length c4) := hI6.pb.cell 13
 have HI6 := hid hI6
 clear hI6;go_wp2_with fail;refine (HHD.out _).mono ?_
 rintro r v6 ⟨rfl, hb6⟩;have hJ6 := HI6.out.later hb6
 clear z6_0 z6_1 z6_2 z6_3 z6_4 z6_5 z6_6 z6_7 z6_8 z6_9 z6_10 z6_11 z6_12 z6_13;have u6_0 : v6.cell? ⟨w.heap.size, 0, none⟩ = some (.pointer (some ⟨g, 0, none⟩)) := hJ6.pa.cell 0
 have u6_8 : v6.cell? ⟨w.heap.size + 1, 8, none⟩ = some (.slice a3 m.data.length c3) := hJ6.pb.cell 8
 have HK6 : Hid (Bj m.kind m.state = true → Calls Tryz.prog 74 #[.pointer (some ⟨g, 0, none⟩), .slice a3 m.data.length c3] v6 fun r w' => r = .returned (.tuple #[]) ∧ Ao v6 g base most (J ++ Bg (Ay m.kind 1) (AH m.pos.toNat) ++ Bg (Ay m.kind 2) (AH m.count.toNat) ++ Bg (Ay m.kind 4) ([UInt8.ofNat m.state.toNat]) ++ Bg (Ay m.kind 8) (Ec m.streams) ++ Bg (Ay m.kind 16) (CR m.pos m.links) ++ Cu m.data) a6' w') := hid (fun hh => LX v6 hJ6.pen m.data a3 _ c3 hJ6.data.data hdl zAu zAu)
 have HJ6 := hid hJ6
 have HB6 := hid hb6
 clear hJ6 hb6;go_upto_if 27 with (fail)
 go_cut [27] from 28 to 31 (fun s27 V => ∃ a' c', Fm V g base most (J ++ Bg (Ay m.kind 1) (AH m.pos.toNat) ++ Bg (Ay m.kind 2) (AH m.count.toNat) ++ Bg (Ay m.kind 4) ([UInt8.ofNat m.state.toNat]) ++ Bg (Ay m.kind 8) (Ec m.streams) ++ Bg (Ay m.kind 16) (CR m.pos m.links) ++ Bg (Bj m.kind m.state) (Cu m.data)) a' c' w.heap.size (w.heap.size + 1) m a1 c1 a2 c2 a3 c3 a4 c4 ∧ Tch (CT g a6') v6 V ∧ (a'.map Addr.block = a6'.map Addr.block ∨ ∃ q, a'.map Addr.block = some q ∧ v6.heap.size ≤ q))
 case first =>
  have HK := HK6.out
  have hq : Bj m.kind m.state = true ∨ Bj m.kind m.state = false := by cases Bj m.kind m.state <;> simp
  rcases hq with hq | hq
  ·have HKK := hid (HK hq)
   clear HK;rw [hq]
   go_wp2_with fail;refine HKK.out.mono ?_
   rintro r x1 ⟨rfl, hst⟩;obtain ⟨a', c', hI, ht, ha⟩ := HJ6.out.step hst
   go_wp2_with fail;go_meet
   case rel => exact ⟨a', c', by simpa [Bg, hq] using hI, ht, ha⟩
  ·clear HK
   rw [hq]
   go_wp2_with fail;go_meet
   case rel => exact ⟨a6', c6', by simpa [Bg, hq] using HJ6.out, Tch.refl _ _, .inl rfl⟩
 case rest =>
 obtain ⟨a7', c7', hI7, ht, ha⟩ := hcut
 obtain ⟨w7, hwn⟩ : ∃ W : World, W = wc := ⟨_, rfl⟩
 subst hwn;have HT6 := hid (And.intro ht ha)
 clear ht ha;have q7_0 : w7.cell? ⟨w.heap.size, 0, none⟩ = some (.pointer (some ⟨g, 0, none⟩)) := hI7.pa.cell 0
 have HC7 := hid (QN hI7 (Ef m.sea) (fun hh W hW => R3 (hI7.later hW) (HM.out.seal_ hh) zAw zAw))
 have HI7 := hid hI7
 clear hI7;go_wp2_with fail;refine HC7.out.mono ?_
 rintro r w8 ⟨rfl, hst⟩;obtain ⟨a8', c8', hI8, ht, ha⟩ := HI7.out.step hst
 have HT7 := hid (And.intro ht ha)
 clear hst ht ha;have q8_0 : w8.cell? ⟨w.heap.size, 0, none⟩ = some (.pointer (some ⟨g, 0, none⟩)) := hI8.pa.cell 0
 have HC8 := hid (OI hI8 (D4 m.proj) (fun hh W hW => R4 (hI8.later hW) (HM.out.proj hh) zAv zAv))
 have HI8 := hid hI8
 clear hI8;go_wp2_with fail;refine HC8.out.mono ?_
 rintro r w9 ⟨rfl, hst⟩;obtain ⟨a9', c9', hI9, ht, ha⟩ := HI8.out.step hst
 have HT8 := hid (And.intro ht ha)
 clear hst ht ha;have hn := Ao.refl hI9.pen
 have hn := Ao.trans (J := J) HT8.out.1 HT8.out.2 hn
 have hn := Ao.trans (J := J) HT7.out.1 HT7.out.2 hn
 have hn := Ao.trans (J := J) HT6.out.1 HT6.out.2 hn
 have hn := Ao.later HB6.out hn
 have hn := Ao.trans (J := J) HT5.out.1 HT5.out.2 hn
 have hn := Ao.trans (J := J) HT4.out.1 HT4.out.2 hn
 have hn := Ao.trans (J := J) HT3.out.1 HT3.out.2 hn
 have hn := Ao.trans (J := J) HT2.out.1 HT2.out.2 hn
 have hn := Ao.trans (J := J) HT1.out.1 HT1.out.2 hn
 have hn := Ao.later HBW1.out hn
 have HST := hid hn
 clear hn hI9;go_wp2_with fail;first | go_end0 | refine Ai (Aq rfl _ _ _) rfl ?_
 refine ⟨rfl, ?_⟩
 have := HST.out
 rw [hmb]
 simpa only [Au] using this
theorem ME (w : World) {g base most : Nat} {J : List UInt8} {a : Option Addr} {c : Nat} (h : Bv w g base most J a c) (m : Msg) (a1 : Option Addr) (c1 : Nat) (a2 : Option Addr) (c2 : Nat) (a3 : Option Addr) (c3 : Nat) (a4 : Option Addr) (c4 : Nat) (hd : AF (· < w.heap.size) w m a1 c1 a2 c2 a3 c3 a4 c4)
  (hbk : ∀ x ∈ m.links, x.backs.length ≤ 1000000) (hR : En m = false) :
  Calls Tryz.prog 16 #[.pointer (some ⟨g, 0, none⟩), .agg #[.int .i64 m.kind, .int .u64 m.epoch, .int .u64 m.seq, .int .u64 m.pos, .int .i64 m.count, .int .i64 m.state, .slice a1 m.streams.length c1, .slice a2 m.links.length c2, .slice a3 m.data.length c3, .int .u64 m.sea.epoch, .int .u64 m.sea.node, .int .u64 m.sea.tail, .int .u64 m.proj.epoch, .slice a4 m.proj.stripes.length c4]] w fun r w' => r = .returned (.tuple #[]) ∧ Blk w' g 87 #[.int .i64 most, .slice a J.length c, .int .i64 3] ∧ Tch (· = g) w w' := by
 have HRT := hid (fun (W : World) (hW : Below w.heap.size w W) => Ic m a1 c1 a2 c2 a3 c3 a4 c4 W (AF.lift hd hW) (fun x hx => zA5))
 rw [hR] at HRT
 have HF := hid (fun (W : World) (hW : Below w.heap.size w W) => Nj W (h.later hW) 3)
 clear h hd hR hbk;go_enter Tryz.func16, Tryz.ntmps16
 go_wp2_with fail;refine (HRT.out _ zA).mono ?_
 rintro r w1 ⟨rfl, hb1⟩;have hbw1 : Below w.heap.size w w1 := zA
 have p0 := hb1.cell (p := ⟨w.heap.size, 0, none⟩) zL
 simp at p0
 clear hb1;go_wp2_with fail;refine (HF.out _ hbw1).mono ?_
 rintro r w2 ⟨rfl, hB2, hT2⟩;have HB2 := hid hB2
 have HT2 := hid hT2
 clear hB2 hT2 p0;go_wp2_with fail;first | go_end0 | refine Ai (Aq rfl _ _ _) rfl ?_
 exact ⟨rfl, HB2.out, Tch.trans (F := (· = g)) (Tch.BQ hbw1) HT2.out (fun _ _ h => h)⟩
def Ix (m : Msg) : List UInt8 × Int := if En m = true then (F0 m, 0) else ([], 3)
theorem PA (w : World) (m : Msg) (a1 : Option Addr) (c1 : Nat) (a2 : Option Addr) (c2 : Nat) (a3 : Option Addr) (c3 : Nat) (a4 : Option Addr) (c4 : Nat) (hd : AF (· < w.heap.size) w m a1 c1 a2 c2 a3 c3 a4 c4) (hbk : ∀ x ∈ m.links, x.backs.length ≤ 1000000) (hln : m.data.length ≤ 10000000000) :
  Calls Tryz.prog 14 #[.agg #[.int .i64 m.kind, .int .u64 m.epoch, .int .u64 m.seq, .int .u64 m.pos, .int .i64 m.count, .int .i64 m.state, .slice a1 m.streams.length c1, .slice a2 m.links.length c2, .slice a3 m.data.length c3, .int .u64 m.sea.epoch, .int .u64 m.sea.node, .int .u64 m.sea.tail, .int .u64 m.proj.epoch, .slice a4 m.proj.stripes.length c4]] w fun r w' => ∃ v, r = .returned (.tuple #[v, .int .i64 (Ix m).2]) ∧ Ag.r (fun q => w.heap.size ≤ q ∧ q < w'.heap.size) w' [v] (Ix m).1 ∧ Below w.heap.size w w' := by
 have HD := hid hd
 have hmo : (65536 : Int) + (m.data.length : Int) = ((65536 + m.data.length : Nat) : Int) := zD
 have HN := hid (fun W : World => (by have := Iu W (65536 + m.data.length) zD; rw [← hmo] at this; exact this : Calls Tryz.prog 15 #[.int .i64 ((65536 : Int) + (m.data.length : Int))] W fun r w' => r = .returned (.pointer (some ⟨W.heap.size, 0, none⟩)) ∧ Bv w' W.heap.size W.heap.size (65536 + m.data.length) [] none 0 ∧ Below W.heap.size W w'))
 unfold Ix;have HBX : Hid (Blk (w.alloc (.cells #[.int .i64 m.kind, .int .u64 m.epoch, .int .u64 m.seq, .int .u64 m.pos, .int .i64 m.count, .int .i64 m.state, .slice a1 m.streams.length c1, .slice a2 m.links.length c2, .slice a3 m.data.length c3, .int .u64 m.sea.epoch, .int .u64 m.sea.node, .int .u64 m.sea.tail, .int .u64 m.proj.epoch, .slice a4 m.proj.stripes.length c4] 32)) w.heap.size 32 #[.int .i64 m.kind, .int .u64 m.epoch, .int .u64 m.seq, .int .u64 m.pos, .int .i64 m.count, .int .i64 m.state, .slice a1 m.streams.length c1, .slice a2 m.links.length c2, .slice a3 m.data.length c3, .int .u64 m.sea.epoch, .int .u64 m.sea.node, .int .u64 m.sea.tail, .int .u64 m.proj.epoch, .slice a4 m.proj.stripes.length c4]) := hid (Blk.new w _ _)
 have hb0 : Below w.heap.size w (w.alloc (.cells #[.int .i64 m.kind, .int .u64 m.epoch, .int .u64 m.seq, .int .u64 m.pos, .int .i64 m.count, .int .i64 m.state, .slice a1 m.streams.length c1, .slice a2 m.links.length c2, .slice a3 m.data.length c3, .int .u64 m.sea.epoch, .int .u64 m.sea.node, .int .u64 m.sea.tail, .int .u64 m.proj.epoch, .slice a4 m.proj.stripes.length c4] 32)) := zB
 cases hR : En m
 ·rw [An zO]
  have HPT := hid (fun (W : World) {g base most : Nat} {a : Option Addr} {c : Nat} (h : Bv W g base most [] a c) (hW : Below w.heap.size w W) => ME W h m a1 c1 a2 c2 a3 c3 a4 c4 (AF.lift HD.out hW) hbk hR)
  clear hd hR hbk hmo;go_enter Tryz.func14, Tryz.ntmps14
  go_wp2_with fail;generalize w.alloc (.cells #[.int .i64 m.kind, .int .u64 m.epoch, .int .u64 m.seq, .int .u64 m.pos, .int .i64 m.count, .int .i64 m.state, .slice a1 m.streams.length c1, .slice a2 m.links.length c2, .slice a3 m.data.length c3, .int .u64 m.sea.epoch, .int .u64 m.sea.node, .int .u64 m.sea.tail, .int .u64 m.proj.epoch, .slice a4 m.proj.stripes.length c4] 32) = w0 at *
  refine (HN.out _).mono ?_
  rintro r w2 ⟨rfl, hp2, hb2⟩;have hB2 := HBX.out.later hb2
  have y0 : w2.cell? ⟨w.heap.size, 0, none⟩ = some (.int .i64 m.kind) := hB2.cell 0
  have y1 : w2.cell? ⟨w.heap.size, 1, none⟩ = some (.int .u64 m.epoch) := hB2.cell 1
  have y2 : w2.cell? ⟨w.heap.size, 2, none⟩ = some (.int .u64 m.seq) := hB2.cell 2
  have y3 : w2.cell? ⟨w.heap.size, 3, none⟩ = some (.int .u64 m.pos) := hB2.cell 3
  have y4 : w2.cell? ⟨w.heap.size, 4, none⟩ = some (.int .i64 m.count) := hB2.cell 4
  have y5 : w2.cell? ⟨w.heap.size, 5, none⟩ = some (.int .i64 m.state) := hB2.cell 5
  have y6 : w2.cell? ⟨w.heap.size, 6, none⟩ = some (.slice a1 m.streams.length c1) := hB2.cell 6
  have y7 : w2.cell? ⟨w.heap.size, 7, none⟩ = some (.slice a2 m.links.length c2) := hB2.cell 7
  have y8 : w2.cell? ⟨w.heap.size, 8, none⟩ = some (.slice a3 m.data.length c3) := hB2.cell 8
  have y9 : w2.cell? ⟨w.heap.size, 9, none⟩ = some (.int .u64 m.sea.epoch) := hB2.cell 9
  have y10 : w2.cell? ⟨w.heap.size, 10, none⟩ = some (.int .u64 m.sea.node) := hB2.cell 10
  have y11 : w2.cell? ⟨w.heap.size, 11, none⟩ = some (.int .u64 m.sea.tail) := hB2.cell 11
  have y12 : w2.cell? ⟨w.heap.size, 12, none⟩ = some (.int .u64 m.proj.epoch) := hB2.cell 12
  have y13 : w2.cell? ⟨w.heap.size, 13, none⟩ = some (.slice a4 m.proj.stripes.length c4) := hB2.cell 13
  have hbw2 := Af hb2 hb0
  have hs1 := hb0.size
  have HP2 := hid (HPT.out w2 hp2 hbw2)
  clear hp2 hB2;go_wp2_with fail;refine HP2.out.mono ?_
  rintro r w3 ⟨rfl, hB3, hT3⟩;have hbw3 : Below w.heap.size w w3 := hbw2.trans (hT3.BE hbw2.size (fun q _ e => zD))
  have HB := hid (K2 w3 (k := 3) zD hB3)
  clear hB3 hT3 y0 y1 y2 y3 y4 y5 y6 y7 y8 y9 y10 y11 y12 y13;go_wp2_with fail;refine HB.out.mono ?_
  rintro r w4 ⟨rfl, rfl⟩;go_wp2_with fail;go_ret2
  exact ⟨_, rfl, Gq rfl rfl zD, hbw3⟩
 ·rw [Ak rfl]
  have hbl := Kt hR
  have HPT := hid (fun (W : World) {g base most : Nat} {a : Option Addr} {c : Nat} (h : Bv W g base most [] a c) (hW : AF (fun q => q < W.heap.size ∧ ¬ CT g a q) W m a1 c1 a2 c2 a3 c3 a4 c4) (hf : (F0 m).length ≤ most) => SW W h m a1 c1 a2 c2 a3 c3 a4 c4 hW hbk hR (by simpa using hf) zL)
  have hfit : (F0 m).length ≤ 65536 + m.data.length := zD
  generalize F0 m = K at *
  clear hd hR hbk hmo hbl;go_enter Tryz.func14, Tryz.ntmps14
  go_wp2_with fail;generalize w.alloc (.cells #[.int .i64 m.kind, .int .u64 m.epoch, .int .u64 m.seq, .int .u64 m.pos, .int .i64 m.count, .int .i64 m.state, .slice a1 m.streams.length c1, .slice a2 m.links.length c2, .slice a3 m.data.length c3, .int .u64 m.sea.epoch, .int .u64 m.sea.node, .int .u64 m.sea.tail, .int .u64 m.proj.epoch, .slice a4 m.proj.stripes.length c4] 32) = w0 at *
  refine (HN.out _).mono ?_
  rintro r w2 ⟨rfl, hp2, hb2⟩;have hB2 := HBX.out.later hb2
  have y0 : w2.cell? ⟨w.heap.size, 0, none⟩ = some (.int .i64 m.kind) := hB2.cell 0
  have y1 : w2.cell? ⟨w.heap.size, 1, none⟩ = some (.int .u64 m.epoch) := hB2.cell 1
  have y2 : w2.cell? ⟨w.heap.size, 2, none⟩ = some (.int .u64 m.seq) := hB2.cell 2
  have y3 : w2.cell? ⟨w.heap.size, 3, none⟩ = some (.int .u64 m.pos) := hB2.cell 3
  have y4 : w2.cell? ⟨w.heap.size, 4, none⟩ = some (.int .i64 m.count) := hB2.cell 4
  have y5 : w2.cell? ⟨w.heap.size, 5, none⟩ = some (.int .i64 m.state) := hB2.cell 5
  have y6 : w2.cell? ⟨w.heap.size, 6, none⟩ = some (.slice a1 m.streams.length c1) := hB2.cell 6
  have y7 : w2.cell? ⟨w.heap.size, 7, none⟩ = some (.slice a2 m.links.length c2) := hB2.cell 7
  have y8 : w2.cell? ⟨w.heap.size, 8, none⟩ = some (.slice a3 m.data.length c3) := hB2.cell 8
  have y9 : w2.cell? ⟨w.heap.size, 9, none⟩ = some (.int .u64 m.sea.epoch) := hB2.cell 9
  have y10 : w2.cell? ⟨w.heap.size, 10, none⟩ = some (.int .u64 m.sea.node) := hB2.cell 10
  have y11 : w2.cell? ⟨w.heap.size, 11, none⟩ = some (.int .u64 m.sea.tail) := hB2.cell 11
  have y12 : w2.cell? ⟨w.heap.size, 12, none⟩ = some (.int .u64 m.proj.epoch) := hB2.cell 12
  have y13 : w2.cell? ⟨w.heap.size, 13, none⟩ = some (.slice a4 m.proj.stripes.length c4) := hB2.cell 13
  have hbw2 := Af hb2 hb0
  have hs1 := hb0.size
  have HPA := hid hp2
  have HP2 := hid (HPT.out w2 hp2 (AF.tr (fun A cs x hx => A.mono (A.keep hx fun q hq => hbw2.block q hq) fun q hq => ⟨by have := hbw2.size; omega, fun hf => by have := (hp2.DG hf).1; omega⟩) HD.out) hfit)
  clear hp2 hB2;go_wp2_with fail;refine HP2.out.mono ?_
  rintro r w3 ⟨rfl, hst⟩;rw [A8] at hst
  have hbw3 : Below w.heap.size w w3 := hbw2.trans (HPA.out.below hs1 hbw2.size hst)
  obtain ⟨a9, c9, hp3, _, _⟩ := hst
  have HB := hid (G4 w3 hp3)
  have hs3 := hbw3.size
  clear hp3 y0 y1 y2 y3 y4 y5 y6 y7 y8 y9 y10 y11 y12 y13;go_wp2_with fail;refine HB.out.mono ?_
  rintro r w4 ⟨v, rfl, hv, hb4⟩;have hbe := Af hb4 hbw3
  have HV := hid (Ag.mono (S' := fun q => w.heap.size ≤ q ∧ q < w4.heap.size) hv fun q hq => ⟨zU, hq.2⟩)
  clear hv;go_wp2_with fail;go_ret2
  exact ⟨_, rfl, HV.out, hbe⟩
def CU : Msg := ⟨0, 0, 0, 0, 0, 0, [], [], [], ⟨0, 0, 0⟩, ⟨0, []⟩⟩
theorem OQ {S : Nat → Prop} {w : World} {m : Msg} (hk : inI m.kind) (he : inU m.epoch) (hs : inU m.seq) (hp : inU m.pos) (hc : inI m.count) (ht : inI m.state) (h1 : m.streams = []) (h2 : m.links = []) (h3 : m.data = []) (h4 : inU m.sea.epoch ∧ inU m.sea.node ∧ inU m.sea.tail) (h5 : inU m.proj.epoch) (h6 : m.proj.stripes = []) : AF S w m none 0 none 0 none 0 none 0 := by
 refine ⟨hk, he, hs, hp, hc, ht, h4.1, h4.2.1, h4.2.2, h5, ?_, ?_, ?_, ?_⟩
 ·rw [h1]; exact A3 (xs := []) rfl (Aj _) (Aj _) (.inl rfl)
 ·rw [h2]; exact A3 (xs := []) rfl (Aj _) (Aj _) (.inl rfl)
 ·rw [h3]; exact A3 (xs := []) rfl (Aj _) (Aj _) (.inl rfl)
 ·rw [h6]; exact A3 (xs := []) rfl (Aj _) (Aj _) (.inl rfl)
def Rs.part {α : Type} (h : Bool) (s : Rs) (f : Rs → Rs × α) (z : α) : Rs × α := if h = true then f s else (s, z)
def Rs.Ed (B : List UInt8) (s : Rs) : Rs × Int := ((s.po B).1, ((s.po B).2 : Int))
def Rs.cnt (B : List UInt8) (s : Rs) : Rs × Int := ((s.many B 65536).1, ((s.many B 65536).2 : Int))
def Rs.stt (B : List UInt8) (k : Int) (s : Rs) : Rs × Int :=
 let x : Int := ((s.byte B).2.toNat : Int)
 (if 1 ≤ x ∧ x ≤ CK k then (s.byte B).1 else (s.byte B).1.fail 3 s.p, x)
def Rs.FH (B : List UInt8) (s : Rs) : Rs × List Int := Rs.DC B (s.int B 16).2 (s.int B 16).1 []
structure TI where
 pos : Int
 count : Int
 state : Int
 streams : List Int
 links : List BB
def Rs.ahead (B : List UInt8) (k : Int) (s : Rs) : Rs × TI :=
 let a := Rs.part (Ay k 1) s (Rs.Ed B) 0
 let b := Rs.part (Ay k 2) a.1 (Rs.cnt B) 0
 let c := Rs.part (Ay k 4) b.1 (Rs.stt B k) 0
 let d := Rs.part (Ay k 8) c.1 (Rs.FH B) []
 let e := Rs.part (Ay k 16) d.1 (fun t => t.links B a.2) []
 (e.1, ⟨a.2, b.2, c.2, d.2, e.2⟩)
def Rs.body (B : List UInt8) (blk : Rs → Rs × List UInt8 × Bool) (k : Int) (s : Rs) : Rs × Msg × Bool :=
 if 1 ≤ k ∧ k ≤ 14 then
  let e := s.ahead B k
  let f := Rs.part (Bj k e.2.state) e.1 blk ([], true)
  let g := Rs.part (Ay k 64) f.1 (Rs.seal_ B) CI
  let h := Rs.part (Ay k 128) g.1 (Rs.C3 B) CX
  if h.1.k = 0 then (h.1, ⟨k, 0, 0, e.2.pos, e.2.count, e.2.state, e.2.streams, e.2.links, f.2.1, g.2, h.2⟩, f.2.2) else (h.1, CU, false)
 else (s.fail 7 s.p, CU, false)
section
variable {α : Type} {B : List UInt8} {s : Rs}
theorem Rs.Dn {h : Bool} {f : Rs → Rs × α} {z : α} {L : Nat} (hs : s.ok L) (hf : (f s).1.ok L) : (Rs.part h s f z).1.ok L := by
 unfold Rs.part;split
 ·exact hf
 ·exact hs
theorem Rs.TQ (h : s.ok B.length) : (s.po B).1.ok B.length := by
 have h2 := Rs.Cz (B := B) h
 unfold Rs.po;split
 ·split
  ·exact h2
  ·exact Rs.BS h2 zD
 ·exact h2
theorem Rs.Sf (h : s.ok B.length) : (s.Ed B).1.ok B.length := Rs.TQ h
theorem Rs.SO (h : s.ok B.length) : (s.cnt B).1.ok B.length := Rs.Gi h
theorem Rs.RH {k : Int} (h : s.ok B.length) : (s.stt B k).1.ok B.length := by
 unfold Rs.stt;dsimp only;split
 ·exact Rs.Gs h
 ·exact Rs.BS (Rs.Gs h) zD
theorem Rs.PH (h : s.ok B.length) : (s.FH B).1.ok B.length := Rs.Mh _ _ _ (Rs.EE h)
theorem Rs.OL (h : s.k ≠ 0) : s.po B = (s, 0) := by
 unfold Rs.po;rw [Rs.C5 h, An h]
theorem Rs.Kq (h : s.k ≠ 0) : s.Ed B = (s, 0) := by
 unfold Rs.Ed;rw [Rs.OL h]
 rfl
theorem Rs.KK (h : s.k ≠ 0) : s.cnt B = (s, 0) := by
 unfold Rs.cnt;rw [Rs.Ew h]
 rfl
theorem Rs.Jk (h : s.k ≠ 0) : s.FH B = (s, []) := by
 unfold Rs.FH;rw [Rs.FA h]
 rfl
theorem Rs.J9 {k : Int} (h : s.k ≠ 0) : s.stt B k = (s, 0) := by
 unfold Rs.stt Rs.byte;rw [Rs.Jm h]
 dsimp only;rw [Rs.Bw h]
 simp
theorem Rs.T2 (h : (s.cnt B).1.k = 0) : 1 ≤ (s.cnt B).2 ∧ (s.cnt B).2 ≤ 65536 := by
 have h1 := Rs.GV (B := B) (s := s) (m := 65536) h
 have h2 : (s.many B 65536).2 ≤ 65536 := Rs.Gj (m := 65536)
 unfold Rs.cnt;dsimp only;omega
theorem Rs.TJ {k : Int} (h : (s.stt B k).1.k = 0) : 1 ≤ (s.stt B k).2 ∧ (s.stt B k).2 ≤ CK k := by
 unfold Rs.stt at h ⊢;dsimp only at h ⊢;split at h
 ·rename_i h1
  exact h1
 ·exact absurd h (Rs.Be zD)
end
theorem Rs.N2 {B : List UInt8} {k : Int} {s : Rs} (h : s.ok B.length) : (s.ahead B k).1.ok B.length := by
 unfold Rs.ahead;have h1 : (Rs.part (Ay k 1) s (Rs.Ed B) 0).1.ok B.length := Rs.Dn h (Rs.Sf h)
 have h2 : (Rs.part (Ay k 2) (Rs.part (Ay k 1) s (Rs.Ed B) 0).1 (Rs.cnt B) 0).1.ok B.length := Rs.Dn h1 (Rs.SO h1)
 have h3 := Rs.Dn (h := Ay k 4) (z := 0) h2 (Rs.RH (k := k) h2)
 have h4 := Rs.Dn (h := Ay k 8) (z := []) h3 (Rs.PH h3)
 exact Rs.Dn h4 (Rs.Sy h4)
theorem Rs.Qd {B : List UInt8} {k : Int} {s : Rs} {blk : Rs → Rs × List UInt8 × Bool} (h : s.ok B.length) (hb : ∀ t : Rs, t.ok B.length → (blk t).1.ok B.length) : (s.body B blk k).1.ok B.length := by
 unfold Rs.body;split
 ·have h1 := Rs.N2 (k := k) h
  have h2 := Rs.Dn (h := Bj k (s.ahead B k).2.state) (z := ([], true)) h1 (hb _ h1)
  have h3 := Rs.Dn (h := Ay k 64) (z := CI) h2 (Rs.PN h2)
  have h4 := Rs.Dn (h := Ay k 128) (z := CX) h3 (Rs.Td h3)
  dsimp only;split
  ·exact h4
  ·exact h4
 ·exact Rs.BS h zD
structure Ut (m : Msg) : Prop where
 pos : inU m.pos
 streams : ∀ x ∈ m.streams, 0 ≤ x ∧ x ≤ 18446744073709551615
 links : ∀ x ∈ m.links, (0 ≤ x.stream ∧ x.stream ≤ 18446744073709551615) ∧ ∀ y ∈ x.backs, 0 ≤ y
 node : 0 ≤ m.sea.node
 tail : 0 ≤ m.sea.tail
 proj : ∀ z ∈ m.proj.stripes, ∀ x ∈ z.sets, ∀ y ∈ x, 0 ≤ y ∧ y ≤ 18446744073709551615
theorem Rs.Gc {B : List UInt8} : ∀ (n : Nat) (s : Rs) (prev : Option Int) (out : List Int), s.ok B.length → (prev = none ∧ out = [] ∨ ∃ q, prev = some q ∧ 0 ≤ q ∧ out ≠ [] ∧ out.getLastD 0 = q) → (Rs.DC B n s out).1.k = 0 →
  ∃ t, (Rs.DC B n s out).2 = out ++ t ∧ t.length = n ∧ (∀ x ∈ t, 0 ≤ x ∧ x ≤ 18446744073709551615) ∧ B.drop s.p = CJ (EB prev t) ++ B.drop (Rs.DC B n s out).1.p
 | 0, s, prev, out, _, _, _ => ⟨[], by simp [Rs.DC], rfl, zO, by simp [Rs.DC, EB, CJ]⟩
 | n + 1, s, prev, out, hs, hp, h => by
  unfold Rs.DC at h ⊢;by_cases h1 : (s.num B).1.k = 0
  ·rw [Ak h1] at h ⊢
   have hc := (Rs.C9 hs h1).1
   have hsm := Rs.CL (B := B) (s := s)
   have hok := Rs.Cz (B := B) hs
   split at h
   ·exact absurd h (Rs.Be zD)
   ·rename_i h2
    rw [An h2]
    rcases hp with ⟨rfl, rfl⟩ | ⟨q, rfl, hq0, hne, hq⟩
    ·rw [Ak rfl] at h ⊢
     obtain ⟨t, t1, t2, t3, t4⟩ := Rs.Gc n _ (some ((s.num B).2 : Int)) ([] ++ [((s.num B).2 : Int)]) hok (.inr ⟨_, rfl, zD, zO, zO⟩) h
     refine ⟨((s.num B).2 : Int) :: t, by rw [t1]; simp, zBr, fun x hx => ?_, ?_⟩
     ·rw [List.mem_cons] at hx
      rcases hx with rfl | hx
      ·omega
      ·exact t3 x hx
     ·rw [hc, t4]
      simp only [EB]
      rw [Fg, Ch, Au]
    ·rw [An hne] at h ⊢
     rw [hq] at h h2 ⊢
     have h3 : ((s.num B).2 : Int) < 18446744073709551615 - q := by
      have : ¬ (18446744073709551615 - q ≤ ((s.num B).2 : Int)) := fun hh => h2 ⟨hne, hh⟩
      omega
     obtain ⟨t, t1, t2, t3, t4⟩ := Rs.Gc n _ (some (((s.num B).2 : Int) + (q + 1))) (out ++ [((s.num B).2 : Int) + (q + 1)]) hok (.inr ⟨_, rfl, zD, zO, zO⟩) h
     refine ⟨(((s.num B).2 : Int) + (q + 1)) :: t, by rw [t1]; simp, zBr, fun x hx => ?_, ?_⟩
     ·rw [List.mem_cons] at hx
      rcases hx with rfl | hx
      ·omega
      ·exact t3 x hx
     ·rw [hc, t4]
      simp only [EB]
      rw [Fg, show ((s.num B).2 : Int) + (q + 1) - q - 1 = ((s.num B).2 : Int) by omega, Ch, Au]
  ·rw [An h1] at h
   exact absurd h h1
theorem Rs.Gk {B : List UInt8} {s : Rs} {m : Int} (hs : s.ok B.length) (h : (s.many B m).1.k = 0) : B.drop s.p = AH (s.many B m).2 ++ B.drop (s.many B m).1.p := by
 unfold Rs.many at h ⊢;dsimp only at h ⊢;split at h
 ·exact absurd h (Rs.Be zD)
 ·rename_i h1
  rw [An h1]
  exact (Rs.G8 hs h).1
theorem Rs.Qx {B : List UInt8} {s : Rs} {O : List (List Int)} (hs : s.ok B.length) (h : (s.DX B O).1.k = 0) : (∀ x ∈ (s.DX B O).2, 0 ≤ x ∧ x ≤ 18446744073709551615) ∧ B.drop s.p = Ec (s.DX B O).2 ++ B.drop (s.DX B O).1.p := by
 unfold Rs.DX at h ⊢;dsimp only at h ⊢;have hm := Rs.Gk (B := B) (s := s) (m := 8) hs
 have hb := fun hk => Rs.Fx (B := B) (s := (s.many B 8).1) (out := []) hk (s.many B 8).2
 have hr := Rs.Gc (B := B) (s.many B 8).2 (s.many B 8).1 none [] (Rs.Gi hs) (.inl ⟨rfl, rfl⟩)
 generalize Rs.DC B (s.many B 8).2 (s.many B 8).1 [] = f at *
 split at h
 ·rename_i h1
  rw [Ak h1]
  have hk1 : (s.many B 8).1.k = 0 := AS fun hh => hb hh h1
  obtain ⟨t, t1, t2, t3, t4⟩ := hr h1
  rw [A8] at t1
  split at h
  ·exact absurd h (Rs.Be zD)
  ·rename_i h2
   rw [An h2]
   split at h
   ·rename_i h3
    rw [Ak h3]
    rw [t1]
    refine ⟨t3, ?_⟩
    rw [hm hk1, t4]
    unfold Ec JG;rw [t2, Au]
   ·exact absurd h (Rs.Be zD)
 ·rename_i h1
  exact absurd h h1
theorem Rs.Kg {B : List UInt8} : ∀ (n : Nat) (s : Rs) (out : List (List Int)), s.ok B.length → (Rs.Du B n s out).1.k = 0 → ∃ t, (Rs.Du B n s out).2 = out ++ t ∧ (∀ x ∈ t, ∀ y ∈ x, 0 ≤ y ∧ y ≤ 18446744073709551615) ∧ B.drop s.p = EY t ++ B.drop (Rs.Du B n s out).1.p
 | 0, s, out, _, _ => ⟨[], by simp [Rs.Du], zO, by simp [Rs.Du, EY]⟩
 | n + 1, s, out, hs, h => by
  unfold Rs.Du at h ⊢;split at h
  ·rename_i h1
   rw [Ak h1]
   obtain ⟨c1, c2⟩ := Rs.Qx hs h1
   obtain ⟨t, t1, t2, t3⟩ := Rs.Kg n _ _ (Rs.RL hs) h
   refine ⟨(s.DX B out).2 :: t, by rw [t1]; simp, fun x hx => ?_, ?_⟩
   ·rw [List.mem_cons] at hx
    rcases hx with rfl | hx
    ·exact c1
    ·exact t2 x hx
   ·rw [c2, t3]
    simp [EY]
  ·rename_i h1
   exact absurd h h1
theorem Rs.Ok {B : List UInt8} {s : Rs} {lo : Int} (hs : s.ok B.length) (h : (s.span B lo).1.k = 0) : B.drop s.p = AH (s.span B lo).2 ++ B.drop (s.span B lo).1.p := by
 unfold Rs.span at h ⊢;dsimp only at h ⊢;by_cases hlo : 4611686018427387904 < lo
 ·rw [Ak hlo] at h
  have hb : (s.fail 3 s.p).k ≠ 0 := Rs.Be zD
  rw [Rs.C5 hb] at h
  dsimp only at h;rw [Rs.Bw hb] at h
  split at h <;> exact absurd h hb
 ·rw [An hlo] at h ⊢
  split at h
  ·exact absurd h (Rs.Be zD)
  ·rename_i h2
   rw [An h2]
   exact (Rs.C9 hs h).1
theorem Rs.Mb {B : List UInt8} {s : Rs} {lo : Int} (hs : s.ok B.length) (h : (s.Bi B lo).1.k = 0) : (∀ x ∈ (s.Bi B lo).2.sets, ∀ y ∈ x, 0 ≤ y ∧ y ≤ 18446744073709551615) ∧ B.drop s.p = Dm (s.Bi B lo).2 ++ B.drop (s.Bi B lo).1.p := by
 unfold Rs.Bi at h ⊢;dsimp only at h ⊢;have h0 := Rs.Mg (B := B) ((s.span B lo).1.many B 8).2 ((s.span B lo).1.many B 8).1 [] rfl
 have h1 := Rs.Kg (B := B) ((s.span B lo).1.many B 8).2 ((s.span B lo).1.many B 8).1 [] (Rs.Gi (Rs.Md hs))
 have h2 := Rs.Ol (B := B) (s := ((s.span B lo).1.many B 8).1) ((s.span B lo).1.many B 8).2 (out := [])
 have h3 := Rs.Ku (B := B) (s := (s.span B lo).1) (m := 8)
 have h4 := Rs.Gk (B := B) (s := (s.span B lo).1) (m := 8) (Rs.Md hs)
 have h5 := Rs.Ok (B := B) (s := s) (lo := lo) hs
 generalize Rs.Du B ((s.span B lo).1.many B 8).2 ((s.span B lo).1.many B 8).1 [] = u at *
 split at h
 ·rename_i hk
  rw [Ak hk]
  obtain ⟨_, a2⟩ := h0 hk
  obtain ⟨t, t1, t2, t3⟩ := h1 hk
  have hk2 := h2 hk
  rw [A8] at t1
  simp only [Br, BR] at a2
  dsimp only;rw [t1] at a2 ⊢
  refine ⟨t2, ?_⟩
  rw [h5 (h3 hk2), h4 hk2, t3]
  unfold Dm;dsimp only;rw [a2, show lo + ((s.span B lo).2 : Int) + 1 - lo - 1 = ((s.span B lo).2 : Int) by omega, Ch]
  simp only [Au]
 ·rename_i hk
  exact absurd h hk
theorem Rs.Hg {B : List UInt8} : ∀ (n : Nat) (s : Rs) (lo : Int) (out : List Bk), s.ok B.length → (Rs.Bt B n s lo out).1.k = 0 → ∃ t, (Rs.Bt B n s lo out).2.2 = out ++ t ∧ t.length = n ∧ (∀ z ∈ t, ∀ x ∈ z.sets, ∀ y ∈ x, 0 ≤ y ∧ y ≤ 18446744073709551615) ∧ B.drop s.p = CO t ++ B.drop (Rs.Bt B n s lo out).1.p
 | 0, s, lo, out, _, _ => ⟨[], by simp [Rs.Bt], rfl, zO, by simp [Rs.Bt, CO]⟩
 | n + 1, s, lo, out, hs, h => by
  unfold Rs.Bt at h ⊢;split at h
  ·rename_i h1
   rw [Ak h1]
   obtain ⟨c1, c2⟩ := Rs.Mb hs h1
   obtain ⟨t, t1, t2, t3, t4⟩ := Rs.Hg n _ _ _ (Rs.Lh hs) h
   refine ⟨(s.Bi B lo).2 :: t, by rw [t1]; simp, zBr, fun x hx => ?_, ?_⟩
   ·rw [List.mem_cons] at hx
    rcases hx with rfl | hx
    ·exact c1
    ·exact t3 x hx
   ·rw [c2, t4]
    simp [CO]
  ·rename_i h1
   exact absurd h h1
theorem Rs.Kp {B : List UInt8} {s : Rs} (hs : s.ok B.length) (h : (s.C3 B).1.k = 0) : (∀ z ∈ (s.C3 B).2.stripes, ∀ x ∈ z.sets, ∀ y ∈ x, 0 ≤ y ∧ y ≤ 18446744073709551615) ∧ B.drop s.p = D4 (s.C3 B).2 ++ B.drop (s.C3 B).1.p := by
 unfold Rs.C3 at h ⊢;dsimp only at h ⊢;have h1 := Rs.Hg (B := B) ((s.ep B).1.many B 64).2 ((s.ep B).1.many B 64).1 0 [] (Rs.Gi (Rs.I8 hs))
 have h2 := Rs.Lg (B := B) (s := ((s.ep B).1.many B 64).1) ((s.ep B).1.many B 64).2 (lo := 0) (out := [])
 have h3 := Rs.Ku (B := B) (s := (s.ep B).1) (m := 64)
 have h4 := Rs.Gk (B := B) (s := (s.ep B).1) (m := 64) (Rs.I8 hs)
 have h6 := Rs.KI (B := B) (s := s) hs
 generalize Rs.Bt B ((s.ep B).1.many B 64).2 ((s.ep B).1.many B 64).1 0 [] = u at *
 by_cases hm : u.2.1 = 4611686018427387904
 ·rw [Ak hm] at h ⊢
  split at h
  ·rename_i hk
   rw [Ak hk]
   obtain ⟨t, t1, t2, t3, t4⟩ := h1 hk
   have hk2 := h2 hk
   rw [A8] at t1
   dsimp only;rw [t1]
   refine ⟨t3, ?_⟩
   rw [(h6 (h3 hk2)).2.1, h4 hk2, t4]
   unfold D4;dsimp only;rw [t2, Ch]
   simp only [Au]
  ·rename_i hk
   exact absurd h hk
 ·rw [An hm] at h ⊢
  split at h
  ·exact absurd h (Rs.Be zD)
  ·exact absurd h (Rs.Be zD)
theorem Rs.RD {B : List UInt8} {s : Rs} (hs : s.ok B.length) (h : (s.tl B).1.k = 0) : B.drop s.p = AH (s.tl B).2 ++ B.drop (s.tl B).1.p := by
 unfold Rs.tl at h ⊢;split at h
 ·rename_i h1
  rw [Ak h1]
  split at h
  ·rename_i h2
   rw [Ak h2]
   exact (Rs.C9 hs h1).1
  ·exact absurd h (Rs.Be zD)
 ·rename_i h1
  exact absurd h h1
theorem Rs.Nl {B : List UInt8} {s : Rs} {m : Nat} (hs : s.ok B.length) (h : (s.most B m).1.k = 0) : B.drop s.p = AH (s.most B m).2 ++ B.drop (s.most B m).1.p ∧ (s.most B m).2 ≤ m := by
 unfold Rs.most at h ⊢;split at h
 ·exact absurd h (Rs.Be zD)
 ·rename_i h1
  rw [An h1]
  exact ⟨(Rs.C9 hs h).1, zD⟩
theorem Rs.Gb {B : List UInt8} {s : Rs} (hs : s.ok B.length) (h : (s.seal_ B).1.k = 0) : Dv (s.seal_ B).2 = true ∧ 0 ≤ (s.seal_ B).2.node ∧ 0 ≤ (s.seal_ B).2.tail ∧ B.drop s.p = Ef (s.seal_ B).2 ++ B.drop (s.seal_ B).1.p := by
 unfold Rs.seal_ at h ⊢;dsimp only at h ⊢;split at h
 ·rename_i hk
  rw [Ak hk]
  have k2 := Rs.Up hk
  have k1 := Rs.TW k2
  have o1 := Rs.I8 (B := B) hs
  have o2 := Rs.Mr (m := 4294967295) o1
  obtain ⟨e1, e2, _⟩ := Rs.KI hs k1
  obtain ⟨m1, m2⟩ := Rs.Nl o1 k2
  have t1 := Rs.RD o2 hk
  have t2 := Rs.T9 hk
  dsimp only;refine ⟨?_, zD, zD, ?_⟩
  ·unfold Dv
   dsimp only;rw [e1, Ac zD, Ac t2]
   rfl
  ·unfold Ef
   dsimp only;rw [Ch, Ch, Ch, Au, Au, ← t1, ← m1, ← e2]
 ·rename_i hk
  exact absurd h hk
theorem Rs.D6 {α : Type} {h : Bool} {s : Rs} {f : Rs → Rs × α} {z : α} (hk : (Rs.part h s f z).1.k = 0) (hf : (f s).1.k = 0 → s.k = 0) : s.k = 0 := by
 cases h
 ·exact hk
 ·exact hf hk
theorem Rs.DS {α : Type} {B : List UInt8} {h : Bool} {s : Rs} {f : Rs → Rs × α} {z : α} {Q : α → Prop} {b : α → List UInt8} (hk : (Rs.part h s f z).1.k = 0)
  (yes : (f s).1.k = 0 → Q (f s).2 ∧ B.drop s.p = b (f s).2 ++ B.drop (f s).1.p) :
  (h = true → Q (Rs.part h s f z).2) ∧ (h = false → (Rs.part h s f z).2 = z) ∧ B.drop s.p = Bg h (b (Rs.part h s f z).2) ++ B.drop (Rs.part h s f z).1.p := by
 cases h
 ·exact ⟨fun e => (by cases e), fun _ => rfl, rfl⟩
 ·exact ⟨fun _ => (yes hk).1, fun e => (by cases e), (yes hk).2⟩
theorem Rs.KM {B : List UInt8} {s : Rs} (hs : s.ok B.length) (h : (s.byte B).1.k = 0) : B.drop s.p = [(s.byte B).2] ++ B.drop (s.byte B).1.p ∧ s.k = 0 := by
 by_cases hk : s.k = 0
 ·refine ⟨?_, hk⟩
  by_cases hl : (B.length : Int) - s.p < 1
  ·have : (s.byte B).1.k = 1 := by
    unfold Rs.byte Rs.skip;rw [Ak hk, An zD, Ak hl]
   omega
  ·have hle := hs.le
   have e : s.byte B = (⟨s.p + 1, 0, 0⟩, B.getD s.p 0) := by
    unfold Rs.byte Rs.skip;rw [Ak hk, An zD, An hl]
    rfl
   rw [e]
   dsimp only;rw [FB B s.p 0 zD, AI (show s.p < B.length by omega)]
   rfl
 ·rw [Rs.JC hk] at h
  exact absurd h hk
theorem Rs.Lt {B : List UInt8} {s : Rs} (hs : s.ok B.length) (h : (s.Ed B).1.k = 0) : (poR (s.Ed B).2 = true ∧ 0 ≤ (s.Ed B).2) ∧ B.drop s.p = AH (s.Ed B).2.toNat ++ B.drop (s.Ed B).1.p := by
 have := Rs.Sg hs h
 exact ⟨⟨this.1, Int.natCast_nonneg _⟩, this.2.1⟩
theorem Rs.Ud {B : List UInt8} {s : Rs} (h : (s.Ed B).1.k = 0) : s.k = 0 :=
 AS fun hh => hh (by rw [Rs.Kq hh] at h; exact h)
theorem Rs.Rd {B : List UInt8} {s : Rs} (hs : s.ok B.length) (h : (s.cnt B).1.k = 0) : (1 ≤ (s.cnt B).2 ∧ (s.cnt B).2 ≤ 65536) ∧ B.drop s.p = AH (s.cnt B).2.toNat ++ B.drop (s.cnt B).1.p :=
 ⟨Rs.T2 h, Rs.Gk hs h⟩
theorem Rs.TD {B : List UInt8} {s : Rs} (h : (s.cnt B).1.k = 0) : s.k = 0 :=
 AS fun hh => hh (by rw [Rs.KK hh] at h; exact h)
theorem Rs.Ty {B : List UInt8} {s : Rs} {k : Int} (h : (s.stt B k).1.k = 0) : s.k = 0 :=
 AS fun hh => hh (by rw [Rs.J9 hh] at h; exact h)
theorem Rs.RI {B : List UInt8} {s : Rs} (h : (s.FH B).1.k = 0) : s.k = 0 :=
 AS fun hh => hh (by rw [Rs.Jk hh] at h; exact h)
theorem Rs.Qt {B : List UInt8} {s : Rs} {k : Int} (hs : s.ok B.length) (h : (s.stt B k).1.k = 0) : (1 ≤ (s.stt B k).2 ∧ (s.stt B k).2 ≤ CK k) ∧ B.drop s.p = [UInt8.ofNat (s.stt B k).2.toNat] ++ B.drop (s.stt B k).1.p := by
 refine ⟨Rs.TJ h, ?_⟩
 unfold Rs.stt at h ⊢;dsimp only at h ⊢;split at h
 ·rename_i h1
  rw [Ak h1, Ch, UInt8.ofNat_toNat]
  exact (Rs.KM hs h).1
 ·exact absurd h (Rs.Be zD)
theorem Rs.Oh {B : List UInt8} {s : Rs} (hs : s.ok B.length) (h : (s.FH B).1.k = 0) : (((s.FH B).2.length ≤ 16 ∧ A1 (s.FH B).2 = true) ∧ ∀ x ∈ (s.FH B).2, 0 ≤ x ∧ x ≤ 18446744073709551615) ∧ B.drop s.p = Ec (s.FH B).2 ++ B.drop (s.FH B).1.p := by
 have hr := Rs.Hu (B := B) (s.int B 16).2 (s.int B 16).1 [] rfl h
 unfold Rs.FH at h ⊢;have hb := fun hk => Rs.Fx (B := B) (s := (s.int B 16).1) (out := []) hk (s.int B 16).2
 have hk1 : (s.int B 16).1.k = 0 := AS fun hh => hb hh h
 obtain ⟨t, t1, t2, t3, t4⟩ := Rs.Gc (B := B) (s.int B 16).2 (s.int B 16).1 none [] (Rs.EE hs) (.inl ⟨rfl, rfl⟩) h
 obtain ⟨m1, m2, _⟩ := Rs.G8 hs hk1
 rw [A8] at t1
 rw [t1] at hr ⊢
 refine ⟨⟨⟨zD, hr⟩, t3⟩, ?_⟩
 rw [m1, t4]
 unfold Ec JG;rw [t2, Au]
theorem Rs.PT {B : List UInt8} {s : Rs} {pos : Int} (hs : s.ok B.length) (hp : pos ≤ 18446744073709551615) (h : (s.links B pos).1.k = 0) : s.k = 0 := (Rs.Fz hs hp h).2.2.2
theorem Rs.JN {B : List UInt8} {s : Rs} {k : Int} {A C D : Rs × Int} {E : Rs × List Int} {F : Rs × List BB} (hs : s.ok B.length) (hA : Rs.part (Ay k 1) s (Rs.Ed B) 0 = A) (hB : Rs.part (Ay k 2) A.1 (Rs.cnt B) 0 = C) (hC : Rs.part (Ay k 4) C.1 (Rs.stt B k) 0 = D)
  (hD : Rs.part (Ay k 8) D.1 (Rs.FH B) [] = E) (hF : Rs.part (Ay k 16) E.1 (fun t => t.links B A.2) [] = F) (h : F.1.k = 0) :
  AM (Ay k 1) (poR A.2) (decide (A.2 = 0)) = true ∧ AM (Ay k 2) (decide (1 ≤ C.2 ∧ C.2 ≤ 65536)) (decide (C.2 = 0)) = true ∧
   AM (Ay k 4) (decide (1 ≤ D.2 ∧ D.2 ≤ CK k)) (decide (D.2 = 0)) = true ∧ AM (Ay k 8) (decide (E.2.length ≤ 16) && A1 E.2) (decide (E.2.length = 0)) = true ∧
   AM (Ay k 16) (Bl A.2 F.2) (decide (F.2.length = 0)) = true ∧ inU A.2 ∧ (∀ x ∈ E.2, 0 ≤ x ∧ x ≤ 18446744073709551615) ∧ (∀ x ∈ F.2, LC x) ∧ s.k = 0 ∧
   B.drop s.p = (Bg (Ay k 1) (AH A.2.toNat) ++ (Bg (Ay k 2) (AH C.2.toNat) ++ (Bg (Ay k 4) [UInt8.ofNat D.2.toNat] ++
    (Bg (Ay k 8) (Ec E.2) ++ Bg (Ay k 16) (CR A.2 F.2))))) ++ B.drop F.1.p := by
 have o1 := Rs.Dn (h := Ay k 1) (z := (0 : Int)) hs (Rs.Sf hs)
 rw [hA] at o1
 have o2 := Rs.Dn (h := Ay k 2) (z := (0 : Int)) o1 (Rs.SO o1)
 rw [hB] at o2
 have o3 := Rs.Dn (h := Ay k 4) (z := (0 : Int)) o2 (Rs.RH (k := k) o2)
 rw [hC] at o3
 have o4 := Rs.Dn (h := Ay k 8) (z := ([] : List Int)) o3 (Rs.PH o3)
 rw [hD] at o4
 have h0 := h
 rw [← hF] at h
 have up : A.2 ≤ 18446744073709551615 := by
  rw [← hA]
  unfold Rs.part;split
  ·rename_i hh
   have hz : (s.Ed B).1.k = 0 ∨ (s.Ed B).1.k ≠ 0 := zD
   rcases hz with hz | hz
   ·have := (Rs.Lt hs hz).1.1
    simp only [poR, Aw] at this
    omega
   ·exfalso
    have e1 : A = s.Ed B := by rw [← hA, hh]; rfl
    have k4 := Rs.D6 h fun hf => AS fun hn => hn (by
     have hq : (A.2 ≤ 18446744073709551615) ∨ ¬ (A.2 ≤ 18446744073709551615) := Decidable.em _
     rcases hq with hq | hq
     ·exact Rs.PT o4 hq hf
     ·exact absurd hf (by
       unfold Rs.links;rw [Rs.FA hn]
       unfold Rs.Dk;exact hn))
    rw [← hD] at k4
    have k3 := Rs.D6 k4 Rs.RI
    rw [← hC] at k3
    have k2 := Rs.D6 k3 Rs.Ty
    rw [← hB] at k2
    have k1 := Rs.D6 k2 Rs.TD
    rw [e1] at k1
    exact hz k1
  ·dsimp only; omega
 have k4 := Rs.D6 h (Rs.PT o4 up)
 have c5 := Rs.DS (B := B) (Q := fun l => Bl A.2 l = true ∧ ∀ x ∈ l, LC x) (b := CR A.2) h fun hf => ⟨⟨(Rs.Fz o4 up hf).1, (Rs.Fz o4 up hf).2.1⟩, (Rs.Fz o4 up hf).2.2.1⟩
 rw [hF] at c5
 have k4' := k4
 rw [← hD] at k4
 have k3 := Rs.D6 k4 Rs.RI
 have c4 := Rs.DS (B := B) (Q := fun l => (l.length ≤ 16 ∧ A1 l = true) ∧ ∀ x ∈ l, 0 ≤ x ∧ x ≤ 18446744073709551615) (b := Ec) k4 (Rs.Oh o3)
 rw [hD] at c4
 rw [← hC] at k3
 have k2 := Rs.D6 k3 Rs.Ty
 have c3 := Rs.DS (B := B) (Q := fun x => 1 ≤ x ∧ x ≤ CK k) (b := fun x => [UInt8.ofNat x.toNat]) k3 (Rs.Qt o2)
 rw [hC] at c3
 rw [← hB] at k2
 have k1 := Rs.D6 k2 Rs.TD
 have c2 := Rs.DS (B := B) (Q := fun x => 1 ≤ x ∧ x ≤ 65536) (b := fun x => AH x.toNat) k2 (Rs.Rd o1)
 rw [hB] at c2
 rw [← hA] at k1
 have k0 := Rs.D6 k1 Rs.Ud
 have c1 := Rs.DS (B := B) (Q := fun x => poR x = true ∧ 0 ≤ x) (b := fun x => AH x.toNat) k1 (Rs.Lt hs)
 rw [hA] at c1
 (try dsimp only at c1 c2 c3 c4 c5)
 refine ⟨?_, ?_, ?_, ?_, ?_, ?_, ?_, ?_, k0, ?_⟩
 ·cases hh : Ay k 1
  ·exact Ac (c1.2.1 hh)
  ·exact (c1.1 hh).1
 ·cases hh : Ay k 2
  ·exact Ac (c2.2.1 hh)
  ·exact Ac (c2.1 hh)
 ·cases hh : Ay k 4
  ·exact Ac (c3.2.1 hh)
  ·exact Ac (c3.1 hh)
 ·cases hh : Ay k 8
  ·exact Ac (by rw [c4.2.1 hh]; rfl)
  ·show (_ && _) = true
   rw [(c4.1 hh).1.2, Ac (c4.1 hh).1.1]
   rfl
 ·cases hh : Ay k 16
  ·exact Ac (by rw [c5.2.1 hh]; rfl)
  ·exact (c5.1 hh).1
 ·refine ⟨?_, up⟩
  cases hh : Ay k 1
  ·rw [c1.2.1 hh]; omega
  ·exact (c1.1 hh).2
 ·cases hh : Ay k 8
  ·rw [c4.2.1 hh]; simp
  ·exact (c4.1 hh).2
 ·cases hh : Ay k 16
  ·rw [c5.2.1 hh]; simp
  ·exact (c5.1 hh).2
 ·rw [c1.2.2, c2.2.2, c3.2.2, c4.2.2, c5.2.2]
  simp only [Au]
theorem Rs.N3 {B : List UInt8} {s : Rs} {k : Int} (hs : s.ok B.length) (h : (s.ahead B k).1.k = 0) :
  ∃ a : TI, (s.ahead B k).2 = a ∧ AM (Ay k 1) (poR a.pos) (decide (a.pos = 0)) = true ∧ AM (Ay k 2) (decide (1 ≤ a.count ∧ a.count ≤ 65536)) (decide (a.count = 0)) = true ∧
   AM (Ay k 4) (decide (1 ≤ a.state ∧ a.state ≤ CK k)) (decide (a.state = 0)) = true ∧ AM (Ay k 8) (decide (a.streams.length ≤ 16) && A1 a.streams) (decide (a.streams.length = 0)) = true ∧
   AM (Ay k 16) (Bl a.pos a.links) (decide (a.links.length = 0)) = true ∧ inU a.pos ∧ (∀ x ∈ a.streams, 0 ≤ x ∧ x ≤ 18446744073709551615) ∧ (∀ x ∈ a.links, LC x) ∧ s.k = 0 ∧
   B.drop s.p = (Bg (Ay k 1) (AH a.pos.toNat) ++ (Bg (Ay k 2) (AH a.count.toNat) ++ (Bg (Ay k 4) [UInt8.ofNat a.state.toNat] ++
    (Bg (Ay k 8) (Ec a.streams) ++ Bg (Ay k 16) (CR a.pos a.links))))) ++ B.drop (s.ahead B k).1.p :=
 ⟨_, rfl, Rs.JN hs rfl rfl rfl rfl rfl h⟩
theorem BP {P : Program} {f : Func} {Q : Ending → World → Prop} {e : Exit} {a : Act} {w : World} (F : World → Prop) (hF : F w) (h : ∀ W, F W → bodyPost P f Q e a W) : bodyPost P f Q e a w := h w hF
theorem size_set (w : World) (p : Addr) (u : Value) : (w.setCell p u).heap.size = w.heap.size := zAb
structure Bm (w : World) (g : Nat) (B : List UInt8) (a : Option Addr) (fn : Nat) (caps : Array Value) (blk : Rs → Rs × List UInt8 × Bool) (K : Nat → Prop) (X : World → Bool → Prop) : Prop where
 lt : ∀ b, K b → b < w.heap.size
 own : K g
 st : ∀ W W' q, X W q → w.heap.size ≤ W.heap.size → Tch (fun b => b = g ∨ w.heap.size ≤ b) W W' → X W' q
 call : ∀ W t q0, AK W g B a t → X W q0 → w.heap.size ≤ W.heap.size → Tch K w W → Calls Tryz.prog fn caps W fun r W' => ∃ v, r = .returned v ∧ Ag.r (Dq W W') W' [v] (blk t).2.1 ∧ AK W' g B a (blk t).1 ∧ Tch K W W' ∧ X W' (blk t).2.2
 size : ∀ t, (blk t).2.1.length ≤ 1048576
 dat : Ag.r (fun q => q < w.heap.size ∧ ¬ K q) w [.slice a B.length B.length] B
 bad : ∀ t : Rs, t.k ≠ 0 → (blk t).1 = t ∧ (blk t).2.1 = []
 ent : ∀ (xs : Array Value) (W : World), (callFunc fn xs).run Tryz.prog W = .ok (.enter fn xs) W
abbrev Ce (m : Msg) (v1 v2 v3 v4 : Value) : Array Value := #[.int .i64 m.kind, .int .u64 m.epoch, .int .u64 m.seq, .int .u64 m.pos, .int .i64 m.count, .int .i64 m.state, v1, v2, v3, .int .u64 m.sea.epoch, .int .u64 m.sea.node, .int .u64 m.sea.tail, .int .u64 m.proj.epoch, v4]
abbrev zeroCells : Array Value := #[.int .i64 0, .int .u64 0, .int .u64 0, .int .u64 0, .int .i64 0, .int .i64 0, .slice none 0 0, .slice none 0 0, .slice none 0 0, .int .u64 0, .int .u64 0, .int .u64 0, .int .u64 0, .slice none 0 0]
structure Ci (w : World) (g : Nat) (B : List UInt8) (a : Option Addr) (K : Nat → Prop) (X : World → Bool → Prop) (q : Bool) (M lo : Nat) (k : Int) (m : Msg) (v1 v2 v3 v4 : Value) (s : Rs) (W : World) : Prop where
 rd : AK W g B a s
 dat : Ag.r (fun b => b < w.heap.size ∧ ¬ K b) W [.slice a B.length B.length] B
 pa : Blk W w.heap.size 52 #[.pointer (some ⟨g, 0, none⟩)]
 pk : Blk W (w.heap.size + 1) 3 #[.int .i64 k]
 pr : Blk W (w.heap.size + 1 + 1) 32 zeroCells
 pm : Blk W M 32 (Ce m v1 v2 v3 v4)
 lm : w.heap.size + 1 + 1 < M ∧ M < lo
 low : lo ≤ W.heap.size
 st : AQ.r (fun b => lo ≤ b ∧ b < W.heap.size) W [v1] m.streams
 ln : BK.r (fun b => lo ≤ b ∧ b < W.heap.size) W [v2] m.links
 da : Ag.r (fun b => lo ≤ b ∧ b < W.heap.size) W [v3] m.data
 sp : A9.r (fun b => lo ≤ b ∧ b < W.heap.size) W [v4] m.proj.stripes
 tch : Tch K w W
 x : X W q
section
variable {w : World} {g : Nat} {B : List UInt8} {a : Option Addr} {K : Nat → Prop} {X : World → Bool → Prop} {q : Bool} {M lo : Nat} {k : Int} {m : Msg} {v1 v2 v3 v4 : Value} {s : Rs} {W : World} {fn : Nat} {caps : Array Value} {blk : Rs → Rs × List UInt8 × Bool}
theorem Ci.Tz {q' : Bool} {s' : Rs} {W' : World} (hU : Bm w g B a fn caps blk K X) (h : Ci w g B a K X q M lo k m v1 v2 v3 v4 s W) (kt : Tch K W W') (kr : AK W' g B a s') (kx : X W' q') : Ci w g B a K X q' M lo k m v1 v2 v3 v4 s' W' := by
 have hw := h.tch.size
 have hlm := h.lm
 have hK : ∀ b, w.heap.size ≤ b → ¬ K b := fun b hb e => absurd (hU.lt b e) zD
 have hk : ∀ b, lo ≤ b ∧ b < W.heap.size → W'.heap[b]? = W.heap[b]? := fun b hb => kt.block b hb.2 (hK b zD)
 have hm : ∀ b, lo ≤ b ∧ b < W.heap.size → lo ≤ b ∧ b < W'.heap.size := fun b hb => ⟨hb.1, Ah hb.2 kt.size⟩
 exact ⟨kr, Ag.keep h.dat fun b hb => kt.block b (Ah hb.1 hw) hb.2, h.pa.tch kt (hK _ (Al _)), h.pk.tch kt (hK _ zD), h.pr.tch kt (hK _ zD), h.pm.tch kt (hK _ zD), hlm, A5 h.low kt.size,
  AQ.mono (AQ.keep h.st hk) hm, BK.mono (BK.keep h.ln hk) hm, Ag.mono (Ag.keep h.da hk) hm, A9.mono (A9.keep h.sp hk) hm, h.tch.trans kt fun b _ e => e, kx⟩
theorem Ci.step {s' : Rs} {W' : World} (hU : Bm w g B a fn caps blk K X) (h : Ci w g B a K X q M lo k m v1 v2 v3 v4 s W) (kk : Av W g B a s' W') : Ci w g B a K X q M lo k m v1 v2 v3 v4 s' W' :=
 h.Tz hU (kk.2.mono fun b _ e => e ▸ hU.own) kk.1 (hU.st W W' q h.x h.tch.size (kk.2.mono fun b _ e => .inl e))
theorem Ci.later {W' : World} (hU : Bm w g B a fn caps blk K X) (h : Ci w g B a K X q M lo k m v1 v2 v3 v4 s W) (hb : Below W.heap.size W W') : Ci w g B a K X q M lo k m v1 v2 v3 v4 s W' := h.step hU (Av.later h.rd hb)
theorem Ci.JI (hU : Bm w g B a fn caps blk K X) (h : Ci w g B a K X q M lo k m v1 v2 v3 v4 s W) (i : Nat) (u : Value) {m' : Msg} {v1' v2' v3' v4' : Value} (hc : (Ce m v1 v2 v3 v4).setIfInBounds i u = Ce m' v1' v2' v3' v4')
  (h1 : AQ.r (fun b => lo ≤ b ∧ b < W.heap.size) W [v1'] m'.streams) (h2 : BK.r (fun b => lo ≤ b ∧ b < W.heap.size) W [v2'] m'.links) (h3 : Ag.r (fun b => lo ≤ b ∧ b < W.heap.size) W [v3'] m'.data) (h4 : A9.r (fun b => lo ≤ b ∧ b < W.heap.size) W [v4'] m'.proj.stripes) : Ci w g B a K X q M lo k m' v1' v2' v3' v4' s (W.setCell ⟨M, i, none⟩ u) := by
 have hw := h.tch.size
 have hlm := h.lm
 have hlow := h.low
 have hgw : g < w.heap.size := hU.lt g hU.own
 have hz : (W.setCell ⟨M, i, none⟩ u).heap.size = W.heap.size := size_set _ _ _
 have hT : Tch (fun b => b = g ∨ w.heap.size ≤ b) W (W.setCell ⟨M, i, none⟩ u) := (Tch.refl _ _).setCell (fun _ => .inr zM) _
 have hk : ∀ b, lo ≤ b ∧ b < W.heap.size → (W.setCell ⟨M, i, none⟩ u).heap[b]? = W.heap[b]? := fun b hb => AG _ _ _ _ zA9
 have hm : ∀ b, lo ≤ b ∧ b < W.heap.size → lo ≤ b ∧ b < (W.setCell ⟨M, i, none⟩ u).heap.size := fun b hb => ⟨hb.1, zD⟩
 have hd : Ag.r (fun b => b < w.heap.size ∧ ¬ K b) (W.setCell ⟨M, i, none⟩ u) [.slice a B.length B.length] B := Ag.keep h.dat fun b hb => AG _ _ _ _ zA9
 refine ⟨⟨Blk.far h.rd.blk zM _, Ag.mono hd fun b hb => ⟨Z4, fun e => hb.2 (e ▸ hU.own)⟩, h.rd.ok⟩, hd, Blk.far h.pa zM _, Blk.far h.pk zM _, Blk.far h.pr zM _, ?_, hlm, zD,
  AQ.mono (AQ.keep h1 hk) hm, BK.mono (BK.keep h2 hk) hm, Ag.mono (Ag.keep h3 hk) hm, A9.mono (A9.keep h4 hk) hm, h.tch.setCell (fun e => absurd e zM) _, hU.st W _ q h.x hw hT⟩
 rw [← hc]
 exact h.pm.set i u
end
theorem AZ {w : World} {g : Nat} {t : TypeId} {v0 v1 v2 v3 v4 v5 v6 v7 v8 v9 v10 v11 v12 v13 : Value} (h : Blk w g t #[v0, v1, v2, v3, v4, v5, v6, v7, v8, v9, v10, v11, v12, v13]) :
  w.cell? ⟨g, 0, none⟩ = some v0 ∧ w.cell? ⟨g, 1, none⟩ = some v1 ∧ w.cell? ⟨g, 2, none⟩ = some v2 ∧ w.cell? ⟨g, 3, none⟩ = some v3 ∧ w.cell? ⟨g, 4, none⟩ = some v4 ∧ w.cell? ⟨g, 5, none⟩ = some v5 ∧ w.cell? ⟨g, 6, none⟩ = some v6 ∧ w.cell? ⟨g, 7, none⟩ = some v7 ∧ w.cell? ⟨g, 8, none⟩ = some v8 ∧ w.cell? ⟨g, 9, none⟩ = some v9 ∧ w.cell? ⟨g, 10, none⟩ = some v10 ∧ w.cell? ⟨g, 11, none⟩ = some v11 ∧ w.cell? ⟨g, 12, none⟩ = some v12 ∧ w.cell? ⟨g, 13, none⟩ = some v13 ∧ g < w.heap.size :=
 ⟨h.cell 0, h.cell 1, h.cell 2, h.cell 3, h.cell 4, h.cell 5, h.cell 6, h.cell 7, h.cell 8, h.cell 9, h.cell 10, h.cell 11, h.cell 12, h.cell 13, h.lt⟩
theorem Fi {w : World} {g : Nat} {t : TypeId} {cs : Array Value} (h : Blk w g t cs) (i : Nat) : w.frozen? ⟨g, i, none⟩ = false := h.free i
theorem IE {w : World} {g : Nat} {B : List UInt8} {a : Option Addr} {s : Rs} (h : AK w g B a s) (p : Int) (R : Bool) :
  Calls Tryz.prog 186 #[.pointer (some ⟨g, 0, none⟩), .int .i64 p, .bool R] w fun r w' => r = .returned (.tuple #[]) ∧ Av w g B a (if R = true then s else s.fail 3 p) w' := by
 have HF := hid (Bf w h 3 p zD)
 have HR := hid (Av.refl h)
 clear h;cases R
 ·go_enter Tryz.func186, Tryz.ntmps186
  go_wp2_with fail;refine HF.out.mono ?_
  rintro r w1 ⟨rfl, hst⟩;have HST := hid hst
  clear hst;go_wp2_with fail;first | go_end0 | refine Ai (Aq rfl _ _ _) rfl ?_
  exact ⟨rfl, HST.out⟩
 ·go_enter Tryz.func186, Tryz.ntmps186
  go_wp2_with fail;first | go_end0 | refine Ai (Aq rfl _ _ _) rfl ?_
  exact ⟨rfl, HR.out⟩
theorem Rg {w : World} {g : Nat} {B : List UInt8} {a : Option Addr} {K : Nat → Prop} {X : World → Bool → Prop} {q : Bool} {M lo : Nat} {k : Int} {m : Msg} {v1 v2 v3 v4 : Value} {s : Rs} {W : World} {fn : Nat} {caps : Array Value} {blk : Rs → Rs × List UInt8 × Bool} (hU : Bm w g B a fn caps blk K X) (hB : B.length ≤ 1000000000) (h : Ci w g B a K X q M lo k m v1 v2 v3 v4 s W) (p : Int) :
  Calls Tryz.prog 182 #[.int .i64 p, .pointer (some ⟨w.heap.size, 0, none⟩), .pointer (some ⟨M, 0, none⟩)] W fun r W' => r = .returned (.tuple #[]) ∧ Ci w g B a K X q M lo k { m with pos := (s.Ed B).2 } v1 v2 v3 v4 (s.Ed B).1 W' := by
 have p0 : W.cell? ⟨w.heap.size, 0, none⟩ = some (.pointer (some ⟨g, 0, none⟩)) := h.pa.cell 0
 have HI := hid h
 have HUU := hid hU
 have HR := hid (K7 W h.rd hB)
 clear h hU;go_enter Tryz.func182, Tryz.ntmps182
 go_wp2_with fail;refine HR.out.mono ?_
 rintro r w1 ⟨rfl, hst⟩;have HI1 := hid (HI.out.step HUU.out hst)
 have f3 := Fi HI1.out.pm 3
 obtain ⟨y0, y1, y2, y3, y4, y5, y6, y7, y8, y9, y10, y11, y12, y13, lm3⟩ := AZ HI1.out.pm
 clear hst;go_wp2_with fail;first | go_end0 | refine Ai (Aq rfl _ _ _) rfl ?_
 exact ⟨rfl, HI1.out.JI HUU.out 3 _ zR HI1.out.st HI1.out.ln HI1.out.da HI1.out.sp⟩
theorem NQ {w : World} {g : Nat} {B : List UInt8} {a : Option Addr} {K : Nat → Prop} {X : World → Bool → Prop} {q : Bool} {M lo : Nat} {k : Int} {m : Msg} {v1 v2 v3 v4 : Value} {s : Rs} {W : World} {fn : Nat} {caps : Array Value} {blk : Rs → Rs × List UInt8 × Bool} (hU : Bm w g B a fn caps blk K X) (hB : B.length ≤ 1000000000) (h : Ci w g B a K X q M lo k m v1 v2 v3 v4 s W) (p : Int) :
  Calls Tryz.prog 184 #[.int .i64 p, .pointer (some ⟨w.heap.size, 0, none⟩), .pointer (some ⟨M, 0, none⟩)] W fun r W' => r = .returned (.tuple #[]) ∧ (p = s.p → Ci w g B a K X q M lo k { m with count := (s.cnt B).2 } v1 v2 v3 v4 (s.cnt B).1 W') := by
 have p0 : W.cell? ⟨w.heap.size, 0, none⟩ = some (.pointer (some ⟨g, 0, none⟩)) := h.pa.cell 0
 have HI := hid h
 have HUU := hid hU
 have HR := hid (Dt W h.rd zD 65536 zD)
 unfold Rs.cnt Rs.many;generalize s.int B 65536 = I at *
 obtain ⟨s1, n⟩ := I
 dsimp only at *;generalize hFF : (if n = 0 then s1.fail 3 (s.p : Int) else s1) = sF
 have HFF := hid hFF
 clear hFF;clear h hU;go_enter Tryz.func184, Tryz.ntmps184
 go_wp2_with fail;refine HR.out.mono ?_
 rintro r w1 ⟨rfl, hst⟩;have HI1 := hid (HI.out.step HUU.out hst)
 have f4 := Fi HI1.out.pm 4
 obtain ⟨y0, y1, y2, y3, y4, y5, y6, y7, y8, y9, y10, y11, y12, y13, lm4⟩ := AZ HI1.out.pm
 have HI2 := hid (HI1.out.JI HUU.out 4 (.int .i64 (n : Int)) (m' := { m with count := (n : Int) }) (v1' := v1) (v2' := v2) (v3' := v3) (v4' := v4) zV HI1.out.st HI1.out.ln HI1.out.da HI1.out.sp)
 have p1 : w1.cell? ⟨w.heap.size, 0, none⟩ = some (.pointer (some ⟨g, 0, none⟩)) := HI1.out.pa.cell 0
 have p2 : (w1.setCell ⟨M, 4, none⟩ (.int .i64 (n : Int))).cell? ⟨w.heap.size, 0, none⟩ = some (.pointer (some ⟨g, 0, none⟩)) := HI2.out.pa.cell 0
 have HC := hid (fun R => IE HI2.out.rd p R)
 by_cases hn : n = 0
 ·have d1 : decide ((0 : Int) < (n : Int)) = false := Ab zD
  have HN := hid hn
  clear hst hn;go_wp2_with fail;refine (HC.out _).mono ?_
  rintro r w3 ⟨rfl, hst⟩;have HI3 := hid (HI2.out.step HUU.out hst)
  clear hst;go_wp2_with fail;first | go_end0 | refine Ai (Aq rfl _ _ _) rfl ?_
  refine ⟨rfl, fun e => ?_⟩
  subst e;have h3 := HI3.out
  rw [Ab (show ¬ 0 < n by have := HN.out; omega)] at h3
  rw [← HFF.out, Ak HN.out]
  exact h3
 ·have d1 : decide ((0 : Int) < (n : Int)) = true := Ac zD
  have HN := hid hn
  clear hst hn;go_wp2_with fail;refine (HC.out _).mono ?_
  rintro r w3 ⟨rfl, hst⟩;have HI3 := hid (HI2.out.step HUU.out hst)
  clear hst;go_wp2_with fail;first | go_end0 | refine Ai (Aq rfl _ _ _) rfl ?_
  refine ⟨rfl, fun e => ?_⟩
  have h3 := HI3.out
  rw [Ac (show 0 < n by have := HN.out; omega)] at h3
  rw [← HFF.out, An HN.out]
  exact h3
theorem Av.O0 {w w' : World} {g : Nat} {B : List UInt8} {a : Option Addr} {s s' : Rs} (h : AK w g B a s) (k : Av w.drew g B a s' w') : Av w g B a s' w' := ⟨k.1, (Tch.refl (· = g) w).drew.trans k.2 fun _ _ e => e⟩
theorem NM {w : World} {g : Nat} {B : List UInt8} {a : Option Addr} {K : Nat → Prop} {X : World → Bool → Prop} {q : Bool} {M lo : Nat} {k : Int} {m : Msg} {v1 v2 v3 v4 : Value} {s : Rs} {W : World} {fn : Nat} {caps : Array Value} {blk : Rs → Rs × List UInt8 × Bool} (hU : Bm w g B a fn caps blk K X) (hB : B.length ≤ 1000000000) (h : Ci w g B a K X q M lo k m v1 v2 v3 v4 s W) (p : Int) :
  Calls Tryz.prog 187 #[.int .i64 p, .pointer (some ⟨w.heap.size, 0, none⟩), .pointer (some ⟨M, 0, none⟩), .pointer (some ⟨w.heap.size + 1, 0, none⟩)] W fun r W' => r = .returned (.tuple #[]) ∧ (p = s.p → Ci w g B a K X q M lo k { m with state := (s.stt B k).2 } v1 v2 v3 v4 (s.stt B k).1 W') := by
 have p0 : W.cell? ⟨w.heap.size, 0, none⟩ = some (.pointer (some ⟨g, 0, none⟩)) := h.pa.cell 0
 have HI := hid h
 have HUU := hid hU
 have HR := hid (JR W h.rd)
 have k0 : W.cell? ⟨w.heap.size + 1, 0, none⟩ = some (.int .i64 k) := h.pk.cell 0
 have hb8 : (s.byte B).2.toNat < 256 := (s.byte B).2.toNat_lt
 unfold Rs.stt;generalize s.byte B = I at *
 obtain ⟨s1, c⟩ := I
 dsimp only at *;generalize c.toNat = n at *
 generalize hFF : (if 1 ≤ (n : Int) ∧ (n : Int) ≤ CK k then s1 else s1.fail 3 (s.p : Int)) = sF
 have HFF := hid hFF
 clear hFF;have hI64 : (-9223372036854775808 : Int) ≤ (n : Int) := zD
 have hI65 : (n : Int) ≤ 9223372036854775807 := zD
 clear h hU;go_enter Tryz.func187, Tryz.ntmps187
 go_wp2_with fail;refine HR.out.mono ?_
 rintro r w1 ⟨rfl, hst⟩;have HI1 := hid (HI.out.step HUU.out hst)
 have f5 := Fi HI1.out.pm 5
 obtain ⟨y0, y1, y2, y3, y4, y5, y6, y7, y8, y9, y10, y11, y12, y13, lm5⟩ := AZ HI1.out.pm
 have HI2 := hid (HI1.out.JI HUU.out 5 (.int .i64 (n : Int)) (m' := { m with state := (n : Int) }) (v1' := v1) (v2' := v2) (v3' := v3) (v4' := v4) zV HI1.out.st HI1.out.ln HI1.out.da HI1.out.sp)
 clear hst;go_wp2_with fail;generalize w1.setCell ⟨M, 5, none⟩ (.int .i64 (n : Int)) = w2 at *
 have p2 : w2.cell? ⟨w.heap.size, 0, none⟩ = some (.pointer (some ⟨g, 0, none⟩)) := HI2.out.pa.cell 0
 have k2 : w2.cell? ⟨w.heap.size + 1, 0, none⟩ = some (.int .i64 k) := HI2.out.pk.cell 0
 have m2 : w2.cell? ⟨M, 5, none⟩ = some (.int .i64 (n : Int)) := HI2.out.pm.cell 5
 have l1 := HI2.out.pa.lt
 have l2 := HI2.out.pk.lt
 have l3 := HI2.out.pm.lt
 have HRD := hid (HI2.out.rd.later (show Below w2.heap.size w2 w2.drew from (Below.refl _ _).drew))
 have HC := hid (fun R => IE HRD.out p R)
 have HMO := hid (fun (V : World) => LW k V)
 by_cases h1 : 1 ≤ (n : Int)
 ·have d1 : decide (1 ≤ (n : Int)) = true := Ac h1
  obtain ⟨R, hR⟩ : ∃ R, R = decide ((n : Int) ≤ CK k) := ⟨_, rfl⟩
  have HRR := hid hR
  clear hR;generalize hmk : CK k = mk at *
  have HMK := hid hmk
  clear hmk;refine Cg (S := fun w' => w'.cell? ⟨w.heap.size, 0, none⟩ = some (.pointer (some ⟨g, 0, none⟩)) ∧ w'.cell? ⟨M, 5, none⟩ = some (.int .i64 (n : Int)) ∧ w'.cell? ⟨w.heap.size + 1, 0, none⟩ = some (.int .i64 k)) zH ⟨p2, m2, k2⟩ (fun hHeld => ?_)
  refine At (i := 0) (oi := _) (v := ?_) rfl zF zF zF (fun _ _ _ h => h) (Or.inl ⟨zX, ?_⟩) zN ?_
  rotate_left
  ·(intro w hSw; (try dsimp only at hSw); go_simp <;> with_reducible rfl)
  (try simp only [Act.put, Aa, Ad, Ae])
  refine At (i := 1) (oi := _) (v := ?_) rfl zF zF zF (fun _ _ _ h => h) (Or.inl ⟨zX, ?_⟩) zN ?_
  rotate_left
  ·(intro w hSw; (try dsimp only at hSw); go_simp <;> with_reducible rfl)
  (try simp only [Act.put, Aa, Ad, Ae])
  refine At (i := 2) (oi := _) (v := ?_) rfl zF zF zF (fun _ _ _ h => h) (Or.inl ⟨zX, ?_⟩) zN ?_
  rotate_left
  ·(intro w hSw; (try dsimp only at hSw); go_simp <;> with_reducible rfl)
  (try simp only [Act.put, Aa, Ad, Ae])
  refine At (i := 3) (oi := _) (v := ?_) rfl zF zF zF (fun _ _ _ h => h) (Or.inl ⟨zX, ?_⟩) zN ?_
  rotate_left
  ·(intro w hSw; (try dsimp only at hSw); go_simp <;> with_reducible rfl)
  (try simp only [Act.put, Aa, Ad, Ae])
  refine At (i := 4) (oi := _) (v := ?_) rfl zF zF zF (fun _ _ _ h => h) (Or.inl ⟨zX, ?_⟩) zN ?_
  rotate_left
  ·(intro w hSw; (try dsimp only at hSw); go_simp <;> with_reducible rfl)
  (try simp only [Act.put, Aa, Ad, Ae])
  refine At (i := 5) (oi := _) (v := ?_) rfl zF zF zF (fun _ _ _ h => h) (Or.inl ⟨zX, ?_⟩) zN ?_
  rotate_left
  ·(intro w hSw; (try dsimp only at hSw); go_simp <;> with_reducible rfl)
  (try simp only [Act.put, Aa, Ad, Ae])
  refine At (i := 6) (oi := _) (v := ?_) rfl zF zF zF (fun _ _ _ h => h) (Or.inl ⟨zH, ?_⟩) zN ?_
  rotate_left
  ·(intro w hSw; (try dsimp only at hSw); go_simp <;> with_reducible rfl)
  (try simp only [Act.put, Aa, Ad, Ae])
  refine At (i := 7) (oi := _) (v := ?_) rfl zF zF zF (fun _ _ _ h => h) (Or.inl ⟨zH, ?_⟩) zN ?_
  rotate_left
  ·(intro w hSw; (try dsimp only at hSw); go_simp <;> with_reducible rfl)
  (try simp only [Act.put, Aa, Ad, Ae])
  refine At (i := 8) (oi := _) (v := ?_) rfl zF zF zF (fun _ _ _ h => h) (Or.inl ⟨zH, ?_⟩) zN ?_
  rotate_left
  ·(intro w hSw; (try dsimp only at hSw); go_simp <;> with_reducible rfl)
  (try simp only [Act.put, Aa, Ad, Ae])
  (try simp only [AX, AT, AL, Act.put, Aa, Ad, Ae])
  refine A4 (rs := [9]) zF zO ?_
  refine AR (o := _) rfl (fun K hK => ?_) AllReadyH.nil
  (go_simp; go_at_call 83; refine (HMO.out _).mono ?_; rintro e1 w7 ⟨rfl, rfl⟩; (try dsimp only))
  refine hK.out _ _ ?_ (fun hHeld => ?_)
  ·((try dsimp only); first | (refine ⟨?_, ?_, ?_⟩ <;> (first | assumption | (go_keep; done))) | (refine ⟨?_, ?_⟩ <;> (first | assumption | (go_keep; done))) | assumption | (go_keep; done))
  clear hK K
  (try simp only [Act.put, Aa, Ad, Ae])
  refine At (i := 10) (oi := _) (v := ?_) rfl zF zF zF (fun _ _ _ h => h) (Or.inl ⟨zH, ?_⟩) zN ?_
  rotate_left
  ·(intro w hSw; (try dsimp only at hSw); go_simp <;> with_reducible rfl)
  (try simp only [Act.put, Aa, Ad, Ae])
  refine At (i := 11) (oi := _) (v := ?_) rfl zF zF zF (fun _ _ _ h => h) (Or.inl ⟨zX, ?_⟩) zN ?_
  rotate_left
  ·(intro w hSw; (try dsimp only at hSw); go_simp <;> with_reducible rfl)
  (try simp only [Act.put, Aa, Ad, Ae])
  (try simp only [AX, AT, AL, Act.put, Aa, Ad, Ae])
  rw [← HRR.out]
  refine A4 (rs := [12]) zF zO ?_
  refine AR (o := _) rfl (fun K hK => ?_) AllReadyH.nil
  (go_simp; go_at_call 186; refine (HC.out _).mono ?_; rintro e1 w8 ⟨rfl, hst8⟩; have HS8 := hid hst8; have n1 := (hst8.2.cell (p := ⟨w.heap.size, 0, none⟩) (by exact l1) ZH).trans p2; have n2 := (hst8.2.cell (p := ⟨M, 5, none⟩) (by exact l3) zA6).trans m2; have n3 := (hst8.2.cell (p := ⟨w.heap.size + 1, 0, none⟩) (by exact l2) ZH).trans k2; clear hst8; (try dsimp only))
  refine hK.out _ _ ?_ (fun hHeld => ?_)
  ·((try dsimp only); first | (refine ⟨?_, ?_, ?_⟩ <;> (first | assumption | (go_keep; done))) | (refine ⟨?_, ?_⟩ <;> (first | assumption | (go_keep; done))) | assumption | (go_keep; done))
  clear hK K
  (try simp only [Act.put, Aa, Ad, Ae])
  (try simp only [AX, AT, AL, Act.put, Aa, Ad, Ae])
  refine Dj zH ?_ _
  go_wp2_with fail;first | go_end0 | refine Ai (Aq rfl _ _ _) rfl ?_
  refine ⟨rfl, fun e => ?_⟩
  subst e;have hI3 := HI2.out.step HUU.out (Av.O0 HI2.out.rd HS8.out)
  have hEQ : (if R = true then s1 else s1.fail 3 (s.p : Int)) = sF := by
   rw [← HFF.out, HRR.out]
   by_cases hx : (n : Int) ≤ mk
   ·rw [Ak (Ac hx), Ak ⟨zD, hx⟩]
   ·rw [An (fun e => hx (B6 e)), An (fun e => hx e.2)]
  rw [hEQ] at hI3
  exact hI3
 ·have d1 : decide (1 ≤ (n : Int)) = false := Ab h1
  refine Cg (S := fun w' => w'.cell? ⟨w.heap.size, 0, none⟩ = some (.pointer (some ⟨g, 0, none⟩)) ∧ w'.cell? ⟨M, 5, none⟩ = some (.int .i64 (n : Int)) ∧ w'.cell? ⟨w.heap.size + 1, 0, none⟩ = some (.int .i64 k)) zH ⟨p2, m2, k2⟩ (fun hHeld => ?_)
  refine At (i := 0) (oi := _) (v := ?_) rfl zF zF zF (fun _ _ _ h => h) (Or.inl ⟨zX, ?_⟩) zN ?_
  rotate_left
  ·(intro w hSw; (try dsimp only at hSw); go_simp <;> with_reducible rfl)
  (try simp only [Act.put, Aa, Ad, Ae])
  refine At (i := 1) (oi := _) (v := ?_) rfl zF zF zF (fun _ _ _ h => h) (Or.inl ⟨zX, ?_⟩) zN ?_
  rotate_left
  ·(intro w hSw; (try dsimp only at hSw); go_simp <;> with_reducible rfl)
  (try simp only [Act.put, Aa, Ad, Ae])
  refine At (i := 2) (oi := _) (v := ?_) rfl zF zF zF (fun _ _ _ h => h) (Or.inl ⟨zX, ?_⟩) zN ?_
  rotate_left
  ·(intro w hSw; (try dsimp only at hSw); go_simp <;> with_reducible rfl)
  (try simp only [Act.put, Aa, Ad, Ae])
  refine At (i := 3) (oi := _) (v := ?_) rfl zF zF zF (fun _ _ _ h => h) (Or.inl ⟨zX, ?_⟩) zN ?_
  rotate_left
  ·(intro w hSw; (try dsimp only at hSw); go_simp <;> with_reducible rfl)
  (try simp only [Act.put, Aa, Ad, Ae])
  refine At (i := 4) (oi := _) (v := ?_) rfl zF zF zF (fun _ _ _ h => h) (Or.inl ⟨zX, ?_⟩) zN ?_
  rotate_left
  ·(intro w hSw; (try dsimp only at hSw); go_simp <;> with_reducible rfl)
  (try simp only [Act.put, Aa, Ad, Ae])
  refine At (i := 5) (oi := _) (v := ?_) rfl zF zF zF (fun _ _ _ h => h) (Or.inl ⟨zX, ?_⟩) zN ?_
  rotate_left
  ·(intro w hSw; (try dsimp only at hSw); go_simp <;> with_reducible rfl)
  (try simp only [Act.put, Aa, Ad, Ae])
  refine At (i := 6) (oi := _) (v := undef) rfl zF zF zF (fun _ _ _ h => h) (Or.inr ⟨zH, rfl⟩) zN ?_
  (try simp only [Act.put, Aa, Ad, Ae])
  refine At (i := 7) (oi := _) (v := undef) rfl zF zF zF (fun _ _ _ h => h) (Or.inr ⟨zH, rfl⟩) zN ?_
  (try simp only [Act.put, Aa, Ad, Ae])
  refine At (i := 8) (oi := _) (v := undef) rfl zF zF zF (fun _ _ _ h => h) (Or.inr ⟨zH, rfl⟩) zN ?_
  (try simp only [Act.put, Aa, Ad, Ae])
  refine At (i := 9) (oi := _) (v := undef) rfl zF zF zF (fun _ _ _ h => h) (Or.inr ⟨zH, rfl⟩) zN ?_
  (try simp only [Act.put, Aa, Ad, Ae])
  refine At (i := 10) (oi := _) (v := undef) rfl zF zF zF (fun _ _ _ h => h) (Or.inr ⟨zH, rfl⟩) zN ?_
  (try simp only [Act.put, Aa, Ad, Ae])
  refine At (i := 11) (oi := _) (v := ?_) rfl zF zF zF (fun _ _ _ h => h) (Or.inl ⟨zX, ?_⟩) zN ?_
  rotate_left
  ·(intro w hSw; (try dsimp only at hSw); go_simp <;> with_reducible rfl)
  (try simp only [Act.put, Aa, Ad, Ae])
  (try simp only [AX, AT, AL, Act.put, Aa, Ad, Ae])
  refine A4 (rs := [12]) zF zO ?_
  refine AR (o := _) rfl (fun K hK => ?_) AllReadyH.nil
  (go_simp; go_at_call 186; refine (HC.out _).mono ?_; rintro e1 w8 ⟨rfl, hst8⟩; have HS8 := hid hst8; have n1 := (hst8.2.cell (p := ⟨w.heap.size, 0, none⟩) (by exact l1) ZH).trans p2; have n2 := (hst8.2.cell (p := ⟨M, 5, none⟩) (by exact l3) zA6).trans m2; have n3 := (hst8.2.cell (p := ⟨w.heap.size + 1, 0, none⟩) (by exact l2) ZH).trans k2; clear hst8; (try dsimp only))
  refine hK.out _ _ ?_ (fun hHeld => ?_)
  ·((try dsimp only); first | (refine ⟨?_, ?_, ?_⟩ <;> (first | assumption | (go_keep; done))) | (refine ⟨?_, ?_⟩ <;> (first | assumption | (go_keep; done))) | assumption | (go_keep; done))
  clear hK K
  (try simp only [Act.put, Aa, Ad, Ae])
  (try simp only [AX, AT, AL, Act.put, Aa, Ad, Ae])
  refine Dj zH ?_ _
  go_wp2_with fail;first | go_end0 | refine Ai (Aq rfl _ _ _) rfl ?_
  refine ⟨rfl, fun e => ?_⟩
  subst e;have hI3 := HI2.out.step HUU.out (Av.O0 HI2.out.rd HS8.out)
  rw [← HFF.out, An (fun e => by have := e.1; omega)]
  exact hI3
theorem Lc {w : World} {g : Nat} {B : List UInt8} {a : Option Addr} {K : Nat → Prop} {X : World → Bool → Prop} {q : Bool} {M lo : Nat} {k : Int} {m : Msg} {v1 v2 v3 v4 : Value} {s : Rs} {W : World} {fn : Nat} {caps : Array Value} {blk : Rs → Rs × List UInt8 × Bool} (hU : Bm w g B a fn caps blk K X) (hB : B.length ≤ 1000000000) (h : Ci w g B a K X q M lo k m v1 v2 v3 v4 s W) (p : Int) :
  Calls Tryz.prog 189 #[.int .i64 p, .pointer (some ⟨w.heap.size, 0, none⟩), .pointer (some ⟨M, 0, none⟩)] W fun r W' => r = .returned (.tuple #[]) ∧ ∃ v1', Ci w g B a K X q M lo k { m with streams := (s.FH B).2 } v1' v2 v3 v4 (s.FH B).1 W' := by
 have p0 : W.cell? ⟨w.heap.size, 0, none⟩ = some (.pointer (some ⟨g, 0, none⟩)) := h.pa.cell 0
 have HI := hid h
 have HUU := hid hU
 have hwz := h.low
 have hrd2 := h.rd.later (show Below W.heap.size W W.drew from (Below.refl _ _).drew)
 have HR := hid (Dt W.drew hrd2 zD 16 zD)
 have hnm := Rs.FK (B := B) (s := s) (m := 16)
 unfold Rs.FH;generalize s.int B 16 = I at *
 obtain ⟨s1, n⟩ := I
 dsimp only at *;have HZ := hid (fun (V : World) (hV : AK V g B a s1) => MO V hV hB n zD)
 generalize Rs.DC B n s1 [] = R at *
 obtain ⟨s2, L⟩ := R
 dsimp only at *;have l1 := h.pa.lt
 clear h hU hrd2;go_enter Tryz.func189, Tryz.ntmps189
 go_wp2_with fail;refine DF (fun w' => w'.cell? ⟨w.heap.size, 0, none⟩ = some (.pointer (some ⟨g, 0, none⟩))) _ zH rfl zH p0 (fun hHeld => ?_)
 simp only [BX, Ge]
 refine At (i := 0) (oi := _) (v := ?_) rfl zF zF zF (fun _ _ _ h => h) (Or.inl ⟨zX, ?_⟩) zN ?_
 rotate_left
 ·(intro w hSw; (try dsimp only at hSw); go_simp <;> with_reducible rfl)
 (try simp only [Act.put, Aa, Ad, Ae])
 refine At (i := 1) (oi := _) (v := ?_) rfl zF zF zF (fun _ _ _ h => h) (Or.inl ⟨zX, ?_⟩) zN ?_
 rotate_left
 ·(intro w hSw; (try dsimp only at hSw); go_simp <;> with_reducible rfl)
 (try simp only [Act.put, Aa, Ad, Ae])
 refine A4 (rs := [2]) zF zO ?_
 refine AR (o := _) rfl (fun K hK => ?_) AllReadyH.nil
 (go_simp; go_at_call 185; refine HR.out.mono ?_; rintro e1 w7 ⟨rfl, hst7⟩; have HS7 := hid (Av.O0 HI.out.rd hst7); have n1 := (HS7.out.2.cell (p := ⟨w.heap.size, 0, none⟩) (by exact l1) ZH).trans p0; clear hst7; (try dsimp only))
 refine hK.out _ _ ?_ (fun hHeld => ?_)
 ·((try dsimp only); first | (refine ⟨?_, ?_, ?_⟩ <;> (first | assumption | (go_keep; done))) | (refine ⟨?_, ?_⟩ <;> (first | assumption | (go_keep; done))) | assumption | (go_keep; done))
 clear hK K
 (try simp only [Act.put, Aa, Ad, Ae])
 refine A4 (rs := [3]) zF zO ?_
 refine AR (o := _) rfl (fun K hK => ?_) AllReadyH.nil
 (go_simp; go_at_call 190; refine (HZ.out w7 HS7.out.1).mono ?_; rintro e1 w8 ⟨v8, rfl, hv8, hst8⟩; obtain ⟨a8, c8, hfv, _, _⟩ := AE hv8; simp only [Ap, AD] at hfv; subst hfv; have HI8 := hid ((HI.out.step HUU.out HS7.out).step HUU.out hst8); have HV8 := hid (AQ.mono hv8 fun b hb => (⟨by have := HS7.out.2.size; have := hb.1; omega, hb.2⟩ : lo ≤ b ∧ b < w8.heap.size)); have n2 : w8.cell? ⟨w.heap.size, 0, none⟩ = some (.pointer (some ⟨g, 0, none⟩)) := HI8.out.pa.cell 0; have f6 := Fi HI8.out.pm 6; obtain ⟨y0, y1, y2, y3, y4, y5, y6, y7, y8, y9, y10, y11, y12, y13, l8⟩ := AZ HI8.out.pm; clear hst8 hv8; (try dsimp only))
 refine hK.out _ _ ?_ (fun hHeld => ?_)
 ·((try dsimp only); first | (refine ⟨?_, ?_, ?_⟩ <;> (first | assumption | (go_keep; done))) | (refine ⟨?_, ?_⟩ <;> (first | assumption | (go_keep; done))) | assumption | (go_keep; done))
 clear hK K
 (try simp only [Act.put, Aa, Ad, Ae])
 refine At (i := 4) (oi := _) (v := ?_) rfl zF zF zF (fun _ _ _ h => h) (Or.inl ⟨zX, ?_⟩) zN ?_
 rotate_left
 ·(intro w hSw; (try dsimp only at hSw); go_simp <;> with_reducible rfl)
 (try simp only [Act.put, Aa, Ad, Ae])
 refine At (i := 5) (oi := _) (v := ?_) rfl zF zF zF (fun _ _ _ h => h) (Or.inl ⟨zX, ?_⟩) zN ?_
 rotate_left
 ·(intro w hSw; (try dsimp only at hSw); go_simp <;> with_reducible rfl)
 (try simp only [Act.put, Aa, Ad, Ae])
 refine Dj zH ?_ _
 show wpList _ _ _ _ _ _
 go_wp2_with fail;first | go_end0 | refine Ai (Aq rfl _ _ _) rfl ?_
 exact ⟨rfl, _, HI8.out.JI HUU.out 6 _ zR HV8.out HI8.out.ln HI8.out.da HI8.out.sp⟩
theorem NN {w : World} {g : Nat} {B : List UInt8} {a : Option Addr} {K : Nat → Prop} {X : World → Bool → Prop} {q : Bool} {M lo : Nat} {k : Int} {m : Msg} {v1 v2 v3 v4 : Value} {s : Rs} {W : World} {fn : Nat} {caps : Array Value} {blk : Rs → Rs × List UInt8 × Bool} (hU : Bm w g B a fn caps blk K X) (hB : B.length ≤ 1000000000) (h : Ci w g B a K X q M lo k m v1 v2 v3 v4 s W) (p : Int) (hpos : 0 ≤ m.pos ∧ m.pos ≤ 18446744073709551615) :
  Calls Tryz.prog 191 #[.int .i64 p, .pointer (some ⟨w.heap.size, 0, none⟩), .pointer (some ⟨M, 0, none⟩)] W fun r W' => r = .returned (.tuple #[]) ∧ ∃ v2', Ci w g B a K X q M lo k { m with links := (s.links B m.pos).2 } v1 v2' v3 v4 (s.links B m.pos).1 W' := by
 have p0 : W.cell? ⟨w.heap.size, 0, none⟩ = some (.pointer (some ⟨g, 0, none⟩)) := h.pa.cell 0
 have HI := hid h
 have HUU := hid hU
 have hwz := h.low
 have HR := hid (QV W h.rd hB m.pos hpos)
 have m3 : W.cell? ⟨M, 3, none⟩ = some (.int .u64 m.pos) := h.pm.cell 3
 generalize s.links B m.pos = I at *
 obtain ⟨s1, L⟩ := I
 dsimp only at *;clear h hU;go_enter Tryz.func191, Tryz.ntmps191
 go_wp2_with fail;refine HR.out.mono ?_
 rintro r w1 ⟨v, rfl, hv, hst⟩;have hv' := Mu hv
 obtain ⟨a8, c8, hfv, _, _⟩ := AE hv'
 simp only [Ap, AD] at hfv
 subst hfv;have HI1 := hid (HI.out.step HUU.out hst)
 have HV := hid (BK.mono hv' fun b hb => (⟨Z4, hb.2⟩ : lo ≤ b ∧ b < w1.heap.size))
 have f7 := Fi HI1.out.pm 7
 obtain ⟨y0, y1, y2, y3, y4, y5, y6, y7, y8, y9, y10, y11, y12, y13, lm7⟩ := AZ HI1.out.pm
 clear hst hv hv';go_wp2_with fail;first | go_end0 | refine Ai (Aq rfl _ _ _) rfl ?_
 exact ⟨rfl, _, HI1.out.JI HUU.out 7 _ zR HI1.out.st HV.out HI1.out.da HI1.out.sp⟩
theorem Pq {w : World} {g : Nat} {B : List UInt8} {a : Option Addr} {K : Nat → Prop} {X : World → Bool → Prop} {q : Bool} {M lo : Nat} {k : Int} {m : Msg} {v1 v2 v3 v4 : Value} {s : Rs} {W : World} {fn : Nat} {caps : Array Value} {blk : Rs → Rs × List UInt8 × Bool} (hU : Bm w g B a fn caps blk K X) (hB : B.length ≤ 1000000000) (h : Ci w g B a K X q M lo k m v1 v2 v3 v4 s W) (p : Int) :
  Calls Tryz.prog 193 #[.int .i64 p, .pointer (some ⟨w.heap.size, 0, none⟩), .pointer (some ⟨M, 0, none⟩)] W fun r W' => r = .returned (.tuple #[]) ∧ Ci w g B a K X q M lo k { m with sea := (s.seal_ B).2 } v1 v2 v3 v4 (s.seal_ B).1 W' := by
 have p0 : W.cell? ⟨w.heap.size, 0, none⟩ = some (.pointer (some ⟨g, 0, none⟩)) := h.pa.cell 0
 have HI := hid h
 have HUU := hid hU
 have HR := hid (Qz W h.rd hB)
 generalize s.seal_ B = I at *
 obtain ⟨s1, e0, e1, e2⟩ := I
 dsimp only at *;unfold RT at HR;clear h hU;go_enter Tryz.func193, Tryz.ntmps193
 go_wp2_with fail;refine HR.out.mono ?_
 rintro r w1 ⟨rfl, hst⟩;have HI1 := hid (HI.out.step HUU.out hst)
 have f9 := Fi HI1.out.pm 9
 have f10 := Fi HI1.out.pm 10
 have f11 := Fi HI1.out.pm 11
 obtain ⟨y0, y1, y2, y3, y4, y5, y6, y7, y8, y9, y10, y11, y12, y13, l1⟩ := AZ HI1.out.pm
 have HI2 := hid (HI1.out.JI HUU.out 9 (.int .u64 e0) (m' := { m with sea := ⟨e0, m.sea.node, m.sea.tail⟩ }) (v1' := v1) (v2' := v2) (v3' := v3) (v4' := v4) zV HI1.out.st HI1.out.ln HI1.out.da HI1.out.sp)
 have HI3 := hid (HI2.out.JI HUU.out 10 (.int .u64 e1) (m' := { m with sea := ⟨e0, e1, m.sea.tail⟩ }) (v1' := v1) (v2' := v2) (v3' := v3) (v4' := v4) zV HI2.out.st HI2.out.ln HI2.out.da HI2.out.sp)
 have HI4 := hid (HI3.out.JI HUU.out 11 (.int .u64 e2) (m' := { m with sea := ⟨e0, e1, e2⟩ }) (v1' := v1) (v2' := v2) (v3' := v3) (v4' := v4) zV HI3.out.st HI3.out.ln HI3.out.da HI3.out.sp)
 clear hst;go_wp2_with fail;first | go_end0 | refine Ai (Aq rfl _ _ _) rfl ?_
 exact ⟨rfl, HI4.out⟩
theorem Pr {w : World} {g : Nat} {B : List UInt8} {a : Option Addr} {K : Nat → Prop} {X : World → Bool → Prop} {q : Bool} {M lo : Nat} {k : Int} {m : Msg} {v1 v2 v3 v4 : Value} {s : Rs} {W : World} {fn : Nat} {caps : Array Value} {blk : Rs → Rs × List UInt8 × Bool} (hU : Bm w g B a fn caps blk K X) (hB : B.length ≤ 1000000000) (h : Ci w g B a K X q M lo k m v1 v2 v3 v4 s W) (p : Int) :
  Calls Tryz.prog 195 #[.int .i64 p, .pointer (some ⟨w.heap.size, 0, none⟩), .pointer (some ⟨M, 0, none⟩)] W fun r W' => r = .returned (.tuple #[]) ∧ ∃ v4', Ci w g B a K X q M lo k { m with proj := (s.C3 B).2 } v1 v2 v3 v4' (s.C3 B).1 W' := by
 have p0 : W.cell? ⟨w.heap.size, 0, none⟩ = some (.pointer (some ⟨g, 0, none⟩)) := h.pa.cell 0
 have HI := hid h
 have HUU := hid hU
 have hwz := h.low
 have HR := hid (QQ W h.rd hB)
 generalize s.C3 B = I at *
 obtain ⟨s1, e0, L⟩ := I
 dsimp only at *;clear h hU;go_enter Tryz.func195, Tryz.ntmps195
 go_wp2_with fail;refine HR.out.mono ?_
 rintro r w1 ⟨v, rfl, hv, hst⟩;obtain ⟨a8, c8, hfv, _, _⟩ := AE hv
 simp only [Ap, AD] at hfv
 subst hfv;have HI1 := hid (HI.out.step HUU.out hst)
 have HV := hid (A9.mono hv fun b hb => (⟨Z4, hb.2⟩ : lo ≤ b ∧ b < w1.heap.size))
 have f12 := Fi HI1.out.pm 12
 have f13 := Fi HI1.out.pm 13
 obtain ⟨y0, y1, y2, y3, y4, y5, y6, y7, y8, y9, y10, y11, y12, y13, l1⟩ := AZ HI1.out.pm
 have HI2 := hid (HI1.out.JI HUU.out 12 (.int .u64 e0) (m' := { m with proj := ⟨e0, m.proj.stripes⟩ }) (v1' := v1) (v2' := v2) (v3' := v3) (v4' := v4) zV HI1.out.st HI1.out.ln HI1.out.da HI1.out.sp)
 have HV2 := hid (show A9.r (fun b => lo ≤ b ∧ b < (w1.setCell ⟨M, 12, none⟩ (.int .u64 e0)).heap.size) (w1.setCell ⟨M, 12, none⟩ (.int .u64 e0)) [.slice a8 L.length c8] L from A9.mono (A9.keep HV.out fun b hb => AG _ _ _ _ (by have := hb.1; have := HI1.out.lm; dsimp only; omega)) fun b hb => ⟨hb.1, by rw [size_set]; exact hb.2⟩)
 clear hst hv;go_wp2_with fail;first | go_end0 | refine Ai (Aq rfl _ _ _) rfl ?_
 exact ⟨rfl, _, HI2.out.JI HUU.out 13 _ zR HI2.out.st HI2.out.ln HI2.out.da HV2.out⟩
end Go.Proofs.YtlbffbkbkajciaaGreat
