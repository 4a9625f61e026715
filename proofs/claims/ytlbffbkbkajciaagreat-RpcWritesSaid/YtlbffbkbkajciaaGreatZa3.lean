/- Needed by bodyWrites_walk, part 3: texts put together by shake.py; no condition. -/
import Derived.StillTailTactics
import Derived.Test.YtlbffbkbkajciaaGreatZa2
import Derived.Test.YtlbffbkbkajciaaGreatZa1
import Derived.StillTail
import Derived.RegionTactic
import Derived.OrdersHeld
import Derived.Deep.RegionHeld
import Derived.Laws.IdiomStrings
import Derived.Laws.BytesArg
import Derived.Lib.SlBytesConst
namespace Go.Proofs.YtlbffbkbkajciaaGreat
open Go.RowKit Go.Bs Go.Maps Go.Shelf
set_option linter.unusedVariables false
set_option linter.unusedSimpArgs false
attribute [local go_sem] Oper.semAt_some

/-- Block gs is a seeker of the bytes b. -/
structure SkAt (w : World) (gs g mb base lo hi : Nat) (b : List UInt8) (n : Nat) (sa : Option Addr) (sc : Nat) (ab : Option Addr) (cb : Nat) (ap : Option Addr) (cp : Nat) : Prop where
  blk : ∃ t : Int, Blk w gs 259 #[.slice sa b.length sc, .pointer (some ⟨g, 0, none⟩), .int .i64 t]
  bytes : rBytes.r (fun q => (lo ≤ q ∧ q < hi) ∧ q ≠ gs ∧ q ≠ g ∧ q ≠ mb ∧ (Value.slice ap n cp).ownBlock ≠ some q) w [.slice sa b.length sc] b
  ch : ChAt w g mb base b n ab cb ap cp
  bytes2 : rBytes.r (fun q => (lo ≤ q ∧ q < hi) ∧ q ≠ gs ∧ q ≠ g ∧ q ≠ mb ∧ (Value.slice ap n cp).ownBlock ≠ some q) w [.slice ab b.length cb] b
  ne1 : gs ≠ g
  ne2 : gs ≠ mb
  ne3 : (Value.slice ap n cp).ownBlock ≠ some gs
  top : hi ≤ w.heap.size
/-- What a Best leaves. -/
def SkStep (w : World) (gs g mb base lo hi : Nat) (b : List UInt8) (n n' : Nat) (sa : Option Addr) (sc : Nat) (ab : Option Addr) (cb : Nat) (ap : Option Addr) (cp : Nat) (w' : World) : Prop :=
  ∃ ap' cp', SkAt w' gs g mb base lo hi b n' sa sc ab cb ap' cp' ∧ Tch (fun q => q = gs ∨ q = g ∨ q = mb ∨ (Value.slice ap n cp).ownBlock = some q) w w' ∧ ((Value.slice ap' n' cp').ownBlock = (Value.slice ap n cp).ownBlock ∨ ∃ q, (Value.slice ap' n' cp').ownBlock = some q ∧ w.heap.size ≤ q)
def BestPost (w : World) (gs g mb base lo hi : Nat) (b : List UInt8) (n p : Nat) (sa : Option Addr) (sc : Nat) (ab : Option Addr) (cb : Nat) (ap : Option Addr) (cp : Nat) (r : Ending) (w' : World) : Prop :=
  r = .returned (.tuple #[.int .i64 ((bestR b p).1 : Int), .int .i64 ((bestR b p).2 : Int)]) ∧ SkStep w gs g mb base lo hi b n p sa sc ab cb ap cp w'

theorem ChAt.later {w w' : World} {g mb base : Nat} {b : List UInt8} {n : Nat} {ab : Option Addr} {cb : Nat} {ap : Option Addr} {cp : Nat} (h : ChAt w g mb base b n ab cb ap cp) (hb : Below w.heap.size w w') : ChAt w' g mb base b n ab cb ap cp := by
  have hs := hb.size
  obtain ⟨D, hD, hL⟩ := h.map
  exact ⟨h.blk.later hb, rBytes.mono (rBytes.keep h.bytes fun q hq => hb.block q hq.1) fun q hq => ⟨by omega, hq.2⟩, ⟨D, map_keep hD (hb.block _ hD.lt), hL⟩, own_keep h.prev fun q hq => hb.block q (h.prev.lt q hq).2, h.ne1, h.ne2, h.ne3, h.lo, h.le, h.len⟩
theorem SkAt.later {w w' : World} {gs g mb base lo hi : Nat} {b : List UInt8} {n : Nat} {sa : Option Addr} {sc : Nat} {ab : Option Addr} {cb : Nat} {ap : Option Addr} {cp : Nat} (h : SkAt w gs g mb base lo hi b n sa sc ab cb ap cp) (hb : Below w.heap.size w w') : SkAt w' gs g mb base lo hi b n sa sc ab cb ap cp := by
  have hs := hb.size
  obtain ⟨t, ht⟩ := h.blk
  exact ⟨⟨t, ht.later hb⟩, rBytes.keep h.bytes fun q hq => hb.block q (Nat.lt_of_lt_of_le hq.1.2 h.top), h.ch.later hb, rBytes.keep h.bytes2 fun q hq => hb.block q (Nat.lt_of_lt_of_le hq.1.2 h.top), h.ne1, h.ne2, h.ne3, Nat.le_trans h.top hs⟩
theorem sk_ch {w W0 w1 : World} {gs g mb base lo hi : Nat} {b : List UInt8} {n p : Nat} {sa : Option Addr} {sc : Nat} {ab : Option Addr} {cb : Nat} {ap : Option Addr} {cp : Nat} {a1 : Option Addr} {c1 : Nat} (h : SkAt w gs g mb base lo hi b n sa sc ab cb ap cp) (hb : Below w.heap.size w W0)
    (h1 : ChAt w1 g mb base b p ab cb a1 c1) (h2 : Tch (fun q => q = g ∨ q = mb ∨ (Value.slice ap n cp).ownBlock = some q) W0 w1) (h3 : (Value.slice a1 p c1).ownBlock = (Value.slice ap n cp).ownBlock ∨ ∃ q, (Value.slice a1 p c1).ownBlock = some q ∧ W0.heap.size ≤ q) :
    SkAt w1 gs g mb base lo hi b p sa sc ab cb a1 c1 ∧ Tch (fun q => q = gs ∨ q = g ∨ q = mb ∨ (Value.slice ap n cp).ownBlock = some q) w w1 ∧ ((Value.slice a1 p c1).ownBlock = (Value.slice ap n cp).ownBlock ∨ ∃ q, (Value.slice a1 p c1).ownBlock = some q ∧ w.heap.size ≤ q) := by
  have hs := hb.size
  have hs2 := h2.size
  obtain ⟨t, ht⟩ := h.blk
  have hn : ∀ q, q < w.heap.size → (Value.slice ap n cp).ownBlock ≠ some q → (Value.slice a1 p c1).ownBlock ≠ some q := fun q hq hne e => by
    rcases h3 with h3 | ⟨q', hq', hlt⟩
    · rw [h3] at e; exact hne e
    · rw [hq'] at e; have := Option.some.inj e; omega
  have keep : ∀ q, q < w.heap.size → q ≠ g → q ≠ mb → (Value.slice ap n cp).ownBlock ≠ some q → w1.heap[q]? = w.heap[q]? := fun q hq k1 k2 k3 =>
    (h2.block q (by omega) (fun e => by rcases e with e | e | e <;> contradiction)).trans (hb.block q hq)
  refine ⟨⟨⟨t, (keep gs ht.lt h.ne1 h.ne2 h.ne3).trans ht⟩, ?_, h1, ?_, h.ne1, h.ne2, hn gs ht.lt h.ne3, by have := h.top; omega⟩, ⟨h2.os.trans hb.os, h2.tape.trans hb.tape, h2.output.trans hb.output, by omega, fun q hq hf => keep q hq (fun e => hf (.inr (.inl e))) (fun e => hf (.inr (.inr (.inl e)))) (fun e => hf (.inr (.inr (.inr e))))⟩, ?_⟩
  · exact rBytes.mono (rBytes.keep h.bytes fun q hq => keep q (Nat.lt_of_lt_of_le hq.1.2 h.top) hq.2.2.1 hq.2.2.2.1 hq.2.2.2.2) fun q hq => ⟨hq.1, hq.2.1, hq.2.2.1, hq.2.2.2.1, hn q (Nat.lt_of_lt_of_le hq.1.2 h.top) hq.2.2.2.2⟩
  · exact rBytes.mono (rBytes.keep h.bytes2 fun q hq => keep q (Nat.lt_of_lt_of_le hq.1.2 h.top) hq.2.2.1 hq.2.2.2.1 hq.2.2.2.2) fun q hq => ⟨hq.1, hq.2.1, hq.2.2.1, hq.2.2.2.1, hn q (Nat.lt_of_lt_of_le hq.1.2 h.top) hq.2.2.2.2⟩
  · rcases h3 with h3 | ⟨q', hq', hlt⟩
    · exact .inl h3
    · exact .inr ⟨q', hq', by omega⟩

theorem SkAt.tch {F : Nat → Prop} {w w' : World} {gs g mb base lo hi : Nat} {b : List UInt8} {n : Nat} {sa : Option Addr} {sc : Nat} {ab : Option Addr} {cb : Nat} {ap : Option Addr} {cp : Nat} (h : SkAt w gs g mb base lo hi b n sa sc ab cb ap cp) (hT : Tch F w w') (h1 : ¬ F g) (h2 : ¬ F mb) (h3 : ∀ q, (Value.slice ap n cp).ownBlock = some q → ¬ F q) (h4 : ∀ q, lo ≤ q → q < hi → q ≠ gs → ¬ F q)
    (hb : ∃ t : Int, Blk w' gs 259 #[.slice sa b.length sc, .pointer (some ⟨g, 0, none⟩), .int .i64 t]) : SkAt w' gs g mb base lo hi b n sa sc ab cb ap cp := by
  have hs := hT.size
  have ht := h.top
  obtain ⟨D, hD, hL⟩ := h.ch.map
  exact ⟨hb, rBytes.keep h.bytes fun q hq => hT.block q (by omega) (h4 q hq.1.1 hq.1.2 hq.2.1), ⟨h.ch.blk.tch hT h1, rBytes.mono (rBytes.keep h.bytes2 fun q hq => hT.block q (by omega) (h4 q hq.1.1 hq.1.2 hq.2.1)) fun q hq => ⟨by omega, hq.2.2⟩, ⟨D, map_keep hD (hT.block _ hD.lt h2), hL⟩,
    own_keep h.ch.prev fun q hq => hT.block q (h.ch.prev.lt q hq).2 (h3 q hq), h.ch.ne1, h.ch.ne2, h.ch.ne3, h.ch.lo, h.ch.le, h.ch.len⟩, rBytes.keep h.bytes2 fun q hq => hT.block q (by omega) (h4 q hq.1.1 hq.1.2 hq.2.1), h.ne1, h.ne2, h.ne3, by omega⟩
theorem SkAt.turned {w w' : World} {gs g mb base lo hi : Nat} {b : List UInt8} {n : Nat} {sa : Option Addr} {sc : Nat} {ab : Option Addr} {cb : Nat} {ap : Option Addr} {cp : Nat} (h : SkAt w gs g mb base lo hi b n sa sc ab cb ap cp) (hT : Tch (fun q => q = gs) w w')
    (hb : ∃ t : Int, Blk w' gs 259 #[.slice sa b.length sc, .pointer (some ⟨g, 0, none⟩), .int .i64 t]) : SkAt w' gs g mb base lo hi b n sa sc ab cb ap cp :=
  h.tch hT (Ne.symm h.ne1) (Ne.symm h.ne2) (fun q hq e => h.ne3 (e ▸ hq)) (fun q _ _ h e => h e) hb

theorem chain_places (w : World) (g p : Nat) : Calls Tryz.prog 274 #[.pointer (some ⟨g, 0, none⟩), .int .i64 (p : Int)] w fun r w' =>
    r = .returned (.func (.func 281) #[] #[.pointer (some ⟨w.heap.size, 0, none⟩), .pointer (some ⟨w.heap.size + 1, 0, none⟩)]) ∧ w' = (w.alloc (.cells #[.pointer (some ⟨g, 0, none⟩)] 256)).alloc (.cells #[.int .i64 (p : Int)] 3) := by
  go_enter Tryz.func274, Tryz.ntmps274
  go_wp2
  go_ret
  exact ⟨rfl, rfl⟩

set_option maxRecDepth 100000 in
set_option maxHeartbeats 3200000 in
theorem seek_best (w : World) {gs g mb base lo hi : Nat} {b : List UInt8} {n p : Nat} {sa : Option Addr} {sc : Nat} {ab : Option Addr} {cb : Nat} {ap : Option Addr} {cp : Nat} (h : SkAt w gs g mb base lo hi b n sa sc ab cb ap cp) (hn : n ≤ p) (hp : p < b.length) :
    Calls Tryz.prog 266 #[.pointer (some ⟨gs, 0, none⟩), .int .i64 (p : Int)] w (BestPost w gs g mb base lo hi b n p sa sc ab cb ap cp) := by
  obtain ⟨t0, hblk⟩ := h.blk
  have hlen := h.ch.len
  have hgs := hblk.lt
  have c0 : w.cell? ⟨gs, 0, none⟩ = some (.slice sa b.length sc) := hblk.cell 0
  have c1 : w.cell? ⟨gs, 1, none⟩ = some (.pointer (some ⟨g, 0, none⟩)) := hblk.cell 1
  have e1 : min (p : Int) (b.length : Int) = (p : Int) := by omega
  have hpl : (p : Int) < (b.length : Int) := by omega
  have hfw : ∀ f, Fence.wide.fn f = True := fun _ => rfl
  have H := hid h; have HB := hid hblk
  clear h hblk
  refine (callsIn_wide (n := 5)).1 ?_
  refine callsIn_of_wp_marks Tryz.func266 rfl trivial ?_ rfl
  simp only [Tryz.ntmps266, List.size_toArray, List.length_cons, List.length_nil, Nat.reduceAdd, Nat.reduceSub, Array.replicate_succ, Array.replicate_zero, List.push_toArray, List.append_toArray, List.nil_append, List.cons_append]
  have hmx : Tryz.prog.follows .mixedOrders = true := by kernel_rfl
  refine wpIn_wide.2 ?_
  go_wp2
  refine wp_region_still_drew 11 (by kernel_rfl) (by kernel_rfl) ?_
  simp only [List.take_succ_cons, List.take_zero, List.drop_succ_cons, List.drop_zero]
  repeat still_step
  refine wpStill_nil ?_
  go_wp2_with fail
  refine (chain_addTo _ (H.out.ch.later (by (repeat (first | exact Below.refl _ _ | assumption | (refine below_alloc ?_ _) | (refine Below.setCell ?_ (by first | omega | (simp; done) | (simp; omega)) _) | (refine Below.drew ?_) | (refine below_drewN ?_ _) | (refine below_then (by assumption) ?_))))) p hn (by omega)).mono ?_
  rintro r w1 ⟨rfl, a1, c1', hch, htch, hown⟩
  obtain ⟨hsk, htw, howw⟩ := sk_ch H.out (by (repeat (first | exact Below.refl _ _ | assumption | (refine below_alloc ?_ _) | (refine Below.setCell ?_ (by first | omega | (simp; done) | (simp; omega)) _) | (refine Below.drew ?_) | (refine below_drewN ?_ _) | (refine below_then (by assumption) ?_)))) hch htch hown
  have z1 : w.heap.size + 1 < w1.heap.size := by have := htch.size; simp at this; omega
  have P0 : Blk w1 w.heap.size 249 #[.pointer (some ⟨gs, 0, none⟩)] := Blk.tch (by (repeat (first | assumption | exact Blk.newAt _ _ _ (by first | (simp; done) | (simp; omega)) | refine Blk.alloc ?_ _ | refine Blk.drew ?_ | refine Blk.drewN ?_ _ | refine Blk.far ?_ (by first | (simp; done) | (simp; omega)) _))) htch (fun e => by
    have h1 := H.out.ch.blk.lt
    obtain ⟨D, hD, _⟩ := H.out.ch.map
    have h2 := hD.lt
    rcases e with e | e | e
    · omega
    · omega
    · have := (H.out.ch.prev.lt _ e).2; omega)
  have P1 : Blk w1 (w.heap.size + 1) 3 #[.int .i64 (p : Int)] := Blk.tch (by (repeat (first | assumption | exact Blk.newAt _ _ _ (by first | (simp; done) | (simp; omega)) | refine Blk.alloc ?_ _ | refine Blk.drew ?_ | refine Blk.drewN ?_ _ | refine Blk.far ?_ (by first | (simp; done) | (simp; omega)) _))) htch (fun e => by
    have h1 := H.out.ch.blk.lt
    obtain ⟨D, hD, _⟩ := H.out.ch.map
    have h2 := hD.lt
    rcases e with e | e | e
    · omega
    · omega
    · have := (H.out.ch.prev.lt _ e).2; omega)
  have HSK := hid hsk; have HTW := hid htw; have HOW := hid howw; have HP0 := hid P0; have HP1 := hid P1
  clear hsk htw howw P0 P1 hch htch hown c0 c1
  go_wp2_with fail
  refine wp_world (fun W => Below w1.heap.size w1 W ∧ W.heap.size = w1.heap.size + 2 ∧ Blk W w1.heap.size 3 #[.int .i64 0] ∧ Blk W (w1.heap.size + 1) 3 #[.int .i64 0]) ⟨by (repeat (first | exact Below.refl _ _ | assumption | (refine below_alloc ?_ _) | (refine Below.setCell ?_ (by first | omega | (simp; done) | (simp; omega)) _) | (refine Below.drew ?_) | (refine below_drewN ?_ _) | (refine below_then (by assumption) ?_))), by simp, by (repeat (first | assumption | exact Blk.newAt _ _ _ (by first | (simp; done) | (simp; omega)) | refine Blk.alloc ?_ _ | refine Blk.drew ?_ | refine Blk.drewN ?_ _ | refine Blk.far ?_ (by first | (simp; done) | (simp; omega)) _)), by (repeat (first | assumption | exact Blk.newAt _ _ _ (by first | (simp; done) | (simp; omega)) | refine Blk.alloc ?_ _ | refine Blk.drew ?_ | refine Blk.drewN ?_ _ | refine Blk.far ?_ (by first | (simp; done) | (simp; omega)) _))⟩ ?_
  intro W ⟨hbW, hzW, Q0, Q1⟩
  have HZW := hid hzW; clear hzW
  have HSW := hid (HSK.out.later hbW)
  have HPW0 := hid (HP0.out.later hbW)
  have HPW1 := hid (HP1.out.later hbW)
  obtain ⟨t1, hb1⟩ := HSW.out.blk
  have c1 : W.cell? ⟨gs, 1, none⟩ = some (.pointer (some ⟨g, 0, none⟩)) := hb1.cell 1
  have c2 : W.cell? ⟨w.heap.size, 0, none⟩ = some (.pointer (some ⟨gs, 0, none⟩)) := HPW0.out.cell 0
  have c3 : W.cell? ⟨w.heap.size + 1, 0, none⟩ = some (.int .i64 (p : Int)) := HPW1.out.cell 0
  have HQ0 := hid Q0; have HQ1 := hid Q1
  clear hb1 Q0 Q1
  refine wp_region_still_drew 5 (by kernel_rfl) (by kernel_rfl) ?_
  simp only [List.take_succ_cons, List.take_zero, List.drop_succ_cons, List.drop_zero]
  repeat still_step
  refine wpStill_nil ?_
  go_wp2_with fail
  refine (chain_places _ g p).mono ?_
  rintro r w5 ⟨rfl, hw5⟩
  have hb5 : Below W.heap.size W w5 := by rw [hw5]; (repeat (first | exact Below.refl _ _ | assumption | (refine below_alloc ?_ _) | (refine Below.setCell ?_ (by first | omega | (simp; done) | (simp; omega)) _) | (refine Below.drew ?_) | (refine below_drewN ?_ _) | (refine below_then (by assumption) ?_)))
  have BC : Blk w5 W.heap.size 256 #[.pointer (some ⟨g, 0, none⟩)] := by rw [hw5]; exact Blk.alloc (Blk.newAt _ _ _ (by simp)) _
  have BA : Blk w5 (W.heap.size + 1) 3 #[.int .i64 (p : Int)] := by rw [hw5]; exact Blk.newAt _ _ _ (by simp)
  have hz5 : w5.heap.size = W.heap.size + 2 := by rw [hw5]; simp
  have HS5 := hid (HSW.out.later hb5)
  have HB5 := hid hb5; have HBC := hid BC; have HBA := hid BA
  clear hw5 hb5 BC BA
  go_wp2_with fail
  have hgs1 := HSK.out.blk.choose_spec.lt
  have hg1 := HSK.out.ch.blk.lt
  have htop := HSK.out.top
  have hm1 : mb < w1.heap.size := by obtain ⟨D, hD, _⟩ := HSK.out.ch.map; exact hD.lt
  have hz5' : w5.heap.size = w1.heap.size + 4 := by have := HZW.out; omega
  have HZ5 := hid hz5'; clear hz5 hz5'
  have hlt5 : w1.heap.size + 1 < w5.heap.size := by have := HZ5.out; omega
  have BO : Blk w5 w1.heap.size 3 #[.int .i64 0] := HQ0.out.later HB5.out
  have BN : Blk w5 (w1.heap.size + 1) 3 #[.int .i64 0] := HQ1.out.later HB5.out
  have P0 : Blk w5 w.heap.size 249 #[.pointer (some ⟨gs, 0, none⟩)] := HPW0.out.later HB5.out
  have P1 : Blk w5 (w.heap.size + 1) 3 #[.int .i64 (p : Int)] := HPW1.out.later HB5.out
  have hby := rBytes.keep HSK.out.bytes (w' := w5) fun q hq => (HB5.out.block q (by have := HZW.out; have := HSK.out.top; omega)).trans (hbW.block q (Nat.lt_of_lt_of_le hq.1.2 HSK.out.top))
  have HBY := hid hby; have HBO := hid BO; have HBN := hid BN; have HPP0 := hid P0; have HPP1 := hid P1
  clear BO BN P0 P1 hby c1 c2 c3
  have hgsz : gs < w.heap.size := hgs
  refine (wpIn_wide (n := 5)).1 ?_
  refine wpIn_rangeFunc_ownG rfl (by decide) (gf := 281) (lb := #[.pointer (some ⟨W.heap.size, 0, none⟩), .pointer (some ⟨W.heap.size + 1, 0, none⟩)]) rfl trivial (enters_of Tryz.func281 (by kernel_rfl) rfl)
    (places_stops w5 HS5.out.ch HBC.out HBA.out) (fun h k => h.trans k) ?hKb (Below.refl _ _) (fun _ => rfl)
    (fun pre V => (∃ t : Int, Blk V gs 259 #[.slice sa b.length sc, .pointer (some ⟨g, 0, none⟩), .int .i64 t]) ∧ Blk V w1.heap.size 3 #[.int .i64 ((bestL b p pre).1 : Int)] ∧ Blk V (w1.heap.size + 1) 3 #[.int .i64 ((bestL b p pre).2 : Int)] ∧ Tch (fun q => q = gs ∨ q = w1.heap.size ∨ q = w1.heap.size + 1) w5 V)
    (fun c pre V => c = .exit 0 ∧ p + (bestL b p pre).2 = b.length ∧ (∃ t : Int, Blk V gs 259 #[.slice sa b.length sc, .pointer (some ⟨g, 0, none⟩), .int .i64 t]) ∧ Blk V w1.heap.size 3 #[.int .i64 ((bestL b p pre).1 : Int)] ∧ Blk V (w1.heap.size + 1) 3 #[.int .i64 ((bestL b p pre).2 : Int)] ∧ Tch (fun q => q = gs ∨ q = w1.heap.size ∨ q = w1.heap.size + 1) w5 V)
    ?hI ?hIx ?h0
    (fun x => { tmps := #[.pointer (some ⟨gs, 0, none⟩), .int .i64 (p : Int), .pointer (some ⟨w.heap.size, 0, none⟩), .pointer (some ⟨w.heap.size + 1, 0, none⟩), .int .i64 0, .int .i64 0, .pointer (some ⟨w1.heap.size, 0, none⟩), .pointer (some ⟨w1.heap.size + 1, 0, none⟩), .int .i64 (x.val : Int), undef,
      .pointer (some ⟨gs, 0, none⟩), .bool false, .pointer (some ⟨gs, 0, none⟩), .pointer (some ⟨gs, 0, none⟩), .pointer (some ⟨gs, 1, none⟩), .pointer (some ⟨g, 0, none⟩), .int .i64 (p : Int), .pointer (some ⟨gs, 0, none⟩), .pointer (some ⟨gs, 0, none⟩), .pointer (some ⟨gs, 0, none⟩), .slice sa b.length sc, .int .i64 (b.length : Int), .int .i64 (p : Int), .int .i64 ((p : Int) - (n : Int)),
      .pointer (some ⟨gs, 0, none⟩), .pointer (some ⟨gs, 0, none⟩), .pointer (some ⟨gs, 1, none⟩), .pointer (some ⟨g, 0, none⟩), .int .i64 (p : Int), .func (.func 281) #[] #[.pointer (some ⟨W.heap.size, 0, none⟩), .pointer (some ⟨W.heap.size + 1, 0, none⟩)], .int .i64 (x.val : Int),
      undef, undef, undef, undef, undef, undef, undef, undef, undef, undef, undef, undef, undef, undef, undef, undef, undef, undef, undef, undef, undef, undef, undef, undef, undef, undef, undef, undef, undef, undef, undef, undef, undef, undef, undef, undef, undef], defers := [] }) ?assign ?body ?done ?stop
  case hKb =>
    intro V l o o' hl ho _ _ q hq
    refine World.putObj_heap_other ?_
    have := HZ5.out
    have hz := HZW.out
    have hs := HB5.out.size
    rcases hq with e | e | e | e | e
    · omega
    · omega
    · have := (HSK.out.ch.prev.lt _ e).2; omega
    · omega
    · omega
  case hI =>
    rintro pre X Y row ⟨⟨t, h1⟩, h2, h3, h4⟩ hg' hr
    have hne : ∀ q, q < w5.heap.size → Y.heap[q]? = X.heap[q]? := fun q hq => hg'.block q (Nat.lt_of_lt_of_le hq h4.size) (fun e => by have := (hr q e.symm).1; omega)
    exact ⟨⟨t, (hne gs (by omega)).trans h1⟩, (hne _ (by omega)).trans h2, (hne _ hlt5).trans h3, ⟨hg'.os.trans h4.os, hg'.tape.trans h4.tape, hg'.output.trans h4.output, Nat.le_trans h4.size hg'.size, fun q hq hf => (hne q hq).trans (h4.block q hq hf)⟩⟩
  case hIx =>
    rintro c pre X Y row ⟨hc, hl, ⟨t, h1⟩, h2, h3, h4⟩ hg' hr
    have hne : ∀ q, q < w5.heap.size → Y.heap[q]? = X.heap[q]? := fun q hq => hg'.block q (Nat.lt_of_lt_of_le hq h4.size) (fun e => by have := (hr q e.symm).1; omega)
    exact ⟨hc, hl, ⟨t, (hne gs (by omega)).trans h1⟩, (hne _ (by omega)).trans h2, (hne _ hlt5).trans h3, ⟨hg'.os.trans h4.os, hg'.tape.trans h4.tape, hg'.output.trans h4.output, Nat.le_trans h4.size hg'.size, fun q hq hf => (hne q hq).trans (h4.block q hq hf)⟩⟩
  case h0 => exact ⟨HS5.out.blk, HBO.out, HBN.out, Tch.refl _ _⟩
  case assign =>
    intro l x V K hK
    gi_wp2
    exact hK
  case body =>
    rintro l pre x V ⟨⟨t, hbg⟩, hbo, hbn, htc⟩ hN
    have hxp := x.isLt
    have nF : ∀ q, q < w5.heap.size → q ≠ gs → q ≠ w1.heap.size → q ≠ w1.heap.size + 1 → ¬ (q = gs ∨ q = w1.heap.size ∨ q = w1.heap.size + 1) := fun q _ h1 h2 h3 e => by rcases e with e | e | e <;> contradiction
    have V0 : Blk V w.heap.size 249 #[.pointer (some ⟨gs, 0, none⟩)] := HPP0.out.tch htc (nF _ (by omega) (by omega) (by omega) (by omega))
    have V1 : Blk V (w.heap.size + 1) 3 #[.int .i64 (p : Int)] := HPP1.out.tch htc (nF _ (by omega) (by omega) (by omega) (by omega))
    have k0 : V.cell? ⟨w.heap.size, 0, none⟩ = some (.pointer (some ⟨gs, 0, none⟩)) := V0.cell 0
    have k2 : V.cell? ⟨gs, 2, none⟩ = some (.int .i64 t) := hbg.cell 2
    have k3 := hbg.free 2
    have HBG := hid hbg; have HBO2 := hid hbo; have HBN2 := hid hbn; have HTC := hid htc; have HV0 := hid V0; have HV1 := hid V1
    clear hbg hbo hbn htc V0 V1
    have hV5 : w5.heap.size ≤ V.heap.size := HTC.out.size
    gi_wp2
    refine wpIn_world (fun U => Tch (fun q => q = gs) V U ∧ ∃ t' : Int, Blk U gs 259 #[.slice sa b.length sc, .pointer (some ⟨g, 0, none⟩), .int .i64 t']) ⟨Tch.setCell (F := fun q => q = gs) (Tch.refl _ _) (fun _ => rfl) _, _, HBG.out.set 2 _⟩ ?_
    intro U ⟨hU, t', hUg⟩
    have U0 := HV0.out.tch hU (by omega)
    have U1 := HV1.out.tch hU (by omega)
    have UO := HBO2.out.tch hU (by omega)
    have UN := HBN2.out.tch hU (by omega)
    have HM := hid (fun s : Later U => seek_match b (p : Int) ((p : Int) - (x.val : Int)) (by omega) (by omega) sa b.length sc s.at_ (rBytes.mono (rBytes.keep HBY.out fun q hq => (s.below.block q (by have := hU.size; omega)).trans ((hU.block q (by omega) hq.2.1).trans (HTC.out.block q (by omega) (nF q (by omega) hq.2.1 (by omega) (by omega))))) fun q hq => by have := hU.size; have := s.below.size; omega) hlen (by omega) (by omega))
    have et : ((p : Int) - (x.val : Int)).toNat = p - x.val := by omega
    rw [Int.toNat_natCast, et] at HM
    have i1 : (0 : Int) ≤ (p : Int) - (x.val : Int) := by omega
    have C0 := fun s : Later U => s.cell (show U.cell? ⟨w.heap.size, 0, none⟩ = some (.pointer (some ⟨gs, 0, none⟩)) from U0.cell 0)
    have C1 := fun s : Later U => s.cell (show U.cell? ⟨w.heap.size + 1, 0, none⟩ = some (.int .i64 (p : Int)) from U1.cell 0)
    have C2 := fun s : Later U => s.cell (show U.cell? ⟨gs, 0, none⟩ = some (.slice sa b.length sc) from hUg.cell 0)
    have hsn := bestL_snoc b p pre x
    have hsnb := bestL_bound b p (pre ++ [x])
    have hml := mlen_le b p (p - x.val)
    generalize hbl : bestL b p (pre ++ [x]) = s2 at *
    generalize hbl0 : bestL b p pre = s1 at *
    generalize hmm : mlen b p (p - x.val) = m at *
    have HSN := hid hsn; have HBL := hid hbl; have HBL0 := hid hbl0; have HMM := hid hmm
    have HUt := hid hU; have HUG := hid hUg; have HUO := hid UO; have HUN := hid UN; have HU0 := hid U0; have HU1 := hid U1
    clear hsn hbl hbl0 hmm et hU hUg UO UN U0 U1
    have hfr : ∀ f, (Fence.wide.inRound l).fn f = True := fun _ => rfl
    clear k0 k2 k3
    refine wpIn_region_rlater (by kernel_rfl) (by kernel_rfl) (by kernel_rfl) ?_
    repeat (gi_big_quiet_step (((exact laterIn_of (HM.out _)))))
    refine wpQuietIn_nil ?_
    rintro Y ⟨⟨Y', hY⟩, rfl⟩
    have Y0 := HU0.out.later hY
    have Y1 := HU1.out.later hY
    have YO := HUO.out.later hY
    have YN := HUN.out.later hY
    have YG := HUG.out.later hY
    have y1 : Y.cell? ⟨w.heap.size + 1, 0, none⟩ = some (.int .i64 (p : Int)) := Y1.cell 0
    have yo : Y.cell? ⟨w1.heap.size, 0, none⟩ = some (.int .i64 (s1.1 : Int)) := YO.cell 0
    have yn : Y.cell? ⟨w1.heap.size + 1, 0, none⟩ = some (.int .i64 (s1.2 : Int)) := YN.cell 0
    have fo := YO.free 0
    have fn := YN.free 0
    have HY0 := hid Y0; have HY1 := hid Y1; have HYO := hid YO; have HYN := hid YN; have HYG := hid YG
    have HYb := hid hY
    clear Y0 Y1 YO YN YG hY C0 C1 C2
    have hzz : w1.heap.size ≠ gs := by omega
    have hzz2 : w1.heap.size + 1 ≠ gs := by omega
    by_cases hgt : s1.2 < m
    · have b0 : decide ((s1.2 : Int) < (m : Int)) = true := by simp; omega
      have b0' : decide (s1.2 < m) = true := by simp; omega
      have hs2 : s2 = (p - x.val, m) := by
        rw [HSN.out]; unfold stepB; rw [HMM.out, if_pos hgt]
      have v1 : Hid ((s2.1 : Int) = (p : Int) - (x.val : Int)) := hid (by rw [hs2]; simp only; omega)
      have v2 : Hid ((s2.2 : Int) = (m : Int)) := hid (by rw [hs2])
      have HS2 := hid hs2; clear hs2 hgt
      gi_wp2
      refine wpIn_world (fun Z => Tch (fun q => q = gs ∨ q = w1.heap.size ∨ q = w1.heap.size + 1) V Z ∧ Blk Z gs 259 #[.slice sa b.length sc, .pointer (some ⟨g, 0, none⟩), .int .i64 t'] ∧ Blk Z w1.heap.size 3 #[.int .i64 (s2.1 : Int)] ∧ Blk Z (w1.heap.size + 1) 3 #[.int .i64 (s2.2 : Int)] ∧ Blk Z w.heap.size 249 #[.pointer (some ⟨gs, 0, none⟩)] ∧ Blk Z (w.heap.size + 1) 3 #[.int .i64 (p : Int)])
        ⟨(((HUt.out.mono (G := (fun q => q = gs ∨ q = w1.heap.size ∨ q = w1.heap.size + 1)) (fun q _ e => .inl e)).trans (Tch.of_later (F := (fun q => q = gs ∨ q = w1.heap.size ∨ q = w1.heap.size + 1)) HYb.out) fun _ _ h => h).setCell (fun _ => .inr (.inl rfl)) _).setCell (fun _ => .inr (.inr rfl)) _, (HYG.out.far (by dsimp only; omega) _).far (by dsimp only; omega) _, by rw [v1.out]; exact (HYO.out.set 0 _).far (by simp) _, by rw [v2.out]; exact (HYN.out.far (by simp) _).set 0 _, (HY0.out.far (by dsimp only; omega) _).far (by dsimp only; omega) _, (HY1.out.far (by dsimp only; omega) _).far (by dsimp only; omega) _⟩ ?_
      intro Z ⟨zt, zg, zo, zn, z0, z1⟩
      have D0 := fun s : Later Z => s.cell (show Z.cell? ⟨w.heap.size, 0, none⟩ = some (.pointer (some ⟨gs, 0, none⟩)) from z0.cell 0)
      have D1 := fun s : Later Z => s.cell (show Z.cell? ⟨w.heap.size + 1, 0, none⟩ = some (.int .i64 (p : Int)) from z1.cell 0)
      have D2 := fun s : Later Z => s.cell (show Z.cell? ⟨gs, 0, none⟩ = some (.slice sa b.length sc) from zg.cell 0)
      have D3 := fun s : Later Z => s.cell (show Z.cell? ⟨w1.heap.size + 1, 0, none⟩ = some (.int .i64 (s2.2 : Int)) from zn.cell 0)
      have HZT := hid zt; have HZG := hid zg; have HZO := hid zo; have HZN := hid zn
      clear zt zg zo zn z0 z1
      have i5 : (p : Int) + (s2.2 : Int) ≤ 2097152 := by omega
      by_cases heq : p + s2.2 = b.length
      · have b1 : ((p : Int) + (s2.2 : Int) == (b.length : Int)) = true := by simp; omega
        have HEQ := hid heq; clear heq
        refine wpIn_region_rlater (by kernel_rfl) (by kernel_rfl) (by kernel_rfl) ?_
        repeat (gi_big_quiet_step (fail))
        refine wpQuietIn_nil ?_
        rintro W6 ⟨⟨Z6, hZ6⟩, rfl⟩
        have ht6 := HZT.out.trans (Tch.of_later (F := fun q => q = gs ∨ q = w1.heap.size ∨ q = w1.heap.size + 1) hZ6) fun _ _ h => h
        have HT6 := hid ht6; clear ht6
        have HZ6 := hid hZ6; clear hZ6
        clear D0 D1 D2 D3
        gi_wp2
        exact ⟨keepsFrom_tch HT6.out fun q hq => by rcases hq with e | e | e <;> omega, rfl, by rw [HBL.out]; exact HEQ.out, ⟨t', HZG.out.later HZ6.out⟩, by rw [HBL.out]; exact HZO.out.later HZ6.out, by rw [HBL.out]; exact HZN.out.later HZ6.out, HTC.out.trans HT6.out fun _ _ h => h⟩
      · have b1 : ((p : Int) + (s2.2 : Int) == (b.length : Int)) = false := by simp; omega
        clear heq
        refine wpIn_region_rlater (by kernel_rfl) (by kernel_rfl) (by kernel_rfl) ?_
        repeat (gi_big_quiet_step (fail))
        refine wpQuietIn_nil ?_
        rintro W6 ⟨⟨Z6, hZ6⟩, rfl⟩
        have ht6 := HZT.out.trans (Tch.of_later (F := fun q => q = gs ∨ q = w1.heap.size ∨ q = w1.heap.size + 1) hZ6) fun _ _ h => h
        have HT6 := hid ht6; clear ht6
        have HZ6 := hid hZ6; clear hZ6
        clear D0 D1 D2 D3
        gi_wp2
        refine ⟨keepsFrom_tch HT6.out fun q hq => by rcases hq with e | e | e <;> omega, ?_, ⟨t', HZG.out.later HZ6.out⟩, by rw [HBL.out]; exact HZO.out.later HZ6.out, by rw [HBL.out]; exact HZN.out.later HZ6.out, HTC.out.trans HT6.out fun _ _ h => h⟩
        intro q hq
        have hg5 := HS5.out.ch
        have n1 := HSK.out.ne1
        have n2 := HSK.out.ne2
        have hzw := HZW.out
        have hz5 := HZ5.out
        rcases hq with e | e | e | e | e
        · exact HT6.out.block q (by omega) (nF q (by omega) (by omega) (by omega) (by omega))
        · exact HT6.out.block q (by omega) (nF q (by omega) (by omega) (by omega) (by omega))
        · have h6 := (HSK.out.ch.prev.lt _ e).2
          exact HT6.out.block q (by omega) (nF q (by omega) (fun e' => HSK.out.ne3 (e' ▸ e)) (by omega) (by omega))
        · exact HT6.out.block q (by omega) (nF q (by omega) (by omega) (by omega) (by omega))
        · exact HT6.out.block q (by omega) (nF q (by omega) (by omega) (by omega) (by omega))
    · have b0 : decide ((s1.2 : Int) < (m : Int)) = false := by simp; omega
      have b0' : decide (s1.2 < m) = false := by simp; omega
      have hs2 : s2 = s1 := by
        rw [HSN.out]; unfold stepB; rw [HMM.out, if_neg hgt]
      have HS2 := hid hs2; clear hs2 hgt
      gi_wp2
      refine wpIn_world (fun Z => Tch (fun q => q = gs ∨ q = w1.heap.size ∨ q = w1.heap.size + 1) V Z ∧ Blk Z gs 259 #[.slice sa b.length sc, .pointer (some ⟨g, 0, none⟩), .int .i64 t'] ∧ Blk Z w1.heap.size 3 #[.int .i64 (s2.1 : Int)] ∧ Blk Z (w1.heap.size + 1) 3 #[.int .i64 (s2.2 : Int)] ∧ Blk Z w.heap.size 249 #[.pointer (some ⟨gs, 0, none⟩)] ∧ Blk Z (w.heap.size + 1) 3 #[.int .i64 (p : Int)])
        ⟨((HUt.out.mono (G := (fun q => q = gs ∨ q = w1.heap.size ∨ q = w1.heap.size + 1)) (fun q _ e => .inl e)).trans (Tch.of_later (F := (fun q => q = gs ∨ q = w1.heap.size ∨ q = w1.heap.size + 1)) HYb.out) fun _ _ h => h), HYG.out, by rw [HS2.out]; exact HYO.out, by rw [HS2.out]; exact HYN.out, HY0.out, HY1.out⟩ ?_
      intro Z ⟨zt, zg, zo, zn, z0, z1⟩
      have D0 := fun s : Later Z => s.cell (show Z.cell? ⟨w.heap.size, 0, none⟩ = some (.pointer (some ⟨gs, 0, none⟩)) from z0.cell 0)
      have D1 := fun s : Later Z => s.cell (show Z.cell? ⟨w.heap.size + 1, 0, none⟩ = some (.int .i64 (p : Int)) from z1.cell 0)
      have D2 := fun s : Later Z => s.cell (show Z.cell? ⟨gs, 0, none⟩ = some (.slice sa b.length sc) from zg.cell 0)
      have D3 := fun s : Later Z => s.cell (show Z.cell? ⟨w1.heap.size + 1, 0, none⟩ = some (.int .i64 (s2.2 : Int)) from zn.cell 0)
      have HZT := hid zt; have HZG := hid zg; have HZO := hid zo; have HZN := hid zn
      clear zt zg zo zn z0 z1
      have i5 : (p : Int) + (s2.2 : Int) ≤ 2097152 := by omega
      by_cases heq : p + s2.2 = b.length
      · have b1 : ((p : Int) + (s2.2 : Int) == (b.length : Int)) = true := by simp; omega
        have HEQ := hid heq; clear heq
        refine wpIn_region_rlater (by kernel_rfl) (by kernel_rfl) (by kernel_rfl) ?_
        repeat (gi_big_quiet_step (fail))
        refine wpQuietIn_nil ?_
        rintro W6 ⟨⟨Z6, hZ6⟩, rfl⟩
        have ht6 := HZT.out.trans (Tch.of_later (F := fun q => q = gs ∨ q = w1.heap.size ∨ q = w1.heap.size + 1) hZ6) fun _ _ h => h
        have HT6 := hid ht6; clear ht6
        have HZ6 := hid hZ6; clear hZ6
        clear D0 D1 D2 D3
        gi_wp2
        exact ⟨keepsFrom_tch HT6.out fun q hq => by rcases hq with e | e | e <;> omega, rfl, by rw [HBL.out]; exact HEQ.out, ⟨t', HZG.out.later HZ6.out⟩, by rw [HBL.out]; exact HZO.out.later HZ6.out, by rw [HBL.out]; exact HZN.out.later HZ6.out, HTC.out.trans HT6.out fun _ _ h => h⟩
      · have b1 : ((p : Int) + (s2.2 : Int) == (b.length : Int)) = false := by simp; omega
        clear heq
        refine wpIn_region_rlater (by kernel_rfl) (by kernel_rfl) (by kernel_rfl) ?_
        repeat (gi_big_quiet_step (fail))
        refine wpQuietIn_nil ?_
        rintro W6 ⟨⟨Z6, hZ6⟩, rfl⟩
        have ht6 := HZT.out.trans (Tch.of_later (F := fun q => q = gs ∨ q = w1.heap.size ∨ q = w1.heap.size + 1) hZ6) fun _ _ h => h
        have HT6 := hid ht6; clear ht6
        have HZ6 := hid hZ6; clear hZ6
        clear D0 D1 D2 D3
        gi_wp2
        refine ⟨keepsFrom_tch HT6.out fun q hq => by rcases hq with e | e | e <;> omega, ?_, ⟨t', HZG.out.later HZ6.out⟩, by rw [HBL.out]; exact HZO.out.later HZ6.out, by rw [HBL.out]; exact HZN.out.later HZ6.out, HTC.out.trans HT6.out fun _ _ h => h⟩
        intro q hq
        have hg5 := HS5.out.ch
        have n1 := HSK.out.ne1
        have n2 := HSK.out.ne2
        have hzw := HZW.out
        have hz5 := HZ5.out
        rcases hq with e | e | e | e | e
        · exact HT6.out.block q (by omega) (nF q (by omega) (by omega) (by omega) (by omega))
        · exact HT6.out.block q (by omega) (nF q (by omega) (by omega) (by omega) (by omega))
        · have h6 := (HSK.out.ch.prev.lt _ e).2
          exact HT6.out.block q (by omega) (nF q (by omega) (fun e' => HSK.out.ne3 (e' ▸ e)) (by omega) (by omega))
        · exact HT6.out.block q (by omega) (nF q (by omega) (by omega) (by omega) (by omega))
        · exact HT6.out.block q (by omega) (nF q (by omega) (by omega) (by omega) (by omega))
  case done =>
    rintro D ys V hD hys ⟨hg', h2, h3, h4⟩ hK
    subst hys
    have hbd := best_done b p
    have hbb := bestL_bound b p (placesOf b p)
    generalize hs1 : bestL b p (placesOf b p) = s1 at *
    have k1 : V.cell? ⟨w1.heap.size, 0, none⟩ = some (.int .i64 (s1.1 : Int)) := h2.cell 0
    have k2 : V.cell? ⟨w1.heap.size + 1, 0, none⟩ = some (.int .i64 (s1.2 : Int)) := h3.cell 0
    have HBD := hid hbd; have HG' := hid hg'; have HT4 := hid h4; have HKK := hid hK
    clear hbd hs1 hg' h2 h3 h4 hK
    go_wp2_with fail
    refine (seek_taken _ _ _).mono ?_
    rintro r w9 ⟨rfl, rfl⟩
    have hif : ∃ v1 v2 : Nat, bestR b p = (v1, v2) ∧ (if (s1.2 : Int) < 4 then (0 : Int) else (s1.1 : Int)) = (v1 : Int) ∧ (if (s1.2 : Int) < 4 then (0 : Int) else (s1.2 : Int)) = (v2 : Int) := by
      by_cases h4 : s1.2 < 4
      · exact ⟨0, 0, by rw [← HBD.out]; unfold takenR; rw [if_pos h4, if_pos h4], by rw [if_pos (by omega)]; rfl, by rw [if_pos (by omega)]; rfl⟩
      · exact ⟨s1.1, s1.2, by rw [← HBD.out]; unfold takenR; rw [if_neg h4, if_neg h4], by rw [if_neg (by omega)], by rw [if_neg (by omega)]⟩
    obtain ⟨v1, v2, hv, hv1, hv2⟩ := hif
    rw [hv1, hv2]
    have HV := hid hv; clear hv hv1 hv2
    go_wp2
    refine ⟨by simp, .inl ⟨_, _, rfl, run_takeDeferred HKK.out, ?_⟩⟩
    have hTf : Tch (fun q => q = gs) w1 (V.putObj D (.deferred none)) := by
      have hg8 := grownBy_putObj' V D (.deferred none)
      have e5 := HB5.out
      have ez := HZW.out
      have ez5 := HZ5.out
      have hsz4 := HT4.out.size
      refine ⟨hg8.os.trans (HT4.out.os.trans (e5.os.trans hbW.os)), hg8.tape.trans (HT4.out.tape.trans (e5.tape.trans hbW.tape)), hg8.output.trans (HT4.out.output.trans (e5.output.trans hbW.output)), by have := hg8.size; omega, fun q hq hne => ?_⟩
      exact (hg8.block q (by omega) (fun e => by have := Option.some.inj e; omega)).trans ((HT4.out.block q (by omega) (fun e => by rcases e with e | e | e <;> omega)).trans ((e5.block q (by omega)).trans (hbW.block q hq)))
    have hsf : SkAt (V.putObj D (.deferred none)) gs g mb base lo hi b p sa sc ab cb a1 c1' := HSK.out.turned hTf (by
      obtain ⟨t, ht⟩ := HG'.out
      exact ⟨t, (World.putObj_heap_other (by have := HZ5.out; omega)).trans ht⟩)
    have hstep : SkStep w gs g mb base lo hi b n p sa sc ab cb ap cp (V.putObj D (.deferred none)) := ⟨a1, c1', hsf, HTW.out.trans hTf (fun q _ e => .inl e), HOW.out⟩
    have HST := hid hstep; clear hstep hsf hTf
    refine ⟨.tuple #[.int .i64 ((bestR b p).1 : Int), .int .i64 ((bestR b p).2 : Int)], ?_, rfl, HST.out⟩
    rw [HV.out]
    simp [results, Tryz.f266, go_sem]
  case stop =>
    rintro D c pre V hD hpre ⟨hc, hl, hg', h2, h3, h4⟩ hK
    subst hc
    have hbd := best_stop hpre hp hl
    have hbb := bestL_bound b p pre
    generalize hs1 : bestL b p pre = s1 at *
    have k1 : V.cell? ⟨w1.heap.size, 0, none⟩ = some (.int .i64 (s1.1 : Int)) := h2.cell 0
    have k2 : V.cell? ⟨w1.heap.size + 1, 0, none⟩ = some (.int .i64 (s1.2 : Int)) := h3.cell 0
    have HBD := hid hbd; have HG' := hid hg'; have HT4 := hid h4; have HKK := hid hK
    clear hbd hs1 hg' h2 h3 h4 hK hl
    refine wpIn_wide.2 ?_
    go_wp2_with fail
    refine (seek_taken _ _ _).mono ?_
    rintro r w9 ⟨rfl, rfl⟩
    have hif : ∃ v1 v2 : Nat, bestR b p = (v1, v2) ∧ (if (s1.2 : Int) < 4 then (0 : Int) else (s1.1 : Int)) = (v1 : Int) ∧ (if (s1.2 : Int) < 4 then (0 : Int) else (s1.2 : Int)) = (v2 : Int) := by
      by_cases h4 : s1.2 < 4
      · exact ⟨0, 0, by rw [← HBD.out]; unfold takenR; rw [if_pos h4, if_pos h4], by rw [if_pos (by omega)]; rfl, by rw [if_pos (by omega)]; rfl⟩
      · exact ⟨s1.1, s1.2, by rw [← HBD.out]; unfold takenR; rw [if_neg h4, if_neg h4], by rw [if_neg (by omega)], by rw [if_neg (by omega)]⟩
    obtain ⟨v1, v2, hv, hv1, hv2⟩ := hif
    rw [hv1, hv2]
    have HV := hid hv; clear hv hv1 hv2
    go_wp2
    refine ⟨by simp, .inl ⟨_, _, rfl, run_takeDeferred HKK.out, ?_⟩⟩
    have hTf : Tch (fun q => q = gs) w1 (V.putObj D (.deferred none)) := by
      have hg8 := grownBy_putObj' V D (.deferred none)
      have e5 := HB5.out
      have ez := HZW.out
      have ez5 := HZ5.out
      have hsz4 := HT4.out.size
      refine ⟨hg8.os.trans (HT4.out.os.trans (e5.os.trans hbW.os)), hg8.tape.trans (HT4.out.tape.trans (e5.tape.trans hbW.tape)), hg8.output.trans (HT4.out.output.trans (e5.output.trans hbW.output)), by have := hg8.size; omega, fun q hq hne => ?_⟩
      exact (hg8.block q (by omega) (fun e => by have := Option.some.inj e; omega)).trans ((HT4.out.block q (by omega) (fun e => by rcases e with e | e | e <;> omega)).trans ((e5.block q (by omega)).trans (hbW.block q hq)))
    have hsf : SkAt (V.putObj D (.deferred none)) gs g mb base lo hi b p sa sc ab cb a1 c1' := HSK.out.turned hTf (by
      obtain ⟨t, ht⟩ := HG'.out
      exact ⟨t, (World.putObj_heap_other (by have := HZ5.out; omega)).trans ht⟩)
    have hstep : SkStep w gs g mb base lo hi b n p sa sc ab cb ap cp (V.putObj D (.deferred none)) := ⟨a1, c1', hsf, HTW.out.trans hTf (fun q _ e => .inl e), HOW.out⟩
    have HST := hid hstep; clear hstep hsf hTf
    refine ⟨.tuple #[.int .i64 ((bestR b p).1 : Int), .int .i64 ((bestR b p).2 : Int)], ?_, rfl, HST.out⟩
    rw [HV.out]
    simp [results, Tryz.f266, go_sem]
end Go.Proofs.YtlbffbkbkajciaaGreat
namespace Go.Proofs.YtlbffbkbkajciaaGreat
open Go.RowKit Go.Bs Go.Maps
set_option linter.unusedVariables false
set_option linter.unusedSimpArgs false
def ChNew (w : World) (b : List UInt8) (r : Ending) (w' : World) : Prop := ∃ g mb ab cb, r = .returned (.pointer (some ⟨g, 0, none⟩)) ∧ ChAt w' g mb w.heap.size b 0 ab cb none 0 ∧ Below w.heap.size w w' ∧ w.heap.size ≤ g ∧ w.heap.size ≤ mb ∧ rBytes.r (fun q => w.heap.size ≤ q ∧ q < w'.heap.size ∧ q ≠ g ∧ q ≠ mb) w' [.slice ab b.length cb] b

set_option maxRecDepth 100000 in
set_option maxHeartbeats 1600000 in
theorem chain_new (w : World) (b : List UInt8) (a : Option Addr) (n c : Nat) (hl : rBytes.r (· < w.heap.size) w [.slice a n c] b) (hlen : b.length ≤ 1048576) :
    Calls Tryz.prog 272 #[.slice a n c] w (ChNew w b) := by
  obtain ⟨rfl, hm, _, _⟩ := sl_len hl
  obtain ⟨i0, hi, hz0, hz1, hz2⟩ := info_parts info8
  have HS := hid (fun (W : World) (hW : Below w.heap.size w W) => src_bytes (lift hl hW))
  have HONE := hid (byteCells_one b)
  clear hl
  have hmm := @run_makeMap Tryz.prog
  go_enter Tryz.func272, Tryz.ntmps272
  go_wp2_with (at_builtin; go_loud (refine wpList_append_src rfl _ _ _ rfl w.heap.size 5 i0 (.int .u8 0) 1 1 Tryz.underlying25 hi hz0 hz1 hz2 rfl (by decide) _ 0 [] rfl (own_empty _ (Nat.le_refl _) rfl) a b.length c (byteCells b) rfl (HS.out _ (by (repeat (first | exact Below.refl _ _ | assumption | (refine below_alloc ?_ _) | (refine Below.setCell ?_ (by first | omega | (simp; done) | (simp; omega)) _) | (refine Below.drew ?_) | (refine below_drewN ?_ _) | (refine below_then (by assumption) ?_))))) HONE.out (by simp only [maxLen]; omega) (by omega) (by simp) ?_; intro v' w1 hown1 hgrow1 hat1; rw [Nat.zero_add, List.nil_append] at hown1; obtain ⟨a', c', rfl⟩ := own_form hown1; have hz1' : w.heap.size + 1 ≤ w1.heap.size := (by have := hgrow1.size; simpa using this); have HG := hid hgrow1; have HO := hid hown1; have HAT := hid hat1; clear hgrow1 hown1 hat1))
  have hA := own_bytes2 rfl HO.out
  have hfin : ChNew w b (.returned (.pointer (some ⟨w1.heap.size + 1, 0, none⟩))) ((w1.alloc (.map #[] 0)).alloc (.cells #[.slice a' b.length c', .map (some w1.heap.size), .slice none 0 0] 268)) := by
    have hsz : ((w1.alloc (.map #[] 0)).alloc (.cells #[.slice a' b.length c', .map (some w1.heap.size), .slice none 0 0] 268)).heap.size = w1.heap.size + 2 := by simp
    have keep : ∀ q, q < w1.heap.size → ((w1.alloc (.map #[] 0)).alloc (.cells #[.slice a' b.length c', .map (some w1.heap.size), .slice none 0 0] 268)).heap[q]? = w1.heap[q]? := fun q hq => (Below.heap_alloc _ _ q (by simp; omega)).trans (Below.heap_alloc _ _ q hq)
    refine ⟨w1.heap.size + 1, w1.heap.size, a', c', rfl, ⟨Blk.newAt _ _ _ (by simp), ?_, ⟨.map [], (World.ownsMap_made w1 _ _ _).alloc _, fun k _ => rfl⟩, ⟨by simp [prevs], .inl ⟨rfl, rfl⟩⟩, by omega, by simp [Value.ownBlock], by simp [Value.ownBlock], by omega, Nat.zero_le _, hlen⟩, ?_, by omega, by omega, ?_⟩
    · exact rBytes.mono (rBytes.keep hA fun q hq => keep q hq.2) fun q hq => ⟨by rw [hsz]; omega, by omega, by omega, by simp [Value.ownBlock]⟩
    · have hb1 : Below w.heap.size w w1 := Below.grown (by (repeat (first | exact Below.refl _ _ | assumption | (refine below_alloc ?_ _) | (refine Below.setCell ?_ (by first | omega | (simp; done) | (simp; omega)) _) | (refine Below.drew ?_) | (refine below_drewN ?_ _) | (refine below_then (by assumption) ?_)))) HG.out (by simp) (fun g e => by
        have e' : some w.heap.size = some g := e
        injection e' with e'
        omega)
      (repeat (first | exact Below.refl _ _ | assumption | (refine below_alloc ?_ _) | (refine Below.setCell ?_ (by first | omega | (simp; done) | (simp; omega)) _) | (refine Below.drew ?_) | (refine below_drewN ?_ _) | (refine below_then (by assumption) ?_)))
    · exact rBytes.mono (rBytes.keep hA fun q hq => keep q hq.2) fun q hq => ⟨hq.1, by rw [hsz]; omega, by omega, by omega⟩
  have HF := hid hfin; clear hfin hA
  go_ret
  exact HF.out

def SkNew (w : World) (b : List UInt8) (r : Ending) (w' : World) : Prop := ∃ gs g mb base sa sc ab cb, r = .returned (.pointer (some ⟨gs, 0, none⟩)) ∧ SkAt w' gs g mb base w.heap.size w'.heap.size b 0 sa sc ab cb none 0 ∧ Below w.heap.size w w' ∧ w.heap.size ≤ gs ∧ w.heap.size ≤ g ∧ w.heap.size ≤ mb ∧ w.heap.size ≤ base

set_option maxRecDepth 100000 in
set_option maxHeartbeats 1600000 in
theorem seek_new (w : World) (b : List UInt8) (a : Option Addr) (n c : Nat) (hl : rBytes.r (· < w.heap.size) w [.slice a n c] b) (hlen : b.length ≤ 1048576) :
    Calls Tryz.prog 265 #[.slice a n c] w (SkNew w b) := by
  obtain ⟨rfl, hm, _, _⟩ := sl_len hl
  obtain ⟨i0, hi, hz0, hz1, hz2⟩ := info_parts info8
  have HS := hid (fun (W : World) (hW : Below w.heap.size w W) => src_bytes (lift hl hW))
  have HONE := hid (byteCells_one b)
  have HL := hid hl
  clear hl
  go_enter Tryz.func265, Tryz.ntmps265
  go_wp2_with (at_builtin; go_loud (refine wpList_append_src rfl _ _ _ rfl w.heap.size 5 i0 (.int .u8 0) 1 1 Tryz.underlying25 hi hz0 hz1 hz2 rfl (by decide) _ 0 [] rfl (own_empty _ (Nat.le_refl _) rfl) a b.length c (byteCells b) rfl (HS.out _ (by (repeat (first | exact Below.refl _ _ | assumption | (refine below_alloc ?_ _) | (refine Below.setCell ?_ (by first | omega | (simp; done) | (simp; omega)) _) | (refine Below.drew ?_) | (refine below_drewN ?_ _) | (refine below_then (by assumption) ?_))))) HONE.out (by simp only [maxLen]; omega) (by omega) (by simp) ?_; intro v' w1 hown1 hgrow1 hat1; rw [Nat.zero_add, List.nil_append] at hown1; obtain ⟨a', c', rfl⟩ := own_form hown1; have hz1' : w.heap.size + 1 ≤ w1.heap.size := (by have := hgrow1.size; simpa using this); have HG := hid hgrow1; have HO := hid hown1; have HAT := hid hat1; clear hgrow1 hown1 hat1))
  have hb1 : Below w.heap.size w w1 := Below.grown (by (repeat (first | exact Below.refl _ _ | assumption | (refine below_alloc ?_ _) | (refine Below.setCell ?_ (by first | omega | (simp; done) | (simp; omega)) _) | (refine Below.drew ?_) | (refine below_drewN ?_ _) | (refine below_then (by assumption) ?_)))) HG.out (by simp) (fun g e => by
    have e' : some w.heap.size = some g := e
    injection e' with e'
    omega)
  refine (chain_new w1 b _ _ _ (lift HL.out hb1) hlen).mono ?_
  rintro r w2 ⟨g, mb, ab, cb, rfl, hch, hb2, hg, hmb, hbb⟩
  have hA := own_bytes2 rfl HO.out
  have hs2 := hb2.size
  have hgl := hch.blk.lt
  have hml : mb < w2.heap.size := by obtain ⟨D, hD, _⟩ := hch.map; exact hD.lt
  have hsz : (w2.alloc (.cells #[.slice a' b.length c', .pointer (some ⟨g, 0, none⟩), .int .i64 0] 259)).heap.size = w2.heap.size + 1 := by simp
  have keep : ∀ q, q < w2.heap.size → (w2.alloc (.cells #[.slice a' b.length c', .pointer (some ⟨g, 0, none⟩), .int .i64 0] 259)).heap[q]? = w2.heap[q]? := fun q hq => Below.heap_alloc _ _ q hq
  have hfin : SkNew w b (.returned (.pointer (some ⟨w2.heap.size, 0, none⟩))) (w2.alloc (.cells #[.slice a' b.length c', .pointer (some ⟨g, 0, none⟩), .int .i64 0] 259)) := by
    refine ⟨w2.heap.size, g, mb, w1.heap.size, a', c', ab, cb, rfl, ⟨⟨0, Blk.newAt _ _ _ (by simp)⟩, ?_, hch.later (by (repeat (first | exact Below.refl _ _ | assumption | (refine below_alloc ?_ _) | (refine Below.setCell ?_ (by first | omega | (simp; done) | (simp; omega)) _) | (refine Below.drew ?_) | (refine below_drewN ?_ _) | (refine below_then (by assumption) ?_)))), ?_, by omega, by omega, by simp [Value.ownBlock], Nat.le_refl _⟩, ?_, by omega, by omega, by omega, by omega⟩
    · exact rBytes.mono (rBytes.keep hA fun q hq => (keep q (by omega)).trans (hb2.block q hq.2)) fun q hq => ⟨⟨by omega, by rw [hsz]; omega⟩, by omega, by omega, by omega, by simp [Value.ownBlock]⟩
    · exact rBytes.mono (rBytes.keep hbb fun q hq => keep q hq.2.1) fun q hq => ⟨⟨by omega, by rw [hsz]; omega⟩, by omega, hq.2.2.1, hq.2.2.2, by simp [Value.ownBlock]⟩
    · exact (hb1.trans (hb2.mono (by omega))).alloc (by omega) _
  have HF := hid hfin; clear hfin hA hch hbb
  go_wp2
  go_ret
  exact HF.out
end Go.Proofs.YtlbffbkbkajciaaGreat
namespace Go.Bs
open Go.RowKit
set_option linter.unusedVariables false

/-- Nothing, in the last operation's place. -/
def noopOf (o : Oper) : Oper := { o with op := .move (.const (.bool true)), guard := none }
def noopLast : List Oper → List Oper
  | [] => []
  | [o] => [noopOf o]
  | o :: p :: l => o :: noopLast (p :: l)
theorem noopLast_length : ∀ l, (noopLast l).length = l.length
  | [] => rfl
  | [_] => rfl
  | _ :: p :: l => by simp [noopLast, noopLast_length (p :: l)]
theorem noopLast_get : ∀ (l : List Oper) (i : Nat), (noopLast l)[i]? = if i + 1 = l.length then (l[i]?).map noopOf else l[i]?
  | [], i => by simp [noopLast]
  | [o], i => by
    cases i with
    | zero => simp [noopLast]
    | succ i => simp [noopLast]
  | o :: p :: l, i => by
    cases i with
    | zero => simp [noopLast]
    | succ i =>
      have := noopLast_get (p :: l) i
      simp only [noopLast, List.getElem?_cons_succ, List.length_cons] at *
      rw [this]
      by_cases h : i + 1 = l.length + 1
      · rw [if_pos h, if_pos (by omega)]
      · rw [if_neg h, if_neg (by omega)]

/-- The last operation waits for each other one, if through others, yields nothing, is not guarded; and all wait for what stands ahead of them alone. -/
def lastB (md : Region.Mode) (l : List Oper) : Bool :=
  (match l.getLast? with | none => false | some o => o.dst.isNone && o.guard.isNone) && (Region.sinkB md l.toArray (l.length - 1) && Region.chainB md l.toArray (l.length - 1)) &&
    (List.range l.length).all fun i => match l[i]? with | none => true | some o => o.after.all fun e => decide (e.on < i)

section
variable {P : Program} {md : Region.Mode}

theorem ready_noop (l : List Oper) (listed : Array Bool) : Region.ready md (noopLast l).toArray listed = Region.ready md l.toArray listed := by
  unfold Region.ready
  simp only [List.size_toArray, noopLast_length]
  refine List.filter_congr fun i _ => ?_
  simp only [List.getElem?_toArray, noopLast_get]
  by_cases h : i + 1 = l.length
  · rw [if_pos h]
    cases l[i]? <;> rfl
  · rw [if_neg h]

theorem yielded_noop (l : List Oper) (t : Array Value) : yielded (noopLast l).toArray t = yielded l.toArray t := by
  funext j
  unfold yielded
  simp only [List.getElem?_toArray, noopLast_get]
  by_cases h : j + 1 = l.length
  · rw [if_pos h]
    cases l[j]? <;> rfl
  · rw [if_neg h]

theorem wpOp_exits {ops : Array Oper} {Q Q' : Exit → Act → World → Prop} {i : Nat} {K : Act → World → Prop} {a : Act} {w : World} (hQ : ∀ e a w, e ≠ .normal → Q' e a w → Q e a w) (h : wpOp P ops Q' i K a w) : wpOp P ops Q i K a w := by
  unfold wpOp at *
  split
  · rename_i ho
    simp only [ho] at h
    exact h
  · rename_i o ho
    simp only [ho] at h
    split
    · rename_i hw
      simp only [hw, if_true] at h
      have hl : LetsOut Q' → LetsOut Q := fun ⟨a, w, h⟩ => ⟨a, w, hQ _ _ _ (by simp) h⟩
      rcases h with h | ⟨h1, h2⟩
      · left
        unfold Oper.wp at *
        generalize (execOp a.eval o).run P w = r at *
        cases r with
        | ok n w' =>
          cases n <;> simp only [Oper.upon] at h ⊢
          case value u => exact h
          case skip => exact h
          case defer d => exact h
          case enter f args =>
            refine Calls.mono h fun e w'' he => ?_
            cases e with
            | returned u => exact he
            | panicked c => exact hQ _ _ _ (by simp) he
            | outgrown => exact hl he
          case row row args => exact h
        | halt x w' =>
          cases x <;> simp only [Oper.upon] at h ⊢
          case panic u => exact hQ _ _ _ (by simp) h
      · exact .inr ⟨h1, hl h2⟩
    · rename_i hw
      simp only [hw] at h
      exact h

theorem wpOp_noop {l : List Oper} {Q : Exit → Act → World → Prop} {i : Nat} {K : Act → World → Prop} {a : Act} {w : World} (hi : i + 1 ≠ l.length) (h : wpOp P (noopLast l).toArray Q i K a w) : wpOp P l.toArray Q i K a w := by
  unfold wpOp at *
  rw [yielded_noop] at h
  simp only [List.getElem?_toArray, noopLast_get, if_neg hi] at h ⊢
  exact h

/-- What is asked behind the others: the last one, by itself. -/
def lastQ (P : Program) (l : List Oper) (o : Oper) (Q : Exit → Act → World → Prop) : Exit → Act → World → Prop
  | .normal, a, w => wpList P l.toArray Q [o] a w
  | e, a, w => Q e a w

theorem lastQ_other {l : List Oper} {o : Oper} {Q : Exit → Act → World → Prop} {e : Exit} {a : Act} {w : World} (he : e ≠ .normal) (h : lastQ P l o Q e a w) : Q e a w := by
  cases e <;> first | exact h | exact absurd rfl he

theorem ready_some {ops : Array Oper} {listed : Array Bool} (hd : ∀ (i : Nat) (o : Oper), ops[i]? = some o → ∀ e ∈ o.after, e.on < i) (hs : listed.size = ops.size) : ∀ (n j : Nat), j < n → j < ops.size → listed.getD j true = false → Region.ready md ops listed ≠ []
  | 0, j, h, _, _ => by omega
  | n + 1, j, h, hj, hl => by
    intro h0
    have hr : j ∉ Region.ready md ops listed := by rw [h0]; simp
    apply hr
    rw [mem_ready]
    have ho : ops[j]? = some ops[j] := Array.getElem?_eq_getElem hj
    refine ⟨hl, ops[j], ho, fun e he hb => ?_⟩
    have hlt := hd j _ ho e he
    cases hg : listed.getD e.on false with
    | true => rfl
    | false => exact absurd h0 (ready_some hd hs n e.on (by omega) (by omega) (getD_in (by omega) hg))

theorem wpAny_last {l : List Oper} {o : Oper} {Q : Exit → Act → World → Prop} (hlast : l[l.length - 1]? = some o) (hpos : 0 < l.length) (hdst : o.dst = none) (hgd : o.guard = none)
    (hs1 : Region.sinkB md l.toArray (l.length - 1) = true) (hc1 : Region.chainB md l.toArray (l.length - 1) = true) (hd : ∀ (i : Nat) (o : Oper), l.toArray[i]? = some o → ∀ e ∈ o.after, e.on < i) :
    ∀ (fuel : Nat) (listed : Array Bool) (a : Act) (w : World), HeadInv md l.toArray (l.length - 1) listed →
      wpAny P md (noopLast l).toArray (lastQ P l o Q) fuel listed a w → wpAny P md l.toArray Q fuel listed a w
  | 0, listed, a, w, inv, h => by
    have hs : listed.size = l.length := by simpa using inv.size
    have hl := inv.tail (l.length - 1) (Nat.le_refl _) (by simp; omega)
    exact absurd (by rw [← ready_noop]; exact h.1) (ready_some (md := md) hd (by simpa using hs) _ _ (Nat.lt_succ_self _) (by simp; omega) hl)
  | fuel + 1, listed, a, w, inv, h => by
    have hs : listed.size = l.length := by simpa using inv.size
    have hl := inv.tail (l.length - 1) (Nat.le_refl _) (by simp; omega)
    have hne := ready_some (md := md) hd (by simpa using hs) _ _ (Nat.lt_succ_self _) (by simp; omega) hl
    refine ⟨fun h0 => absurd h0 hne, fun i hi => ?_⟩
    have h2 := h.2 i (by rw [ready_noop]; exact hi)
    by_cases hin : i + 1 = l.length
    · -- the last one: all others have come up
      obtain rfl : i = l.length - 1 := by omega
      have hr := mem_ready.1 hi
      have hall : ∀ j, j < l.length → (listed.setIfInBounds (l.length - 1) true).getD j true = true := by
        intro j hj
        by_cases hjl : j = l.length - 1
        · subst hjl; simp [hs]
        · rw [getD_set_ne true (by omega)]
          cases hg : listed.getD j true with
          | true => rfl
          | false => exact absurd hi (tail_waits hs1 hc1 (by simp; omega) inv _ j rfl (by omega) hg _ (Nat.le_refl _))
      have hrd : Region.ready md l.toArray (listed.setIfInBounds (l.length - 1) true) = [] := by
        rw [List.eq_nil_iff_forall_not_mem]
        intro j hj
        obtain ⟨h1, o', ho', _⟩ := mem_ready.1 hj
        have hjl : j < l.length := by
          have := (Array.getElem?_eq_some_iff.1 ho').1
          simpa using this
        rw [hall j hjl] at h1
        cases h1
      have hQ : wpList P l.toArray Q [o] a w := by
        unfold wpOp at h2
        simp only [List.getElem?_toArray, noopLast_get, if_pos (show l.length - 1 + 1 = l.length by omega), hlast, Option.map_some] at h2
        have hwant : Region.wanted (noopOf o) (yielded (noopLast l).toArray a.tmps) = true := rfl
        rw [if_pos hwant] at h2
        rcases h2 with h2 | ⟨h2, _⟩
        · have h3 : wpAny P md (noopLast l).toArray (lastQ P l o Q) fuel (listed.setIfInBounds (l.length - 1) true) (a.put (noopOf o).dst (.bool true)) w := h2
          have h4 : (noopOf o).dst = none := hdst
          rw [h4] at h3
          cases fuel with
          | zero => exact h3.2
          | succ f => exact h3.1 (by rw [ready_noop]; exact hrd)
        · exfalso
          simp only [Oper.asks, noopOf, execOp] at h2
          have h5 := h2.1
          have h6 : noRoomEvent ∈ (#[] : Array Event) := h5
          simp at h6
      unfold wpOp
      simp only [List.getElem?_toArray, hlast]
      have hwant : Region.wanted o (yielded l.toArray a.tmps) = true := by simp [Region.wanted, hgd]
      rw [if_pos hwant]
      unfold wpList at hQ
      rw [if_pos hwant] at hQ
      refine hQ.imp (fun h => Oper.wp_mono (fun a' w' h' => ?_) h) id
      cases fuel with
      | zero => exact ⟨hrd, h'⟩
      | succ f => exact ⟨fun _ => h', by rw [hrd]; simp⟩
    · refine wpOp_exits (fun e a w he h => lastQ_other he h) (wpOp_noop hin (wpOp_mono (fun a' w' h' => ?_) h2))
      exact wpAny_last hlast hpos hdst hgd hs1 hc1 hd fuel _ a' w' (inv.set hi (by
        have := (mem_ready.1 hi).2
        obtain ⟨o', ho', _⟩ := this
        have := (Array.getElem?_eq_some_iff.1 ho').1
        simp at this
        omega)) h'

theorem wp_region_last {id : Nat} {Q : Exit → Act → World → Prop} {a : Act} {w : World} {l : List Oper} (o : Oper) (hm : P.follows .mixedOrders = true) (ho : l[l.length - 1]? = some o) (hB : lastB .any l = true)
    (h : wpAny P .any (noopLast l).toArray (lastQ P l o Q) (noopLast l).toArray.size (Array.replicate (noopLast l).toArray.size false) a { w with drawn := w.drawn + 1 }) : (Code.region id l.toArray true).wp P Q a w := by
  have hpos : 0 < l.length := by
    rcases Nat.eq_zero_or_pos l.length with h | h
    · rw [List.eq_nil_of_length_eq_zero h] at ho; simp at ho
    · exact h
  simp only [lastB, Bool.and_eq_true] at hB
  obtain ⟨⟨h1, h2, h2'⟩, h3⟩ := hB
  rw [List.getLast?_eq_getElem?, ho] at h1
  simp only [Bool.and_eq_true, Option.isNone_iff_eq_none] at h1
  have inv0 : HeadInv .any l.toArray (l.length - 1) (Array.replicate l.toArray.size false) :=
    ⟨by simp, fun j oj _ hl => (by rw [getD_replicate_false] at hl; cases hl), fun t _ ht => getD_in (by simpa using ht) (getD_replicate_false _ _)⟩
  refine wp_region_any hm (wpAny_last ho hpos h1.1 h1.2 h2 h2' ?_ _ _ a _ inv0 (by simpa [noopLast_length] using h))
  intro i o' ho' e he
  have hi : i < l.length := by
    have := (Array.getElem?_eq_some_iff.1 ho').1
    simpa using this
  have := List.all_eq_true.1 h3 i (List.mem_range.2 hi)
  simp only [List.getElem?_toArray] at ho'
  rw [ho'] at this
  have h4 := Array.all_eq_true'.1 this e he
  simpa using h4

/-- The others under a condition on the world, loads first (Derived/OrdersHeld.lean), then that one. -/
theorem wp_region_last_held {id : Nat} {Q : Exit → Act → World → Prop} {a : Act} {w : World} {l : List Oper} (S : World → Prop) (o : Oper) (hm : P.follows .mixedOrders = true) (ho : l[l.length - 1]? = some o) (hB : lastB .any l = true)
    (hS : S w.drew) (h : S w.drew → wpAnyH P .any (noopLast l).toArray (lastQ P l o Q) S l.length (Array.replicate l.length false) a w.drew) : (Code.region id l.toArray true).wp P Q a w :=
  wp_region_last o hm ho hB (wpAny_of_held _ _ _ _ (by simpa [noopLast_length] using h hS))
end
end Go.Bs
namespace Go.Proofs.YtlbffbkbkajciaaGreat
open Go.RowKit Go.Bs Go.Maps
set_option linter.unusedVariables false
set_option linter.unusedSimpArgs false

def rTok : Rp Tok := rBy (fun t => (t.lit, t.off, t.len)) (rPair rBytes (rPair (rInt .i64) (rInt .i64)))
def rToks : Rp (List Tok) := rSl 3 rTok
theorem i64_wf {n : Int} (h : -9223372036854775808 ≤ n ∧ n ≤ 9223372036854775807) : (Lit.int .i64 n).wf = true := by
  simp [Lit.wf, IntKind.min, IntKind.max, IntKind.signed, IntKind.bits]; omega
theorem tok_mk {S : Nat → Prop} {w : World} {x : Tok} {v : Value} (h : rBytes.r S w [v] x.lit) (h1 : -9223372036854775808 ≤ x.off ∧ x.off ≤ 9223372036854775807) (h2 : -9223372036854775808 ≤ x.len ∧ x.len ≤ 9223372036854775807) : rTok.r S w [v, .int .i64 x.off, .int .i64 x.len] x :=
  ⟨[_], [_, _], rfl, h, [_], [_], rfl, ⟨rfl, i64_wf h1⟩, rfl, i64_wf h2⟩
theorem infoTok : (Tryz.prog.info? 225).map (fun i => (i.zero, i.size, i.bytes)) = some (some (.agg #[.slice none 0 0, .int .i64 0, .int .i64 0]), 3, 40) := by kernel_rfl
theorem sl_drop {α : Type} {sz : Nat} {A : Rp α} {S : Nat → Prop} {w : World} {xs : List α} {b off : Nat} {n c k : Nat} (h : (rSl sz A).r S w [.slice (some ⟨b, off, none⟩) n c] xs) (hk : k ≤ xs.length) : (rSl sz A).r S w [.slice (some ⟨b, off + k * sz, none⟩) (n - k) (c - k)] (xs.drop k) := by
  obtain ⟨a', c', e, h1, h2, h3⟩ := h
  simp at e
  obtain ⟨rfl, rfl, rfl⟩ := e
  refine rSl_mk (a := some ⟨b, off + k * sz, none⟩) (c := c - k) (by simp) (by simp; omega) (by omega) ?_
  rcases h3 with rfl | ⟨b', off', e', hS, hr⟩
  · exact .inl (by simp)
  · simp at e'
    obtain ⟨rfl, rfl⟩ := e'
    refine .inr ⟨b, off + k * sz, rfl, hS, fun i x hi => ?_⟩
    rw [List.getElem?_drop] at hi
    obtain ⟨cs, h4, h5, h6⟩ := hr (k + i) x hi
    refine ⟨cs, h4, fun j v hj => ?_, h6⟩
    have := h5 j v hj
    rw [show off + k * sz + i * sz + j = off + (k + i) * sz + j by rw [Nat.add_mul]; omega]
    exact this
/-- What a run leaves. -/
def RunPost (w : World) (bo lo : Nat) (F : Nat → Prop) (v : Value) (L' : List Tok) (r : Ending) (w' : World) : Prop := r = .returned (.tuple #[]) ∧
  ∃ av' cv' cells', Blk w' bo 214 #[.slice av' L'.length cv'] ∧ OwnElsF (fun q => F q ∨ (w.heap.size ≤ q ∧ q < w'.heap.size)) rTok lo 225 3 w' (.slice av' L'.length cv') L' cells' ∧ Tch (fun q => q = bo ∨ v.ownBlock = some q) w w' ∧ ((Value.slice av' L'.length cv').ownBlock = v.ownBlock ∨ ∃ q, (Value.slice av' L'.length cv').ownBlock = some q ∧ w.heap.size ≤ q)

set_option maxRecDepth 100000 in
set_option maxHeartbeats 3200000 in
theorem press_run (w : World) {bf bo bb lo : Nat} {F : Nat → Prop} {b : List UInt8} {a : Option Addr} {c i to : Nat} {av : Option Addr} {cv : Nat} {L : List Tok} {cells : List (List Value)}
    (hf : Blk w bf 3 #[.int .i64 (i : Int)]) (ho : Blk w bo 214 #[.slice av L.length cv]) (hb : Blk w bb 25 #[.slice a b.length c]) (hl : rBytes.r (fun q => q < w.heap.size) w [.slice a b.length c] b)
    (hown : OwnElsF F rTok lo 225 3 w (.slice av L.length cv) L cells) (hF : ∀ q, F q → q < w.heap.size) (hFo : ¬ F bo) (hoo : (Value.slice av L.length cv).ownBlock ≠ some bo)
    (hne : bo ≠ bf ∧ bo ≠ bb ∧ (Value.slice av L.length cv).ownBlock ≠ some bf ∧ (Value.slice av L.length cv).ownBlock ≠ some bb) (hto : to ≤ b.length) (hlen : b.length ≤ 1048576) (hL : L.length ≤ 2097152) (hlo : lo ≤ w.heap.size) :
    Calls Tryz.prog 264 #[.int .i64 (to : Int), .pointer (some ⟨bf, 0, none⟩), .pointer (some ⟨bo, 0, none⟩), .pointer (some ⟨bb, 0, none⟩)] w (RunPost w bo lo F (.slice av L.length cv) (L ++ litT b i to)) := by
  have f0 : w.cell? ⟨bf, 0, none⟩ = some (.int .i64 (i : Int)) := hf.cell 0
  by_cases hit : i < to
  · have hlit : litT b i to = [⟨(b.drop i).take (to - i), 0, 0⟩] := by unfold litT; rw [if_pos hit]
    obtain ⟨ga, oa, hA, hga, _⟩ := byte_at hl (i := i) (by omega)
    subst hA
    obtain ⟨_, _, hlc, hcm⟩ := sl_len hl
    obtain ⟨i0, hi0, hz0, hz1, hz2⟩ := info_parts info8
    obtain ⟨j0, hj0, hy0, hy1, hy2⟩ := info_parts infoTok
    have o0 : w.cell? ⟨bo, 0, none⟩ = some (.slice av L.length cv) := ho.cell 0
    have b0 : w.cell? ⟨bb, 0, none⟩ = some (.slice (some ⟨ga, oa, none⟩) b.length c) := hb.cell 0
    have of := ho.free 0
    have lf := hf.lt; have lo' := ho.lt; have lb := hb.lt
    have hsub : Hid (rBytes.r (fun q => q < w.heap.size) w [.slice (some ⟨ga, oa + i, none⟩) (to - i) (c - i)] ((b.drop i).take (to - i))) := hid (by
      have h1 := sl_drop hl (k := i) (by omega)
      rw [Nat.mul_one] at h1
      exact sl_take h1 (by simp; omega))
    have hsl' : ((b.drop i).take (to - i)).length = to - i := by simp; omega
    generalize hD : (b.drop i).take (to - i) = D at *
    clear hD
    have HLIT := hid hlit; have HSL := hid hsl'
    have hds : Hid (to - i = D.length) := hid hsl'.symm
    have HS := hid (fun (W : World) (hW : Below w.heap.size w W) => src_bytes (l := D) (lift (w := w) (A := rBytes) (by have := hsub.out; rw [hds.out] at this; exact this) hW))
    have HONE := hid (byteCells_one D)
    have hsl : ∀ w' : World, (Instr.slice 25 (.slice (some ⟨ga, oa, none⟩) b.length c) (some (.int .i64 (i : Int))) (some (.int .i64 (to : Int))) none).run Tryz.prog w' = .ok (.slice (some ⟨ga, oa + i, none⟩) D.length (c - i)) w' := fun w' => by
      rw [← hds.out]
      have g1 : (0 : Int) ≤ (i : Int) := by omega
      have g2 : (i : Int) ≤ (to : Int) := by omega
      have g3 : (to : Int) ≤ (c : Int) := by omega
      have g4 : ¬ c = i := by omega
      go_simp
    have HF := hid hF; have HFO := hid hFo; have HOO := hid hoo; have HOWN := hid hown
    have HHO := hid ho
    have lenD : D.length ≤ 1048576 := by omega
    have g1 : (0 : Int) ≤ (i : Int) := by omega
    have g2 : (i : Int) ≤ (to : Int) := by omega
    have g3 : (to : Int) ≤ (c : Int) := by omega
    have g4 : (to : Int) ≤ (b.length : Int) := by omega
    have d1 : decide ((i : Int) < (to : Int)) = true := by simp; omega
    have d1' : decide (i < to) = true := by simp; omega
    obtain ⟨ne1, ne2, ne3, ne4⟩ := hne
    clear hF hFo hoo hown ho hb hl hf hlit hsl' hsub hds
    go_enter Tryz.func264, Tryz.ntmps264
    go_wp2_with fail
    refine wp_region_last_held (fun w' => w'.cell? ⟨bf, 0, none⟩ = some (.int .i64 (i : Int)) ∧ w'.cell? ⟨bo, 0, none⟩ = some (.slice av L.length cv) ∧ w'.cell? ⟨bb, 0, none⟩ = some (.slice (some ⟨ga, oa, none⟩) b.length c)) _ (by kernel_rfl) rfl (by kernel_rfl) ⟨f0, o0, b0⟩ (fun hHeld => ?_)
    simp only [noopLast, noopOf]
    refine wpAnyH_take (i := 0) (oi := _) (v := ?_) rfl (by decide +kernel) (by decide +kernel) (by decide +kernel) (fun _ _ _ h => h) (Or.inl ⟨by rfl, ?_⟩) (by assumption) ?_
    rotate_left
    · (intro w hSw; (try dsimp only at hSw); go_simp <;> with_reducible rfl)
    (try simp only [Act.put, List.setIfInBounds_toArray, List.set_cons_zero, List.set_cons_succ])
    refine wpAnyH_take (i := 2) (oi := _) (v := ?_) rfl (by decide +kernel) (by decide +kernel) (by decide +kernel) (fun _ _ _ h => h) (Or.inl ⟨by rfl, ?_⟩) (by assumption) ?_
    rotate_left
    · (intro w hSw; (try dsimp only at hSw); go_simp <;> with_reducible rfl)
    (try simp only [Act.put, List.setIfInBounds_toArray, List.set_cons_zero, List.set_cons_succ])
    refine wpAnyH_take (i := 3) (oi := _) (v := ?_) rfl (by decide +kernel) (by decide +kernel) (by decide +kernel) (fun _ _ _ h => h) (Or.inl ⟨by rfl, ?_⟩) (by assumption) ?_
    rotate_left
    · (intro w hSw; (try dsimp only at hSw); go_simp <;> with_reducible rfl)
    (try simp only [Act.put, List.setIfInBounds_toArray, List.set_cons_zero, List.set_cons_succ])
    refine wpAnyH_take (i := 4) (oi := _) (v := ?_) rfl (by decide +kernel) (by decide +kernel) (by decide +kernel) (fun _ _ _ h => h) (Or.inl ⟨by rfl, ?_⟩) (by assumption) ?_
    rotate_left
    · (intro w hSw; (try dsimp only at hSw); go_simp <;> with_reducible rfl)
    (try simp only [Act.put, List.setIfInBounds_toArray, List.set_cons_zero, List.set_cons_succ])
    refine wpAnyH_take (i := 5) (oi := _) (v := ?_) rfl (by decide +kernel) (by decide +kernel) (by decide +kernel) (fun _ _ _ h => h) (Or.inl ⟨by rfl, ?_⟩) (by assumption) ?_
    rotate_left
    · (intro w hSw; (try dsimp only at hSw); go_simp <;> with_reducible rfl)
    (try simp only [Act.put, List.setIfInBounds_toArray, List.set_cons_zero, List.set_cons_succ])
    refine wpAnyH_ready (rs := [1]) (by decide +kernel) (by simp) ?_
    refine AllReadyH.cons (o := _) rfl (fun K hK => ?_) AllReadyH.nil
    go_simp
    refine hK.out _ _ ?_ (fun hHeld => ?_)
    · ((try dsimp only); refine ⟨?_, ?_, ?_⟩ <;> (first | assumption | (go_keep; done)))
    clear hK K
    (try simp only [Act.put, List.setIfInBounds_toArray, List.set_cons_zero, List.set_cons_succ])
    refine wpAnyH_ready (rs := [6]) (by decide +kernel) (by simp) ?_
    refine AllReadyH.cons (o := _) rfl (fun K hK => ?_) AllReadyH.nil
    (refine step_append_src (by rfl) _ _ _ (by rfl) w.heap.size 5 i0 (.int .u8 0) 1 1 Tryz.underlying25 hi0 hz0 hz1 hz2 rfl (by decide) _ 0 [] (by rfl) (own_empty _ (by simp) (by rfl)) (some ⟨ga, oa + i, none⟩) D.length (c - i) (byteCells D) (by rfl) (HS.out _ (by (repeat (first | exact Below.refl _ _ | assumption | (refine below_alloc ?_ _) | (refine Below.setCell ?_ (by first | omega | (simp; done) | (simp; omega)) _) | (refine Below.drew ?_) | (refine below_drewN ?_ _) | (refine below_then (by assumption) ?_))))) HONE.out (by simp only [maxLen]; omega) (by omega) (by simp) ?_; intro a5 c5 w5 hown5 hgrow5 hat5; rw [Nat.zero_add] at hown5; have k5 : Below w.heap.size w w5 := Below.grown (by (repeat (first | exact Below.refl _ _ | assumption | (refine below_alloc ?_ _) | (refine Below.setCell ?_ (by first | omega | (simp; done) | (simp; omega)) _) | (refine Below.drew ?_) | (refine below_drewN ?_ _) | (refine below_then (by assumption) ?_)))) hgrow5 (by simp) (fun g e => by { have e' : some w.heap.size = some g := e; injection e' with e'; omega }); have e0 := (k5.cell (p := ⟨bf, 0, none⟩) lf).trans f0; have e1 := (k5.cell (p := ⟨bo, 0, none⟩) lo').trans o0; have e2 := (k5.cell (p := ⟨bb, 0, none⟩) lb).trans b0; have HK5 := hid k5; have HG5 := hid hgrow5; have HO5 := hid hown5; have HA5 := hid hat5; have hs5 : w.heap.size + 1 ≤ w5.heap.size := (by have := hgrow5.size; simpa using this); clear hown5 hgrow5 hat5 k5)
    refine hK.out _ _ ?_ (fun hHeld => ?_)
    · ((try dsimp only); refine ⟨?_, ?_, ?_⟩ <;> (first | assumption | (go_keep; done)))
    clear hK K
    (try simp only [Act.put, List.setIfInBounds_toArray, List.set_cons_zero, List.set_cons_succ])
    refine wpAnyH_take (i := 7) (oi := _) (v := ?_) rfl (by decide +kernel) (by decide +kernel) (by decide +kernel) (fun _ _ _ h => h) (Or.inl ⟨by rfl, ?_⟩) (by assumption) ?_
    rotate_left
    · (intro w hSw; (try dsimp only at hSw); go_simp <;> with_reducible rfl)
    (try simp only [Act.put, List.setIfInBounds_toArray, List.set_cons_zero, List.set_cons_succ])
    refine wpAnyH_ready (rs := [8]) (by decide +kernel) (by simp) ?_
    refine AllReadyH.cons (o := _) rfl (fun K hK => ?_) AllReadyH.nil
    go_simp
    refine hK.out _ _ ?_ (fun hHeld => ?_)
    · ((try dsimp only); refine ⟨?_, ?_, ?_⟩ <;> (first | assumption | (go_keep; done)))
    clear hK K
    (try simp only [Act.put, List.setIfInBounds_toArray, List.set_cons_zero, List.set_cons_succ])
    refine wpAnyH_ready (rs := [9]) (by decide +kernel) (by simp) ?_
    refine AllReadyH.cons (o := _) rfl (fun K hK => ?_) AllReadyH.nil
    (refine step_append_src (by rfl) _ _ _ (by rfl) lo 225 j0 (.agg #[.slice none 0 0, .int .i64 0, .int .i64 0]) 3 40 Tryz.underlying214 hj0 hy0 hy1 hy2 rfl (by decide) (.slice av L.length cv) L.length cells.flatten (by rfl) (own_below (own_below HOWN.out.1 HK5.out) (by (repeat (first | exact Below.refl _ _ | assumption | (refine below_alloc ?_ _) | (refine Below.setCell ?_ (by first | omega | (simp; done) | (simp; omega)) _) | (refine Below.drew ?_) | (refine below_drewN ?_ _) | (refine below_then (by assumption) ?_))))) (some ⟨w5.heap.size, 0, none⟩) 1 1 [.slice a5 D.length c5, .int .i64 0, .int .i64 0] (by rfl) (src_new1 w5 225 _ (by rfl) (by rfl) rfl) (by intro u hu; simp at hu; rcases hu with rfl | rfl | rfl <;> rfl) (by simp only [maxLen]; omega) (by omega) (by simp; omega) ?_; intro a8 c8 w8 hown8 hgrow8 hat8; have G := fun b' (hb : b' < w.heap.size) (hne : (Value.slice av L.length cv).ownBlock ≠ some b') => (hgrow8.block b' (by simp; omega) (fun e => hne e.symm)).trans ((Below.heap_alloc w5 _ b' (by omega)).trans (HK5.out.block b' hb)); have m1 := (World.cell?_of_block (a := ⟨bo, 0, none⟩) (G bo lo' HOO.out)).trans o0; have m2 := (World.frozen?_of_block (a := ⟨bo, 0, none⟩) (G bo lo' HOO.out)).trans of; have m4 := (World.cell?_of_block (a := ⟨bf, 0, none⟩) (G bf lf ne3)).trans f0; have m5 := (World.cell?_of_block (a := ⟨bb, 0, none⟩) (G bb lb ne4)).trans b0; have m3 : bo < w8.heap.size := Nat.lt_of_lt_of_le lo' (Nat.le_trans (by simp; omega) hgrow8.size); have HG8 := hid hgrow8; have HO8 := hid hown8; have HA8 := hid hat8; have HGG := hid G; clear hgrow8 hown8 hat8 G)
    refine hK.out _ _ ?_ (fun hHeld => ?_)
    · ((try dsimp only); refine ⟨?_, ?_, ?_⟩ <;> (first | assumption | (go_keep; done)))
    clear hK K
    (try simp only [Act.put, List.setIfInBounds_toArray, List.set_cons_zero, List.set_cons_succ])
    refine wpAnyH_take (i := 10) (oi := _) (v := ?_) rfl (by decide +kernel) (by decide +kernel) (by decide +kernel) (fun _ _ _ h => h) (Or.inl ⟨by rfl, ?_⟩) (by assumption) ?_
    rotate_left
    · (intro w hSw; (try dsimp only at hSw); go_simp <;> with_reducible rfl)
    (try simp only [Act.put, List.setIfInBounds_toArray, List.set_cons_zero, List.set_cons_succ])
    refine wpAnyH_done (by kernel_rfl) ?_ _
    show wpList _ _ _ _ _ _
    have hA := own_bytes2 rfl HO5.out
    have keepA : ∀ q, q < w5.heap.size → (w5.alloc (.cells #[.slice a5 D.length c5, .int .i64 0, .int .i64 0] 225)).heap[q]? = w5.heap[q]? := fun q hq => Below.heap_alloc w5 _ q hq
    have OF2 := (HOWN.out.keep (w' := w5.alloc (.cells #[.slice a5 D.length c5, .int .i64 0, .int .i64 0] 225)) (fun q hq => (keepA q (by have := HF.out q hq; omega)).trans (HK5.out.block q (HF.out q hq))) (fun q hq => by
      have h1 := (HOWN.out.1.lt q hq).2
      exact (keepA q (by omega)).trans (HK5.out.block q h1))).mono (F' := fun q => F q ∨ (w.heap.size ≤ q ∧ q < w5.heap.size)) (fun q h => .inl h)
    have hx : rTok.r (fun q => (F q ∨ (w.heap.size ≤ q ∧ q < w5.heap.size)) ∧ (Value.slice av L.length cv).ownBlock ≠ some q) (w5.alloc (.cells #[.slice a5 D.length c5, .int .i64 0, .int .i64 0] 225)) [.slice a5 D.length c5, .int .i64 0, .int .i64 0] ⟨D, 0, 0⟩ :=
      tok_mk (x := ⟨D, 0, 0⟩) (rBytes.mono (rBytes.keep hA fun q hq => keepA q hq.2) fun q hq => ⟨.inr hq, fun e => by have := (HOWN.out.1.lt q e).2; omega⟩) (by simp) (by simp)
    have OPU := OwnElsF.push OF2 (fun q hq => by rcases hq with h | h; · have := HF.out q h; simp; omega
                                                 · simp; omega) rfl hx HO8.out HG8.out HA8.out
    have hs8 := HG8.out.size
    have hoo' : (Value.slice a8 (L.length + 1) c8).ownBlock ≠ some bo := fun e => by
      rcases HA8.out with h | h
      · rw [h] at e; exact HOO.out e
      · rw [h] at e; simp at e; omega
    have hsz : (w8.setCell ⟨bo, 0, none⟩ (.slice a8 (L.length + 1) c8)).heap.size = w8.heap.size := by simp [World.setCell]
    have OP9 := (OPU.keep (w' := w8.setCell ⟨bo, 0, none⟩ (.slice a8 (L.length + 1) c8)) (fun q hq => Below.heap_setCell _ _ _ _ (fun e => by
      subst e
      rcases hq with h | h
      · exact HFO.out h
      · omega)) (fun q hq => Below.heap_setCell _ _ _ _ (fun e => hoo' (by rw [hq]; exact congrArg some e)))).mono (F' := fun q => F q ∨ (w.heap.size ≤ q ∧ q < (w8.setCell ⟨bo, 0, none⟩ (.slice a8 (L.length + 1) c8)).heap.size)) (fun q hq => by
        rw [hsz]
        rcases hq with h | h
        · exact .inl h
        · simp at hs8; exact .inr ⟨h.1, by omega⟩)
    have hB8 : Blk w8 bo 214 #[.slice av L.length cv] := (HGG.out bo lo' HOO.out).trans HHO.out
    have htch : Tch (fun q => q = bo ∨ (Value.slice av L.length cv).ownBlock = some q) w (w8.setCell ⟨bo, 0, none⟩ (.slice a8 (L.length + 1) c8)) :=
      Tch.setCell ⟨HG8.out.os.trans HK5.out.os, HG8.out.tape.trans HK5.out.tape, HG8.out.output.trans HK5.out.output, by simp at hs8; omega, fun q hq hf => HGG.out q hq (fun e => hf (.inr e))⟩ (fun _ => .inl rfl) _
    have hst : RunPost w bo lo F (.slice av L.length cv) (L ++ litT b i to) (.returned (.tuple #[])) (w8.setCell ⟨bo, 0, none⟩ (.slice a8 (L.length + 1) c8)) := by
      rw [HLIT.out]
      have hll : (L ++ [(⟨D, 0, 0⟩ : Tok)]).length = L.length + 1 := by simp
      refine ⟨rfl, a8, c8, cells ++ [[.slice a5 D.length c5, .int .i64 0, .int .i64 0]], ?_, ?_, htch, ?_⟩
      · rw [hll]; exact hB8.set 0 _
      · rw [hll]; exact OP9
      · rw [hll]
        rcases HA8.out with h | h
        · exact .inl h
        · exact .inr ⟨_, h, by simp; omega⟩
    have HST := hid hst
    clear hst htch OP9 OPU OF2 hx keepA hA hoo' hsz hB8
    go_wp2_with fail
    refine bodyPost_ret (results_none rfl _ _ _) rfl ?_
    exact HST.out
  · have hlit : litT b i to = [] := by unfold litT; rw [if_neg hit]
    have d1 : decide ((i : Int) < (to : Int)) = false := by simp; omega
    have d1' : decide (i < to) = false := by simp; omega
    have hst : RunPost w bo lo F (.slice av L.length cv) (L ++ litT b i to) (.returned (.tuple #[])) w := by
      rw [hlit, List.append_nil]
      exact ⟨rfl, av, cv, cells, ho, hown.mono fun q h => .inl h, Tch.refl _ _, .inl rfl⟩
    have HST := hid hst
    clear hst hlit hown ho hb hl hf hit
    go_enter Tryz.func264, Tryz.ntmps264
    go_wp2
    refine bodyPost_ret (results_none rfl _ _ _) rfl ?_
    exact HST.out
end Go.Proofs.YtlbffbkbkajciaaGreat
namespace Go.Proofs.YtlbffbkbkajciaaGreat
open Go.RowKit Go.Bs Go.Maps
set_option linter.unusedVariables false
set_option linter.unusedSimpArgs false

/-- Between two rounds: p bytes are done, a run began at i, the tokens L are out. -/
structure TokAt (w wr : World) (N0 N1 gs g mb base : Nat) (b : List UInt8) (sa : Option Addr) (sc : Nat) (ab : Option Addr) (cb : Nat) (a : Option Addr) (c : Nat) (p i nn : Nat) (av : Option Addr) (cv : Nat) (ap : Option Addr) (cp : Nat) (L : List Tok) (cells : List (List Value)) : Prop where
  pb : p ≤ b.length
  ip : i ≤ p
  np : nn ≤ p
  bb : Blk wr w.heap.size 25 #[.slice a b.length c]
  bo : Blk wr (w.heap.size + 1) 214 #[.slice av L.length cv]
  bf : Blk wr (w.heap.size + 2) 3 #[.int .i64 (i : Int)]
  own : OwnElsF (fun q => N1 ≤ q ∧ q < wr.heap.size ∧ (Value.slice ap nn cp).ownBlock ≠ some q) rTok N1 225 3 wr (.slice av L.length cv) L cells
  sk : SkAt wr gs g mb base N0 N1 b nn sa sc ab cb ap cp
  apart : ∀ q, (Value.slice av L.length cv).ownBlock = some q → (Value.slice ap nn cp).ownBlock ≠ some q
  len : L.length ≤ p
  toks : L ++ toksA b p i = toksR b
  below : Below w.heap.size w wr
  n0 : N0 = w.heap.size + 3
  n1 : N0 ≤ gs ∧ gs < N1 ∧ N0 ≤ g ∧ g < N1 ∧ N0 ≤ mb ∧ mb < N1 ∧ N0 ≤ base

theorem TokAt.top {w wr : World} {N0 N1 gs g mb base : Nat} {b : List UInt8} {sa : Option Addr} {sc : Nat} {ab : Option Addr} {cb : Nat} {a : Option Addr} {c : Nat} {p i nn : Nat} {av : Option Addr} {cv : Nat} {ap : Option Addr} {cp : Nat} {L : List Tok} {cells : List (List Value)}
    (h : TokAt w wr N0 N1 gs g mb base b sa sc ab cb a c p i nn av cv ap cp L cells) : N1 ≤ wr.heap.size := h.sk.top
/-- Behind a Best. -/
theorem TokAt.best {w wr w1 : World} {N0 N1 gs g mb base : Nat} {b : List UInt8} {sa : Option Addr} {sc : Nat} {ab : Option Addr} {cb : Nat} {a : Option Addr} {c : Nat} {p i nn m : Nat} {av : Option Addr} {cv : Nat} {ap : Option Addr} {cp : Nat} {L : List Tok} {cells : List (List Value)}
    (h : TokAt w wr N0 N1 gs g mb base b sa sc ab cb a c p i nn av cv ap cp L cells) (hs : SkStep wr gs g mb base N0 N1 b nn m sa sc ab cb ap cp w1) (hm : m ≤ p) :
    ∃ ap' cp', TokAt w w1 N0 N1 gs g mb base b sa sc ab cb a c p i m av cv ap' cp' L cells := by
  obtain ⟨ap', cp', h1, h2, h3⟩ := hs
  have htop := h.top
  have hn0 := h.n0
  obtain ⟨k1, k2, k3, k4, k5, k6, k7⟩ := h.n1
  have hsz := h2.size
  have hapb : ∀ q, (Value.slice ap nn cp).ownBlock = some q → N0 ≤ q ∧ q < wr.heap.size := fun q hq => by
    have := h.sk.ch.prev.lt q hq
    exact ⟨by omega, this.2⟩
  have hlow : ∀ q, q < N0 → ¬ (q = gs ∨ q = g ∨ q = mb ∨ (Value.slice ap nn cp).ownBlock = some q) := fun q hq e => by
    rcases e with e | e | e | e
    · omega
    · omega
    · omega
    · have := (hapb q e).1; omega
  have hav := fun q (hq : (Value.slice av L.length cv).ownBlock = some q) => h.own.1.lt q hq
  have hnew : ∀ q, q < wr.heap.size → (Value.slice ap nn cp).ownBlock ≠ some q → (Value.slice ap' m cp').ownBlock ≠ some q := fun q hq hne e => by
    rcases h3 with h3 | ⟨q', hq', hlt⟩
    · rw [h3] at e; exact hne e
    · rw [hq'] at e; have := Option.some.inj e; omega
  refine ⟨ap', cp', ⟨h.pb, h.ip, hm, h.bb.tch h2 (hlow _ (by omega)), h.bo.tch h2 (hlow _ (by omega)), h.bf.tch h2 (hlow _ (by omega)), ?_, h1, fun q hq => hnew q (hav q hq).2 (h.apart q hq), h.len, h.toks, h.below.trans (h2.to_below (by omega) fun q hq e => ?_), h.n0, h.n1⟩⟩
  · refine (h.own.keep (w' := w1) (fun q hq => h2.block q hq.2.1 (fun e => ?_)) (fun q hq => h2.block q (hav q hq).2 (fun e => ?_))).mono fun q hq => ⟨hq.1, by omega, hnew q hq.2.1 hq.2.2⟩
    · rcases e with e | e | e | e
      · omega
      · omega
      · omega
      · exact hq.2.2 e
    · have := (hav q hq).1
      rcases e with e | e | e | e
      · omega
      · omega
      · omega
      · exact h.apart q hq e
  · by_cases hq0 : q < N0
    · exact absurd e (hlow q hq0)
    · omega
/-- Behind a run, or a token that went out; whatever has become of the run's beginning. -/
theorem TokAt.out {w wr w1 : World} {N0 N1 gs g mb base : Nat} {b : List UInt8} {sa : Option Addr} {sc : Nat} {ab : Option Addr} {cb : Nat} {a : Option Addr} {c : Nat} {p i nn : Nat} {av : Option Addr} {cv : Nat} {ap : Option Addr} {cp : Nat} {L : List Tok} {cells : List (List Value)}
    (h : TokAt w wr N0 N1 gs g mb base b sa sc ab cb a c p i nn av cv ap cp L cells) {p' i' : Nat} {av' : Option Addr} {cv' : Nat} {L' : List Tok} {cells' : List (List Value)} (hp : p' ≤ b.length) (hi : i' ≤ p') (hn : nn ≤ p')
    (hf : Blk w1 (w.heap.size + 2) 3 #[.int .i64 (i' : Int)]) (ho : Blk w1 (w.heap.size + 1) 214 #[.slice av' L'.length cv'])
    (hown : OwnElsF (fun q => (N1 ≤ q ∧ q < wr.heap.size ∧ (Value.slice ap nn cp).ownBlock ≠ some q) ∨ (wr.heap.size ≤ q ∧ q < w1.heap.size)) rTok N1 225 3 w1 (.slice av' L'.length cv') L' cells')
    (ht : Tch (fun q => q = w.heap.size + 1 ∨ q = w.heap.size + 2 ∨ (Value.slice av L.length cv).ownBlock = some q) wr w1) (hat : (Value.slice av' L'.length cv').ownBlock = (Value.slice av L.length cv).ownBlock ∨ ∃ q, (Value.slice av' L'.length cv').ownBlock = some q ∧ wr.heap.size ≤ q)
    (hlen : L'.length ≤ p') (htok : L' ++ toksA b p' i' = toksR b) : TokAt w w1 N0 N1 gs g mb base b sa sc ab cb a c p' i' nn av' cv' ap cp L' cells' := by
  have htop := h.top
  have hn0 := h.n0
  obtain ⟨k1, k2, k3, k4, k5, k6, k7⟩ := h.n1
  have hsz := ht.size
  have hapb : ∀ q, (Value.slice ap nn cp).ownBlock = some q → N0 ≤ q ∧ q < wr.heap.size := fun q hq => by
    have := h.sk.ch.prev.lt q hq
    exact ⟨by omega, this.2⟩
  have hav := fun q (hq : (Value.slice av L.length cv).ownBlock = some q) => h.own.1.lt q hq
  have hmid : ∀ q, N0 ≤ q → q < N1 → ¬ (q = w.heap.size + 1 ∨ q = w.heap.size + 2 ∨ (Value.slice av L.length cv).ownBlock = some q) := fun q h1 h2 e => by
    rcases e with e | e | e
    · omega
    · omega
    · have := (hav q e).1; omega
  obtain ⟨t, hgs⟩ := h.sk.blk
  refine ⟨hp, hi, hn, h.bb.tch ht (fun e => ?_), ho, hf, hown.mono fun q hq => ?_, h.sk.tch ht (hmid g k3 k4) (hmid mb k5 k6) (fun q hq e => ?_) (fun q h1 h2 _ => hmid q h1 h2) ⟨t, hgs.tch ht (hmid gs k1 k2)⟩, fun q hq e => ?_, hlen, htok, h.below.trans (ht.to_below h.below.size fun q hq e => ?_), h.n0, h.n1⟩
  · rcases e with e | e | e
    · omega
    · omega
    · have := (hav _ e).1; omega
  · rcases hq with hq | hq
    · exact ⟨hq.1, by omega, hq.2.2⟩
    · exact ⟨by omega, hq.2, fun e => by have := (hapb q e).2; omega⟩
  · rcases e with e | e | e
    · have := (hapb q hq).1; omega
    · have := (hapb q hq).1; omega
    · exact h.apart q e hq
  · rcases hat with hat | ⟨q', hq', hlt⟩
    · rw [hat] at hq; exact h.apart q hq e
    · rw [hq'] at hq; have := Option.some.inj hq; have := (hapb q e).2; omega
  · rcases e with e | e | e
    · omega
    · omega
    · have := (hav q e).1; omega

def TokPost (w : World) (L : List Tok) (r : Ending) (w' : World) : Prop := ∃ v, r = .returned (.tuple #[v, .int .i64 0]) ∧ rToks.r (fun q => w.heap.size ≤ q ∧ q < w'.heap.size) w' [v] L ∧ Below w.heap.size w w'
end Go.Proofs.YtlbffbkbkajciaaGreat
namespace Go.Proofs.YtlbffbkbkajciaaGreat
open Go.RowKit Go.Bs Go.Maps
set_option linter.unusedVariables false
set_option linter.unusedSimpArgs false

set_option maxRecDepth 100000 in
set_option maxHeartbeats 3200000 in
theorem press_tokens (w : World) (b : List UInt8) (a : Option Addr) (n c : Nat) (hl : rBytes.r (· < w.heap.size) w [.slice a n c] b) (hlen : b.length ≤ 1048576) :
    Calls Tryz.prog 247 #[.slice a n c] w (TokPost w (toksR b)) := by
  obtain ⟨rfl, hm, _, _⟩ := sl_len hl
  obtain ⟨j0, hj0, hy0, hy1, hy2⟩ := info_parts infoTok
  have HL := hid hl; clear hl
  have d1 : decide ((1048576 : Int) < (b.length : Int)) = false := by simp; omega
  go_enter Tryz.func247, Tryz.ntmps247
  go_wp2_with fail
  refine (seek_new _ b _ _ _ (lift HL.out (by (repeat (first | exact Below.refl _ _ | assumption | (refine below_alloc ?_ _) | (refine Below.setCell ?_ (by first | omega | (simp; done) | (simp; omega)) _) | (refine Below.drew ?_) | (refine below_drewN ?_ _) | (refine below_then (by assumption) ?_))))) hlen).mono ?_
  rintro r w1 ⟨gs, g, mb, base, sa, sc, ab, cb, rfl, hsk, hb1, q1, q2, q3, q4⟩
  have hz1 : w.heap.size + 3 ≤ w1.heap.size := by have := hb1.size; simpa using this
  simp only [World.size_alloc] at q1 q2 q3 q4
  have hmlt : mb < w1.heap.size := by obtain ⟨D, hD, _⟩ := hsk.ch.map; exact hD.lt
  have hat0 : TokAt w w1 (w.heap.size + 3) w1.heap.size gs g mb base b sa sc ab cb a c 0 0 0 none 0 none 0 [] [] := by
    refine ⟨Nat.zero_le _, Nat.le_refl _, Nat.le_refl _, Blk.later (by (repeat (first | assumption | exact Blk.newAt _ _ _ (by first | (simp; done) | (simp; omega)) | refine Blk.alloc ?_ _ | refine Blk.drew ?_ | refine Blk.drewN ?_ _ | refine Blk.far ?_ (by first | (simp; done) | (simp; omega)) _))) hb1, Blk.later (by (repeat (first | assumption | exact Blk.newAt _ _ _ (by first | (simp; done) | (simp; omega)) | refine Blk.alloc ?_ _ | refine Blk.drew ?_ | refine Blk.drewN ?_ _ | refine Blk.far ?_ (by first | (simp; done) | (simp; omega)) _))) hb1, Blk.later (by (repeat (first | assumption | exact Blk.newAt _ _ _ (by first | (simp; done) | (simp; omega)) | refine Blk.alloc ?_ _ | refine Blk.drew ?_ | refine Blk.drewN ?_ _ | refine Blk.far ?_ (by first | (simp; done) | (simp; omega)) _))) hb1, OwnElsF.nil, ?_, fun q hq => by simp [Value.ownBlock] at hq, Nat.zero_le _, ?_, by (repeat (first | exact Below.refl _ _ | assumption | (refine below_alloc ?_ _) | (refine Below.setCell ?_ (by first | omega | (simp; done) | (simp; omega)) _) | (refine Below.drew ?_) | (refine below_drewN ?_ _) | (refine below_then (by assumption) ?_))), rfl, ⟨by omega, hsk.blk.choose_spec.lt, by omega, hsk.ch.blk.lt, by omega, hmlt, by omega⟩⟩
    · simpa using hsk
    · rfl
  have H0 := hid hat0
  clear hat0 hsk q1 q2 q3 q4 hmlt
  generalize hN1 : w1.heap.size = N1 at *
  have HN1 := hid hN1; clear hN1
  go_wp2_with fail
  go_loopw [8] (fun i wr => ∃ (p i0 nn : Nat) (av : Option Addr) (cv : Nat) (ap : Option Addr) (cp : Nat) (L : List Tok) (cells : List (List Value)), i = .int .i64 p ∧ Hid (TokAt w wr (w.heap.size + 3) N1 gs g mb base b sa sc ab cb a c p i0 nn av cv ap cp L cells)) (fun i _ => b.length - (intOf i).toNat)
  case atStart => exact ⟨0, 0, 0, none, 0, none, 0, [], [], rfl, H0⟩
  case round =>
    obtain ⟨p, i, nn, av, cv, ap, cp, L, cells, rfl, hT⟩ := hrel
    clear H0
    have hpb := hT.out.pb
    have hip := hT.out.ip
    have cb0 : wr.cell? ⟨w.heap.size, 0, none⟩ = some (.slice a b.length c) := hT.out.bb.cell 0
    by_cases hlt : p < b.length
    · have hB := hid (seek_best wr hT.out.sk hT.out.np hlt)
      have hbr := bestR_room b p
      have htn := hid (fun h => toksA_none (b := b) (p := p) (i := i) hlt h)
      have hts := hid (fun h => toksA_some (b := b) (p := p) (i := i) hlt h)
      have hfc := hid (bestR_facts b p)
      have dlt : decide ((p : Int) < (b.length : Int)) = true := by simp; omega
      generalize hbb : bestR b p = bb at *
      obtain ⟨o, m⟩ := bb
      have HBB := hid hbb; clear hbb
      simp only at hbr
      go_wp2_with fail
      refine hB.out.mono ?_
      rintro r w2 ⟨hr, hst⟩
      rw [HBB.out] at hr
      subst hr
      obtain ⟨ap2, cp2, hT2⟩ := hT.out.best hst (Nat.le_refl _)
      have HT2 := hid hT2; clear hst hT2
      by_cases hm0 : m = 0
      · have e1 : ((m : Int) == 0) = true := by simp; omega
        have HT3 := hid (show TokAt w w2 (w.heap.size + 3) N1 gs g mb base b sa sc ab cb a c (p + 1) i p av cv ap2 cp2 L cells from { HT2.out with pb := by omega, ip := by omega, np := by omega, len := by have := HT2.out.len; omega, toks := by rw [← htn.out hm0]; exact HT2.out.toks })
        clear hm0
        go_wp2_with fail
        go_roundw
        case rel => exact ⟨p + 1, i, p, av, cv, ap2, cp2, L, cells, by go_num, HT3⟩
        case measure => simp [intOf]; omega
      · have e1 : ((m : Int) == 0) = false := by simp; omega
        have hm4 : 4 ≤ m ∧ o ≤ p := by
          rcases hfc.out with h | ⟨o', m', h, h1, h2, h3, _⟩
          · simp only [Prod.mk.injEq] at h; omega
          · simp only [Prod.mk.injEq] at h
            unfold reach at h2
            omega
        have htop := HT2.out.top
        have hn0 := HT2.out.n1
        have hav := fun q (hq : (Value.slice av L.length cv).ownBlock = some q) => HT2.out.own.1.lt q hq
        have hRun := press_run w2 (to := p) HT2.out.bf HT2.out.bo HT2.out.bb (rBytes.mono (rBytes.keep HL.out fun q hq => HT2.out.below.block q hq) fun q hq => Nat.lt_of_lt_of_le hq HT2.out.below.size) HT2.out.own (fun q hq => hq.2.1) (fun hq => by have := hq.1; omega) (fun e => by have := (hav _ e).1; omega) ⟨by omega, by omega, fun e => by have := (hav _ e).1; omega, fun e => by have := (hav _ e).1; omega⟩ (by omega) hlen (by have := HT2.out.len; omega) htop
        have HRun := hid hRun; clear hRun
        have HM0 := hid hm0; clear hm0
        go_wp2_with fail
        refine HRun.out.mono ?_
        rintro r w3 ⟨rfl, av3, cv3, cells3, hbo3, hown3, ht3, hat3⟩
        have hLL : (L ++ litT b i p).length ≤ p + 1 := by
          have h1 := HT2.out.len
          unfold litT
          split <;> simp <;> omega
        have HHBO := hid hbo3
        have o1 : w3.cell? ⟨w.heap.size + 1, 0, none⟩ = some (.slice av3 (L ++ litT b i p).length cv3) := hbo3.cell 0
        have o2 := hbo3.free 0
        have l1 := hbo3.lt
        have HB3 := hid (HT2.out.bf.tch ht3 (fun e => by
          rcases e with e | e
          · omega
          · have := (hav _ e).1; omega))
        have l2 := HB3.out.lt
        have hz3 : N1 ≤ w3.heap.size := Nat.le_trans htop ht3.size
        have hav3 := fun q (hq : (Value.slice av3 (L ++ litT b i p).length cv3).ownBlock = some q) => hown3.1.lt q hq
        generalize hL3 : L ++ litT b i p = L3 at *
        have HL3 := hid hL3; have HO3 := hid hown3; have HT3 := hid ht3; have HAT3 := hid hat3; have HAV3 := hid hav3; have HAV := hid hav
        clear hL3 hown3 ht3 hat3 hbo3 hav3 hav
        have f3 := HB3.out.free 0
        go_wp2_with (at_builtin; go_loud (refine wpList_append_src rfl _ _ _ rfl N1 225 j0 (.agg #[.slice none 0 0, .int .i64 0, .int .i64 0]) 3 40 Tryz.underlying214 hj0 hy0 hy1 hy2 rfl (by decide) (.slice av3 L3.length cv3) L3.length cells3.flatten rfl (own_below HO3.out.1 (by (repeat (first | exact Below.refl _ _ | assumption | (refine below_alloc ?_ _) | (refine Below.setCell ?_ (by first | omega | (simp; done) | (simp; omega)) _) | (refine Below.drew ?_) | (refine below_drewN ?_ _) | (refine below_then (by assumption) ?_))))) (some ⟨w3.heap.size, 0, none⟩) 1 1 [.slice none 0 0, .int .i64 (o : Int), .int .i64 (m : Int)] rfl (src_new1 w3 225 _ rfl rfl rfl) (by intro u hu; simp at hu; rcases hu with rfl | rfl | rfl <;> rfl) (by simp only [maxLen]; omega) (by omega) (by simp; omega) ?_; intro v8 w8 hown8 hgrow8 hat8; obtain ⟨a8, c8, rfl⟩ := own_form hown8; have G := fun b' (hb : b' < w3.heap.size) (hne : (Value.slice av3 L3.length cv3).ownBlock ≠ some b') => (hgrow8.block b' (by simp; omega) (fun e => hne e.symm)).trans (Below.heap_alloc w3 _ b' hb); have n1 : (Value.slice av3 L3.length cv3).ownBlock ≠ some (w.heap.size + 1) := fun e => by { have := (HAV3.out _ e).1; omega }; have n2 : (Value.slice av3 L3.length cv3).ownBlock ≠ some (w.heap.size + 2) := fun e => by { have := (HAV3.out _ e).1; omega }; have m1 := (World.cell?_of_block (a := ⟨w.heap.size + 1, 0, none⟩) (G _ l1 n1)).trans o1; have m2 := (World.frozen?_of_block (a := ⟨w.heap.size + 1, 0, none⟩) (G _ l1 n1)).trans o2; have m3 : w.heap.size + 1 < w8.heap.size := Nat.lt_of_lt_of_le l1 (Nat.le_trans (by simp) hgrow8.size); have m4 := (World.frozen?_of_block (a := ⟨w.heap.size + 2, 0, none⟩) (G _ l2 n2)).trans f3; have m6 := (World.cell?_of_block (a := ⟨w.heap.size + 2, 0, none⟩) (G _ l2 n2)).trans (HB3.out.cell 0); have m5 : w.heap.size + 2 < w8.heap.size := Nat.lt_of_lt_of_le l2 (Nat.le_trans (by simp) hgrow8.size); have HG8 := hid hgrow8; have HO8 := hid hown8; have HA8 := hid hat8; have HGG := hid G; clear hgrow8 hown8 hat8 G))
        have hOF := (HO3.out.keep (w' := w3.alloc (.cells #[.slice none 0 0, .int .i64 (o : Int), .int .i64 (m : Int)] 225)) (fun q hq => Below.heap_alloc w3 _ q (by
          have hs3 := HT3.out.size
          rcases hq with h | h
          · omega
          · omega)) (fun q hq => Below.heap_alloc w3 _ q (HAV3.out q hq).2))
        have hx : rTok.r (fun q => ((N1 ≤ q ∧ q < w2.heap.size ∧ (Value.slice ap2 p cp2).ownBlock ≠ some q) ∨ (w2.heap.size ≤ q ∧ q < w3.heap.size)) ∧ (Value.slice av3 L3.length cv3).ownBlock ≠ some q) (w3.alloc (.cells #[.slice none 0 0, .int .i64 (o : Int), .int .i64 (m : Int)] 225)) [.slice none 0 0, .int .i64 (o : Int), .int .i64 (m : Int)] ⟨[], o, m⟩ :=
          tok_mk (x := ⟨[], o, m⟩) (rSl_mk rfl (Nat.le_refl _) (Nat.zero_le _) (.inl rfl)) (by simp; omega) (by simp; omega)
        have OPU := OwnElsF.push hOF (fun q hq => by
          have hs3 := HT3.out.size
          rcases hq with h | h
          · simp; omega
          · simp; omega) rfl hx HO8.out HG8.out HA8.out
        have hs8 := HG8.out.size
        simp only [World.size_alloc] at hs8
        have hs3 := HT3.out.size
        have hnew8 : ∀ q, q < N1 → (Value.slice a8 (L3.length + 1) c8).ownBlock ≠ some q := fun q hq e => by
          have := (HO8.out.lt q e).1; omega
        have hll : (L3 ++ [(⟨[], o, m⟩ : Tok)]).length = L3.length + 1 := by simp
        have hsz : ((w8.setCell ⟨w.heap.size + 1, 0, none⟩ (.slice a8 (L3.length + 1) c8)).setCell ⟨w.heap.size + 2, 0, none⟩ (.int .i64 ((p : Int) + (m : Int)))).heap.size = w8.heap.size := by simp [World.setCell]
        have keep9 : ∀ q, q ≠ w.heap.size + 1 → q ≠ w.heap.size + 2 → ((w8.setCell ⟨w.heap.size + 1, 0, none⟩ (.slice a8 (L3.length + 1) c8)).setCell ⟨w.heap.size + 2, 0, none⟩ (.int .i64 ((p : Int) + (m : Int)))).heap[q]? = w8.heap[q]? := fun q k1 k2 => (Below.heap_setCell _ _ _ _ k2).trans (Below.heap_setCell _ _ _ _ k1)
        have OP9 := (OPU.keep (w' := (w8.setCell ⟨w.heap.size + 1, 0, none⟩ (.slice a8 (L3.length + 1) c8)).setCell ⟨w.heap.size + 2, 0, none⟩ (.int .i64 ((p : Int) + (m : Int)))) (fun q hq => keep9 q (by rcases hq with h | h <;> omega) (by rcases hq with h | h <;> omega)) (fun q hq => keep9 q (fun e => hnew8 q (by omega) hq) (fun e => hnew8 q (by omega) hq))).mono (F' := fun q => (N1 ≤ q ∧ q < w2.heap.size ∧ (Value.slice ap2 p cp2).ownBlock ≠ some q) ∨ (w2.heap.size ≤ q ∧ q < ((w8.setCell ⟨w.heap.size + 1, 0, none⟩ (.slice a8 (L3.length + 1) c8)).setCell ⟨w.heap.size + 2, 0, none⟩ (.int .i64 ((p : Int) + (m : Int)))).heap.size)) (fun q hq => by
          rw [hsz]
          rcases hq with h | h
          · exact .inl h
          · exact .inr ⟨h.1, by omega⟩)
        have hbo8 : Blk w8 (w.heap.size + 1) 214 #[.slice av3 L3.length cv3] := (HGG.out _ l1 n1).trans HHBO.out
        have hbf8 : Blk w8 (w.heap.size + 2) 3 #[.int .i64 (i : Int)] := (HGG.out _ l2 n2).trans HB3.out
        have hfin : TokAt w ((w8.setCell ⟨w.heap.size + 1, 0, none⟩ (.slice a8 (L3.length + 1) c8)).setCell ⟨w.heap.size + 2, 0, none⟩ (.int .i64 ((p : Int) + (m : Int)))) (w.heap.size + 3) N1 gs g mb base b sa sc ab cb a c (p + m) (p + m) p a8 c8 ap2 cp2 (L3 ++ [⟨[], o, m⟩]) (cells3 ++ [[.slice none 0 0, .int .i64 (o : Int), .int .i64 (m : Int)]]) := by
          refine HT2.out.out (by omega) (Nat.le_refl _) (by omega) ?_ ?_ (by rw [hll]; exact OP9) ?_ ?_ (by rw [hll]; omega) ?_
          · exact (hbf8.far (by dsimp only; omega) _).set 0 _
          · rw [hll]; exact (hbo8.set 0 _).far (by dsimp only; omega) _
          · refine Tch.setCell (Tch.setCell ⟨HG8.out.os.trans HT3.out.os, HG8.out.tape.trans HT3.out.tape, HG8.out.output.trans HT3.out.output, by omega, fun q hq hf => ?_⟩ (fun _ => .inl rfl) _) (fun _ => .inr (.inl rfl)) _
            have h3 : (Value.slice av3 L3.length cv3).ownBlock ≠ some q := fun e => by
              rcases HAT3.out with h | ⟨q', hq', hlt'⟩
              · rw [h] at e; exact hf (.inr (.inr e))
              · rw [hq'] at e; have := Option.some.inj e; omega
            exact (HGG.out q (by omega) h3).trans (HT3.out.block q hq (fun e => by
              rcases e with e | e
              · exact hf (.inl e)
              · exact hf (.inr (.inr e))))
          · rw [hll]
            rcases HA8.out with h | h
            · rcases HAT3.out with h' | ⟨q', hq', hlt'⟩
              · exact .inl (h.trans h')
              · exact .inr ⟨q', h.trans hq', hlt'⟩
            · exact .inr ⟨_, h, by simp; omega⟩
          · have e1 := hts.out HM0.out
            have e2 := HT2.out.toks
            rw [e1] at e2
            rw [← e2, ← HL3.out]
            simp
        have HF := hid hfin
        clear hfin OP9 OPU hx hOF keep9 hsz hbo8 hbf8 hnew8 hll
        go_roundw
        case rel => exact ⟨p + m, p + m, p, a8, c8, ap2, cp2, _, _, by go_num, HF⟩
        case measure => simp [intOf]; omega
    · have hpe : p = b.length := by omega
      subst hpe
      have htop := hT.out.top
      have hn0 := hT.out.n1
      have hav := fun q (hq : (Value.slice av L.length cv).ownBlock = some q) => hT.out.own.1.lt q hq
      have hRun := press_run wr (to := b.length) hT.out.bf hT.out.bo hT.out.bb (rBytes.mono (rBytes.keep HL.out fun q hq => hT.out.below.block q hq) fun q hq => Nat.lt_of_lt_of_le hq hT.out.below.size) hT.out.own (fun q hq => hq.2.1) (fun hq => by have := hq.1; omega) (fun e => by have := (hav _ e).1; omega) ⟨by omega, by omega, fun e => by have := (hav _ e).1; omega, fun e => by have := (hav _ e).1; omega⟩ (Nat.le_refl _) hlen (by have := hT.out.len; omega) htop
      have htk := hT.out.toks
      rw [toksA_end (Nat.le_refl _)] at htk
      rw [htk] at hRun
      have HRun := hid hRun; clear hRun htk
      have dlt : decide ((b.length : Int) < (b.length : Int)) = false := by simp
      go_wp2_with fail
      refine HRun.out.mono ?_
      rintro r w3 ⟨rfl, av3, cv3, cells3, hbo3, hown3, ht3, hat3⟩
      have o1 : w3.cell? ⟨w.heap.size + 1, 0, none⟩ = some (.slice av3 (toksR b).length cv3) := hbo3.cell 0
      have hbel : Below w.heap.size w w3 := hT.out.below.trans (ht3.to_below hT.out.below.size fun q hq e => by
        rcases e with e | e
        · omega
        · have := (hav _ e).1; omega)
      have hsl := hown3.slice
      have hlt3 := hown3.1.lt
      have hs3 := ht3.size
      have hpost : TokPost w (toksR b) (.returned (.tuple #[.slice av3 (toksR b).length cv3, .int .i64 0])) w3 := ⟨_, rfl, (rSl 3 rTok).mono hsl fun q hq => by
        rcases hq with (h | h) | h
        · exact ⟨by omega, by omega⟩
        · exact ⟨by omega, h.2⟩
        · have := hlt3 q h; exact ⟨by omega, this.2⟩, hbel⟩
      have HP := hid hpost
      clear hpost hsl hlt3 hbel hown3 ht3 hat3 hbo3
      go_wp2
      go_ret2
      exact HP.out
end Go.Proofs.YtlbffbkbkajciaaGreat
namespace Go.Bs
open Go.RowKit

end Go.Bs
namespace Go.Proofs.YtlbffbkbkajciaaGreat
open Go.RowKit Go.Bs Go.Maps
set_option linter.unusedVariables false
set_option linter.unusedSimpArgs false

theorem tok_cells {S : Nat → Prop} {w : World} {cs : List Value} {x : Tok} (h : rTok.r S w cs x) : ∃ a c, cs = [.slice a x.lit.length c, .int .i64 x.off, .int .i64 x.len] ∧ (-9223372036854775808 ≤ x.off ∧ x.off ≤ 9223372036854775807) ∧ (-9223372036854775808 ≤ x.len ∧ x.len ≤ 9223372036854775807) ∧ rBytes.r S w [.slice a x.lit.length c] x.lit := by
  obtain ⟨c1, c2, rfl, h1, c3, c4, rfl, ⟨rfl, h2⟩, rfl, h3⟩ := h
  obtain ⟨a, c, rfl, h4, _⟩ := sl_form h1
  exact ⟨a, c, rfl, bounds_i64 h2, bounds_i64 h3, h4⟩
theorem tok_at {S : Nat → Prop} {w : World} {xs : List Tok} {a : Option Addr} {n c : Nat} (h : rToks.r S w [.slice a n c] xs) {i : Nat} (hi : i < xs.length) : ∃ b off, a = some ⟨b, off, none⟩ ∧ S b ∧ ∃ a' c', w.cell? ⟨b, off + i * 3, none⟩ = some (.slice a' xs[i].lit.length c') ∧ w.cell? ⟨b, off + i * 3 + 1, none⟩ = some (.int .i64 xs[i].off) ∧ w.cell? ⟨b, off + i * 3 + 2, none⟩ = some (.int .i64 xs[i].len) ∧
    (-9223372036854775808 ≤ xs[i].off ∧ xs[i].off ≤ 9223372036854775807) ∧ (-9223372036854775808 ≤ xs[i].len ∧ xs[i].len ≤ 9223372036854775807) ∧ rBytes.r S w [.slice a' xs[i].lit.length c'] xs[i].lit := by
  obtain ⟨b, off, e, hS, cs, _, hc, hA⟩ := sl_at h hi
  obtain ⟨a', c', rfl, h1, h2, h3⟩ := tok_cells hA
  exact ⟨b, off, e, hS, a', c', hc 0 _ rfl, hc 1 _ rfl, hc 2 _ rfl, h1, h2, h3⟩

def runB (t : Tok) : Bool := decide (t.off = 0) && (decide (t.len = 0) && (decide (1 ≤ t.lit.length) && decide (t.lit.length ≤ 1048576)))
def copyB (t : Tok) : Bool := decide (t.lit.length = 0) && (decide (1 ≤ t.off) && (decide (t.off ≤ 65536) && (decide (4 ≤ t.len) && decide (t.len ≤ 1048576))))

set_option maxHeartbeats 1600000 in
theorem ref11_run (x : Tok) (a : Option Addr) (c : Nat) (w : World) (hl : x.lit.length ≤ 9223372036854775807) (h1 : -9223372036854775808 ≤ x.off ∧ x.off ≤ 9223372036854775807) (h2 : -9223372036854775808 ≤ x.len ∧ x.len ≤ 9223372036854775807) :
    Calls Tryz.prog 252 #[.agg #[.slice a x.lit.length c, .int .i64 x.off, .int .i64 x.len]] w fun r w' => r = .returned (.bool (runB x)) ∧ Below w.heap.size w w' := by
  obtain ⟨D, o, m⟩ := x
  dsimp only at *
  by_cases h0 : o = 0
  · skip
    have d0 : (o == 0) = true := beq_iff_eq.2 (by omega)
    by_cases h1 : m = 0
    · skip
      have d1 : (m == 0) = true := beq_iff_eq.2 (by omega)
      by_cases h2 : 1 ≤ D.length
      · skip
        have d2 : decide (1 ≤ (D.length : Int)) = true := decide_eq_true (by omega)
        have d2' : decide (1 ≤ D.length) = true := decide_eq_true (by omega)
        by_cases h3 : D.length ≤ 1048576
        · skip
          have d3 : decide ((D.length : Int) ≤ 1048576) = true := decide_eq_true (by omega)
          have d3' : decide (D.length ≤ 1048576) = true := decide_eq_true (by omega)
          have hff : Hid (runB ⟨D, o, m⟩ = true) := hid (by simp only [runB, Bool.and_eq_true, decide_eq_true_eq]; omega)
          clear h1
          go_enter Tryz.func252, Tryz.ntmps252
          go_wp2
          go_ret
          exact ⟨by rw [hff.out]; rfl, by (repeat (first | exact Below.refl _ _ | assumption | (refine below_alloc ?_ _) | (refine Below.setCell ?_ (by first | omega | (simp; done) | (simp; omega)) _) | (refine Below.drew ?_) | (refine below_drewN ?_ _) | (refine below_then (by assumption) ?_)))⟩
        · skip
          have d3 : decide ((D.length : Int) ≤ 1048576) = false := decide_eq_false (by omega)
          have d3' : decide (D.length ≤ 1048576) = false := decide_eq_false (by omega)
          have hff : Hid (runB ⟨D, o, m⟩ = false) := hid (by rw [← Bool.not_eq_true]; simp only [runB, Bool.and_eq_true, decide_eq_true_eq]; omega)
          clear h1
          go_enter Tryz.func252, Tryz.ntmps252
          go_wp2
          go_ret
          exact ⟨by rw [hff.out]; rfl, by (repeat (first | exact Below.refl _ _ | assumption | (refine below_alloc ?_ _) | (refine Below.setCell ?_ (by first | omega | (simp; done) | (simp; omega)) _) | (refine Below.drew ?_) | (refine below_drewN ?_ _) | (refine below_then (by assumption) ?_)))⟩
      · skip
        have d2 : decide (1 ≤ (D.length : Int)) = false := decide_eq_false (by omega)
        have d2' : decide (1 ≤ D.length) = false := decide_eq_false (by omega)
        have hff : Hid (runB ⟨D, o, m⟩ = false) := hid (by rw [← Bool.not_eq_true]; simp only [runB, Bool.and_eq_true, decide_eq_true_eq]; omega)
        clear h1
        go_enter Tryz.func252, Tryz.ntmps252
        go_wp2
        go_ret
        exact ⟨by rw [hff.out]; rfl, by (repeat (first | exact Below.refl _ _ | assumption | (refine below_alloc ?_ _) | (refine Below.setCell ?_ (by first | omega | (simp; done) | (simp; omega)) _) | (refine Below.drew ?_) | (refine below_drewN ?_ _) | (refine below_then (by assumption) ?_)))⟩
    · skip
      have d1 : (m == 0) = false := beq_eq_false_iff_ne.2 (by omega)
      have hff : Hid (runB ⟨D, o, m⟩ = false) := hid (by rw [← Bool.not_eq_true]; simp only [runB, Bool.and_eq_true, decide_eq_true_eq]; omega)
      clear h1
      go_enter Tryz.func252, Tryz.ntmps252
      go_wp2
      go_ret
      exact ⟨by rw [hff.out]; rfl, by (repeat (first | exact Below.refl _ _ | assumption | (refine below_alloc ?_ _) | (refine Below.setCell ?_ (by first | omega | (simp; done) | (simp; omega)) _) | (refine Below.drew ?_) | (refine below_drewN ?_ _) | (refine below_then (by assumption) ?_)))⟩
  · skip
    have d0 : (o == 0) = false := beq_eq_false_iff_ne.2 (by omega)
    have hff : Hid (runB ⟨D, o, m⟩ = false) := hid (by rw [← Bool.not_eq_true]; simp only [runB, Bool.and_eq_true, decide_eq_true_eq]; omega)
    clear h1
    go_enter Tryz.func252, Tryz.ntmps252
    go_wp2
    go_ret
    exact ⟨by rw [hff.out]; rfl, by (repeat (first | exact Below.refl _ _ | assumption | (refine below_alloc ?_ _) | (refine Below.setCell ?_ (by first | omega | (simp; done) | (simp; omega)) _) | (refine Below.drew ?_) | (refine below_drewN ?_ _) | (refine below_then (by assumption) ?_)))⟩

end Go.Proofs.YtlbffbkbkajciaaGreat
namespace Go.Proofs.YtlbffbkbkajciaaGreat
open Go.RowKit Go.Bs Go.Maps
set_option linter.unusedVariables false
set_option linter.unusedSimpArgs false

/-- Tokens from place p on, as they must be; f: a run stands right ahead. -/
inductive Good (b : List UInt8) : Bool → Nat → List Tok → Prop where
  | nil {f : Bool} : Good b f b.length []
  | copy {f : Bool} {p o m : Nat} {rest : List Tok} : p < b.length → bestR b p = (o, m) → m ≠ 0 → Good b false (p + m) rest → Good b f p (⟨[], (o : Int), (m : Int)⟩ :: rest)
  | run {p q : Nat} {rest : List Tok} : p < q → q ≤ b.length → (∀ r, p ≤ r → r < q → (bestR b r).2 = 0) → Good b true q rest → Good b false p (⟨(b.drop p).take (q - p), 0, 0⟩ :: rest)
theorem good_lit {b : List UInt8} {i p : Nat} {rest : List Tok} (hip : i ≤ p) (hp : p ≤ b.length) (h : ∀ r, i ≤ r → r < p → (bestR b r).2 = 0) (hg : ∀ f, Good b f p rest) : Good b false i (litT b i p ++ rest) := by
  unfold litT
  by_cases hlt : i < p
  · rw [if_pos hlt]
    exact .run hlt hp h (hg true)
  · obtain rfl : i = p := by omega
    rw [if_neg hlt]
    exact hg false
theorem good_toks (b : List UInt8) : ∀ (f p i : Nat), b.length ≤ p + f → i ≤ p → p ≤ b.length → (∀ r, i ≤ r → r < p → (bestR b r).2 = 0) → Good b false i (toksF b f p i)
  | 0, p, i, h1, h2, h3, h4 => by
    obtain rfl : p = b.length := by omega
    have := good_lit (rest := []) h2 h3 h4 fun f => .nil
    simpa [toksF] using this
  | f + 1, p, i, h1, h2, h3, h4 => by
    simp only [toksF]
    by_cases hp : p < b.length
    · rw [if_pos hp]
      by_cases hm : (bestR b p).2 = 0
      · rw [if_pos hm]
        refine good_toks b f (p + 1) i (by omega) (by omega) (by omega) fun r hr1 hr2 => ?_
        by_cases hrp : r = p
        · rw [hrp]; exact hm
        · exact h4 r hr1 (by omega)
      · rw [if_neg hm]
        have hroom := (bestR_room b p).1
        refine good_lit h2 h3 h4 fun g => .copy hp rfl hm ?_
        exact good_toks b f _ _ (by omega) (Nat.le_refl _) (by omega) fun r h1 h2 => by omega
    · rw [if_neg hp]
      obtain rfl : p = b.length := by omega
      have := good_lit (rest := []) h2 h3 h4 fun f => .nil
      simpa using this
theorem good_toksR (b : List UInt8) : Good b false 0 (toksR b) := good_toks b b.length 0 0 (by omega) (Nat.le_refl _) (Nat.zero_le _) fun r h1 h2 => by omega

theorem lit_bytes {w : World} {g : Nat} {t : TypeId} {fr : Nat × Nat} {l : List UInt8} {cs : Array Value} (hcs : cs = (byteCells l).toArray) (hl : l.length ≤ 1000000) (hb : w.heap[g]? = some (.cells cs t fr)) : rBytes.r (· < w.heap.size) w [.slice (some ⟨g, 0, none⟩) l.length l.length] l := by
  subst hcs
  refine rSl_mk (xs := l) rfl (Nat.le_refl _) (by simp [maxLen]; omega) (.inr ⟨g, 0, rfl, (Array.getElem?_eq_some_iff.1 hb).1, fun i x hi => ⟨[.int .u8 (x.toNat : Int)], rfl, fun j v hj => ?_, rfl⟩⟩)
  have hj0 : j = 0 := by
    rcases j with _ | j
    · rfl
    · simp at hj
  subst hj0
  simp at hj
  subst hj
  rw [Nat.zero_add, Nat.mul_one, Nat.add_zero]
  simp [World.cell?, hb, byteCells, hi]
end Go.Proofs.YtlbffbkbkajciaaGreat
namespace Go.Proofs.YtlbffbkbkajciaaGreat
open Go.RowKit Go.Bs Go.Maps
set_option linter.unusedVariables false
set_option linter.unusedSimpArgs false

theorem toks_len (b : List UInt8) : ∀ (f p i : Nat), (toksF b f p i).length ≤ 2 * f + 1
  | 0, p, i => by
    simp only [toksF, litT]
    split <;> simp
  | f + 1, p, i => by
    simp only [toksF]
    split
    · split
      · have := toks_len b f (p + 1) i; omega
      · have := toks_len b f (p + (bestR b p).2) (p + (bestR b p).2)
        simp only [List.length_append, List.length_cons, litT]
        split <;> simp <;> omega
    · simp only [litT]
      split <;> simp

end Go.Proofs.YtlbffbkbkajciaaGreat
namespace Go.Bs
/-- A number's bytes, lowest digits first. -/
def varF : Nat → Nat → List UInt8
  | 0, x => [UInt8.ofNat x]
  | f + 1, x => if x < 128 then [UInt8.ofNat x] else UInt8.ofNat (128 + x % 128) :: varF f (x / 128)
def varB (x : Nat) : List UInt8 := varF 9 x
theorem varF_more : ∀ (f g x : Nat), x < 128 ^ (f + 1) → f ≤ g → varF f x = varF g x
  | 0, 0, _, _, _ => rfl
  | 0, g + 1, x, h, _ => by
    have : x < 128 := by simpa using h
    simp [varF, this]
  | f + 1, 0, _, _, h => by omega
  | f + 1, g + 1, x, h, hg => by
    simp only [varF]
    split
    · rfl
    · rw [varF_more f g (x / 128) (by rw [Nat.pow_succ] at h; omega) (by omega)]
theorem varB_small {x : Nat} (h : x < 128) : varB x = [UInt8.ofNat x] := by simp [varB, varF, h]
theorem varB_step {x : Nat} (h : ¬ x < 128) (hx : x < 2 ^ 64) : varB x = UInt8.ofNat (128 + x % 128) :: varB (x / 128) := by
  have e : varF 8 (x / 128) = varF 9 (x / 128) := varF_more 8 9 _ (by omega) (by omega)
  unfold varB
  rw [← e]
  simp [varF, h]
theorem varB_len (x : Nat) : (varB x).length ≤ 10 ∧ 1 ≤ (varB x).length := by
  have : ∀ f x, (varF f x).length ≤ f + 1 ∧ 1 ≤ (varF f x).length := by
    intro f
    induction f with
    | zero => intro x; simp [varF]
    | succ f ih => intro x; simp only [varF]; split <;> simp; exact (ih _).1
  exact this 9 x
end Go.Bs
namespace Go.Proofs.YtlbffbkbkajciaaGreat
open Go.RowKit Go.Bs Go.Maps
set_option linter.unusedVariables false
set_option linter.unusedSimpArgs false

set_option maxHeartbeats 1600000 in
theorem varint_size (x : Nat) (hx : x < 18446744073709551616) (w : World) :
    Calls Tryz.prog 249 #[.int .u64 x] w fun r w' => r = .returned (.int .i64 (varB x).length) ∧ Below w.heap.size w w' := by
  go_enter Tryz.func249, Tryz.ntmps249
  go_wp2_with fail
  go_loopw [0, 3] (fun y n wr => ∃ v k : Nat, y = .int .u64 v ∧ n = .int .i64 k ∧ v < 18446744073709551616 ∧ k ≤ 10 ∧ 1 ≤ k ∧ Hid ((varB x).length + 1 = k + (varB v).length) ∧ Below w.heap.size w wr) (fun y _ _ => (intOf y).toNat)
  case atStart => exact ⟨x, 1, rfl, rfl, hx, by omega, by omega, hid (by omega), Below.refl _ _⟩
  case round =>
    obtain ⟨v, k, rfl, rfl, hv, hk, hk1, hs, hb⟩ := hrel
    by_cases h : v < 128
    · have d1 : decide ((128 : Int) ≤ (v : Int)) = false := by simp; omega
      have hf : Hid ((varB x).length = k) := hid (by have := hs.out; rw [varB_small h] at this; simpa using this)
      go_wp2
      go_ret
      exact ⟨by rw [hf.out]; rfl, hb⟩
    · have d1 : decide ((128 : Int) ≤ (v : Int)) = true := by simp; omega
      have hn : Hid ((varB x).length + 1 = k + 1 + (varB (v / 128)).length) := hid (by have := hs.out; rw [varB_step h (by omega)] at this; simp at this; omega)
      have hk10 : k + 1 ≤ 10 := by have := hn.out; have := varB_len x; have := varB_len (v / 128); omega
      go_wp2_with fail
      go_outline
      go_roundw
      case rel => exact ⟨v / 128, k + 1, by go_num, by go_num, by omega, by omega, by omega, hn, hb⟩
      case measure => simp [intOf]; omega
end Go.Proofs.YtlbffbkbkajciaaGreat
namespace Go.Bs
open Go.RowKit
theorem own_new1 {w : World} {base g : Nat} {e : TypeId} {v : Value} (hb : base ≤ g) (h : w.heap[g]? = some (.cells #[v] e (0, 0))) : w.ownsRow base e 1 (.slice (some ⟨g, 0, none⟩) 1 1) 1 [v] :=
  ⟨rfl, .inr ⟨g, 1, #[v], rfl, hb, h, Nat.le_refl _, by decide, rfl, rfl⟩⟩
theorem byteCells_snoc (J : List UInt8) (b : UInt8) : byteCells J ++ [.int .u8 (b.toNat : Int)] = byteCells (J ++ [b]) := by simp [byteCells]
theorem byte_small {x : Nat} (h : x < 256) : (x : Int) = ((UInt8.ofNat x).toNat : Int) := by
  simp; omega
theorem or128 : ∀ n : Nat, n < 256 → bits .or .u8 (n : Int) 128 = 128 + (n : Int) % 128 := by decide +kernel
theorem or128b (v : Nat) : bits .or .u8 ((v : Int) % 256) 128 = ((UInt8.ofNat (128 + v % 128)).toNat : Int) := by
  have h := or128 (v % 256) (by omega)
  rw [show (((v % 256 : Nat)) : Int) = (v : Int) % 256 by omega] at h
  rw [h, ← byte_small (by omega)]
  omega
end Go.Bs
namespace Go.Proofs.YtlbffbkbkajciaaGreat
open Go.RowKit Go.Bs Go.Maps
set_option linter.unusedVariables false
set_option linter.unusedSimpArgs false

set_option maxRecDepth 100000 in
set_option maxHeartbeats 1600000 in
theorem varint_bytes (x : Nat) (hx : x < 18446744073709551616) (w : World) :
    Calls Tryz.prog 147 #[.int .u64 x] w fun r w' => ∃ v, r = .returned v ∧ rBytes.r (fun b => w.heap.size ≤ b ∧ b < w'.heap.size) w' [v] (varB x) ∧ Below w.heap.size w w' := by
  obtain ⟨i0, hi, hz0, hz1, hz2⟩ := info_parts info8
  go_enter Tryz.func147, Tryz.ntmps147
  go_wp2_with fail
  go_loopw [0, 3] (fun y o wr => ∃ (v : Nat) (J : List UInt8), y = .int .u64 v ∧ v < 18446744073709551616 ∧ wr.ownsRow w.heap.size 5 1 o J.length (byteCells J) ∧ Hid (varB x = J ++ varB v) ∧ Below w.heap.size w wr) (fun y _ _ => (intOf y).toNat)
  case atStart => exact ⟨x, [], rfl, hx, ⟨rfl, .inl ⟨rfl, rfl⟩⟩, hid rfl, Below.refl _ _⟩
  case round =>
    obtain ⟨v, J, rfl, hv, hown, hs, hb⟩ := hrel
    have hbs := hb.size
    have hJ : J.length ≤ 10 := by have h1 := varB_len x; rw [hs.out] at h1; simp at h1; omega
    obtain ⟨aJ, cJ, rfl⟩ := own_form hown
    have HO := hid hown
    clear hown
    by_cases h : v < 128
    · have d1 : decide ((128 : Int) ≤ (v : Int)) = false := by simp; omega
      have hfin : Hid (varB x = J ++ [UInt8.ofNat v]) := hid (by rw [hs.out, varB_small h])
      have hby : Hid ((v : Int) = ((UInt8.ofNat v).toNat : Int)) := hid (byte_small (by omega))
      go_wp2_with (at_builtin; go_loud (refine wpList_append_src rfl _ _ _ rfl w.heap.size 5 i0 (.int .u8 0) 1 1 Tryz.underlying25 hi hz0 hz1 hz2 rfl (by decide) (.slice aJ J.length cJ) J.length (byteCells J) rfl (own_below HO.out (by (repeat (first | exact Below.refl _ _ | assumption | (refine below_alloc ?_ _) | (refine Below.setCell ?_ (by first | omega | (simp; done) | (simp; omega)) _) | (refine Below.drew ?_) | (refine below_drewN ?_ _) | (refine below_then (by assumption) ?_))))) (some ⟨wr.heap.size, 0, none⟩) 1 1 [.int .u8 (v : Int)] rfl (src_new1 wr 5 _ rfl rfl rfl) (by intro u hu; simp at hu; subst hu; rfl) (by simp only [maxLen]; omega) (by omega) (by simp; omega) ?_; intro v' w1 hown1 hgrow1 hat1; have HG := hid hgrow1; have HO1 := hid hown1; clear hgrow1 hown1 hat1))
      have ho := HO1.out
      rw [hby.out, byteCells_snoc, ← hfin.out] at ho
      have hlen : J.length + 1 = (varB x).length := by rw [hfin.out]; simp
      have hV := own_bytes2 hlen ho
      have hB : Below w.heap.size w w1 := Below.grown (by (repeat (first | exact Below.refl _ _ | assumption | (refine below_alloc ?_ _) | (refine Below.setCell ?_ (by first | omega | (simp; done) | (simp; omega)) _) | (refine Below.drew ?_) | (refine below_drewN ?_ _) | (refine below_then (by assumption) ?_)))) HG.out (by simp; omega) (fun g e => (HO.out.lt g e).1)
      have HV := hid hV
      clear ho hlen hV
      go_wp2
      go_ret
      exact ⟨_, rfl, HV.out, hB⟩
    · have d1 : decide ((128 : Int) ≤ (v : Int)) = true := by simp; omega
      have hfin : Hid (varB x = (J ++ [UInt8.ofNat (128 + v % 128)]) ++ varB (v / 128)) := hid (by rw [hs.out, varB_step h (by omega)]; simp)
      have hor := or128b v
      generalize UInt8.ofNat (128 + v % 128) = bb at *
      go_wp2_with (at_builtin; go_loud (refine wpList_append_src rfl _ _ _ rfl w.heap.size 5 i0 (.int .u8 0) 1 1 Tryz.underlying25 hi hz0 hz1 hz2 rfl (by decide) (.slice aJ J.length cJ) J.length (byteCells J) rfl (own_below HO.out (by (repeat (first | exact Below.refl _ _ | assumption | (refine below_alloc ?_ _) | (refine Below.setCell ?_ (by first | omega | (simp; done) | (simp; omega)) _) | (refine Below.drew ?_) | (refine below_drewN ?_ _) | (refine below_then (by assumption) ?_))))) (some ⟨wr.heap.size, 0, none⟩) 1 1 [.int .u8 (bb.toNat : Int)] rfl (src_new1 wr 5 _ rfl rfl rfl) (by intro u hu; simp at hu; subst hu; rfl) (by simp only [maxLen]; omega) (by omega) (by simp; omega) ?_; intro v' w1 hown1 hgrow1 hat1; have HG := hid hgrow1; have HO1 := hid hown1; clear hgrow1 hown1 hat1))
      have ho := HO1.out
      rw [byteCells_snoc] at ho
      have hB : Below w.heap.size w w1 := Below.grown (by (repeat (first | exact Below.refl _ _ | assumption | (refine below_alloc ?_ _) | (refine Below.setCell ?_ (by first | omega | (simp; done) | (simp; omega)) _) | (refine Below.drew ?_) | (refine below_drewN ?_ _) | (refine below_then (by assumption) ?_)))) HG.out (by simp; omega) (fun g e => (HO.out.lt g e).1)
      have HO2 := hid ho
      clear ho HO1
      go_wp2_with fail
      go_roundw
      case rel => exact ⟨v / 128, J ++ [bb], by go_num, by omega, (by rw [List.length_append]; exact HO2.out), hfin, hB⟩
      case measure => simp [intOf]; omega

set_option maxRecDepth 100000 in
set_option maxHeartbeats 1600000 in
theorem ref04_bytes (x : Nat) : ∀ (hx : x < 18446744073709551616) (w : World),
    Calls Tryz.prog 104 #[.int .u64 x] w fun r w' => ∃ v, r = .returned v ∧ rBytes.r (fun b => w.heap.size ≤ b ∧ b < w'.heap.size) w' [v] (varB x) ∧ Below w.heap.size w w' := by
  induction x using Nat.strongRecOn with
  | ind x ih =>
  intro hx w
  obtain ⟨i0, hi, hz0, hz1, hz2⟩ := info_parts info8
  by_cases h : x < 128
  · have d1 : decide ((x : Int) < 128) = true := by simp; omega
    have hfin : Hid (varB x = [UInt8.ofNat x]) := hid (varB_small h)
    have hby : Hid ((x : Int) = ((UInt8.ofNat x).toNat : Int)) := hid (byte_small (by omega))
    have HIH := hid ih; clear ih
    go_enter Tryz.func104, Tryz.ntmps104
    go_wp2_with fail
    have e0 : [Value.int .u8 (x : Int)] = byteCells (varB x) := by rw [hfin.out, hby.out]; rfl
    have ho : (w.alloc (.cells #[.int .u8 (x : Int)] 5)).ownsRow w.heap.size 5 1 (.slice (some ⟨w.heap.size, 0, none⟩) 1 1) 1 (byteCells (varB x)) := e0 ▸ own_new1 (w := w.alloc (.cells #[.int .u8 (x : Int)] 5)) (base := w.heap.size) (e := 5) (Nat.le_refl _) (World.alloc_heap_new w _)
    have hV := own_bytes2 (l := varB x) (n := 1) (by rw [hfin.out]; rfl) ho
    have HV := hid hV
    clear ho e0 hV
    go_ret
    exact ⟨_, rfl, HV.out, by (repeat (first | exact Below.refl _ _ | assumption | (refine below_alloc ?_ _) | (refine Below.setCell ?_ (by first | omega | (simp; done) | (simp; omega)) _) | (refine Below.drew ?_) | (refine below_drewN ?_ _) | (refine below_then (by assumption) ?_)))⟩
  · have d1 : decide ((x : Int) < 128) = false := by simp; omega
    have HIH := hid (fun (W : World) => ih (x / 128) (by omega) (by omega) W)
    clear ih
    rw [show ((x / 128 : Nat) : Int) = (x : Int) / 128 by omega] at HIH
    have hfin : Hid (varB x = [UInt8.ofNat (128 + x % 128)] ++ varB (x / 128)) := hid (by rw [varB_step h (by omega)]; rfl)
    have hby : Hid (128 + (x : Int) % 128 = ((UInt8.ofNat (128 + x % 128)).toNat : Int)) := hid (by rw [← byte_small (by omega)]; omega)
    have hlb := varB_len (x / 128)
    go_enter Tryz.func104, Tryz.ntmps104
    go_wp2_with fail
    refine (HIH.out _).mono ?_
    rintro r w1 ⟨v1, rfl, hr1, hb1⟩
    have ho := own_new1 (w := w.alloc (.cells #[.int .u8 (128 + (x : Int) % 128)] 5)) (base := w.heap.size) (e := 5) (Nat.le_refl _) (World.alloc_heap_new w _)
    have ho1 := own_below ho hb1
    obtain ⟨a1, c1, hv1, hr2, _⟩ := sl_form hr1
    simp only [List.cons.injEq, and_true] at hv1
    subst hv1
    have hr3 := src_bytes (rBytes.mono hr2 (S' := (· < w1.heap.size)) fun b hb => hb.2)
    have HS := hid hr3; have HO := hid ho1; have HONE := hid (byteCells_one (varB (x / 128)))
    have hz1w : w.heap.size + 1 ≤ w1.heap.size := by have := hb1.size; simpa using this
    have hbw1 : Below w.heap.size w w1 := by (repeat (first | exact Below.refl _ _ | assumption | (refine below_alloc ?_ _) | (refine Below.setCell ?_ (by first | omega | (simp; done) | (simp; omega)) _) | (refine Below.drew ?_) | (refine below_drewN ?_ _) | (refine below_then (by assumption) ?_)))
    clear hr1 hr2 hr3 ho ho1
    go_wp2_with (at_builtin; go_loud (refine wpList_append_src rfl _ _ _ rfl w.heap.size 5 i0 (.int .u8 0) 1 1 Tryz.underlying25 hi hz0 hz1 hz2 rfl (by decide) (.slice (some ⟨w.heap.size, 0, none⟩) 1 1) 1 _ rfl HO.out a1 (varB (x / 128)).length c1 (byteCells (varB (x / 128))) rfl HS.out HONE.out (by simp only [maxLen]; omega) (by omega) (by omega) ?_; intro v' w2 hown2 hgrow2 hat2; have HG := hid hgrow2; have HO2 := hid hown2; clear hgrow2 hown2 hat2))
    have ho := HO2.out
    rw [hby.out, show [Value.int .u8 ((UInt8.ofNat (128 + x % 128)).toNat : Int)] = byteCells [UInt8.ofNat (128 + x % 128)] from rfl, byteCells, byteCells, ← List.map_append, ← hfin.out] at ho
    have hV := own_bytes2 (by rw [hfin.out]; simp; omega) ho
    have hB : Below w.heap.size w w2 := Below.grown hbw1 HG.out (by omega) (fun g e => (HO.out.lt g e).1)
    have HV := hid hV
    clear ho hV
    go_ret
    exact ⟨_, rfl, HV.out, hB⟩
end Go.Proofs.YtlbffbkbkajciaaGreat
namespace Go.Proofs.YtlbffbkbkajciaaGreat
open Go.RowKit Go.Bs Go.Maps
set_option linter.unusedVariables false
set_option linter.unusedSimpArgs false

/-- Block g is a good pen with a bound that has written J. -/
structure PenAt (w : World) (g base most : Nat) (J : List UInt8) (a : Option Addr) (c : Nat) : Prop where
  blk : Blk w g 87 #[.int .i64 most, .slice a J.length c, .int .i64 0]
  own : w.ownsRow base 5 1 (.slice a J.length c) J.length (byteCells J)
  ne : (Value.slice a J.length c).ownBlock ≠ some g
  lo : base ≤ g
  le : J.length ≤ most
  most : most ≤ 4611686018427387904
  len : J.length ≤ 100000000000000
def PenF (g : Nat) (a : Option Addr) (q : Nat) : Prop := q = g ∨ ∃ p, a = some p ∧ p.block = q
theorem own_slice {a : Option Addr} {n c : Nat} : (Value.slice a n c).ownBlock = a.map Addr.block := by cases a <;> rfl
/-- What writing leaves. -/
def PenStep (w : World) (g base most : Nat) (J' : List UInt8) (a : Option Addr) (w' : World) : Prop :=
  ∃ a' c', PenAt w' g base most J' a' c' ∧ Tch (PenF g a) w w' ∧ (a'.map Addr.block = a.map Addr.block ∨ ∃ q, a'.map Addr.block = some q ∧ w.heap.size ≤ q)
theorem PenStep.refl {w : World} {g base most : Nat} {J : List UInt8} {a : Option Addr} {c : Nat} (h : PenAt w g base most J a c) : PenStep w g base most J a w := ⟨a, c, h, Tch.refl _ _, .inl rfl⟩
theorem penF_is {g : Nat} {a : Option Addr} {q : Nat} : PenF g a q ↔ q = g ∨ a.map Addr.block = some q := by unfold PenF; simp
theorem PenStep.trans {w w1 w2 : World} {g base most : Nat} {J J' : List UInt8} {a a1 : Option Addr} (h1 : Tch (PenF g a) w w1) (h2 : a1.map Addr.block = a.map Addr.block ∨ ∃ q, a1.map Addr.block = some q ∧ w.heap.size ≤ q) (k : PenStep w1 g base most J' a1 w2) : PenStep w g base most J' a w2 := by
  obtain ⟨a2, c2, k1, k2, k3⟩ := k
  have hs := h1.size
  refine ⟨a2, c2, k1, h1.trans k2 fun q hq e => ?_, ?_⟩
  · rw [penF_is] at e ⊢
    rcases e with e | e
    · exact .inl e
    · rcases h2 with h2 | ⟨q', h2, h3⟩
      · exact .inr (h2 ▸ e)
      · rw [h2] at e; simp at e; omega
  · rcases k3 with k3 | ⟨q, k3, k4⟩
    · rcases h2 with h2 | ⟨q', h2, h3⟩
      · exact .inl (k3.trans h2)
      · exact .inr ⟨q', k3.trans h2, h3⟩
    · exact .inr ⟨q, k3, by omega⟩
theorem PenStep.later {w w1 w2 : World} {g base most : Nat} {J' : List UInt8} {a : Option Addr} (h : Below w.heap.size w w1) (k : PenStep w1 g base most J' a w2) : PenStep w g base most J' a w2 := PenStep.trans (J := J') (Tch.of_later h) (.inl rfl) k
theorem PenAt.later {w w1 : World} {g base most : Nat} {J : List UInt8} {a : Option Addr} {c : Nat} (h : PenAt w g base most J a c) (hb : Below w.heap.size w w1) : PenAt w1 g base most J a c :=
  ⟨h.blk.later hb, own_below h.own hb, h.ne, h.lo, h.le, h.most, h.len⟩
theorem PenAt.new (w : World) (most : Nat) (hm : most ≤ 4611686018427387904) : PenAt (w.alloc (.cells #[.int .i64 most, .slice none 0 0, .int .i64 0] 87)) w.heap.size w.heap.size most [] none 0 :=
  ⟨Blk.new w _ _, ⟨rfl, .inl ⟨rfl, rfl⟩⟩, by simp [Value.ownBlock], Nat.le_refl _, Nat.zero_le _, hm, Nat.zero_le _⟩

theorem pen_code (w : World) {g base most : Nat} {J : List UInt8} {a : Option Addr} {c : Nat} (h : PenAt w g base most J a c) :
    Calls Tryz.prog 79 #[.pointer (some ⟨g, 0, none⟩)] w fun r w' => r = .returned (.int .i64 0) ∧ w = w' := by
  have c2 : w.cell? ⟨g, 2, none⟩ = some (.int .i64 0) := h.blk.cell 2
  clear h
  go_enter Tryz.func79, Tryz.ntmps79
  go_wp2
  go_ret
  exact ⟨rfl, rfl⟩
theorem pen_room (w : World) {g base most : Nat} {J : List UInt8} {a : Option Addr} {c : Nat} (h : PenAt w g base most J a c) :
    Calls Tryz.prog 148 #[.pointer (some ⟨g, 0, none⟩)] w fun r w' => r = .returned (.int .i64 ((most : Int) - J.length)) ∧ Below w.heap.size w w' := by
  have C0 := fun s : Later w => s.cell (h.blk.cell 0)
  have C1 := fun s : Later w => s.cell (h.blk.cell 1)
  simp at C0 C1
  have hle := h.le; have hmo := h.most
  clear h
  go_enter Tryz.func148, Tryz.ntmps148
  go_wp2_with fail
  refine wp_region_later (by kernel_rfl) (by kernel_rfl) ?_
  repeat (go_big_quiet_step (fail))
  refine wpQuiet_nil ?_
  rintro W5 ⟨⟨W5', hb5⟩, rfl⟩
  go_wp2
  go_ret
  exact ⟨by first | rfl | simp, hb5⟩
theorem pen_new (w : World) (most : Nat) (hm : most ≤ 4611686018427387904) :
    Calls Tryz.prog 15 #[.int .i64 most] w fun r w' => r = .returned (.pointer (some ⟨w.heap.size, 0, none⟩)) ∧ PenAt w' w.heap.size w.heap.size most [] none 0 ∧ Below w.heap.size w w' := by
  have hN := hid (PenAt.new w most hm)
  have d1 : max (most : Int) 0 = most := by omega
  have d2 : (if (most : Int) < 0 then (0 : Int) else most) = most := by rw [if_neg (by omega)]
  go_enter Tryz.func15, Tryz.ntmps15
  go_wp2
  go_ret
  exact ⟨rfl, hN.out, by (repeat (first | exact Below.refl _ _ | assumption | (refine below_alloc ?_ _) | (refine Below.setCell ?_ (by first | omega | (simp; done) | (simp; omega)) _) | (refine Below.drew ?_) | (refine below_drewN ?_ _) | (refine below_then (by assumption) ?_)))⟩
end Go.Proofs.YtlbffbkbkajciaaGreat
