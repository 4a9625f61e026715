/- The seeker: the best match of a place, by the program. -/
import Derived.Test.YtkipiefcnjfdjaaGreatPrH
import Derived.StillTailTactics
namespace Go.Proofs.YtkipiefcnjfdjaaGreat
open Go.RowKit Go.Bs Go.Maps Go.Shelf
set_option linter.unusedVariables false
set_option linter.unusedSimpArgs false
attribute [local go_sem] Oper.semAt_some

/-- Block gs is a seeker of the bytes b. -/
structure SkAt (w : World) (gs g mb base lo hi : Nat) (b : List UInt8) (n : Nat) (sa : Option Addr) (sc : Nat) (ab : Option Addr) (cb : Nat) (ap : Option Addr) (cp : Nat) : Prop where
  blk : ∃ t : Int, Blk w gs 316 #[.slice sa b.length sc, .pointer (some ⟨g, 0, none⟩), .int .i64 t]
  bytes : rBytes.r (fun q => (lo ≤ q ∧ q < hi) ∧ q ≠ gs ∧ q ≠ g ∧ q ≠ mb ∧ (Value.slice ap n cp).ownBlock ≠ some q) w [.slice sa b.length sc] b
  ch : ChAt w g mb base b n ab cb ap cp
  bytes2 : rBytes.r (fun q => (lo ≤ q ∧ q < hi) ∧ q ≠ gs ∧ q ≠ g ∧ q ≠ mb ∧ (Value.slice ap n cp).ownBlock ≠ some q) w [.slice ab b.length cb] b
  ne1 : gs ≠ g
  ne2 : gs ≠ mb
  ne3 : (Value.slice ap n cp).ownBlock ≠ some gs
  top : hi ≤ w.heap.size
/-- What a Best leaves. -/
def SkStep (w : World) (gs g mb base lo hi : Nat) (b : List UInt8) (n n' : Nat) (sa : Option Addr) (sc : Nat) (ab : Option Addr) (cb : Nat) (ap : Option Addr) (cp : Nat) (w' : World) : Prop :=
  ∃ ap' cp', SkAt w' gs g mb base lo hi b n' sa sc ab cb ap' cp' ∧ Tch (fun q => q = gs ∨ q = g ∨ q = mb ∨ (Value.slice ap n cp).ownBlock = some q) w w' ∧ ((Value.slice ap' n' cp').ownBlock = (Value.slice ap n cp).ownBlock ∨ ∃ q, (Value.slice ap' n' cp').ownBlock = some q ∧ w.heap.size ≤ q)
def BestPost (w : World) (gs g mb base lo hi : Nat) (b : List UInt8) (n p : Nat) (sa : Option Addr) (sc : Nat) (ab : Option Addr) (cb : Nat) (ap : Option Addr) (cp : Nat) (r : Ending) (w' : World) : Prop :=
  r = .returned (.tuple #[.int .i64 ((bestR b p).1 : Int), .int .i64 ((bestR b p).2 : Int)]) ∧ SkStep w gs g mb base lo hi b n p sa sc ab cb ap cp w'

theorem ChAt.later {w w' : World} {g mb base : Nat} {b : List UInt8} {n : Nat} {ab : Option Addr} {cb : Nat} {ap : Option Addr} {cp : Nat} (h : ChAt w g mb base b n ab cb ap cp) (hb : Below w.heap.size w w') : ChAt w' g mb base b n ab cb ap cp := by
  have hs := hb.size
  obtain ⟨D, hD, hL⟩ := h.map
  exact ⟨h.blk.later hb, rBytes.mono (rBytes.keep h.bytes fun q hq => hb.block q hq.1) fun q hq => ⟨by omega, hq.2⟩, ⟨D, map_keep hD (hb.block _ hD.lt), hL⟩, own_keep h.prev fun q hq => hb.block q (h.prev.lt q hq).2, h.ne1, h.ne2, h.ne3, h.lo, h.le, h.len⟩
theorem SkAt.later {w w' : World} {gs g mb base lo hi : Nat} {b : List UInt8} {n : Nat} {sa : Option Addr} {sc : Nat} {ab : Option Addr} {cb : Nat} {ap : Option Addr} {cp : Nat} (h : SkAt w gs g mb base lo hi b n sa sc ab cb ap cp) (hb : Below w.heap.size w w') : SkAt w' gs g mb base lo hi b n sa sc ab cb ap cp := by
  have hs := hb.size
  obtain ⟨t, ht⟩ := h.blk
  exact ⟨⟨t, ht.later hb⟩, rBytes.keep h.bytes fun q hq => hb.block q (Nat.lt_of_lt_of_le hq.1.2 h.top), h.ch.later hb, rBytes.keep h.bytes2 fun q hq => hb.block q (Nat.lt_of_lt_of_le hq.1.2 h.top), h.ne1, h.ne2, h.ne3, Nat.le_trans h.top hs⟩
theorem sk_ch {w W0 w1 : World} {gs g mb base lo hi : Nat} {b : List UInt8} {n p : Nat} {sa : Option Addr} {sc : Nat} {ab : Option Addr} {cb : Nat} {ap : Option Addr} {cp : Nat} {a1 : Option Addr} {c1 : Nat} (h : SkAt w gs g mb base lo hi b n sa sc ab cb ap cp) (hb : Below w.heap.size w W0)
    (h1 : ChAt w1 g mb base b p ab cb a1 c1) (h2 : Tch (fun q => q = g ∨ q = mb ∨ (Value.slice ap n cp).ownBlock = some q) W0 w1) (h3 : (Value.slice a1 p c1).ownBlock = (Value.slice ap n cp).ownBlock ∨ ∃ q, (Value.slice a1 p c1).ownBlock = some q ∧ W0.heap.size ≤ q) :
    SkAt w1 gs g mb base lo hi b p sa sc ab cb a1 c1 ∧ Tch (fun q => q = gs ∨ q = g ∨ q = mb ∨ (Value.slice ap n cp).ownBlock = some q) w w1 ∧ ((Value.slice a1 p c1).ownBlock = (Value.slice ap n cp).ownBlock ∨ ∃ q, (Value.slice a1 p c1).ownBlock = some q ∧ w.heap.size ≤ q) := by
  have hs := hb.size
  have hs2 := h2.size
  obtain ⟨t, ht⟩ := h.blk
  have hn : ∀ q, q < w.heap.size → (Value.slice ap n cp).ownBlock ≠ some q → (Value.slice a1 p c1).ownBlock ≠ some q := fun q hq hne e => by
    rcases h3 with h3 | ⟨q', hq', hlt⟩
    · rw [h3] at e; exact hne e
    · rw [hq'] at e; have := Option.some.inj e; omega
  have keep : ∀ q, q < w.heap.size → q ≠ g → q ≠ mb → (Value.slice ap n cp).ownBlock ≠ some q → w1.heap[q]? = w.heap[q]? := fun q hq k1 k2 k3 =>
    (h2.block q (by omega) (fun e => by rcases e with e | e | e <;> contradiction)).trans (hb.block q hq)
  refine ⟨⟨⟨t, (keep gs ht.lt h.ne1 h.ne2 h.ne3).trans ht⟩, ?_, h1, ?_, h.ne1, h.ne2, hn gs ht.lt h.ne3, by have := h.top; omega⟩, ⟨h2.os.trans hb.os, h2.tape.trans hb.tape, h2.output.trans hb.output, by omega, fun q hq hf => keep q hq (fun e => hf (.inr (.inl e))) (fun e => hf (.inr (.inr (.inl e)))) (fun e => hf (.inr (.inr (.inr e))))⟩, ?_⟩
  · exact rBytes.mono (rBytes.keep h.bytes fun q hq => keep q (Nat.lt_of_lt_of_le hq.1.2 h.top) hq.2.2.1 hq.2.2.2.1 hq.2.2.2.2) fun q hq => ⟨hq.1, hq.2.1, hq.2.2.1, hq.2.2.2.1, hn q (Nat.lt_of_lt_of_le hq.1.2 h.top) hq.2.2.2.2⟩
  · exact rBytes.mono (rBytes.keep h.bytes2 fun q hq => keep q (Nat.lt_of_lt_of_le hq.1.2 h.top) hq.2.2.1 hq.2.2.2.1 hq.2.2.2.2) fun q hq => ⟨hq.1, hq.2.1, hq.2.2.1, hq.2.2.2.1, hn q (Nat.lt_of_lt_of_le hq.1.2 h.top) hq.2.2.2.2⟩
  · rcases h3 with h3 | ⟨q', hq', hlt⟩
    · exact .inl h3
    · exact .inr ⟨q', hq', by omega⟩

theorem SkAt.tch {F : Nat → Prop} {w w' : World} {gs g mb base lo hi : Nat} {b : List UInt8} {n : Nat} {sa : Option Addr} {sc : Nat} {ab : Option Addr} {cb : Nat} {ap : Option Addr} {cp : Nat} (h : SkAt w gs g mb base lo hi b n sa sc ab cb ap cp) (hT : Tch F w w') (h1 : ¬ F g) (h2 : ¬ F mb) (h3 : ∀ q, (Value.slice ap n cp).ownBlock = some q → ¬ F q) (h4 : ∀ q, lo ≤ q → q < hi → q ≠ gs → ¬ F q)
    (hb : ∃ t : Int, Blk w' gs 316 #[.slice sa b.length sc, .pointer (some ⟨g, 0, none⟩), .int .i64 t]) : SkAt w' gs g mb base lo hi b n sa sc ab cb ap cp := by
  have hs := hT.size
  have ht := h.top
  obtain ⟨D, hD, hL⟩ := h.ch.map
  exact ⟨hb, rBytes.keep h.bytes fun q hq => hT.block q (by omega) (h4 q hq.1.1 hq.1.2 hq.2.1), ⟨h.ch.blk.tch hT h1, rBytes.mono (rBytes.keep h.bytes2 fun q hq => hT.block q (by omega) (h4 q hq.1.1 hq.1.2 hq.2.1)) fun q hq => ⟨by omega, hq.2.2⟩, ⟨D, map_keep hD (hT.block _ hD.lt h2), hL⟩,
    own_keep h.ch.prev fun q hq => hT.block q (h.ch.prev.lt q hq).2 (h3 q hq), h.ch.ne1, h.ch.ne2, h.ch.ne3, h.ch.lo, h.ch.le, h.ch.len⟩, rBytes.keep h.bytes2 fun q hq => hT.block q (by omega) (h4 q hq.1.1 hq.1.2 hq.2.1), h.ne1, h.ne2, h.ne3, by omega⟩
theorem SkAt.turned {w w' : World} {gs g mb base lo hi : Nat} {b : List UInt8} {n : Nat} {sa : Option Addr} {sc : Nat} {ab : Option Addr} {cb : Nat} {ap : Option Addr} {cp : Nat} (h : SkAt w gs g mb base lo hi b n sa sc ab cb ap cp) (hT : Tch (fun q => q = gs) w w')
    (hb : ∃ t : Int, Blk w' gs 316 #[.slice sa b.length sc, .pointer (some ⟨g, 0, none⟩), .int .i64 t]) : SkAt w' gs g mb base lo hi b n sa sc ab cb ap cp :=
  h.tch hT (Ne.symm h.ne1) (Ne.symm h.ne2) (fun q hq e => h.ne3 (e ▸ hq)) (fun q _ _ h e => h e) hb

theorem chain_places (w : World) (g p : Nat) : Calls Tryz.prog 289 #[.pointer (some ⟨g, 0, none⟩), .int .i64 (p : Int)] w fun r w' =>
    r = .returned (.func (.func 297) #[] #[.pointer (some ⟨w.heap.size, 0, none⟩), .pointer (some ⟨w.heap.size + 1, 0, none⟩)]) ∧ w' = (w.alloc (.cells #[.pointer (some ⟨g, 0, none⟩)] 313)).alloc (.cells #[.int .i64 (p : Int)] 3) := by
  go_enter Tryz.func289, Tryz.ntmps289
  go_wp2
  go_ret
  exact ⟨rfl, rfl⟩

set_option maxRecDepth 100000 in
set_option maxHeartbeats 3200000 in
theorem seek_best (w : World) {gs g mb base lo hi : Nat} {b : List UInt8} {n p : Nat} {sa : Option Addr} {sc : Nat} {ab : Option Addr} {cb : Nat} {ap : Option Addr} {cp : Nat} (h : SkAt w gs g mb base lo hi b n sa sc ab cb ap cp) (hn : n ≤ p) (hp : p < b.length) :
    Calls Tryz.prog 275 #[.pointer (some ⟨gs, 0, none⟩), .int .i64 (p : Int)] w (BestPost w gs g mb base lo hi b n p sa sc ab cb ap cp) := by
  obtain ⟨t0, hblk⟩ := h.blk
  have hlen := h.ch.len
  have hgs := hblk.lt
  have c0 : w.cell? ⟨gs, 0, none⟩ = some (.slice sa b.length sc) := hblk.cell 0
  have c1 : w.cell? ⟨gs, 1, none⟩ = some (.pointer (some ⟨g, 0, none⟩)) := hblk.cell 1
  have e1 : min (p : Int) (b.length : Int) = (p : Int) := by omega
  have hpl : (p : Int) < (b.length : Int) := by omega
  have hfw : ∀ f, Fence.wide.fn f = True := fun _ => rfl
  have H := hid h; have HB := hid hblk
  clear h hblk
  refine (callsIn_wide (n := 5)).1 ?_
  refine callsIn_of_wp_marks Tryz.func275 rfl trivial ?_ rfl
  simp only [Tryz.ntmps275, List.size_toArray, List.length_cons, List.length_nil, Nat.reduceAdd, Nat.reduceSub, Array.replicate_succ, Array.replicate_zero, List.push_toArray, List.append_toArray, List.nil_append, List.cons_append]
  have hmx : Tryz.prog.follows .mixedOrders = true := by kernel_rfl
  refine wpIn_wide.2 ?_
  go_wp2
  refine wp_region_still_drew 11 (by kernel_rfl) (by kernel_rfl) ?_
  simp only [List.take_succ_cons, List.take_zero, List.drop_succ_cons, List.drop_zero]
  repeat still_step
  refine wpStill_nil ?_
  go_wp2_with fail
  refine (chain_addTo _ (H.out.ch.later (by (repeat (first | exact Below.refl _ _ | assumption | (refine below_alloc ?_ _) | (refine Below.setCell ?_ (by first | omega | (simp; done) | (simp; omega)) _) | (refine Below.drew ?_) | (refine below_drewN ?_ _) | (refine below_then (by assumption) ?_))))) p hn (by omega)).mono ?_
  rintro r w1 ⟨rfl, a1, c1', hch, htch, hown⟩
  obtain ⟨hsk, htw, howw⟩ := sk_ch H.out (by (repeat (first | exact Below.refl _ _ | assumption | (refine below_alloc ?_ _) | (refine Below.setCell ?_ (by first | omega | (simp; done) | (simp; omega)) _) | (refine Below.drew ?_) | (refine below_drewN ?_ _) | (refine below_then (by assumption) ?_)))) hch htch hown
  have z1 : w.heap.size + 1 < w1.heap.size := by have := htch.size; simp at this; omega
  have P0 : Blk w1 w.heap.size 301 #[.pointer (some ⟨gs, 0, none⟩)] := Blk.tch (by (repeat (first | assumption | exact Blk.newAt _ _ _ (by first | (simp; done) | (simp; omega)) | refine Blk.alloc ?_ _ | refine Blk.drew ?_ | refine Blk.drewN ?_ _ | refine Blk.far ?_ (by first | (simp; done) | (simp; omega)) _))) htch (fun e => by
    have h1 := H.out.ch.blk.lt
    obtain ⟨D, hD, _⟩ := H.out.ch.map
    have h2 := hD.lt
    rcases e with e | e | e
    · omega
    · omega
    · have := (H.out.ch.prev.lt _ e).2; omega)
  have P1 : Blk w1 (w.heap.size + 1) 3 #[.int .i64 (p : Int)] := Blk.tch (by (repeat (first | assumption | exact Blk.newAt _ _ _ (by first | (simp; done) | (simp; omega)) | refine Blk.alloc ?_ _ | refine Blk.drew ?_ | refine Blk.drewN ?_ _ | refine Blk.far ?_ (by first | (simp; done) | (simp; omega)) _))) htch (fun e => by
    have h1 := H.out.ch.blk.lt
    obtain ⟨D, hD, _⟩ := H.out.ch.map
    have h2 := hD.lt
    rcases e with e | e | e
    · omega
    · omega
    · have := (H.out.ch.prev.lt _ e).2; omega)
  have HSK := hid hsk; have HTW := hid htw; have HOW := hid howw; have HP0 := hid P0; have HP1 := hid P1
  clear hsk htw howw P0 P1 hch htch hown c0 c1
  go_wp2_with fail
  refine wp_world (fun W => Below w1.heap.size w1 W ∧ W.heap.size = w1.heap.size + 2 ∧ Blk W w1.heap.size 3 #[.int .i64 0] ∧ Blk W (w1.heap.size + 1) 3 #[.int .i64 0]) ⟨by (repeat (first | exact Below.refl _ _ | assumption | (refine below_alloc ?_ _) | (refine Below.setCell ?_ (by first | omega | (simp; done) | (simp; omega)) _) | (refine Below.drew ?_) | (refine below_drewN ?_ _) | (refine below_then (by assumption) ?_))), by simp, by (repeat (first | assumption | exact Blk.newAt _ _ _ (by first | (simp; done) | (simp; omega)) | refine Blk.alloc ?_ _ | refine Blk.drew ?_ | refine Blk.drewN ?_ _ | refine Blk.far ?_ (by first | (simp; done) | (simp; omega)) _)), by (repeat (first | assumption | exact Blk.newAt _ _ _ (by first | (simp; done) | (simp; omega)) | refine Blk.alloc ?_ _ | refine Blk.drew ?_ | refine Blk.drewN ?_ _ | refine Blk.far ?_ (by first | (simp; done) | (simp; omega)) _))⟩ ?_
  intro W ⟨hbW, hzW, Q0, Q1⟩
  have HZW := hid hzW; clear hzW
  have HSW := hid (HSK.out.later hbW)
  have HPW0 := hid (HP0.out.later hbW)
  have HPW1 := hid (HP1.out.later hbW)
  obtain ⟨t1, hb1⟩ := HSW.out.blk
  have c1 : W.cell? ⟨gs, 1, none⟩ = some (.pointer (some ⟨g, 0, none⟩)) := hb1.cell 1
  have c2 : W.cell? ⟨w.heap.size, 0, none⟩ = some (.pointer (some ⟨gs, 0, none⟩)) := HPW0.out.cell 0
  have c3 : W.cell? ⟨w.heap.size + 1, 0, none⟩ = some (.int .i64 (p : Int)) := HPW1.out.cell 0
  have HQ0 := hid Q0; have HQ1 := hid Q1
  clear hb1 Q0 Q1
  refine wp_region_still_drew 5 (by kernel_rfl) (by kernel_rfl) ?_
  simp only [List.take_succ_cons, List.take_zero, List.drop_succ_cons, List.drop_zero]
  repeat still_step
  refine wpStill_nil ?_
  go_wp2_with fail
  refine (chain_places _ g p).mono ?_
  rintro r w5 ⟨rfl, hw5⟩
  have hb5 : Below W.heap.size W w5 := by rw [hw5]; (repeat (first | exact Below.refl _ _ | assumption | (refine below_alloc ?_ _) | (refine Below.setCell ?_ (by first | omega | (simp; done) | (simp; omega)) _) | (refine Below.drew ?_) | (refine below_drewN ?_ _) | (refine below_then (by assumption) ?_)))
  have BC : Blk w5 W.heap.size 313 #[.pointer (some ⟨g, 0, none⟩)] := by rw [hw5]; exact Blk.alloc (Blk.newAt _ _ _ (by simp)) _
  have BA : Blk w5 (W.heap.size + 1) 3 #[.int .i64 (p : Int)] := by rw [hw5]; exact Blk.newAt _ _ _ (by simp)
  have hz5 : w5.heap.size = W.heap.size + 2 := by rw [hw5]; simp
  have HS5 := hid (HSW.out.later hb5)
  have HB5 := hid hb5; have HBC := hid BC; have HBA := hid BA
  clear hw5 hb5 BC BA
  go_wp2_with fail
  have hgs1 := HSK.out.blk.choose_spec.lt
  have hg1 := HSK.out.ch.blk.lt
  have htop := HSK.out.top
  have hm1 : mb < w1.heap.size := by obtain ⟨D, hD, _⟩ := HSK.out.ch.map; exact hD.lt
  have hz5' : w5.heap.size = w1.heap.size + 4 := by have := HZW.out; omega
  have HZ5 := hid hz5'; clear hz5 hz5'
  have hlt5 : w1.heap.size + 1 < w5.heap.size := by have := HZ5.out; omega
  have BO : Blk w5 w1.heap.size 3 #[.int .i64 0] := HQ0.out.later HB5.out
  have BN : Blk w5 (w1.heap.size + 1) 3 #[.int .i64 0] := HQ1.out.later HB5.out
  have P0 : Blk w5 w.heap.size 301 #[.pointer (some ⟨gs, 0, none⟩)] := HPW0.out.later HB5.out
  have P1 : Blk w5 (w.heap.size + 1) 3 #[.int .i64 (p : Int)] := HPW1.out.later HB5.out
  have hby := rBytes.keep HSK.out.bytes (w' := w5) fun q hq => (HB5.out.block q (by have := HZW.out; have := HSK.out.top; omega)).trans (hbW.block q (Nat.lt_of_lt_of_le hq.1.2 HSK.out.top))
  have HBY := hid hby; have HBO := hid BO; have HBN := hid BN; have HPP0 := hid P0; have HPP1 := hid P1
  clear BO BN P0 P1 hby c1 c2 c3
  have hgsz : gs < w.heap.size := hgs
  refine (wpIn_wide (n := 5)).1 ?_
  refine wpIn_rangeFunc_ownG rfl (by decide) (gf := 297) (lb := #[.pointer (some ⟨W.heap.size, 0, none⟩), .pointer (some ⟨W.heap.size + 1, 0, none⟩)]) rfl trivial (enters_of Tryz.func297 (by kernel_rfl) rfl)
    (places_stops w5 HS5.out.ch HBC.out HBA.out) (fun h k => h.trans k) ?hKb (Below.refl _ _) (fun _ => rfl)
    (fun pre V => (∃ t : Int, Blk V gs 316 #[.slice sa b.length sc, .pointer (some ⟨g, 0, none⟩), .int .i64 t]) ∧ Blk V w1.heap.size 3 #[.int .i64 ((bestL b p pre).1 : Int)] ∧ Blk V (w1.heap.size + 1) 3 #[.int .i64 ((bestL b p pre).2 : Int)] ∧ Tch (fun q => q = gs ∨ q = w1.heap.size ∨ q = w1.heap.size + 1) w5 V)
    (fun c pre V => c = .exit 0 ∧ p + (bestL b p pre).2 = b.length ∧ (∃ t : Int, Blk V gs 316 #[.slice sa b.length sc, .pointer (some ⟨g, 0, none⟩), .int .i64 t]) ∧ Blk V w1.heap.size 3 #[.int .i64 ((bestL b p pre).1 : Int)] ∧ Blk V (w1.heap.size + 1) 3 #[.int .i64 ((bestL b p pre).2 : Int)] ∧ Tch (fun q => q = gs ∨ q = w1.heap.size ∨ q = w1.heap.size + 1) w5 V)
    ?hI ?hIx ?h0
    (fun x => { tmps := #[.pointer (some ⟨gs, 0, none⟩), .int .i64 (p : Int), .pointer (some ⟨w.heap.size, 0, none⟩), .pointer (some ⟨w.heap.size + 1, 0, none⟩), .int .i64 0, .int .i64 0, .pointer (some ⟨w1.heap.size, 0, none⟩), .pointer (some ⟨w1.heap.size + 1, 0, none⟩), .int .i64 (x.val : Int), undef,
      .pointer (some ⟨gs, 0, none⟩), .bool false, .pointer (some ⟨gs, 0, none⟩), .pointer (some ⟨gs, 0, none⟩), .pointer (some ⟨gs, 1, none⟩), .pointer (some ⟨g, 0, none⟩), .int .i64 (p : Int), .pointer (some ⟨gs, 0, none⟩), .pointer (some ⟨gs, 0, none⟩), .pointer (some ⟨gs, 0, none⟩), .slice sa b.length sc, .int .i64 (b.length : Int), .int .i64 (p : Int), .int .i64 ((p : Int) - (n : Int)),
      .pointer (some ⟨gs, 0, none⟩), .pointer (some ⟨gs, 0, none⟩), .pointer (some ⟨gs, 1, none⟩), .pointer (some ⟨g, 0, none⟩), .int .i64 (p : Int), .func (.func 297) #[] #[.pointer (some ⟨W.heap.size, 0, none⟩), .pointer (some ⟨W.heap.size + 1, 0, none⟩)], .int .i64 (x.val : Int),
      undef, undef, undef, undef, undef, undef, undef, undef, undef, undef, undef, undef, undef, undef, undef, undef, undef, undef, undef, undef, undef, undef, undef, undef, undef, undef, undef, undef, undef, undef, undef, undef, undef, undef, undef, undef, undef], defers := [] }) ?assign ?body ?done ?stop
  case hKb =>
    intro V l o o' hl ho _ _ q hq
    refine World.putObj_heap_other ?_
    have := HZ5.out
    have hz := HZW.out
    have hs := HB5.out.size
    rcases hq with e | e | e | e | e
    · omega
    · omega
    · have := (HSK.out.ch.prev.lt _ e).2; omega
    · omega
    · omega
  case hI =>
    rintro pre X Y row ⟨⟨t, h1⟩, h2, h3, h4⟩ hg' hr
    have hne : ∀ q, q < w5.heap.size → Y.heap[q]? = X.heap[q]? := fun q hq => hg'.block q (Nat.lt_of_lt_of_le hq h4.size) (fun e => by have := (hr q e.symm).1; omega)
    exact ⟨⟨t, (hne gs (by omega)).trans h1⟩, (hne _ (by omega)).trans h2, (hne _ hlt5).trans h3, ⟨hg'.os.trans h4.os, hg'.tape.trans h4.tape, hg'.output.trans h4.output, Nat.le_trans h4.size hg'.size, fun q hq hf => (hne q hq).trans (h4.block q hq hf)⟩⟩
  case hIx =>
    rintro c pre X Y row ⟨hc, hl, ⟨t, h1⟩, h2, h3, h4⟩ hg' hr
    have hne : ∀ q, q < w5.heap.size → Y.heap[q]? = X.heap[q]? := fun q hq => hg'.block q (Nat.lt_of_lt_of_le hq h4.size) (fun e => by have := (hr q e.symm).1; omega)
    exact ⟨hc, hl, ⟨t, (hne gs (by omega)).trans h1⟩, (hne _ (by omega)).trans h2, (hne _ hlt5).trans h3, ⟨hg'.os.trans h4.os, hg'.tape.trans h4.tape, hg'.output.trans h4.output, Nat.le_trans h4.size hg'.size, fun q hq hf => (hne q hq).trans (h4.block q hq hf)⟩⟩
  case h0 => exact ⟨HS5.out.blk, HBO.out, HBN.out, Tch.refl _ _⟩
  case assign =>
    intro l x V K hK
    gi_wp2
    exact hK
  case body =>
    rintro l pre x V ⟨⟨t, hbg⟩, hbo, hbn, htc⟩ hN
    have hxp := x.isLt
    have nF : ∀ q, q < w5.heap.size → q ≠ gs → q ≠ w1.heap.size → q ≠ w1.heap.size + 1 → ¬ (q = gs ∨ q = w1.heap.size ∨ q = w1.heap.size + 1) := fun q _ h1 h2 h3 e => by rcases e with e | e | e <;> contradiction
    have V0 : Blk V w.heap.size 301 #[.pointer (some ⟨gs, 0, none⟩)] := HPP0.out.tch htc (nF _ (by omega) (by omega) (by omega) (by omega))
    have V1 : Blk V (w.heap.size + 1) 3 #[.int .i64 (p : Int)] := HPP1.out.tch htc (nF _ (by omega) (by omega) (by omega) (by omega))
    have k0 : V.cell? ⟨w.heap.size, 0, none⟩ = some (.pointer (some ⟨gs, 0, none⟩)) := V0.cell 0
    have k2 : V.cell? ⟨gs, 2, none⟩ = some (.int .i64 t) := hbg.cell 2
    have k3 := hbg.free 2
    have HBG := hid hbg; have HBO2 := hid hbo; have HBN2 := hid hbn; have HTC := hid htc; have HV0 := hid V0; have HV1 := hid V1
    clear hbg hbo hbn htc V0 V1
    have hV5 : w5.heap.size ≤ V.heap.size := HTC.out.size
    gi_wp2
    refine wpIn_world (fun U => Tch (fun q => q = gs) V U ∧ ∃ t' : Int, Blk U gs 316 #[.slice sa b.length sc, .pointer (some ⟨g, 0, none⟩), .int .i64 t']) ⟨Tch.setCell (F := fun q => q = gs) (Tch.refl _ _) (fun _ => rfl) _, _, HBG.out.set 2 _⟩ ?_
    intro U ⟨hU, t', hUg⟩
    have U0 := HV0.out.tch hU (by omega)
    have U1 := HV1.out.tch hU (by omega)
    have UO := HBO2.out.tch hU (by omega)
    have UN := HBN2.out.tch hU (by omega)
    have HM := hid (fun s : Later U => seek_match b (p : Int) ((p : Int) - (x.val : Int)) (by omega) (by omega) sa b.length sc s.at_ (rBytes.mono (rBytes.keep HBY.out fun q hq => (s.below.block q (by have := hU.size; omega)).trans ((hU.block q (by omega) hq.2.1).trans (HTC.out.block q (by omega) (nF q (by omega) hq.2.1 (by omega) (by omega))))) fun q hq => by have := hU.size; have := s.below.size; omega) hlen (by omega) (by omega))
    have et : ((p : Int) - (x.val : Int)).toNat = p - x.val := by omega
    rw [Int.toNat_natCast, et] at HM
    have i1 : (0 : Int) ≤ (p : Int) - (x.val : Int) := by omega
    have C0 := fun s : Later U => s.cell (show U.cell? ⟨w.heap.size, 0, none⟩ = some (.pointer (some ⟨gs, 0, none⟩)) from U0.cell 0)
    have C1 := fun s : Later U => s.cell (show U.cell? ⟨w.heap.size + 1, 0, none⟩ = some (.int .i64 (p : Int)) from U1.cell 0)
    have C2 := fun s : Later U => s.cell (show U.cell? ⟨gs, 0, none⟩ = some (.slice sa b.length sc) from hUg.cell 0)
    have hsn := bestL_snoc b p pre x
    have hsnb := bestL_bound b p (pre ++ [x])
    have hml := mlen_le b p (p - x.val)
    generalize hbl : bestL b p (pre ++ [x]) = s2 at *
    generalize hbl0 : bestL b p pre = s1 at *
    generalize hmm : mlen b p (p - x.val) = m at *
    have HSN := hid hsn; have HBL := hid hbl; have HBL0 := hid hbl0; have HMM := hid hmm
    have HUt := hid hU; have HUG := hid hUg; have HUO := hid UO; have HUN := hid UN; have HU0 := hid U0; have HU1 := hid U1
    clear hsn hbl hbl0 hmm et hU hUg UO UN U0 U1
    have hfr : ∀ f, (Fence.wide.inRound l).fn f = True := fun _ => rfl
    clear k0 k2 k3
    refine wpIn_region_rlater (by kernel_rfl) (by kernel_rfl) (by kernel_rfl) ?_
    repeat (gi_big_quiet_step (((exact laterIn_of (HM.out _)))))
    refine wpQuietIn_nil ?_
    rintro Y ⟨⟨Y', hY⟩, rfl⟩
    have Y0 := HU0.out.later hY
    have Y1 := HU1.out.later hY
    have YO := HUO.out.later hY
    have YN := HUN.out.later hY
    have YG := HUG.out.later hY
    have y1 : Y.cell? ⟨w.heap.size + 1, 0, none⟩ = some (.int .i64 (p : Int)) := Y1.cell 0
    have yo : Y.cell? ⟨w1.heap.size, 0, none⟩ = some (.int .i64 (s1.1 : Int)) := YO.cell 0
    have yn : Y.cell? ⟨w1.heap.size + 1, 0, none⟩ = some (.int .i64 (s1.2 : Int)) := YN.cell 0
    have fo := YO.free 0
    have fn := YN.free 0
    have HY0 := hid Y0; have HY1 := hid Y1; have HYO := hid YO; have HYN := hid YN; have HYG := hid YG
    have HYb := hid hY
    clear Y0 Y1 YO YN YG hY C0 C1 C2
    have hzz : w1.heap.size ≠ gs := by omega
    have hzz2 : w1.heap.size + 1 ≠ gs := by omega
    by_cases hgt : s1.2 < m
    · have b0 : decide ((s1.2 : Int) < (m : Int)) = true := by simp; omega
      have b0' : decide (s1.2 < m) = true := by simp; omega
      have hs2 : s2 = (p - x.val, m) := by
        rw [HSN.out]; unfold stepB; rw [HMM.out, if_pos hgt]
      have v1 : Hid ((s2.1 : Int) = (p : Int) - (x.val : Int)) := hid (by rw [hs2]; simp only; omega)
      have v2 : Hid ((s2.2 : Int) = (m : Int)) := hid (by rw [hs2])
      have HS2 := hid hs2; clear hs2 hgt
      gi_wp2
      refine wpIn_world (fun Z => Tch (fun q => q = gs ∨ q = w1.heap.size ∨ q = w1.heap.size + 1) V Z ∧ Blk Z gs 316 #[.slice sa b.length sc, .pointer (some ⟨g, 0, none⟩), .int .i64 t'] ∧ Blk Z w1.heap.size 3 #[.int .i64 (s2.1 : Int)] ∧ Blk Z (w1.heap.size + 1) 3 #[.int .i64 (s2.2 : Int)] ∧ Blk Z w.heap.size 301 #[.pointer (some ⟨gs, 0, none⟩)] ∧ Blk Z (w.heap.size + 1) 3 #[.int .i64 (p : Int)])
        ⟨(((HUt.out.mono (G := (fun q => q = gs ∨ q = w1.heap.size ∨ q = w1.heap.size + 1)) (fun q _ e => .inl e)).trans (Tch.of_later (F := (fun q => q = gs ∨ q = w1.heap.size ∨ q = w1.heap.size + 1)) HYb.out) fun _ _ h => h).setCell (fun _ => .inr (.inl rfl)) _).setCell (fun _ => .inr (.inr rfl)) _, (HYG.out.far (by dsimp only; omega) _).far (by dsimp only; omega) _, by rw [v1.out]; exact (HYO.out.set 0 _).far (by simp) _, by rw [v2.out]; exact (HYN.out.far (by simp) _).set 0 _, (HY0.out.far (by dsimp only; omega) _).far (by dsimp only; omega) _, (HY1.out.far (by dsimp only; omega) _).far (by dsimp only; omega) _⟩ ?_
      intro Z ⟨zt, zg, zo, zn, z0, z1⟩
      have D0 := fun s : Later Z => s.cell (show Z.cell? ⟨w.heap.size, 0, none⟩ = some (.pointer (some ⟨gs, 0, none⟩)) from z0.cell 0)
      have D1 := fun s : Later Z => s.cell (show Z.cell? ⟨w.heap.size + 1, 0, none⟩ = some (.int .i64 (p : Int)) from z1.cell 0)
      have D2 := fun s : Later Z => s.cell (show Z.cell? ⟨gs, 0, none⟩ = some (.slice sa b.length sc) from zg.cell 0)
      have D3 := fun s : Later Z => s.cell (show Z.cell? ⟨w1.heap.size + 1, 0, none⟩ = some (.int .i64 (s2.2 : Int)) from zn.cell 0)
      have HZT := hid zt; have HZG := hid zg; have HZO := hid zo; have HZN := hid zn
      clear zt zg zo zn z0 z1
      have i5 : (p : Int) + (s2.2 : Int) ≤ 2097152 := by omega
      by_cases heq : p + s2.2 = b.length
      · have b1 : ((p : Int) + (s2.2 : Int) == (b.length : Int)) = true := by simp; omega
        have HEQ := hid heq; clear heq
        refine wpIn_region_rlater (by kernel_rfl) (by kernel_rfl) (by kernel_rfl) ?_
        repeat (gi_big_quiet_step (fail))
        refine wpQuietIn_nil ?_
        rintro W6 ⟨⟨Z6, hZ6⟩, rfl⟩
        have ht6 := HZT.out.trans (Tch.of_later (F := fun q => q = gs ∨ q = w1.heap.size ∨ q = w1.heap.size + 1) hZ6) fun _ _ h => h
        have HT6 := hid ht6; clear ht6
        have HZ6 := hid hZ6; clear hZ6
        clear D0 D1 D2 D3
        gi_wp2
        exact ⟨keepsFrom_tch HT6.out fun q hq => by rcases hq with e | e | e <;> omega, rfl, by rw [HBL.out]; exact HEQ.out, ⟨t', HZG.out.later HZ6.out⟩, by rw [HBL.out]; exact HZO.out.later HZ6.out, by rw [HBL.out]; exact HZN.out.later HZ6.out, HTC.out.trans HT6.out fun _ _ h => h⟩
      · have b1 : ((p : Int) + (s2.2 : Int) == (b.length : Int)) = false := by simp; omega
        clear heq
        refine wpIn_region_rlater (by kernel_rfl) (by kernel_rfl) (by kernel_rfl) ?_
        repeat (gi_big_quiet_step (fail))
        refine wpQuietIn_nil ?_
        rintro W6 ⟨⟨Z6, hZ6⟩, rfl⟩
        have ht6 := HZT.out.trans (Tch.of_later (F := fun q => q = gs ∨ q = w1.heap.size ∨ q = w1.heap.size + 1) hZ6) fun _ _ h => h
        have HT6 := hid ht6; clear ht6
        have HZ6 := hid hZ6; clear hZ6
        clear D0 D1 D2 D3
        gi_wp2
        refine ⟨keepsFrom_tch HT6.out fun q hq => by rcases hq with e | e | e <;> omega, ?_, ⟨t', HZG.out.later HZ6.out⟩, by rw [HBL.out]; exact HZO.out.later HZ6.out, by rw [HBL.out]; exact HZN.out.later HZ6.out, HTC.out.trans HT6.out fun _ _ h => h⟩
        intro q hq
        have hg5 := HS5.out.ch
        have n1 := HSK.out.ne1
        have n2 := HSK.out.ne2
        have hzw := HZW.out
        have hz5 := HZ5.out
        rcases hq with e | e | e | e | e
        · exact HT6.out.block q (by omega) (nF q (by omega) (by omega) (by omega) (by omega))
        · exact HT6.out.block q (by omega) (nF q (by omega) (by omega) (by omega) (by omega))
        · have h6 := (HSK.out.ch.prev.lt _ e).2
          exact HT6.out.block q (by omega) (nF q (by omega) (fun e' => HSK.out.ne3 (e' ▸ e)) (by omega) (by omega))
        · exact HT6.out.block q (by omega) (nF q (by omega) (by omega) (by omega) (by omega))
        · exact HT6.out.block q (by omega) (nF q (by omega) (by omega) (by omega) (by omega))
    · have b0 : decide ((s1.2 : Int) < (m : Int)) = false := by simp; omega
      have b0' : decide (s1.2 < m) = false := by simp; omega
      have hs2 : s2 = s1 := by
        rw [HSN.out]; unfold stepB; rw [HMM.out, if_neg hgt]
      have HS2 := hid hs2; clear hs2 hgt
      gi_wp2
      refine wpIn_world (fun Z => Tch (fun q => q = gs ∨ q = w1.heap.size ∨ q = w1.heap.size + 1) V Z ∧ Blk Z gs 316 #[.slice sa b.length sc, .pointer (some ⟨g, 0, none⟩), .int .i64 t'] ∧ Blk Z w1.heap.size 3 #[.int .i64 (s2.1 : Int)] ∧ Blk Z (w1.heap.size + 1) 3 #[.int .i64 (s2.2 : Int)] ∧ Blk Z w.heap.size 301 #[.pointer (some ⟨gs, 0, none⟩)] ∧ Blk Z (w.heap.size + 1) 3 #[.int .i64 (p : Int)])
        ⟨((HUt.out.mono (G := (fun q => q = gs ∨ q = w1.heap.size ∨ q = w1.heap.size + 1)) (fun q _ e => .inl e)).trans (Tch.of_later (F := (fun q => q = gs ∨ q = w1.heap.size ∨ q = w1.heap.size + 1)) HYb.out) fun _ _ h => h), HYG.out, by rw [HS2.out]; exact HYO.out, by rw [HS2.out]; exact HYN.out, HY0.out, HY1.out⟩ ?_
      intro Z ⟨zt, zg, zo, zn, z0, z1⟩
      have D0 := fun s : Later Z => s.cell (show Z.cell? ⟨w.heap.size, 0, none⟩ = some (.pointer (some ⟨gs, 0, none⟩)) from z0.cell 0)
      have D1 := fun s : Later Z => s.cell (show Z.cell? ⟨w.heap.size + 1, 0, none⟩ = some (.int .i64 (p : Int)) from z1.cell 0)
      have D2 := fun s : Later Z => s.cell (show Z.cell? ⟨gs, 0, none⟩ = some (.slice sa b.length sc) from zg.cell 0)
      have D3 := fun s : Later Z => s.cell (show Z.cell? ⟨w1.heap.size + 1, 0, none⟩ = some (.int .i64 (s2.2 : Int)) from zn.cell 0)
      have HZT := hid zt; have HZG := hid zg; have HZO := hid zo; have HZN := hid zn
      clear zt zg zo zn z0 z1
      have i5 : (p : Int) + (s2.2 : Int) ≤ 2097152 := by omega
      by_cases heq : p + s2.2 = b.length
      · have b1 : ((p : Int) + (s2.2 : Int) == (b.length : Int)) = true := by simp; omega
        have HEQ := hid heq; clear heq
        refine wpIn_region_rlater (by kernel_rfl) (by kernel_rfl) (by kernel_rfl) ?_
        repeat (gi_big_quiet_step (fail))
        refine wpQuietIn_nil ?_
        rintro W6 ⟨⟨Z6, hZ6⟩, rfl⟩
        have ht6 := HZT.out.trans (Tch.of_later (F := fun q => q = gs ∨ q = w1.heap.size ∨ q = w1.heap.size + 1) hZ6) fun _ _ h => h
        have HT6 := hid ht6; clear ht6
        have HZ6 := hid hZ6; clear hZ6
        clear D0 D1 D2 D3
        gi_wp2
        exact ⟨keepsFrom_tch HT6.out fun q hq => by rcases hq with e | e | e <;> omega, rfl, by rw [HBL.out]; exact HEQ.out, ⟨t', HZG.out.later HZ6.out⟩, by rw [HBL.out]; exact HZO.out.later HZ6.out, by rw [HBL.out]; exact HZN.out.later HZ6.out, HTC.out.trans HT6.out fun _ _ h => h⟩
      · have b1 : ((p : Int) + (s2.2 : Int) == (b.length : Int)) = false := by simp; omega
        clear heq
        refine wpIn_region_rlater (by kernel_rfl) (by kernel_rfl) (by kernel_rfl) ?_
        repeat (gi_big_quiet_step (fail))
        refine wpQuietIn_nil ?_
        rintro W6 ⟨⟨Z6, hZ6⟩, rfl⟩
        have ht6 := HZT.out.trans (Tch.of_later (F := fun q => q = gs ∨ q = w1.heap.size ∨ q = w1.heap.size + 1) hZ6) fun _ _ h => h
        have HT6 := hid ht6; clear ht6
        have HZ6 := hid hZ6; clear hZ6
        clear D0 D1 D2 D3
        gi_wp2
        refine ⟨keepsFrom_tch HT6.out fun q hq => by rcases hq with e | e | e <;> omega, ?_, ⟨t', HZG.out.later HZ6.out⟩, by rw [HBL.out]; exact HZO.out.later HZ6.out, by rw [HBL.out]; exact HZN.out.later HZ6.out, HTC.out.trans HT6.out fun _ _ h => h⟩
        intro q hq
        have hg5 := HS5.out.ch
        have n1 := HSK.out.ne1
        have n2 := HSK.out.ne2
        have hzw := HZW.out
        have hz5 := HZ5.out
        rcases hq with e | e | e | e | e
        · exact HT6.out.block q (by omega) (nF q (by omega) (by omega) (by omega) (by omega))
        · exact HT6.out.block q (by omega) (nF q (by omega) (by omega) (by omega) (by omega))
        · have h6 := (HSK.out.ch.prev.lt _ e).2
          exact HT6.out.block q (by omega) (nF q (by omega) (fun e' => HSK.out.ne3 (e' ▸ e)) (by omega) (by omega))
        · exact HT6.out.block q (by omega) (nF q (by omega) (by omega) (by omega) (by omega))
        · exact HT6.out.block q (by omega) (nF q (by omega) (by omega) (by omega) (by omega))
  case done =>
    rintro D ys V hD hys ⟨hg', h2, h3, h4⟩ hK
    subst hys
    have hbd := best_done b p
    have hbb := bestL_bound b p (placesOf b p)
    generalize hs1 : bestL b p (placesOf b p) = s1 at *
    have k1 : V.cell? ⟨w1.heap.size, 0, none⟩ = some (.int .i64 (s1.1 : Int)) := h2.cell 0
    have k2 : V.cell? ⟨w1.heap.size + 1, 0, none⟩ = some (.int .i64 (s1.2 : Int)) := h3.cell 0
    have HBD := hid hbd; have HG' := hid hg'; have HT4 := hid h4; have HKK := hid hK
    clear hbd hs1 hg' h2 h3 h4 hK
    go_wp2_with fail
    refine (seek_taken _ _ _).mono ?_
    rintro r w9 ⟨rfl, rfl⟩
    have hif : ∃ v1 v2 : Nat, bestR b p = (v1, v2) ∧ (if (s1.2 : Int) < 4 then (0 : Int) else (s1.1 : Int)) = (v1 : Int) ∧ (if (s1.2 : Int) < 4 then (0 : Int) else (s1.2 : Int)) = (v2 : Int) := by
      by_cases h4 : s1.2 < 4
      · exact ⟨0, 0, by rw [← HBD.out]; unfold takenR; rw [if_pos h4, if_pos h4], by rw [if_pos (by omega)]; rfl, by rw [if_pos (by omega)]; rfl⟩
      · exact ⟨s1.1, s1.2, by rw [← HBD.out]; unfold takenR; rw [if_neg h4, if_neg h4], by rw [if_neg (by omega)], by rw [if_neg (by omega)]⟩
    obtain ⟨v1, v2, hv, hv1, hv2⟩ := hif
    rw [hv1, hv2]
    have HV := hid hv; clear hv hv1 hv2
    go_wp2
    refine ⟨by simp, .inl ⟨_, _, rfl, run_takeDeferred HKK.out, ?_⟩⟩
    have hTf : Tch (fun q => q = gs) w1 (V.putObj D (.deferred none)) := by
      have hg8 := grownBy_putObj' V D (.deferred none)
      have e5 := HB5.out
      have ez := HZW.out
      have ez5 := HZ5.out
      have hsz4 := HT4.out.size
      refine ⟨hg8.os.trans (HT4.out.os.trans (e5.os.trans hbW.os)), hg8.tape.trans (HT4.out.tape.trans (e5.tape.trans hbW.tape)), hg8.output.trans (HT4.out.output.trans (e5.output.trans hbW.output)), by have := hg8.size; omega, fun q hq hne => ?_⟩
      exact (hg8.block q (by omega) (fun e => by have := Option.some.inj e; omega)).trans ((HT4.out.block q (by omega) (fun e => by rcases e with e | e | e <;> omega)).trans ((e5.block q (by omega)).trans (hbW.block q hq)))
    have hsf : SkAt (V.putObj D (.deferred none)) gs g mb base lo hi b p sa sc ab cb a1 c1' := HSK.out.turned hTf (by
      obtain ⟨t, ht⟩ := HG'.out
      exact ⟨t, (World.putObj_heap_other (by have := HZ5.out; omega)).trans ht⟩)
    have hstep : SkStep w gs g mb base lo hi b n p sa sc ab cb ap cp (V.putObj D (.deferred none)) := ⟨a1, c1', hsf, HTW.out.trans hTf (fun q _ e => .inl e), HOW.out⟩
    have HST := hid hstep; clear hstep hsf hTf
    refine ⟨.tuple #[.int .i64 ((bestR b p).1 : Int), .int .i64 ((bestR b p).2 : Int)], ?_, rfl, HST.out⟩
    rw [HV.out]
    simp [results, Tryz.f275, go_sem]
  case stop =>
    rintro D c pre V hD hpre ⟨hc, hl, hg', h2, h3, h4⟩ hK
    subst hc
    have hbd := best_stop hpre hp hl
    have hbb := bestL_bound b p pre
    generalize hs1 : bestL b p pre = s1 at *
    have k1 : V.cell? ⟨w1.heap.size, 0, none⟩ = some (.int .i64 (s1.1 : Int)) := h2.cell 0
    have k2 : V.cell? ⟨w1.heap.size + 1, 0, none⟩ = some (.int .i64 (s1.2 : Int)) := h3.cell 0
    have HBD := hid hbd; have HG' := hid hg'; have HT4 := hid h4; have HKK := hid hK
    clear hbd hs1 hg' h2 h3 h4 hK hl
    refine wpIn_wide.2 ?_
    go_wp2_with fail
    refine (seek_taken _ _ _).mono ?_
    rintro r w9 ⟨rfl, rfl⟩
    have hif : ∃ v1 v2 : Nat, bestR b p = (v1, v2) ∧ (if (s1.2 : Int) < 4 then (0 : Int) else (s1.1 : Int)) = (v1 : Int) ∧ (if (s1.2 : Int) < 4 then (0 : Int) else (s1.2 : Int)) = (v2 : Int) := by
      by_cases h4 : s1.2 < 4
      · exact ⟨0, 0, by rw [← HBD.out]; unfold takenR; rw [if_pos h4, if_pos h4], by rw [if_pos (by omega)]; rfl, by rw [if_pos (by omega)]; rfl⟩
      · exact ⟨s1.1, s1.2, by rw [← HBD.out]; unfold takenR; rw [if_neg h4, if_neg h4], by rw [if_neg (by omega)], by rw [if_neg (by omega)]⟩
    obtain ⟨v1, v2, hv, hv1, hv2⟩ := hif
    rw [hv1, hv2]
    have HV := hid hv; clear hv hv1 hv2
    go_wp2
    refine ⟨by simp, .inl ⟨_, _, rfl, run_takeDeferred HKK.out, ?_⟩⟩
    have hTf : Tch (fun q => q = gs) w1 (V.putObj D (.deferred none)) := by
      have hg8 := grownBy_putObj' V D (.deferred none)
      have e5 := HB5.out
      have ez := HZW.out
      have ez5 := HZ5.out
      have hsz4 := HT4.out.size
      refine ⟨hg8.os.trans (HT4.out.os.trans (e5.os.trans hbW.os)), hg8.tape.trans (HT4.out.tape.trans (e5.tape.trans hbW.tape)), hg8.output.trans (HT4.out.output.trans (e5.output.trans hbW.output)), by have := hg8.size; omega, fun q hq hne => ?_⟩
      exact (hg8.block q (by omega) (fun e => by have := Option.some.inj e; omega)).trans ((HT4.out.block q (by omega) (fun e => by rcases e with e | e | e <;> omega)).trans ((e5.block q (by omega)).trans (hbW.block q hq)))
    have hsf : SkAt (V.putObj D (.deferred none)) gs g mb base lo hi b p sa sc ab cb a1 c1' := HSK.out.turned hTf (by
      obtain ⟨t, ht⟩ := HG'.out
      exact ⟨t, (World.putObj_heap_other (by have := HZ5.out; omega)).trans ht⟩)
    have hstep : SkStep w gs g mb base lo hi b n p sa sc ab cb ap cp (V.putObj D (.deferred none)) := ⟨a1, c1', hsf, HTW.out.trans hTf (fun q _ e => .inl e), HOW.out⟩
    have HST := hid hstep; clear hstep hsf hTf
    refine ⟨.tuple #[.int .i64 ((bestR b p).1 : Int), .int .i64 ((bestR b p).2 : Int)], ?_, rfl, HST.out⟩
    rw [HV.out]
    simp [results, Tryz.f275, go_sem]
end Go.Proofs.YtkipiefcnjfdjaaGreat
