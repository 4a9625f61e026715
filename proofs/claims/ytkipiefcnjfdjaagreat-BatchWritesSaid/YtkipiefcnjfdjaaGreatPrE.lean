/- The chain of places: what it is, and what comes of one more place. -/
import Derived.Test.YtkipiefcnjfdjaaGreatPrD
import Derived.Test.YtkipiefcnjfdjaaGreatTch
import Derived.Maps.OwnOps
import Derived.Maps.Views
namespace Go.Proofs.YtkipiefcnjfdjaaGreat
open Go.RowKit Go.Bs Go.Maps
set_option linter.unusedVariables false
set_option linter.unusedSimpArgs false

def prevN (b : List UInt8) (j : Nat) : Nat := match keyAt b j with | some k => lastP b k j | none => 0
def prevs (b : List UInt8) (n : Nat) : List Value := (List.range n).map fun j => .int .i64 (prevN b j : Int)
theorem prevs_succ (b : List UInt8) (n : Nat) : prevs b (n + 1) = prevs b n ++ [.int .i64 (prevN b n : Int)] := by simp [prevs, List.range_succ]
theorem prevs_length (b : List UInt8) (n : Nat) : (prevs b n).length = n := by simp [prevs]
def LastsAt (D : DataW Unit) (b : List UInt8) (n : Nat) : Prop := ∀ k : Nat, k < 4294967296 → D.atKey (.int .u32 (k : Int)) (.lit (.int .i64 0)) = .lit (.int .i64 (lastP b k n : Int))
theorem u32_wf {k : Nat} (h : k < 4294967296) : (Lit.int .u32 (k : Int)).wf = true := by
  simp [Lit.wf, IntKind.min, IntKind.max, IntKind.signed, IntKind.bits]; omega
theorem keyAt_lt {b : List UInt8} {p k : Nat} (h : keyAt b p = some k) : k < 4294967296 := by
  by_cases hp : p + 4 ≤ b.length
  · rw [keyV_some hp] at h
    have h0 := b[p].toNat_lt; have h1 := b[p + 1].toNat_lt; have h2 := b[p + 2].toNat_lt; have h3 := b[p + 3].toNat_lt
    simp only [Option.some.injEq] at h
    omega
  · rw [keyV_none (by omega)] at h; cases h
theorem LastsAt.none {D : DataW Unit} {b : List UInt8} {n : Nat} (h : LastsAt D b n) (hk : keyAt b n = none) : LastsAt D b (n + 1) := fun k hlt => by
  rw [h k hlt]
  simp only [lastP]
  rw [hk, if_neg (by simp)]
theorem LastsAt.some {D : DataW Unit} {b : List UInt8} {n k : Nat} (h : LastsAt D b n) (hD : IsMap D) (hk : keyAt b n = some k) : LastsAt (D.put (.int .u32 (k : Int)) (.lit (.int .i64 ((n : Int) + 1)))) b (n + 1) := fun k' hlt => by
  by_cases e : k' = k
  · subst e
    rw [atKey_put_same hD (by trivial)]
    simp only [lastP]
    rw [if_pos hk]; simp
  · rw [atKey_put_other (by simp; omega), h k' hlt]
    simp only [lastP]
    rw [if_neg (by rw [hk]; simp; omega)]

/-- Block g is a chain of the bytes b to which n places were added. -/
structure ChAt (w : World) (g mb base : Nat) (b : List UInt8) (n : Nat) (ab : Option Addr) (cb : Nat) (ap : Option Addr) (cp : Nat) : Prop where
  blk : Blk w g 324 #[.slice ab b.length cb, .map (some mb), .slice ap n cp]
  bytes : rBytes.r (fun q => q < w.heap.size ∧ q ≠ g ∧ q ≠ mb ∧ (Value.slice ap n cp).ownBlock ≠ some q) w [.slice ab b.length cb] b
  map : ∃ D : DataW Unit, w.ownsMap Tryz.prog 216 (plainElem Tryz.prog 3) mb n D ∧ LastsAt D b n
  prev : w.ownsRow base 3 1 (.slice ap n cp) n (prevs b n)
  ne1 : g ≠ mb
  ne2 : (Value.slice ap n cp).ownBlock ≠ some g
  ne3 : (Value.slice ap n cp).ownBlock ≠ some mb
  lo : base ≤ g
  le : n ≤ b.length
  len : b.length ≤ 1048576
theorem infoInt : (Tryz.prog.info? 3).map (fun i => (i.zero, i.size, i.bytes)) = some (some (.int .i64 0), 1, 8) := by kernel_rfl
theorem zeroInt (w : World) : (zeroValue 3).run Tryz.prog w = .ok (.int .i64 0) w := by kernel_rfl
theorem lawU32 : Keyed Tryz.prog 216 := int_keyed Tryz.underlying216

theorem chain_added (w : World) {g mb base : Nat} {b : List UInt8} {n : Nat} {ab : Option Addr} {cb : Nat} {ap : Option Addr} {cp : Nat} (h : ChAt w g mb base b n ab cb ap cp) :
    Calls Tryz.prog 295 #[.pointer (some ⟨g, 0, none⟩)] w fun r w' => r = .returned (.int .i64 n) ∧ w = w' := by
  have c2 : w.cell? ⟨g, 2, none⟩ = some (.slice ap n cp) := h.blk.cell 2
  clear h
  go_enter Tryz.func295, Tryz.ntmps295
  go_wp2
  go_ret
  exact ⟨rfl, rfl⟩

/-- What an Add leaves. -/
def ChStep (w : World) (g mb base : Nat) (b : List UInt8) (n n' : Nat) (ab : Option Addr) (cb : Nat) (ap : Option Addr) (cp : Nat) (w' : World) : Prop :=
  ∃ ap' cp', ChAt w' g mb base b n' ab cb ap' cp' ∧ Tch (fun q => q = g ∨ q = mb ∨ (Value.slice ap n cp).ownBlock = some q) w w' ∧ ((Value.slice ap' n' cp').ownBlock = (Value.slice ap n cp).ownBlock ∨ ∃ q, (Value.slice ap' n' cp').ownBlock = some q ∧ w.heap.size ≤ q)
def AddPost (w : World) (g mb base : Nat) (b : List UInt8) (n : Nat) (ab : Option Addr) (cb : Nat) (ap : Option Addr) (cp : Nat) (r : Ending) (w' : World) : Prop := r = .returned (.bool true) ∧ ChStep w g mb base b n (n + 1) ab cb ap cp w'

theorem map_keep {w w' : World} {K : TypeId} {R : Value → Option (DataW Unit × List MemPlace)} {m n : Nat} {D : DataW Unit} (h : w.ownsMap Tryz.prog K R m n D) (e : w'.heap[m]? = w.heap[m]?) : w'.ownsMap Tryz.prog K R m n D := by
  obtain ⟨es, clock, hb, F, hs, hD⟩ := h
  exact ⟨es, clock, e.trans hb, F, hs, hD⟩
theorem own_keep {w w' : World} {base : Nat} {e : TypeId} {size : Nat} {v : Value} {n : Nat} {xs : List Value} (h : w.ownsRow base e size v n xs) (hv : ∀ g, v.ownBlock = some g → w'.heap[g]? = w.heap[g]?) : w'.ownsRow base e size v n xs := by
  refine ⟨h.1, ?_⟩
  rcases h.2 with h0 | ⟨g, cap, cur, h1, h2, h3, h4⟩
  · exact .inl h0
  · exact .inr ⟨g, cap, cur, h1, h2, by rw [hv g (by rw [h1]; rfl)]; exact h3, h4⟩
theorem ch_next {w w0 w1 : World} {g mb base : Nat} {b : List UInt8} {n : Nat} {ab : Option Addr} {cb : Nat} {ap : Option Addr} {cp : Nat} {a' : Option Addr} {c' : Nat} {o : Obj} (h : ChAt w g mb base b n ab cb ap cp) (hn : n < b.length) (h0 : Tch (fun q => q = mb) w w0)
    (hmap : ∃ D : DataW Unit, w0.ownsMap Tryz.prog 216 (plainElem Tryz.prog 3) mb (n + 1) D ∧ LastsAt D b (n + 1))
    (hown : w1.ownsRow base 3 1 (.slice a' (n + 1) c') (n + 1) (prevs b n ++ [.int .i64 (prevN b n : Int)])) (hgrow : (w0.alloc o).grownBy w1 (Value.slice ap n cp).ownBlock)
    (hat : (Value.slice a' (n + 1) c').ownBlock = (Value.slice ap n cp).ownBlock ∨ (Value.slice a' (n + 1) c').ownBlock = some (w0.alloc o).heap.size) :
    ChStep w g mb base b n (n + 1) ab cb ap cp (w1.setCell ⟨g, 2, none⟩ (.slice a' (n + 1) c')) := by
  have hg := h.blk.lt
  have hs0 := h0.size
  have hs1 : w0.heap.size + 1 ≤ w1.heap.size := by have := hgrow.size; simpa using this
  have hn2 : (Value.slice a' (n + 1) c').ownBlock ≠ some g := fun e => by
    rcases hat with h1 | h1
    · rw [h1] at e; exact h.ne2 e
    · rw [h1] at e; simp at e; omega
  have hmlt : mb < w0.heap.size := by obtain ⟨D, hD, _⟩ := hmap; exact hD.lt
  have keep : ∀ q, q < w0.heap.size → q ≠ g → (Value.slice ap n cp).ownBlock ≠ some q → (w1.setCell ⟨g, 2, none⟩ (.slice a' (n + 1) c')).heap[q]? = w0.heap[q]? := fun q hq h1 h2 =>
    (Below.heap_setCell w1 _ _ q h1).trans ((hgrow.block q (by simp; omega) (fun e => h2 e.symm)).trans (Below.heap_alloc w0 _ q hq))
  have hsz : (w1.setCell ⟨g, 2, none⟩ (.slice a' (n + 1) c')).heap.size = w1.heap.size := by simp [World.setCell]
  refine ⟨a', c', ⟨?_, ?_, ?_, ?_, h.ne1, hn2, fun e => ?_, h.lo, by omega, h.len⟩, ?_, ?_⟩
  · have B0 := h.blk.tch h0 h.ne1
    have B1 : Blk w1 g _ _ := (B0.alloc o).grown hgrow (fun e => h.ne2 e.symm)
    exact B1.set 2 _
  · refine rBytes.mono (rBytes.keep h.bytes fun q hq => (keep q (by omega) hq.2.1 hq.2.2.2).trans (h0.block q hq.1 hq.2.2.1)) fun q hq => ⟨by rw [hsz]; omega, hq.2.1, hq.2.2.1, fun e => ?_⟩
    rcases hat with h1 | h1
    · rw [h1] at e; exact hq.2.2.2 e
    · rw [h1] at e; simp at e; omega
  · obtain ⟨D, hD, hL⟩ := hmap
    exact ⟨D, map_keep hD (keep mb hmlt (Ne.symm h.ne1) h.ne3), hL⟩
  · rw [prevs_succ]
    exact own_keep hown fun q hq => Below.heap_setCell w1 _ _ q (fun e => hn2 (by rw [hq, e]))
  · rcases hat with h1 | h1
    · rw [h1] at e; exact h.ne3 e
    · rw [h1] at e; simp at e; omega
  · exact ⟨hgrow.os.trans h0.os, hgrow.tape.trans h0.tape, hgrow.output.trans h0.output, by rw [hsz]; omega, fun q hq hf => (keep q (by omega) (fun e => hf (.inl e)) (fun e => hf (.inr (.inr e)))).trans (h0.block q hq (fun e => hf (.inr (.inl e))))⟩
  · rcases hat with h1 | h1
    · exact .inl h1
    · exact .inr ⟨_, h1, by simp; omega⟩

set_option maxRecDepth 100000 in
set_option maxHeartbeats 1600000 in
theorem chain_add (w : World) {g mb base : Nat} {b : List UInt8} {n : Nat} {ab : Option Addr} {cb : Nat} {ap : Option Addr} {cp : Nat} (h : ChAt w g mb base b n ab cb ap cp) (hn : n < b.length) :
    Calls Tryz.prog 296 #[.pointer (some ⟨g, 0, none⟩)] w (AddPost w g mb base b n ab cb ap cp) := by
  have hbk := h.blk
  have c0 : w.cell? ⟨g, 0, none⟩ = some (.slice ab b.length cb) := h.blk.cell 0
  have c1 : w.cell? ⟨g, 1, none⟩ = some (.map (some mb)) := h.blk.cell 1
  have c2 : w.cell? ⟨g, 2, none⟩ = some (.slice ap n cp) := h.blk.cell 2
  have f2 := h.blk.free 2
  have hg := h.blk.lt
  obtain ⟨D, hmap, hD⟩ := h.map
  have hprev := h.prev
  obtain ⟨ne1, ne2, ne3⟩ : g ≠ mb ∧ (Value.slice ap n cp).ownBlock ≠ some g ∧ (Value.slice ap n cp).ownBlock ≠ some mb := ⟨h.ne1, h.ne2, h.ne3⟩
  have hlen := h.len
  have hlo := h.lo
  have hA := chain_added w h
  have hK := chain_key b n ab _ cb w (rBytes.mono h.bytes fun q hq => hq.1) h.len (by omega)
  obtain ⟨i0, hi, hz0, hz1, hz2⟩ := info_parts infoInt
  have HH := hid h; have HM := hid hmap; have HD := hid hD; have HP := hid hprev; have HB := hid hbk
  have HA := hid hA; have HKE := hid hK
  clear h hmap hD hprev hA hK hbk
  have hkv : Hid (keyV b n = match keyAt b n with | some k => ((k : Int), true) | none => (0, false)) := hid rfl
  have d1 : decide ((b.length : Int) ≤ (n : Int)) = false := by simp; omega
  have d1' : decide (b.length ≤ n) = false := by simp; omega
  cases hk : keyAt b n with
  | none =>
    have hv : keyV b n = (0, false) := by rw [hkv.out, hk]
    rw [hv] at HKE
    have hpn : prevN b n = 0 := by unfold prevN; rw [hk]
    have HK := hid hk; have HPN := hid hpn
    clear hk hv hkv hpn
    go_enter Tryz.func296, Tryz.ntmps296
    go_wp2_with fail
    refine HA.out.mono ?_
    rintro r w1 ⟨rfl, rfl⟩
    go_wp2_with fail
    refine HKE.out.mono ?_
    rintro r w1 ⟨rfl, rfl⟩
    go_wp2_with (at_builtin; go_loud (refine wpList_append_src rfl _ _ _ rfl base 3 i0 (.int .i64 0) 1 8 Tryz.underlying135 hi hz0 hz1 hz2 rfl (by decide) (.slice ap n cp) n _ rfl (HP.out.alloc _) (some ⟨w.heap.size, 0, none⟩) 1 1 [.int .i64 0] rfl (src_new1 w 3 _ rfl rfl rfl) (by intro u hu; simp at hu; subst hu; rfl) (by simp only [maxLen]; omega) (by omega) (by simp; omega) ?_; intro v' w1 hown1 hgrow1 hat1; obtain ⟨a', c', rfl⟩ := own_form hown1; have G := fun q (hq : q < w.heap.size) (hne : (Value.slice ap n cp).ownBlock ≠ some q) => (hgrow1.block q (by simp; omega) (fun e => hne e.symm)).trans (Below.heap_alloc w _ q hq); have hB := HB.out.later (Below.refl _ _); have g2 := (World.frozen?_of_block (a := ⟨g, 2, none⟩) (G g hg ne2)).trans f2; have e2 := (World.cell?_of_block (a := ⟨g, 2, none⟩) (G g hg ne2)).trans c2; have hz1 : g < w1.heap.size := Nat.lt_of_lt_of_le hg (Nat.le_trans (by simp) hgrow1.size); have HG := hid hgrow1; have HO := hid hown1; have HAT := hid hat1; have HGG := hid G; clear hgrow1 hown1 hat1 G hB))
    have hst := ch_next HH.out hn (Tch.refl _ w) (by
      obtain ⟨D, h1, h2⟩ := HH.out.map
      exact ⟨D, h1.mono (Nat.le_succ n), h2.none HK.out⟩) (by rw [HPN.out]; exact HO.out) HG.out HAT.out
    have HST := hid hst; clear hst
    go_ret
    exact ⟨rfl, HST.out⟩
  | some k =>
    have hv : keyV b n = ((k : Int), true) := by rw [hkv.out, hk]
    rw [hv] at HKE
    have hpn : prevN b n = lastP b k n := by unfold prevN; rw [hk]
    have hklt := keyAt_lt hk
    have HK := hid hk; have HPN := hid hpn
    have HW := hid (u32_wf hklt)
    clear hk hv hkv hpn hklt
    go_enter Tryz.func296, Tryz.ntmps296
    go_wp2_with fail
    refine HA.out.mono ?_
    rintro r w1 ⟨rfl, rfl⟩
    go_wp2_with fail
    refine HKE.out.mono ?_
    rintro r w1 ⟨rfl, rfl⟩
    have HWF : Hid ((Lit.int .i64 ((n : Int) + 1)).wf = true) := hid (by simp [Lit.wf, IntKind.min, IntKind.max, IntKind.signed, IntKind.bits]; omega)
    go_wp2_with (first
      | (at_lookup; go_loud (refine wpList_lookup_own_int _ rfl _ _ 322 rfl 216 3 .i64 lawU32 Tryz.underlying322 Tryz.underlying3 (zeroInt _) mb n D rfl HM.out _ _ rfl (keyOf_int_mk Tryz.underlying216 HW.out) ?_; intro c hat hwc; have hc : c = (lastP b k n : Int) := (by have := HD.out k (by have := HW.out; simp [Lit.wf, IntKind.max, IntKind.signed, IntKind.bits] at this; omega); rw [hat] at this; simpa using this); subst hc; clear hat hwc))
      | (at_mapUpdate; go_loud (refine wpList_mapUpdate_own _ rfl _ _ _ 322 rfl 216 3 lawU32 Tryz.underlying322 _ mb n _ rfl HM.out (by unfold maxLen; omega) _ _ _ rfl rfl (keyOf_int_mk Tryz.underlying216 HW.out) _ [] (plainElem_int Tryz.underlying3 HWF.out) ?_; intro w2 hown2 hgrow2; have hnm : some g ≠ some mb := fun e => ne1 (Option.some.inj e); have hg2 : g < w2.heap.size := Nat.lt_of_lt_of_le hg hgrow2.size; have c2b := (World.cell?_of_block (a := ⟨g, 2, none⟩) (hgrow2.block g hg hnm)).trans c2; have f2b := (World.frozen?_of_block (a := ⟨g, 2, none⟩) (hgrow2.block g hg hnm)).trans f2; have HP2 := hid (own_keep (w' := w2) HP.out fun q hq => hgrow2.block q (HP.out.lt q hq).2 (fun e => ne3 (hq.trans e))); have HG2 := hid hgrow2; have HM2 := hid hown2; clear hown2 hgrow2 hnm))
      | (at_builtin; go_loud (refine wpList_append_src rfl _ _ _ rfl base 3 i0 (.int .i64 0) 1 8 Tryz.underlying135 hi hz0 hz1 hz2 rfl (by decide) (.slice ap n cp) n _ rfl (HP2.out.alloc _) (some ⟨w2.heap.size, 0, none⟩) 1 1 [.int .i64 (lastP b k n : Int)] rfl (src_new1 w2 3 _ rfl rfl rfl) (by intro u hu; simp at hu; subst hu; rfl) (by simp only [maxLen]; omega) (by omega) (by simp; omega) ?_; intro v' w1 hown1 hgrow1 hat1; obtain ⟨a', c', rfl⟩ := own_form hown1; have G := fun q (hq : q < w2.heap.size) (hne : (Value.slice ap n cp).ownBlock ≠ some q) => (hgrow1.block q (by simp; omega) (fun e => hne e.symm)).trans (Below.heap_alloc w2 _ q hq); have g2 := (World.frozen?_of_block (a := ⟨g, 2, none⟩) (G g hg2 ne2)).trans f2b; have e2 := (World.cell?_of_block (a := ⟨g, 2, none⟩) (G g hg2 ne2)).trans c2b; have hz1 : g < w1.heap.size := Nat.lt_of_lt_of_le hg2 (Nat.le_trans (by simp) hgrow1.size); have HG := hid hgrow1; have HO := hid hown1; have HAT := hid hat1; have HGG := hid G; clear hgrow1 hown1 hat1 G)))
    have hst := ch_next HH.out hn ((Tch.of_grown HG2.out).mono fun q _ e => (Option.some.inj e).symm) ⟨_, HM2.out, HD.out.some HM.out.isMap HK.out⟩ (by rw [HPN.out]; exact HO.out) HG.out HAT.out
    have HST := hid hst; clear hst
    go_ret
    exact ⟨rfl, HST.out⟩
end Go.Proofs.YtkipiefcnjfdjaaGreat
