/- A run of literal bytes goes out. -/
-- KEEP ((try dsimp only); refine ⟨?_, ?_, ?_⟩ <;> (first | assumption | (go_keep; done)))
import Derived.Test.YtkipiefcnjfdjaaGreatStI
import Derived.Test.YtkipiefcnjfdjaaGreatPrJ
import Derived.Test.YtkipiefcnjfdjaaGreatGrow
import Derived.Test.YtkipiefcnjfdjaaGreatLast
namespace Go.Proofs.YtkipiefcnjfdjaaGreat
open Go.RowKit Go.Bs Go.Maps
set_option linter.unusedVariables false
set_option linter.unusedSimpArgs false

def rTok : Rp Tok := rBy (fun t => (t.lit, t.off, t.len)) (rPair rBytes (rPair (rInt .i64) (rInt .i64)))
def rToks : Rp (List Tok) := rSl 3 rTok
theorem i64_wf {n : Int} (h : -9223372036854775808 ≤ n ∧ n ≤ 9223372036854775807) : (Lit.int .i64 n).wf = true := by
  simp [Lit.wf, IntKind.min, IntKind.max, IntKind.signed, IntKind.bits]; omega
theorem tok_mk {S : Nat → Prop} {w : World} {x : Tok} {v : Value} (h : rBytes.r S w [v] x.lit) (h1 : -9223372036854775808 ≤ x.off ∧ x.off ≤ 9223372036854775807) (h2 : -9223372036854775808 ≤ x.len ∧ x.len ≤ 9223372036854775807) : rTok.r S w [v, .int .i64 x.off, .int .i64 x.len] x :=
  ⟨[_], [_, _], rfl, h, [_], [_], rfl, ⟨rfl, i64_wf h1⟩, rfl, i64_wf h2⟩
theorem infoTok : (Tryz.prog.info? 253).map (fun i => (i.zero, i.size, i.bytes)) = some (some (.agg #[.slice none 0 0, .int .i64 0, .int .i64 0]), 3, 40) := by kernel_rfl
theorem sl_drop {α : Type} {sz : Nat} {A : Rp α} {S : Nat → Prop} {w : World} {xs : List α} {b off : Nat} {n c k : Nat} (h : (rSl sz A).r S w [.slice (some ⟨b, off, none⟩) n c] xs) (hk : k ≤ xs.length) : (rSl sz A).r S w [.slice (some ⟨b, off + k * sz, none⟩) (n - k) (c - k)] (xs.drop k) := by
  obtain ⟨a', c', e, h1, h2, h3⟩ := h
  simp at e
  obtain ⟨rfl, rfl, rfl⟩ := e
  refine rSl_mk (a := some ⟨b, off + k * sz, none⟩) (c := c - k) (by simp) (by simp; omega) (by omega) ?_
  rcases h3 with rfl | ⟨b', off', e', hS, hr⟩
  · exact .inl (by simp)
  · simp at e'
    obtain ⟨rfl, rfl⟩ := e'
    refine .inr ⟨b, off + k * sz, rfl, hS, fun i x hi => ?_⟩
    rw [List.getElem?_drop] at hi
    obtain ⟨cs, h4, h5, h6⟩ := hr (k + i) x hi
    refine ⟨cs, h4, fun j v hj => ?_, h6⟩
    have := h5 j v hj
    rw [show off + k * sz + i * sz + j = off + (k + i) * sz + j by rw [Nat.add_mul]; omega]
    exact this
/-- What a run leaves. -/
def RunPost (w : World) (bo lo : Nat) (F : Nat → Prop) (v : Value) (L' : List Tok) (r : Ending) (w' : World) : Prop := r = .returned (.tuple #[]) ∧
  ∃ av' cv' cells', Blk w' bo 240 #[.slice av' L'.length cv'] ∧ OwnElsF (fun q => F q ∨ (w.heap.size ≤ q ∧ q < w'.heap.size)) rTok lo 253 3 w' (.slice av' L'.length cv') L' cells' ∧ Tch (fun q => q = bo ∨ v.ownBlock = some q) w w' ∧ ((Value.slice av' L'.length cv').ownBlock = v.ownBlock ∨ ∃ q, (Value.slice av' L'.length cv').ownBlock = some q ∧ w.heap.size ≤ q)

set_option maxRecDepth 100000 in
set_option maxHeartbeats 3200000 in
theorem press_run (w : World) {bf bo bb lo : Nat} {F : Nat → Prop} {b : List UInt8} {a : Option Addr} {c i to : Nat} {av : Option Addr} {cv : Nat} {L : List Tok} {cells : List (List Value)}
    (hf : Blk w bf 3 #[.int .i64 (i : Int)]) (ho : Blk w bo 240 #[.slice av L.length cv]) (hb : Blk w bb 28 #[.slice a b.length c]) (hl : rBytes.r (fun q => q < w.heap.size) w [.slice a b.length c] b)
    (hown : OwnElsF F rTok lo 253 3 w (.slice av L.length cv) L cells) (hF : ∀ q, F q → q < w.heap.size) (hFo : ¬ F bo) (hoo : (Value.slice av L.length cv).ownBlock ≠ some bo)
    (hne : bo ≠ bf ∧ bo ≠ bb ∧ (Value.slice av L.length cv).ownBlock ≠ some bf ∧ (Value.slice av L.length cv).ownBlock ≠ some bb) (hto : to ≤ b.length) (hlen : b.length ≤ 1048576) (hL : L.length ≤ 2097152) (hlo : lo ≤ w.heap.size) :
    Calls Tryz.prog 273 #[.int .i64 (to : Int), .pointer (some ⟨bf, 0, none⟩), .pointer (some ⟨bo, 0, none⟩), .pointer (some ⟨bb, 0, none⟩)] w (RunPost w bo lo F (.slice av L.length cv) (L ++ litT b i to)) := by
  have f0 : w.cell? ⟨bf, 0, none⟩ = some (.int .i64 (i : Int)) := hf.cell 0
  by_cases hit : i < to
  · have hlit : litT b i to = [⟨(b.drop i).take (to - i), 0, 0⟩] := by unfold litT; rw [if_pos hit]
    obtain ⟨ga, oa, hA, hga, _⟩ := byte_at hl (i := i) (by omega)
    subst hA
    obtain ⟨_, _, hlc, hcm⟩ := sl_len hl
    obtain ⟨i0, hi0, hz0, hz1, hz2⟩ := info_parts info8
    obtain ⟨j0, hj0, hy0, hy1, hy2⟩ := info_parts infoTok
    have o0 : w.cell? ⟨bo, 0, none⟩ = some (.slice av L.length cv) := ho.cell 0
    have b0 : w.cell? ⟨bb, 0, none⟩ = some (.slice (some ⟨ga, oa, none⟩) b.length c) := hb.cell 0
    have of := ho.free 0
    have lf := hf.lt; have lo' := ho.lt; have lb := hb.lt
    have hsub : Hid (rBytes.r (fun q => q < w.heap.size) w [.slice (some ⟨ga, oa + i, none⟩) (to - i) (c - i)] ((b.drop i).take (to - i))) := hid (by
      have h1 := sl_drop hl (k := i) (by omega)
      rw [Nat.mul_one] at h1
      exact sl_take h1 (by simp; omega))
    have hsl' : ((b.drop i).take (to - i)).length = to - i := by simp; omega
    generalize hD : (b.drop i).take (to - i) = D at *
    clear hD
    have HLIT := hid hlit; have HSL := hid hsl'
    have hds : Hid (to - i = D.length) := hid hsl'.symm
    have HS := hid (fun (W : World) (hW : Below w.heap.size w W) => src_bytes (l := D) (lift (w := w) (A := rBytes) (by have := hsub.out; rw [hds.out] at this; exact this) hW))
    have HONE := hid (byteCells_one D)
    have hsl : ∀ w' : World, (Instr.slice 28 (.slice (some ⟨ga, oa, none⟩) b.length c) (some (.int .i64 (i : Int))) (some (.int .i64 (to : Int))) none).run Tryz.prog w' = .ok (.slice (some ⟨ga, oa + i, none⟩) D.length (c - i)) w' := fun w' => by
      rw [← hds.out]
      have g1 : (0 : Int) ≤ (i : Int) := by omega
      have g2 : (i : Int) ≤ (to : Int) := by omega
      have g3 : (to : Int) ≤ (c : Int) := by omega
      have g4 : ¬ c = i := by omega
      go_simp
    have HF := hid hF; have HFO := hid hFo; have HOO := hid hoo; have HOWN := hid hown
    have HHO := hid ho
    have lenD : D.length ≤ 1048576 := by omega
    have g1 : (0 : Int) ≤ (i : Int) := by omega
    have g2 : (i : Int) ≤ (to : Int) := by omega
    have g3 : (to : Int) ≤ (c : Int) := by omega
    have g4 : (to : Int) ≤ (b.length : Int) := by omega
    have d1 : decide ((i : Int) < (to : Int)) = true := by simp; omega
    have d1' : decide (i < to) = true := by simp; omega
    obtain ⟨ne1, ne2, ne3, ne4⟩ := hne
    clear hF hFo hoo hown ho hb hl hf hlit hsl' hsub hds
    go_enter Tryz.func273, Tryz.ntmps273
    go_wp2_with fail
    refine wp_region_last_held (fun w' => w'.cell? ⟨bf, 0, none⟩ = some (.int .i64 (i : Int)) ∧ w'.cell? ⟨bo, 0, none⟩ = some (.slice av L.length cv) ∧ w'.cell? ⟨bb, 0, none⟩ = some (.slice (some ⟨ga, oa, none⟩) b.length c)) _ (by kernel_rfl) rfl (by kernel_rfl) ⟨f0, o0, b0⟩ (fun hHeld => ?_)
    simp only [noopLast, noopOf]
    refine wpAnyH_take (i := 0) (oi := _) (v := ?_) rfl (by decide +kernel) (by decide +kernel) (by decide +kernel) (fun _ _ _ h => h) (Or.inl ⟨by rfl, ?_⟩) (by assumption) ?_
    rotate_left
    · (intro w hSw; (try dsimp only at hSw); go_simp <;> with_reducible rfl)
    (try simp only [Act.put, List.setIfInBounds_toArray, List.set_cons_zero, List.set_cons_succ])
    refine wpAnyH_take (i := 2) (oi := _) (v := ?_) rfl (by decide +kernel) (by decide +kernel) (by decide +kernel) (fun _ _ _ h => h) (Or.inl ⟨by rfl, ?_⟩) (by assumption) ?_
    rotate_left
    · (intro w hSw; (try dsimp only at hSw); go_simp <;> with_reducible rfl)
    (try simp only [Act.put, List.setIfInBounds_toArray, List.set_cons_zero, List.set_cons_succ])
    refine wpAnyH_take (i := 3) (oi := _) (v := ?_) rfl (by decide +kernel) (by decide +kernel) (by decide +kernel) (fun _ _ _ h => h) (Or.inl ⟨by rfl, ?_⟩) (by assumption) ?_
    rotate_left
    · (intro w hSw; (try dsimp only at hSw); go_simp <;> with_reducible rfl)
    (try simp only [Act.put, List.setIfInBounds_toArray, List.set_cons_zero, List.set_cons_succ])
    refine wpAnyH_take (i := 4) (oi := _) (v := ?_) rfl (by decide +kernel) (by decide +kernel) (by decide +kernel) (fun _ _ _ h => h) (Or.inl ⟨by rfl, ?_⟩) (by assumption) ?_
    rotate_left
    · (intro w hSw; (try dsimp only at hSw); go_simp <;> with_reducible rfl)
    (try simp only [Act.put, List.setIfInBounds_toArray, List.set_cons_zero, List.set_cons_succ])
    refine wpAnyH_take (i := 5) (oi := _) (v := ?_) rfl (by decide +kernel) (by decide +kernel) (by decide +kernel) (fun _ _ _ h => h) (Or.inl ⟨by rfl, ?_⟩) (by assumption) ?_
    rotate_left
    · (intro w hSw; (try dsimp only at hSw); go_simp <;> with_reducible rfl)
    (try simp only [Act.put, List.setIfInBounds_toArray, List.set_cons_zero, List.set_cons_succ])
    refine wpAnyH_ready (rs := [1]) (by decide +kernel) (by simp) ?_
    refine AllReadyH.cons (o := _) rfl (fun K hK => ?_) AllReadyH.nil
    go_simp
    refine hK.out _ _ ?_ (fun hHeld => ?_)
    · ((try dsimp only); refine ⟨?_, ?_, ?_⟩ <;> (first | assumption | (go_keep; done)))
    clear hK K
    (try simp only [Act.put, List.setIfInBounds_toArray, List.set_cons_zero, List.set_cons_succ])
    refine wpAnyH_ready (rs := [6]) (by decide +kernel) (by simp) ?_
    refine AllReadyH.cons (o := _) rfl (fun K hK => ?_) AllReadyH.nil
    (refine step_append_src (by rfl) _ _ _ (by rfl) w.heap.size 5 i0 (.int .u8 0) 1 1 Tryz.underlying28 hi0 hz0 hz1 hz2 rfl (by decide) _ 0 [] (by rfl) (own_empty _ (by simp) (by rfl)) (some ⟨ga, oa + i, none⟩) D.length (c - i) (byteCells D) (by rfl) (HS.out _ (by (repeat (first | exact Below.refl _ _ | assumption | (refine below_alloc ?_ _) | (refine Below.setCell ?_ (by first | omega | (simp; done) | (simp; omega)) _) | (refine Below.drew ?_) | (refine below_drewN ?_ _) | (refine below_then (by assumption) ?_))))) HONE.out (by simp only [maxLen]; omega) (by omega) (by simp) ?_; intro a5 c5 w5 hown5 hgrow5 hat5; rw [Nat.zero_add] at hown5; have k5 : Below w.heap.size w w5 := Below.grown (by (repeat (first | exact Below.refl _ _ | assumption | (refine below_alloc ?_ _) | (refine Below.setCell ?_ (by first | omega | (simp; done) | (simp; omega)) _) | (refine Below.drew ?_) | (refine below_drewN ?_ _) | (refine below_then (by assumption) ?_)))) hgrow5 (by simp) (fun g e => by { have e' : some w.heap.size = some g := e; injection e' with e'; omega }); have e0 := (k5.cell (p := ⟨bf, 0, none⟩) lf).trans f0; have e1 := (k5.cell (p := ⟨bo, 0, none⟩) lo').trans o0; have e2 := (k5.cell (p := ⟨bb, 0, none⟩) lb).trans b0; have HK5 := hid k5; have HG5 := hid hgrow5; have HO5 := hid hown5; have HA5 := hid hat5; have hs5 : w.heap.size + 1 ≤ w5.heap.size := (by have := hgrow5.size; simpa using this); clear hown5 hgrow5 hat5 k5)
    refine hK.out _ _ ?_ (fun hHeld => ?_)
    · ((try dsimp only); refine ⟨?_, ?_, ?_⟩ <;> (first | assumption | (go_keep; done)))
    clear hK K
    (try simp only [Act.put, List.setIfInBounds_toArray, List.set_cons_zero, List.set_cons_succ])
    refine wpAnyH_take (i := 7) (oi := _) (v := ?_) rfl (by decide +kernel) (by decide +kernel) (by decide +kernel) (fun _ _ _ h => h) (Or.inl ⟨by rfl, ?_⟩) (by assumption) ?_
    rotate_left
    · (intro w hSw; (try dsimp only at hSw); go_simp <;> with_reducible rfl)
    (try simp only [Act.put, List.setIfInBounds_toArray, List.set_cons_zero, List.set_cons_succ])
    refine wpAnyH_ready (rs := [8]) (by decide +kernel) (by simp) ?_
    refine AllReadyH.cons (o := _) rfl (fun K hK => ?_) AllReadyH.nil
    go_simp
    refine hK.out _ _ ?_ (fun hHeld => ?_)
    · ((try dsimp only); refine ⟨?_, ?_, ?_⟩ <;> (first | assumption | (go_keep; done)))
    clear hK K
    (try simp only [Act.put, List.setIfInBounds_toArray, List.set_cons_zero, List.set_cons_succ])
    refine wpAnyH_ready (rs := [9]) (by decide +kernel) (by simp) ?_
    refine AllReadyH.cons (o := _) rfl (fun K hK => ?_) AllReadyH.nil
    (refine step_append_src (by rfl) _ _ _ (by rfl) lo 253 j0 (.agg #[.slice none 0 0, .int .i64 0, .int .i64 0]) 3 40 Tryz.underlying240 hj0 hy0 hy1 hy2 rfl (by decide) (.slice av L.length cv) L.length cells.flatten (by rfl) (own_below (own_below HOWN.out.1 HK5.out) (by (repeat (first | exact Below.refl _ _ | assumption | (refine below_alloc ?_ _) | (refine Below.setCell ?_ (by first | omega | (simp; done) | (simp; omega)) _) | (refine Below.drew ?_) | (refine below_drewN ?_ _) | (refine below_then (by assumption) ?_))))) (some ⟨w5.heap.size, 0, none⟩) 1 1 [.slice a5 D.length c5, .int .i64 0, .int .i64 0] (by rfl) (src_new1 w5 253 _ (by rfl) (by rfl) rfl) (by intro u hu; simp at hu; rcases hu with rfl | rfl | rfl <;> rfl) (by simp only [maxLen]; omega) (by omega) (by simp; omega) ?_; intro a8 c8 w8 hown8 hgrow8 hat8; have G := fun b' (hb : b' < w.heap.size) (hne : (Value.slice av L.length cv).ownBlock ≠ some b') => (hgrow8.block b' (by simp; omega) (fun e => hne e.symm)).trans ((Below.heap_alloc w5 _ b' (by omega)).trans (HK5.out.block b' hb)); have m1 := (World.cell?_of_block (a := ⟨bo, 0, none⟩) (G bo lo' HOO.out)).trans o0; have m2 := (World.frozen?_of_block (a := ⟨bo, 0, none⟩) (G bo lo' HOO.out)).trans of; have m4 := (World.cell?_of_block (a := ⟨bf, 0, none⟩) (G bf lf ne3)).trans f0; have m5 := (World.cell?_of_block (a := ⟨bb, 0, none⟩) (G bb lb ne4)).trans b0; have m3 : bo < w8.heap.size := Nat.lt_of_lt_of_le lo' (Nat.le_trans (by simp; omega) hgrow8.size); have HG8 := hid hgrow8; have HO8 := hid hown8; have HA8 := hid hat8; have HGG := hid G; clear hgrow8 hown8 hat8 G)
    refine hK.out _ _ ?_ (fun hHeld => ?_)
    · ((try dsimp only); refine ⟨?_, ?_, ?_⟩ <;> (first | assumption | (go_keep; done)))
    clear hK K
    (try simp only [Act.put, List.setIfInBounds_toArray, List.set_cons_zero, List.set_cons_succ])
    refine wpAnyH_take (i := 10) (oi := _) (v := ?_) rfl (by decide +kernel) (by decide +kernel) (by decide +kernel) (fun _ _ _ h => h) (Or.inl ⟨by rfl, ?_⟩) (by assumption) ?_
    rotate_left
    · (intro w hSw; (try dsimp only at hSw); go_simp <;> with_reducible rfl)
    (try simp only [Act.put, List.setIfInBounds_toArray, List.set_cons_zero, List.set_cons_succ])
    refine wpAnyH_done (by kernel_rfl) ?_ _
    show wpList _ _ _ _ _ _
    have hA := own_bytes2 rfl HO5.out
    have keepA : ∀ q, q < w5.heap.size → (w5.alloc (.cells #[.slice a5 D.length c5, .int .i64 0, .int .i64 0] 253)).heap[q]? = w5.heap[q]? := fun q hq => Below.heap_alloc w5 _ q hq
    have OF2 := (HOWN.out.keep (w' := w5.alloc (.cells #[.slice a5 D.length c5, .int .i64 0, .int .i64 0] 253)) (fun q hq => (keepA q (by have := HF.out q hq; omega)).trans (HK5.out.block q (HF.out q hq))) (fun q hq => by
      have h1 := (HOWN.out.1.lt q hq).2
      exact (keepA q (by omega)).trans (HK5.out.block q h1))).mono (F' := fun q => F q ∨ (w.heap.size ≤ q ∧ q < w5.heap.size)) (fun q h => .inl h)
    have hx : rTok.r (fun q => (F q ∨ (w.heap.size ≤ q ∧ q < w5.heap.size)) ∧ (Value.slice av L.length cv).ownBlock ≠ some q) (w5.alloc (.cells #[.slice a5 D.length c5, .int .i64 0, .int .i64 0] 253)) [.slice a5 D.length c5, .int .i64 0, .int .i64 0] ⟨D, 0, 0⟩ :=
      tok_mk (x := ⟨D, 0, 0⟩) (rBytes.mono (rBytes.keep hA fun q hq => keepA q hq.2) fun q hq => ⟨.inr hq, fun e => by have := (HOWN.out.1.lt q e).2; omega⟩) (by simp) (by simp)
    have OPU := OwnElsF.push OF2 (fun q hq => by rcases hq with h | h; · have := HF.out q h; simp; omega
                                                 · simp; omega) rfl hx HO8.out HG8.out HA8.out
    have hs8 := HG8.out.size
    have hoo' : (Value.slice a8 (L.length + 1) c8).ownBlock ≠ some bo := fun e => by
      rcases HA8.out with h | h
      · rw [h] at e; exact HOO.out e
      · rw [h] at e; simp at e; omega
    have hsz : (w8.setCell ⟨bo, 0, none⟩ (.slice a8 (L.length + 1) c8)).heap.size = w8.heap.size := by simp [World.setCell]
    have OP9 := (OPU.keep (w' := w8.setCell ⟨bo, 0, none⟩ (.slice a8 (L.length + 1) c8)) (fun q hq => Below.heap_setCell _ _ _ _ (fun e => by
      subst e
      rcases hq with h | h
      · exact HFO.out h
      · omega)) (fun q hq => Below.heap_setCell _ _ _ _ (fun e => hoo' (by rw [hq]; exact congrArg some e)))).mono (F' := fun q => F q ∨ (w.heap.size ≤ q ∧ q < (w8.setCell ⟨bo, 0, none⟩ (.slice a8 (L.length + 1) c8)).heap.size)) (fun q hq => by
        rw [hsz]
        rcases hq with h | h
        · exact .inl h
        · simp at hs8; exact .inr ⟨h.1, by omega⟩)
    have hB8 : Blk w8 bo 240 #[.slice av L.length cv] := (HGG.out bo lo' HOO.out).trans HHO.out
    have htch : Tch (fun q => q = bo ∨ (Value.slice av L.length cv).ownBlock = some q) w (w8.setCell ⟨bo, 0, none⟩ (.slice a8 (L.length + 1) c8)) :=
      Tch.setCell ⟨HG8.out.os.trans HK5.out.os, HG8.out.tape.trans HK5.out.tape, HG8.out.output.trans HK5.out.output, by simp at hs8; omega, fun q hq hf => HGG.out q hq (fun e => hf (.inr e))⟩ (fun _ => .inl rfl) _
    have hst : RunPost w bo lo F (.slice av L.length cv) (L ++ litT b i to) (.returned (.tuple #[])) (w8.setCell ⟨bo, 0, none⟩ (.slice a8 (L.length + 1) c8)) := by
      rw [HLIT.out]
      have hll : (L ++ [(⟨D, 0, 0⟩ : Tok)]).length = L.length + 1 := by simp
      refine ⟨rfl, a8, c8, cells ++ [[.slice a5 D.length c5, .int .i64 0, .int .i64 0]], ?_, ?_, htch, ?_⟩
      · rw [hll]; exact hB8.set 0 _
      · rw [hll]; exact OP9
      · rw [hll]
        rcases HA8.out with h | h
        · exact .inl h
        · exact .inr ⟨_, h, by simp; omega⟩
    have HST := hid hst
    clear hst htch OP9 OPU OF2 hx keepA hA hoo' hsz hB8
    go_wp2_with fail
    refine bodyPost_ret (results_none rfl _ _ _) rfl ?_
    exact HST.out
  · have hlit : litT b i to = [] := by unfold litT; rw [if_neg hit]
    have d1 : decide ((i : Int) < (to : Int)) = false := by simp; omega
    have d1' : decide (i < to) = false := by simp; omega
    have hst : RunPost w bo lo F (.slice av L.length cv) (L ++ litT b i to) (.returned (.tuple #[])) w := by
      rw [hlit, List.append_nil]
      exact ⟨rfl, av, cv, cells, ho, hown.mono fun q h => .inl h, Tch.refl _ _, .inl rfl⟩
    have HST := hid hst
    clear hst hlit hown ho hb hl hf hit
    go_enter Tryz.func273, Tryz.ntmps273
    go_wp2
    refine bodyPost_ret (results_none rfl _ _ _) rfl ?_
    exact HST.out
end Go.Proofs.YtkipiefcnjfdjaaGreat
