/- Needed by segmentWrites_walk, part 3: texts put together by shake.py; no condition. -/
import Derived.Test.YtkipiefcnjfdjaaGreatF5
import Derived.Test.YtkipiefcnjfdjaaGreatE2
import Derived.Maps.AppendAt
import Derived.Deep.AppendLies
import Derived.Test.YtkipiefcnjfdjaaGreatE1
import Derived.Deep.RegionLaw
namespace Go.Proofs.YtkipiefcnjfdjaaGreat
open Go.RowKit Go.Bs Go.Maps
set_option linter.unusedVariables false
set_option linter.unusedSimpArgs false

set_option maxRecDepth 100000 in
set_option maxHeartbeats 3200000 in
theorem ref11_bytes (xs : List Tok) (a : Option Addr) (n c : Nat) (w : World) (hl : rToks.r (· < w.heap.size) w [.slice a n c] xs) (hx : xs.length ≤ 10000000) (hR : ∀ t ∈ xs, rightB t = true) :
    Calls Tryz.prog 206 #[.slice a n c] w fun r w' => ∃ v, r = .returned v ∧ rBytes.r (fun q => w.heap.size ≤ q ∧ q < w'.heap.size) w' [v] (tokensB xs) ∧ Below w.heap.size w w' := by
  obtain ⟨rfl, hm, _, _⟩ := sl_len hl
  obtain ⟨i0, hi, hz0, hz1, hz2⟩ := info_parts info8
  have hL : ∀ t ∈ xs, t.lit.length ≤ 1048576 := fun t ht => by
    rcases right_forms (hR t ht) with ⟨D, rfl, h1, h2⟩ | ⟨o, m, rfl, _⟩
    · exact h2
    · simp
  have HRL := hid (fun k (hk : k ≤ xs.length) => Nat.le_trans (tokensB_len (xs.take k)) (roomT_le xs hL k hk))
  have HL := hid hl; have HR := hid hR
  clear hl hR hL
  go_enter Tryz.func206, Tryz.ntmps206
  go_wp2_with fail
  go_loopw [3, 4] (fun v i wr => ∃ k : Nat, k ≤ xs.length ∧ i = .int .i64 k ∧ wr.ownsRow w.heap.size 5 1 v (tokensB (xs.take k)).length (byteCells (tokensB (xs.take k))) ∧ Below w.heap.size w wr) (fun _ i _ => xs.length - (intOf i).toNat)
  case atStart => exact ⟨0, Nat.zero_le _, rfl, ⟨rfl, .inl ⟨rfl, rfl⟩⟩, Below.refl _ _⟩
  case round =>
    obtain ⟨k, hk, rfl, hown, hb⟩ := hrel
    have hbs := hb.size
    rcases Nat.lt_or_ge k xs.length with hlt | hge
    · obtain ⟨b, o, hA, hbb, a2, c2, x0, x1, x2, _, _, xl⟩ := tok_at HL.out hlt
      subst hA
      have X0 := (hb.cell (p := ⟨b, o + k * 3, none⟩) hbb).trans x0
      have X1 := (hb.cell (p := ⟨b, o + k * 3 + 1, none⟩) hbb).trans x1
      have X2 := (hb.cell (p := ⟨b, o + k * 3 + 2, none⟩) hbb).trans x2
      have hst := hid (tokensB_step xs k hlt)
      have hle := HRL.out (k + 1) hlt
      rw [hst.out, List.length_append] at hle
      have hr := HR.out _ (List.getElem_mem hlt)
      have HXL := hid xl
      have HX := hid (And.intro x0 (And.intro x1 x2))
      clear x0 x1 x2 xl
      obtain ⟨aJ, cJ, rfl⟩ := own_form hown
      generalize xs[k] = y at *
      generalize tokensB (xs.take k) = J at *
      have i1 : (k : Int) < (xs.length : Int) := by omega
      have HO := hid hown
      clear hown
      rcases right_forms hr with ⟨D, rfl, k1, k2⟩ | ⟨yo, ym, rfl, k1, k2, k3, k4⟩
      · have hrun : runB ⟨D, 0, 0⟩ = true := by simp [runB]; omega
        have HRUN := hid (ref11_run ⟨D, 0, 0⟩ a2 c2 wr (by dsimp only; omega) ⟨by simp, by simp⟩ ⟨by simp, by simp⟩)
        rw [hrun] at HRUN
        have hT := tokB_run D k1 k2
        rw [hT] at hle hst
        rw [List.length_append] at hle
        have HV := hid (fun (W : World) => ref04_bytes (2 * D.length - 2) (by omega) W)
        rw [show (((2 * D.length - 2 : Nat)) : Int) = 2 * (D.length : Int) - 2 by omega] at HV
        dsimp only at X0 X1 X2 HXL HX
        clear hr hrun hT
        go_wp2_with fail
        refine HRUN.out.mono ?_
        rintro r w1 ⟨rfl, hb1⟩
        have hbw1 := below_then hb1 hb
        have Y0 := (hbw1.cell (p := ⟨b, o + k * 3, none⟩) hbb).trans HX.out.1
        have hs1 := hb1.size
        clear X0 X1 X2
        go_wp2_with fail
        refine (HV.out _).mono ?_
        rintro r w2 ⟨v2, rfl, hv2, hb2⟩
        obtain ⟨a3, c3, hv3, hr3, _⟩ := sl_form hv2
        simp only [List.cons.injEq, and_true] at hv3
        subst hv3
        have hs2 := hb2.size
        have hb12 := below_then hb2 hb1
        have hbw2 := below_then hb2 hbw1
        have HO2 := hid (own_below (own_below HO.out hb1) hb2)
        have HS := hid (src_bytes (rBytes.mono (S' := (· < w2.heap.size)) hr3 fun q hq => hq.2))
        generalize varB (2 * D.length - 2) = E at *
        have HONE := hid (byteCells_one E)
        clear hv2 hr3 Y0
        go_wp2_with (first
          | (at_builtin; go_loud (refine wpList_append_src rfl _ _ _ rfl w.heap.size 5 i0 (.int .u8 0) 1 1 Tryz.underlying28 hi hz0 hz1 hz2 rfl (by decide) (.slice aJ J.length cJ) J.length (byteCells J) rfl HO2.out a3 E.length c3 (byteCells E) rfl HS.out HONE.out (by simp only [maxLen]; omega) (by omega) (by omega) ?_; intro v' w3 hown3 hgrow3 hat3; obtain ⟨a4, c4, rfl⟩ := own_form hown3; have HG3 := hid hgrow3; have HO3 := hid hown3; have hbw3 : Below w.heap.size w w3 := (Below.grown hbw2 hgrow3 (by omega) (fun g e => (HO.out.lt g e).1)); have Z0 := (hbw3.cell (p := ⟨b, o + k * 3, none⟩) hbb).trans HX.out.1; have hs3 := hgrow3.size; have HS3 := hid (src_bytes (lift HXL.out hbw3)); have HONE3 := hid (byteCells_one D); clear hgrow3 hown3 hat3))
          | (at_builtin; go_loud (refine wpList_append_src rfl _ _ _ rfl w.heap.size 5 i0 (.int .u8 0) 1 1 Tryz.underlying28 hi hz0 hz1 hz2 rfl (by decide) (.slice a4 (J.length + E.length) c4) (J.length + E.length) (byteCells J ++ byteCells E) rfl HO3.out a2 D.length c2 (byteCells D) rfl HS3.out HONE3.out (by simp only [maxLen]; omega) (by omega) (by omega) ?_; intro v' w5 hown5 hgrow5 hat5; have HG5 := hid hgrow5; have HO5 := hid hown5; clear hgrow5 hown5 hat5)))
        have ho := HO5.out
        rw [byteCells_app, byteCells_app, List.append_assoc, ← hst.out] at ho
        have hln : J.length + E.length + D.length = (tokensB (xs.take (k + 1))).length := by rw [hst.out]; simp only [List.length_append]; omega
        rw [hln] at ho
        have HOF := hid ho
        have hbF : Below w.heap.size w w5 := Below.grown hbw3 HG5.out (by omega) (fun g e => (HO3.out.lt g e).1)
        clear ho hln Z0
        go_wp2
        go_roundw
        case rel => exact ⟨k + 1, by omega, by go_num, HOF.out, hbF⟩
        case measure => simp [intOf]; omega
      · have hrun : runB ⟨[], (yo : Int), (ym : Int)⟩ = false := by simp [runB]
        have HRUN := hid (ref11_run ⟨[], (yo : Int), (ym : Int)⟩ a2 c2 wr (by simp) (by dsimp only; omega) (by dsimp only; omega))
        rw [hrun] at HRUN
        have hT := tokB_copy yo ym k1
        rw [hT] at hle hst
        rw [List.length_append] at hle
        have HV := hid (fun (W : World) => ref04_bytes (2 * ym - 7) (by omega) W)
        have HV2 := hid (fun (W : World) => ref04_bytes (yo - 1) (by omega) W)
        rw [show (((2 * ym - 7 : Nat)) : Int) = 2 * (ym : Int) - 7 by omega] at HV
        rw [show (((yo - 1 : Nat)) : Int) = (yo : Int) - 1 by omega] at HV2
        dsimp only [List.length_nil] at X0 X1 X2 HXL HX HRUN
        clear hr hrun hT
        go_wp2_with fail
        refine HRUN.out.mono ?_
        rintro r w1 ⟨rfl, hb1⟩
        have hbw1 := below_then hb1 hb
        have Y2 := (hbw1.cell (p := ⟨b, o + k * 3 + 2, none⟩) hbb).trans HX.out.2.2
        have hs1 := hb1.size
        clear X0 X1 X2
        go_wp2_with fail
        refine (HV.out _).mono ?_
        rintro r w2 ⟨v2, rfl, hv2, hb2⟩
        obtain ⟨a3, c3, hv3, hr3, _⟩ := sl_form hv2
        simp only [List.cons.injEq, and_true] at hv3
        subst hv3
        have hs2 := hb2.size
        have hb12 := below_then hb2 hb1
        have hbw2 := below_then hb2 hbw1
        have HO2 := hid (own_below (own_below HO.out hb1) hb2)
        have HS := hid (src_bytes (rBytes.mono (S' := (· < w2.heap.size)) hr3 fun q hq => hq.2))
        generalize varB (2 * ym - 7) = E at *
        have HONE := hid (byteCells_one E)
        clear hv2 hr3 Y2
        go_wp2_with (at_builtin; go_loud (refine wpList_append_src rfl _ _ _ rfl w.heap.size 5 i0 (.int .u8 0) 1 1 Tryz.underlying28 hi hz0 hz1 hz2 rfl (by decide) (.slice aJ J.length cJ) J.length (byteCells J) rfl HO2.out a3 E.length c3 (byteCells E) rfl HS.out HONE.out (by simp only [maxLen]; omega) (by omega) (by omega) ?_; intro v' w3 hown3 hgrow3 hat3; obtain ⟨a4, c4, rfl⟩ := own_form hown3; have HG3 := hid hgrow3; have HO3 := hid hown3; have hbw3 : Below w.heap.size w w3 := (Below.grown hbw2 hgrow3 (by omega) (fun g e => (HO.out.lt g e).1)); have Z1 := (hbw3.cell (p := ⟨b, o + k * 3 + 1, none⟩) hbb).trans HX.out.2.1; have hs3 := hgrow3.size; clear hgrow3 hown3 hat3))
        refine (HV2.out _).mono ?_
        rintro r w4 ⟨v4, rfl, hv4, hb4⟩
        obtain ⟨a5, c5, hv5, hr5, _⟩ := sl_form hv4
        simp only [List.cons.injEq, and_true] at hv5
        subst hv5
        have hs4 := hb4.size
        have hbw4 := below_then hb4 hbw3
        have HO4 := hid (own_below HO3.out hb4)
        have HS4 := hid (src_bytes (rBytes.mono (S' := (· < w4.heap.size)) hr5 fun q hq => hq.2))
        generalize varB (yo - 1) = E2 at *
        have HONE4 := hid (byteCells_one E2)
        clear hv4 hr5
        go_wp2_with (at_builtin; go_loud (refine wpList_append_src rfl _ _ _ rfl w.heap.size 5 i0 (.int .u8 0) 1 1 Tryz.underlying28 hi hz0 hz1 hz2 rfl (by decide) (.slice a4 (J.length + E.length) c4) (J.length + E.length) (byteCells J ++ byteCells E) rfl HO4.out a5 E2.length c5 (byteCells E2) rfl HS4.out HONE4.out (by simp only [maxLen]; omega) (by omega) (by omega) ?_; intro v' w5 hown5 hgrow5 hat5; have HG5 := hid hgrow5; have HO5 := hid hown5; clear hgrow5 hown5 hat5))
        have ho := HO5.out
        rw [byteCells_app, byteCells_app, List.append_assoc, ← hst.out] at ho
        have hln : J.length + E.length + E2.length = (tokensB (xs.take (k + 1))).length := by rw [hst.out]; simp only [List.length_append]; omega
        rw [hln] at ho
        have HOF := hid ho
        have hbF : Below w.heap.size w w5 := Below.grown hbw4 HG5.out (by omega) (fun g e => (HO4.out.lt g e).1)
        clear ho hln Z1
        go_wp2
        go_roundw
        case rel => exact ⟨k + 1, by omega, by go_num, HOF.out, hbF⟩
        case measure => simp [intOf]; omega
    · obtain rfl : k = xs.length := by omega
      rw [List.take_length] at hown
      have hV := own_bytes2 rfl hown
      have HV := hid hV
      clear hV hown
      go_wp2
      go_ret
      exact ⟨_, rfl, HV.out, hb⟩
end Go.Proofs.YtkipiefcnjfdjaaGreat
namespace Go.Bs
open Go.RowKit
theorem own_bytes3 {w : World} {base : Nat} {e : TypeId} {v : Value} {l : List UInt8} {n : Nat} (hn : n = l.length) (h : w.ownsRow base e 1 v n (byteCells l)) : rBytes.r (fun b => v.ownBlock = some b) w [v] l := by
  subst hn
  rcases h.2 with ⟨rfl, h0⟩ | ⟨g, cap, cur, rfl, hbg, hg, hn, hc, hcur, hx⟩
  · have : l = [] := List.eq_nil_of_length_eq_zero h0
    subst this
    exact rSl_mk rfl (Nat.le_refl _) (Nat.zero_le _) (.inl rfl)
  · refine rSl_mk rfl hn hc (.inr ⟨g, 0, rfl, rfl, fun i x hi => ⟨[.int .u8 (x.toNat : Int)], rfl, fun j v hj => ?_, rfl⟩⟩)
    have hj0 : j = 0 := by
      rcases j with _ | j
      · rfl
      · simp at hj
    subst hj0
    simp at hj
    subst hj
    have hi' : i < l.length := (List.getElem?_eq_some_iff.1 hi).1
    rw [Nat.zero_add, Nat.mul_one, Nat.add_zero, Blk.cell hg i]
    have e1 : cur[i]? = (cur.toList.take (l.length * 1))[i]? := by
      rw [List.getElem?_take, if_pos (by omega)]; simp
    rw [e1, hx]
    simp [byteCells, hi]
end Go.Bs
namespace Go.Proofs.YtkipiefcnjfdjaaGreat
open Go.RowKit Go.Bs Go.Maps
set_option linter.unusedVariables false
set_option linter.unusedSimpArgs false

theorem tok_inl {w : World} {F : Nat → Prop} {base : Nat} {e : TypeId} {sz : Nat} {v : Value} {xs : List Tok} {cells : List (List Value)} (h : OwnElsF F rTok base e sz w v xs cells) : OwnElsF F rTV base e sz w v (xs.map .inl) cells := by
  obtain ⟨ho, hlen, hsz, hA⟩ := h
  refine ⟨by simpa using ho, by simpa using hlen, hsz, fun i cs x hi hx => ?_⟩
  rw [List.getElem?_map] at hx
  cases hxi : xs[i]? with
  | none => rw [hxi] at hx; cases hx
  | some y => rw [hxi] at hx; cases hx; exact hA i cs y hi hxi

theorem TBld.close {lo : Nat} {w : World} {g c : Nat} {cells : List (List Value)} {ts : List Tok} {D : List UInt8} {vl : Value} (h : TBld lo w g c cells ts D vl) :
    OwnElsAt lo rTok lo 253 3 w (.slice (some ⟨g, 0, none⟩) (ts.length + 1) c) (ts ++ [⟨D, 0, 0⟩]) (cells ++ [[vl, .int .i64 0, .int .i64 0]]) := by
  obtain ⟨⟨ho, hlen, hsz, hA⟩, h1, h4, h5⟩ := h
  refine ⟨by simpa using ho, by simpa using hlen, hsz, fun i cs x hi hx => ?_⟩
  by_cases hlt : i < ts.length
  · rw [List.getElem?_append_left hlt] at hx
    have := hA i cs (.inl x) hi (by rw [List.getElem?_append_left (by simpa using hlt), List.getElem?_map, hx]; rfl)
    exact rTok.mono this fun b hb => ⟨hb.1.1, hb.1.2.1, hb.2⟩
  · have hii : i = ts.length := by
      have := (List.getElem?_eq_some_iff.1 hx).1
      simp at this
      omega
    subst hii
    rw [List.getElem?_append_right (by omega)] at hi
    rw [List.getElem?_append_right (Nat.le_refl _)] at hx
    simp [h1] at hi
    simp at hx
    subst hi hx
    exact tok_mk (x := ⟨D, 0, 0⟩) (rBytes.mono (own_bytes3 rfl h4) fun b hb => ⟨(h4.lt b hb).1, (h4.lt b hb).2, fun e => h5 (by rw [hb]; exact e.symm)⟩) (by simp) (by simp)

/-- A run of one byte is put behind all tokens. -/
theorem TBld.start {lo : Nat} {w w' : World} {g c : Nat} {v : Value} {ts : List Tok} {y : UInt8} {cells : List (List Value)} (hlo : lo ≤ w.heap.size) (h : OwnElsAt lo rTok lo 253 3 w v ts cells)
    (hown : w'.ownsRow lo 253 3 (.slice (some ⟨g, 0, none⟩) (ts.length + 1) c) (ts.length + 1) (cells.flatten ++ [.slice (some ⟨w.heap.size, 0, none⟩) 1 1, .int .i64 0, .int .i64 0]))
    (hg : ((w.alloc (.cells #[.int .u8 (y.toNat : Int)] 5)).alloc (.cells #[.slice (some ⟨w.heap.size, 0, none⟩) 1 1, .int .i64 0, .int .i64 0] 253)).grownBy w' v.ownBlock)
    (hat : (Value.slice (some ⟨g, 0, none⟩) (ts.length + 1) c).ownBlock = v.ownBlock ∨ (Value.slice (some ⟨g, 0, none⟩) (ts.length + 1) c).ownBlock = some ((w.alloc (.cells #[.int .u8 (y.toNat : Int)] 5)).alloc (.cells #[.slice (some ⟨w.heap.size, 0, none⟩) 1 1, .int .i64 0, .int .i64 0] 253)).heap.size) :
    TBld lo w' g c cells ts [y] (.slice (some ⟨w.heap.size, 0, none⟩) 1 1) := by
  have hv := fun q (hq : v.ownBlock = some q) => (h.1.lt q hq).2
  generalize hW : (w.alloc (.cells #[.int .u8 (y.toNat : Int)] 5)).alloc (.cells #[.slice (some ⟨w.heap.size, 0, none⟩) 1 1, .int .i64 0, .int .i64 0] 253) = W at *
  have keep : ∀ b, b < w.heap.size → W.heap[b]? = w.heap[b]? := fun b hb => by
    rw [← hW, Below.heap_alloc _ _ _ (by simp; omega), Below.heap_alloc _ _ _ hb]
  have hs : W.heap.size = w.heap.size + 2 := by rw [← hW]; simp
  have hnew : W.heap[w.heap.size]? = some (.cells #[.int .u8 (y.toNat : Int)] 5 (0, 0)) := by
    rw [← hW, Below.heap_alloc _ _ _ (by simp)]
    exact World.alloc_heap_new w _
  have hgw : g ≠ w.heap.size := fun e => by
    rcases hat with h1 | h1
    · have := hv g (by rw [← h1]; rfl); omega
    · have := Option.some.inj h1; simp at this; omega
  have hs' := hg.size
  have h1 := tok_inl (((OwnElsF.of h).keep (w' := W) (fun b hb => keep b hb.2) (fun q hq => keep q (hv q hq))).mono (F' := fun x => lo ≤ x ∧ x < W.heap.size ∧ x ≠ w.heap.size) fun b hb => ⟨hb.1, by omega, by omega⟩)
  have h2 := OwnElsF.push (v' := .slice (some ⟨g, 0, none⟩) (ts.length + 1) c) (x := (.inr (.slice (some ⟨w.heap.size, 0, none⟩) 1 1) : Tok ⊕ Value)) h1 (fun b hb => hb.2.1) (news := [.slice (some ⟨w.heap.size, 0, none⟩) 1 1, .int .i64 0, .int .i64 0]) rfl rfl (by simpa using hown) hg hat
  refine ⟨h2.mono fun b hb => ⟨hb.1, by omega, fun e => hb.2.2 (Option.some.inj e).symm⟩, h.2.1, ?_, fun e => hgw (Option.some.inj e).symm⟩
  refine own_new1 hlo ((hg.block w.heap.size (by omega) (fun e => ?_)).trans hnew)
  have := hv w.heap.size e.symm
  omega

end Go.Proofs.YtkipiefcnjfdjaaGreat
namespace Go.Proofs.YtkipiefcnjfdjaaGreat
open Go.RowKit Go.Bs Go.Maps
set_option linter.unusedVariables false
set_option linter.unusedSimpArgs false

theorem Rest.copy {b : List UInt8} {p i o m : Nat} {O : List Tok} (h : Rest b p i O) (hp : p < b.length) (hb : bestR b p = (o, m)) (hm : m ≠ 0) : Rest b (p + m) (p + m) (O ++ litT b i p ++ [⟨[], (o : Int), (m : Int)⟩]) := by
  obtain ⟨f, hf, h⟩ := h
  obtain ⟨f, rfl⟩ : ∃ f', f = f' + 1 := ⟨f - 1, by omega⟩
  refine ⟨f, by omega, ?_⟩
  rw [h]
  simp only [toksF, if_pos hp, hb, if_neg hm]
  simp
def LastCopy (O : List Tok) : Prop := ∀ n, O.length = n + 1 → ∀ t, O[n]? = some t → t.off ≠ 0
theorem LastCopy.snoc (O : List Tok) {o m : Nat} (ho : o ≠ 0) : LastCopy (O ++ [⟨[], (o : Int), (m : Int)⟩]) := fun n hn t ht => by
  have e : n = O.length := by simp at hn; omega
  subst e
  simp at ht
  subst ht
  simpa using ho

/-- The tokens so far. -/
def TOut (lo : Nat) (b : List UInt8) (w : World) (v : Value) (O : List Tok) (i p : Nat) : Prop :=
  (i = p ∧ ∃ cells, OwnElsAt lo rTok lo 253 3 w v O cells) ∨ (i < p ∧ ∃ g c cells vl, v = .slice (some ⟨g, 0, none⟩) (O.length + 1) c ∧ TBld lo w g c cells O ((b.drop i).take (p - i)) vl)
theorem TOut.close {lo : Nat} {b : List UInt8} {w : World} {v : Value} {O : List Tok} {i p : Nat} (h : TOut lo b w v O i p) : ∃ cells, OwnElsAt lo rTok lo 253 3 w v (O ++ litT b i p) cells := by
  rcases h with ⟨rfl, cells, h⟩ | ⟨h0, g, c, cells, vl, rfl, h⟩
  · exact ⟨cells, by simpa [litT] using h⟩
  · exact ⟨_, by have := h.close; simpa [litT, h0] using this⟩
theorem lit_snoc {b : List UInt8} {i p : Nat} (hi : i ≤ p) (hp : p < b.length) : (b.drop i).take (p + 1 - i) = (b.drop i).take (p - i) ++ [b[p]] := by
  rw [show p + 1 - i = (p - i) + 1 by omega, List.take_succ_eq_append_getElem (by simp; omega)]
  congr 2
  simp
  congr 1
  omega

set_option maxRecDepth 100000 in
set_option maxHeartbeats 6400000 in
theorem ref15_tokens (b : List UInt8) (a : Option Addr) (n c : Nat) (w : World) (hl : rBytes.r (· < w.heap.size) w [.slice a n c] b) (hlen : b.length ≤ 1048576) :
    Calls Tryz.prog 207 #[.slice a n c] w fun r w' => ∃ v, r = .returned v ∧ rToks.r (fun q => w.heap.size ≤ q ∧ q < w'.heap.size) w' [v] (toksR b) ∧ Below w.heap.size w w' := by
  obtain ⟨rfl, hm, _, _⟩ := sl_len hl
  obtain ⟨i0, hi, hz0, hz1, hz2⟩ := info_parts info8
  obtain ⟨j0, hj0, hy0, hy1, hy2⟩ := info_parts infoTok
  have HL := hid hl
  clear hl
  go_enter Tryz.func207, Tryz.ntmps207
  go_wp2_with fail
  go_loopw [3, 4] (fun v pv wr => ∃ (p i : Nat) (O : List Tok), pv = .int .i64 p ∧ p ≤ b.length ∧ i ≤ p ∧ O.length ≤ i ∧ Hid (Rest b p i O) ∧ Hid (LastCopy O) ∧ Hid (TOut w.heap.size b wr v O i p) ∧ Below w.heap.size w wr) (fun _ pv _ => b.length - (intOf pv).toNat)
  case atStart => exact ⟨0, 0, [], rfl, Nat.zero_le _, Nat.le_refl _, Nat.le_refl _, hid ⟨b.length, by omega, rfl⟩, hid (fun n hn => by simp at hn), hid (.inl ⟨rfl, OwnEls.nil⟩), Below.refl _ _⟩
  case round =>
    obtain ⟨p, i, O, rfl, hp, hip, hOi, hrest, hlc, hout, hb⟩ := hrel
    have hbs := hb.size
    obtain ⟨cells3, hcl⟩ := hout.out.close
    obtain ⟨av, cv, rfl⟩ := own_form hcl.1
    have hLL : (O ++ litT b i p).length ≤ p := by
      unfold litT
      split <;> simp <;> omega
    rcases Nat.lt_or_ge p b.length with hlt | hge
    · have HB := hid (ref14_best1 b p a _ c wr (lift HL.out hb) hlen)
      have hfc := hid (bestR_facts b p)
      have hroom := bestR_room b p
      generalize hom : bestR b p = om at *
      obtain ⟨o, m⟩ := om
      dsimp only at hroom
      have HOM := hid hom; have HCL := hid hcl
      clear hom hcl
      by_cases hm0 : m = 0
      · subst hm0
        have hrn := hid (hrest.out.none hlt HOM.out)
        have hyb := byte_at HL.out hlt
        obtain ⟨ab, ob, hA, hab, hcb⟩ := hyb
        subst hA
        have hab' : ab < w.heap.size := hab
        rcases hout.out with ⟨hipe, cells, hcl0⟩ | ⟨h0, g, cg, cells, vl, hv, htb⟩
        · subst hipe
          have hlit : litT b i i = [] := by simp [litT]
          have HLS := hid (lit_snoc (Nat.le_refl i) hlt)
          simp only [Nat.sub_self, List.take_zero, List.nil_append] at HLS
          simp only [hlit, List.append_nil] at hcl0 hLL hrn ⊢
          generalize b[i] = y at *
          clear hlit hout HCL
          have HCB := hid hcb
          clear hcb
          rcases Nat.eq_zero_or_pos O.length with hO0 | hO0
          · obtain rfl : O = [] := List.eq_nil_of_length_eq_zero hO0
            clear hO0
            simp only [List.length_nil] at *
            go_wp2_with fail
            refine HB.out.mono ?_
            rintro r w2 ⟨rfl, hb2⟩
            have hs2 := hb2.size
            have hbw2 := below_then hb2 hb
            have HC2 := hid (hcl0.below hb2)
            have Yb := (hbw2.cell (p := ⟨ab, ob + i, none⟩) hab).trans HCB.out
            have i4 : (i : Int) < (b.length : Int) := by omega
            go_wp2_with (at_builtin; go_loud (refine wpList_append_src rfl _ _ _ rfl w.heap.size 253 j0 (.agg #[.slice none 0 0, .int .i64 0, .int .i64 0]) 3 40 Tryz.underlying240 hj0 hy0 hy1 hy2 rfl (by decide) (.slice av 0 cv) 0 cells.flatten rfl (own_below HC2.out.1 (by (repeat (first | exact Below.refl _ _ | assumption | (refine below_alloc ?_ _) | (refine Below.setCell ?_ (by first | omega | (simp; done) | (simp; omega)) _) | (refine Below.drew ?_) | (refine below_drewN ?_ _) | (refine below_then (by assumption) ?_))))) (some ⟨w2.heap.size + 1, 0, none⟩) 1 1 [.slice (some ⟨w2.heap.size, 0, none⟩) 1 1, .int .i64 0, .int .i64 0] rfl (src_new1 (w2.alloc (.cells #[.int .u8 (y.toNat : Int)] 5)) 253 _ rfl (by simp) rfl) (by intro u hu; simp at hu; rcases hu with rfl | rfl | rfl <;> rfl) (by simp only [maxLen]; omega) (by omega) (by simp; omega) ?_; intro v8 w8 hown8 hgrow8 hat8; obtain ⟨g8, c8, rfl⟩ := own_at hown8; have HG8 := hid hgrow8; have HO8 := hid hown8; have HA8 := hid hat8; clear hgrow8 hown8 hat8))
            have hst := TBld.start (by omega) HC2.out HO8.out HG8.out HA8.out
            have hb8 : Below w.heap.size w w8 := Below.grown (by (repeat (first | exact Below.refl _ _ | assumption | (refine below_alloc ?_ _) | (refine Below.setCell ?_ (by first | omega | (simp; done) | (simp; omega)) _) | (refine Below.drew ?_) | (refine below_drewN ?_ _) | (refine below_then (by assumption) ?_)))) HG8.out (by simp; omega) (fun g e => (HC2.out.1.lt g e).1)
            have hto : TOut w.heap.size b w8 (.slice (some ⟨g8, 0, none⟩) (0 + 1) c8) [] i (i + 1) := .inr ⟨by omega, g8, c8, cells, _, rfl, by rw [HLS.out]; exact hst⟩
            have HTO := hid hto
            clear hto hst
            go_wp2_with fail
            go_roundw
            case rel => exact ⟨i + 1, i, [] , by go_num, by omega, by omega, by omega, hrn, hlc, HTO, hb8⟩
            case measure => simp [intOf]; omega
          · obtain ⟨k, hk⟩ : ∃ k, O.length = k + 1 := ⟨O.length - 1, by omega⟩
            obtain ⟨gt, ot, hA2, hgt, at2, ct2, q0, q1, q2, zz1, zz2, zz3⟩ := tok_at (xs := O) (OwnEls.slice (Nat.le_refl _) ⟨_, hcl0⟩) (i := k) (by omega)
            have hoff := hlc.out k hk O[k] (List.getElem?_eq_getElem (by omega))
            have eo : (O[k].off == 0) = false := by simpa using hoff
            have HQ1 := hid q1
            have t1 : ((O.length : Int) - 1).toNat = k := by omega
            have t2 : (0 : Int) ≤ (O.length : Int) - 1 := by omega
            have t3 : (O.length : Int) - 1 < (O.length : Int) := by omega
            have d5 : decide ((0 : Int) ≤ (O.length : Int) - 1) = true := decide_eq_true t2
            generalize O[k].off = of at *
            have HHK := hid hk
            clear zz1 zz2 zz3 q0 q1 q2 hoff
            clear hk hO0
            have hgt' := hgt
            subst hA2
            go_wp2_with fail
            refine HB.out.mono ?_
            rintro r w2 ⟨rfl, hb2⟩
            have hs2 := hb2.size
            have hbw2 := below_then hb2 hb
            have HC2 := hid (hcl0.below hb2)
            have Q1 := (hb2.cell (p := ⟨gt, ot + k * 3 + 1, none⟩) hgt.2).trans HQ1.out
            have Yb := (hbw2.cell (p := ⟨ab, ob + i, none⟩) hab).trans HCB.out
            have i4 : (i : Int) < (b.length : Int) := by omega
            go_wp2_with (at_builtin; go_loud (refine wpList_append_src rfl _ _ _ rfl w.heap.size 253 j0 (.agg #[.slice none 0 0, .int .i64 0, .int .i64 0]) 3 40 Tryz.underlying240 hj0 hy0 hy1 hy2 rfl (by decide) (.slice (some ⟨gt, ot, none⟩) O.length cv) O.length cells.flatten rfl (own_below HC2.out.1 (by (repeat (first | exact Below.refl _ _ | assumption | (refine below_alloc ?_ _) | (refine Below.setCell ?_ (by first | omega | (simp; done) | (simp; omega)) _) | (refine Below.drew ?_) | (refine below_drewN ?_ _) | (refine below_then (by assumption) ?_))))) (some ⟨w2.heap.size + 1, 0, none⟩) 1 1 [.slice (some ⟨w2.heap.size, 0, none⟩) 1 1, .int .i64 0, .int .i64 0] rfl (src_new1 (w2.alloc (.cells #[.int .u8 (y.toNat : Int)] 5)) 253 _ rfl (by simp) rfl) (by intro u hu; simp at hu; rcases hu with rfl | rfl | rfl <;> rfl) (by simp only [maxLen]; omega) (by omega) (by simp; omega) ?_; intro v8 w8 hown8 hgrow8 hat8; obtain ⟨g8, c8, rfl⟩ := own_at hown8; have HG8 := hid hgrow8; have HO8 := hid hown8; have HA8 := hid hat8; clear hgrow8 hown8 hat8))
            have hst := TBld.start (by omega) HC2.out HO8.out HG8.out HA8.out
            have hb8 : Below w.heap.size w w8 := Below.grown (by (repeat (first | exact Below.refl _ _ | assumption | (refine below_alloc ?_ _) | (refine Below.setCell ?_ (by first | omega | (simp; done) | (simp; omega)) _) | (refine Below.drew ?_) | (refine below_drewN ?_ _) | (refine below_then (by assumption) ?_)))) HG8.out (by simp; omega) (fun g e => (HC2.out.1.lt g e).1)
            have hto : TOut w.heap.size b w8 (.slice (some ⟨g8, 0, none⟩) (O.length + 1) c8) O i (i + 1) := .inr ⟨by omega, g8, c8, cells, _, rfl, by rw [HLS.out]; exact hst⟩
            have HTO := hid hto
            clear hto hst
            go_wp2_with fail
            go_roundw
            case rel => exact ⟨i + 1, i, O , by go_num, by omega, by omega, by omega, hrn, hlc, HTO, hb8⟩
            case measure => simp [intOf]; omega
        · have hlt1 : (O ++ litT b i p).length = O.length + 1 := by simp [litT, h0]
          rw [hlt1] at *
          have HLS := hid (lit_snoc hip hlt)
          simp only [Value.slice.injEq] at hv
          obtain ⟨rfl, _, rfl⟩ := hv
          generalize hDD : (b.drop i).take (p - i) = D at *
          have hDl : D.length ≤ 1048576 := by rw [← hDD]; simp; omega
          generalize b[p] = y at *
          clear hDD hlt1 hout HCL
          obtain ⟨al, cl, rfl⟩ := own_form htb.last
          have HCB := hid hcb; have HTB := hid htb
          clear hcb htb
          have d5 : decide ((0 : Int) ≤ (O.length : Int)) = true := decide_eq_true (by omega)
          have kk : (O.length : Int) + 1 - 1 = (O.length : Int) := by omega
          have i3 : (O.length : Int) < (O.length : Int) + 1 := by omega
          have i4 : (p : Int) < (b.length : Int) := by omega
          have i5 : (0 : Int) ≤ (O.length : Int) := by omega
          go_wp2_with fail
          refine HB.out.mono ?_
          rintro r w2 ⟨rfl, hb2⟩
          have hs2 := hb2.size
          have hbw2 := below_then hb2 hb
          have HT2 := hid (HTB.out.later hb2)
          obtain ⟨pl0, pl1, pl2⟩ := HT2.out.place
          obtain ⟨hg1, hg2⟩ := HT2.out.g_lt
          have hne := HT2.out.ne
          have hol := fun q (hq : (Value.slice al D.length cl).ownBlock = some q) => HT2.out.last.lt q hq
          have HOL := hid hol; clear hol
          have Yb := (hbw2.cell (p := ⟨ab, ob + p, none⟩) hab).trans HCB.out
          have hab2 : ab < w2.heap.size := by omega
          go_wp2_with fail
          refine wp_region_last_held (fun w' => w'.cell? ⟨g, O.length * 3, none⟩ = some (.slice al D.length cl) ∧ w'.cell? ⟨ab, ob + p, none⟩ = some (.int .u8 (y.toNat : Int))) _ (by kernel_rfl) rfl (by kernel_rfl) ⟨pl0, Yb⟩ (fun hHeld => ?_)
          simp only [noopLast, noopOf]
          refine wpAnyH_take (i := 0) (oi := _) (v := ?_) rfl (by decide +kernel) (by decide +kernel) (by decide +kernel) (fun _ _ _ h => h) (Or.inl ⟨by rfl, ?_⟩) (by assumption) ?_
          rotate_left
          · (intro w hSw; (try dsimp only at hSw); go_simp <;> with_reducible rfl)
          (try simp only [Act.put, List.setIfInBounds_toArray, List.set_cons_zero, List.set_cons_succ])
          refine wpAnyH_take (i := 1) (oi := _) (v := ?_) rfl (by decide +kernel) (by decide +kernel) (by decide +kernel) (fun _ _ _ h => h) (Or.inl ⟨by rfl, ?_⟩) (by assumption) ?_
          rotate_left
          · (intro w hSw; (try dsimp only at hSw); go_simp <;> with_reducible rfl)
          (try simp only [Act.put, List.setIfInBounds_toArray, List.set_cons_zero, List.set_cons_succ])
          refine wpAnyH_take (i := 2) (oi := _) (v := ?_) rfl (by decide +kernel) (by decide +kernel) (by decide +kernel) (fun _ _ _ h => h) (Or.inl ⟨by rfl, ?_⟩) (by assumption) ?_
          rotate_left
          · (intro w hSw; (try dsimp only at hSw); go_simp <;> with_reducible rfl)
          (try simp only [Act.put, List.setIfInBounds_toArray, List.set_cons_zero, List.set_cons_succ])
          refine wpAnyH_take (i := 3) (oi := _) (v := ?_) rfl (by decide +kernel) (by decide +kernel) (by decide +kernel) (fun _ _ _ h => h) (Or.inl ⟨by rfl, ?_⟩) (by assumption) ?_
          rotate_left
          · (intro w hSw; (try dsimp only at hSw); go_simp <;> with_reducible rfl)
          (try simp only [Act.put, List.setIfInBounds_toArray, List.set_cons_zero, List.set_cons_succ])
          refine wpAnyH_take (i := 4) (oi := _) (v := ?_) rfl (by decide +kernel) (by decide +kernel) (by decide +kernel) (fun _ _ _ h => h) (Or.inl ⟨by rfl, ?_⟩) (by assumption) ?_
          rotate_left
          · (intro w hSw; (try dsimp only at hSw); go_simp <;> with_reducible rfl)
          (try simp only [Act.put, List.setIfInBounds_toArray, List.set_cons_zero, List.set_cons_succ])
          refine wpAnyH_take (i := 5) (oi := _) (v := ?_) rfl (by decide +kernel) (by decide +kernel) (by decide +kernel) (fun _ _ _ h => h) (Or.inl ⟨by rfl, ?_⟩) (by assumption) ?_
          rotate_left
          · (intro w hSw; (try dsimp only at hSw); go_simp <;> with_reducible rfl)
          (try simp only [Act.put, List.setIfInBounds_toArray, List.set_cons_zero, List.set_cons_succ])
          refine wpAnyH_take (i := 6) (oi := _) (v := ?_) rfl (by decide +kernel) (by decide +kernel) (by decide +kernel) (fun _ _ _ h => h) (Or.inl ⟨by rfl, ?_⟩) (by assumption) ?_
          rotate_left
          · (intro w hSw; (try dsimp only at hSw); go_simp <;> with_reducible rfl)
          (try simp only [Act.put, List.setIfInBounds_toArray, List.set_cons_zero, List.set_cons_succ])
          refine wpAnyH_take (i := 7) (oi := _) (v := ?_) rfl (by decide +kernel) (by decide +kernel) (by decide +kernel) (fun _ _ _ h => h) (Or.inl ⟨by rfl, ?_⟩) (by assumption) ?_
          rotate_left
          · (intro w hSw; (try dsimp only at hSw); go_simp <;> with_reducible rfl)
          (try simp only [Act.put, List.setIfInBounds_toArray, List.set_cons_zero, List.set_cons_succ])
          refine wpAnyH_take (i := 8) (oi := _) (v := ?_) rfl (by decide +kernel) (by decide +kernel) (by decide +kernel) (fun _ _ _ h => h) (Or.inl ⟨by rfl, ?_⟩) (by assumption) ?_
          rotate_left
          · (intro w hSw; (try dsimp only at hSw); go_simp <;> with_reducible rfl)
          (try simp only [Act.put, List.setIfInBounds_toArray, List.set_cons_zero, List.set_cons_succ])
          refine wpAnyH_take (i := 9) (oi := _) (v := ?_) rfl (by decide +kernel) (by decide +kernel) (by decide +kernel) (fun _ _ _ h => h) (Or.inl ⟨by rfl, ?_⟩) (by assumption) ?_
          rotate_left
          · (intro w hSw; (try dsimp only at hSw); go_simp <;> with_reducible rfl)
          (try simp only [Act.put, List.setIfInBounds_toArray, List.set_cons_zero, List.set_cons_succ])
          refine wpAnyH_take (i := 10) (oi := _) (v := ?_) rfl (by decide +kernel) (by decide +kernel) (by decide +kernel) (fun _ _ _ h => h) (Or.inl ⟨by rfl, ?_⟩) (by assumption) ?_
          rotate_left
          · (intro w hSw; (try dsimp only at hSw); go_simp <;> with_reducible rfl)
          (try simp only [Act.put, List.setIfInBounds_toArray, List.set_cons_zero, List.set_cons_succ])
          refine wpAnyH_ready (rs := [11]) (by decide +kernel) (by simp) ?_
          refine AllReadyH.cons (o := _) rfl (fun K hK => ?_) AllReadyH.nil
          go_simp
          refine hK.out _ _ ?_ (fun hHeld => ?_)
          · ((try dsimp only); refine ⟨?_, ?_⟩ <;> (first | assumption | (go_keep; done)))
          clear hK K
          (try simp only [Act.put, List.setIfInBounds_toArray, List.set_cons_zero, List.set_cons_succ])
          refine wpAnyH_ready (rs := [12]) (by decide +kernel) (by simp) ?_
          refine AllReadyH.cons (o := _) rfl (fun K hK => ?_) AllReadyH.nil
          (refine step_append_src (by rfl) _ _ _ (by rfl) w.heap.size 5 i0 (.int .u8 0) 1 1 Tryz.underlying28 hi hz0 hz1 hz2 rfl (by decide) (.slice al D.length cl) D.length (byteCells D) (by rfl) (own_below HT2.out.last (by (repeat (first | exact Below.refl _ _ | assumption | (refine below_alloc ?_ _) | (refine Below.setCell ?_ (by first | omega | (simp; done) | (simp; omega)) _) | (refine Below.drew ?_) | (refine below_drewN ?_ _) | (refine below_then (by assumption) ?_))))) (some ⟨w2.heap.size, 0, none⟩) 1 1 [.int .u8 (y.toNat : Int)] (by rfl) (src_new1 w2.drew 5 _ (by rfl) (by rfl) rfl) (by intro u hu; simp at hu; subst hu; rfl) (by simp only [maxLen]; omega) (by omega) (by simp; omega) ?_; intro a8 c8 w8 hown8 hgrow8 hat8; have G := fun b' (hb : b' < w2.heap.size) (hne : (Value.slice al D.length cl).ownBlock ≠ some b') => (hgrow8.block b' (by simp; omega) (fun e => hne e.symm)).trans (Below.heap_alloc w2.drew _ b' (by exact hb)); have m1 := (World.cell?_of_block (a := ⟨g, O.length * 3, none⟩) (G g hg2 hne)).trans pl0; have m2 := (World.frozen?_of_block (a := ⟨g, O.length * 3, none⟩) (G g hg2 hne)).trans pl2; have neb : (Value.slice al D.length cl).ownBlock ≠ some ab := fun e => by { have := (HOL.out _ e).1; omega }; have m3 := (World.cell?_of_block (a := ⟨ab, ob + p, none⟩) (G ab hab2 neb)).trans Yb; have m4 : g < w8.heap.size := Nat.lt_of_lt_of_le hg2 (Nat.le_trans (by simp) hgrow8.size); have HG8 := hid hgrow8; have HO8 := hid hown8; have HA8 := hid hat8; have HGG := hid G; clear hgrow8 hown8 hat8 G neb)
          refine hK.out _ _ ?_ (fun hHeld => ?_)
          · ((try dsimp only); refine ⟨?_, ?_⟩ <;> (first | assumption | (go_keep; done)))
          clear hK K
          (try simp only [Act.put, List.setIfInBounds_toArray, List.set_cons_zero, List.set_cons_succ])
          refine wpAnyH_take (i := 13) (oi := _) (v := ?_) rfl (by decide +kernel) (by decide +kernel) (by decide +kernel) (fun _ _ _ h => h) (Or.inl ⟨by rfl, ?_⟩) (by assumption) ?_
          rotate_left
          · (intro w hSw; (try dsimp only at hSw); go_simp <;> with_reducible rfl)
          (try simp only [Act.put, List.setIfInBounds_toArray, List.set_cons_zero, List.set_cons_succ])
          refine wpAnyH_take (i := 14) (oi := _) (v := ?_) rfl (by decide +kernel) (by decide +kernel) (by decide +kernel) (fun _ _ _ h => h) (Or.inl ⟨by rfl, ?_⟩) (by assumption) ?_
          rotate_left
          · (intro w hSw; (try dsimp only at hSw); go_simp <;> with_reducible rfl)
          (try simp only [Act.put, List.setIfInBounds_toArray, List.set_cons_zero, List.set_cons_succ])
          refine wpAnyH_take (i := 15) (oi := _) (v := ?_) rfl (by decide +kernel) (by decide +kernel) (by decide +kernel) (fun _ _ _ h => h) (Or.inl ⟨by rfl, ?_⟩) (by assumption) ?_
          rotate_left
          · (intro w hSw; (try dsimp only at hSw); go_simp <;> with_reducible rfl)
          (try simp only [Act.put, List.setIfInBounds_toArray, List.set_cons_zero, List.set_cons_succ])
          refine wpAnyH_done (by kernel_rfl) ?_ _
          show wpList _ _ _ _ _ _
          have hs8 : w2.heap.size + 1 ≤ w8.heap.size := by have := HG8.out.size; simpa using this
          have hgr := TBld.grow (w' := w8) (D' := D ++ [y]) (vl' := .slice a8 (D.length + 1) c8) HT2.out (fun q hq hn => HGG.out q hq hn) (by omega) (by rw [List.length_append, ← byteCells_snoc]; exact HO8.out) (by
            rcases HA8.out with h | h
            · exact .inl h
            · exact .inr ⟨_, h, by simp⟩)
          have hb8 : Below w.heap.size w w8 := Below.grown (by (repeat (first | exact Below.refl _ _ | assumption | (refine below_alloc ?_ _) | (refine Below.setCell ?_ (by first | omega | (simp; done) | (simp; omega)) _) | (refine Below.drew ?_) | (refine below_drewN ?_ _) | (refine below_then (by assumption) ?_)))) HG8.out (by simp; omega) (fun g e => (HOL.out g e).1)
          have hb9 : Below w.heap.size w (w8.setCell ⟨g, O.length * 3, none⟩ (.slice a8 (D.length + 1) c8)) := hb8.setCell hg1 _
          have hto : TOut w.heap.size b (w8.setCell ⟨g, O.length * 3, none⟩ (.slice a8 (D.length + 1) c8)) (.slice (some ⟨g, 0, none⟩) (O.length + 1) cv) O i (p + 1) := .inr ⟨by omega, g, cv, cells, _, rfl, by rw [HLS.out]; exact hgr⟩
          have HTO := hid hto
          clear hto hgr
          go_wp2_with fail
          go_roundw
          case rel => exact ⟨p + 1, i, O, by go_num, by omega, by omega, by omega, hrn, hlc, HTO, hb9⟩
          case measure => simp [intOf]; omega
      · have hm4 : 1 ≤ o ∧ 4 ≤ m := by
          rcases hfc.out with h | ⟨o', m', h, h1, h2, h3, _⟩
          · simp only [Prod.mk.injEq] at h; omega
          · simp only [Prod.mk.injEq] at h; omega
        have hrn := hid (hrest.out.copy hlt HOM.out hm0)
        have hls := hid (LastCopy.snoc (O ++ litT b i p) (o := o) (m := m) (by omega))
        have d1 : decide ((0 : Int) < (m : Int)) = true := by simp; omega
        have d1' : decide (0 < m) = true := by simp; omega
        generalize hL3 : O ++ litT b i p = L3 at *
        clear hL3 hm0
        go_wp2_with fail
        refine HB.out.mono ?_
        rintro r w2 ⟨rfl, hb2⟩
        have hs2 := hb2.size
        have hbw2 := below_then hb2 hb
        have HC2 := hid (HCL.out.below hb2)
        go_wp2_with (at_builtin; go_loud (refine wpList_append_src rfl _ _ _ rfl w.heap.size 253 j0 (.agg #[.slice none 0 0, .int .i64 0, .int .i64 0]) 3 40 Tryz.underlying240 hj0 hy0 hy1 hy2 rfl (by decide) (.slice av L3.length cv) L3.length cells3.flatten rfl (own_below HC2.out.1 (by (repeat (first | exact Below.refl _ _ | assumption | (refine below_alloc ?_ _) | (refine Below.setCell ?_ (by first | omega | (simp; done) | (simp; omega)) _) | (refine Below.drew ?_) | (refine below_drewN ?_ _) | (refine below_then (by assumption) ?_))))) (some ⟨w2.heap.size, 0, none⟩) 1 1 [.slice none 0 0, .int .i64 (o : Int), .int .i64 (m : Int)] rfl (src_new1 w2 253 _ rfl rfl rfl) (by intro u hu; simp at hu; rcases hu with rfl | rfl | rfl <;> rfl) (by simp only [maxLen]; omega) (by omega) (by simp; omega) ?_; intro v8 w8 hown8 hgrow8 hat8; obtain ⟨a8, c8, rfl⟩ := own_form hown8; have HG8 := hid hgrow8; have HO8 := hid hown8; have HA8 := hid hat8; clear hgrow8 hown8 hat8))
        have hx : rTok.r (fun q => w.heap.size ≤ q ∧ q < (w2.alloc (.cells #[.slice none 0 0, .int .i64 (o : Int), .int .i64 (m : Int)] 253)).heap.size ∧ (Value.slice av L3.length cv).ownBlock ≠ some q) (w2.alloc (.cells #[.slice none 0 0, .int .i64 (o : Int), .int .i64 (m : Int)] 253)) [.slice none 0 0, .int .i64 (o : Int), .int .i64 (m : Int)] ⟨[], o, m⟩ :=
          tok_mk (x := ⟨[], o, m⟩) (rSl_mk rfl (Nat.le_refl _) (Nat.zero_le _) (.inl rfl)) (by simp; omega) (by simp; omega)
        have hpu := OwnEls.push (HC2.out.below (by (repeat (first | exact Below.refl _ _ | assumption | (refine below_alloc ?_ _) | (refine Below.setCell ?_ (by first | omega | (simp; done) | (simp; omega)) _) | (refine Below.drew ?_) | (refine below_drewN ?_ _) | (refine below_then (by assumption) ?_))))) rfl hx HO8.out HG8.out HA8.out HG8.out.size
        have hb8 : Below w.heap.size w w8 := Below.grown (by (repeat (first | exact Below.refl _ _ | assumption | (refine below_alloc ?_ _) | (refine Below.setCell ?_ (by first | omega | (simp; done) | (simp; omega)) _) | (refine Below.drew ?_) | (refine below_drewN ?_ _) | (refine below_then (by assumption) ?_)))) HG8.out (by simp; omega) (fun g e => (HC2.out.1.lt g e).1)
        have hto : TOut w.heap.size b w8 (.slice a8 (L3.length + 1) c8) (L3 ++ [⟨[], (o : Int), (m : Int)⟩]) (p + m) (p + m) := .inl ⟨rfl, hpu⟩
        have HTO := hid hto
        clear hto hpu hx
        go_wp2_with fail
        go_roundw
        case rel => exact ⟨p + m, p + m, L3 ++ [⟨[], (o : Int), (m : Int)⟩], by go_num, by omega, Nat.le_refl _, by simp; omega, hrn, hls, HTO, hb8⟩
        case measure => simp [intOf]; omega
    · obtain rfl : p = b.length := by omega
      have hf := hrest.out.fin
      rw [← hf] at hcl
      have hV := OwnEls.slice (Nat.le_refl _) ⟨_, hcl⟩
      rw [← hf] at *
      have HV := hid hV
      clear hV hcl hf
      go_wp2
      go_ret
      exact ⟨_, rfl, HV.out, hb⟩
end Go.Proofs.YtkipiefcnjfdjaaGreat
namespace Go.Proofs.YtkipiefcnjfdjaaGreat
open Go.RowKit Go.Bs Go.Maps
set_option linter.unusedVariables false
set_option linter.unusedSimpArgs false

theorem good_right {b : List UInt8} (hb : b.length ≤ 1048576) : ∀ {f : Bool} {p : Nat} {ts : List Tok}, Good b f p ts → ∀ t ∈ ts, rightB t = true
  | _, _, _, .nil, t, ht => by simp at ht
  | _, _, _, .copy (p := p) (o := o) (m := m) hp hbe hm hg, t, ht => by
    rcases List.mem_cons.1 ht with rfl | ht
    · have h1 := bestR_facts b p
      have h2 := (bestR_room b p).1
      rw [hbe] at h1 h2
      simp only at h2
      rcases h1 with h1 | ⟨o', m', h1, g1, g2, g3, _⟩
      · simp only [Prod.mk.injEq] at h1; omega
      · simp only [Prod.mk.injEq] at h1
        unfold reach at g2
        simp [rightB, copyB]
        omega
    · exact good_right hb hg t ht
  | _, _, _, .run (p := p) (q := q) h1 h2 h3 hg, t, ht => by
    rcases List.mem_cons.1 ht with rfl | ht
    · simp [rightB, runB]
      omega
    · exact good_right hb hg t ht
theorem toks_right {b : List UInt8} (hb : b.length ≤ 1048576) : ∀ t ∈ toksR b, rightB t = true := good_right hb (good_toksR b)
theorem toks_len2 {b : List UInt8} (hb : b.length ≤ 1048576) : (toksR b).length ≤ 10000000 := by
  have := toks_len b b.length 0 0
  unfold toksR
  omega

set_option maxRecDepth 100000 in
theorem press_bytes (w : World) (b : List UInt8) (a : Option Addr) (n c : Nat) (hl : rBytes.r (· < w.heap.size) w [.slice a n c] b) (hlen : b.length ≤ 1048576) :
    Calls Tryz.prog 196 #[.slice a n c] w fun r w' => ∃ v, r = .returned (.tuple #[v, .int .i64 0]) ∧ rBytes.r (fun q => w.heap.size ≤ q ∧ q < w'.heap.size) w' [v] (tokensB (toksR b)) ∧ Below w.heap.size w w' := by
  obtain ⟨rfl, hm, _, _⟩ := sl_len hl
  have HT := hid (press_tokens w b a _ c hl hlen)
  have hri := toks_right hlen
  have hl2 := toks_len2 hlen
  clear hl
  generalize toksR b = T at *
  go_enter Tryz.func196, Tryz.ntmps196
  go_wp2_with fail
  refine HT.out.mono ?_
  rintro r w1 ⟨v, rfl, hr, hb1⟩
  obtain ⟨a1, c1, hv, hr2, _⟩ := sl_form hr
  simp only [List.cons.injEq, and_true] at hv
  subst hv
  have HB := hid (token_bytes T a1 _ c1 w1 (rToks.mono hr2 fun q hq => hq.2) hl2 hri)
  have hs1 := hb1.size
  clear hr hr2
  go_wp2_with fail
  refine HB.out.mono ?_
  rintro r w2 ⟨v2, rfl, hv2, hb2⟩
  have hbe := below_then hb2 hb1
  have HV := hid (rBytes.mono (S' := fun q => w.heap.size ≤ q ∧ q < w2.heap.size) hv2 fun q hq => ⟨by have := hq.1; omega, hq.2⟩)
  clear hv2
  go_wp2
  go_ret2
  exact ⟨_, rfl, HV.out, hbe⟩

end Go.Proofs.YtkipiefcnjfdjaaGreat
namespace Go.Proofs.YtkipiefcnjfdjaaGreat
open Go.RowKit Go.Bs Go.Maps
set_option linter.unusedVariables false
set_option linter.unusedSimpArgs false

set_option maxRecDepth 100000 in
set_option maxHeartbeats 1600000 in
theorem ref04_own (x : Nat) : ∀ (hx : x < 18446744073709551616) (w : World),
    Calls Tryz.prog 144 #[.int .u64 x] w fun r w' => ∃ v, r = .returned v ∧ w'.ownsRow w.heap.size 5 1 v (varB x).length (byteCells (varB x)) ∧ Below w.heap.size w w' := by
  induction x using Nat.strongRecOn with
  | ind x ih =>
  intro hx w
  obtain ⟨i0, hi, hz0, hz1, hz2⟩ := info_parts info8
  by_cases h : x < 128
  · have d1 : decide ((x : Int) < 128) = true := by simp; omega
    have hfin : Hid (varB x = [UInt8.ofNat x]) := hid (varB_small h)
    have hby : Hid ((x : Int) = ((UInt8.ofNat x).toNat : Int)) := hid (byte_small (by omega))
    have HIH := hid ih; clear ih
    go_enter Tryz.func144, Tryz.ntmps144
    go_wp2_with fail
    have e0 : [Value.int .u8 (x : Int)] = byteCells (varB x) := by rw [hfin.out, hby.out]; rfl
    have ho : (w.alloc (.cells #[.int .u8 (x : Int)] 5)).ownsRow w.heap.size 5 1 (.slice (some ⟨w.heap.size, 0, none⟩) 1 1) 1 (byteCells (varB x)) := e0 ▸ own_new1 (w := w.alloc (.cells #[.int .u8 (x : Int)] 5)) (base := w.heap.size) (e := 5) (Nat.le_refl _) (World.alloc_heap_new w _)
    have HL1 : Hid ((varB x).length = 1) := hid (by rw [hfin.out]; rfl)
    have HV := hid ho
    clear ho e0
    go_ret
    exact ⟨_, rfl, by rw [HL1.out]; exact HV.out, by (repeat (first | exact Below.refl _ _ | assumption | (refine below_alloc ?_ _) | (refine Below.setCell ?_ (by first | omega | (simp; done) | (simp; omega)) _) | (refine Below.drew ?_) | (refine below_drewN ?_ _) | (refine below_then (by assumption) ?_)))⟩
  · have d1 : decide ((x : Int) < 128) = false := by simp; omega
    have HIH := hid (fun (W : World) => ih (x / 128) (by omega) (by omega) W)
    clear ih
    rw [show ((x / 128 : Nat) : Int) = (x : Int) / 128 by omega] at HIH
    have hfin : Hid (varB x = [UInt8.ofNat (128 + x % 128)] ++ varB (x / 128)) := hid (by rw [varB_step h (by omega)]; rfl)
    have hby : Hid (128 + (x : Int) % 128 = ((UInt8.ofNat (128 + x % 128)).toNat : Int)) := hid (by rw [← byte_small (by omega)]; omega)
    have hlb := varB_len (x / 128)
    go_enter Tryz.func144, Tryz.ntmps144
    go_wp2_with fail
    refine (HIH.out _).mono ?_
    rintro r w1 ⟨v1, rfl, hr1, hb1⟩
    have ho := own_new1 (w := w.alloc (.cells #[.int .u8 (128 + (x : Int) % 128)] 5)) (base := w.heap.size) (e := 5) (Nat.le_refl _) (World.alloc_heap_new w _)
    have ho1 := own_below ho hb1
    obtain ⟨a1, c1, rfl⟩ := own_form hr1
    have hr3 := src_bytes (rBytes.mono (own_bytes2 rfl hr1) (S' := (· < w1.heap.size)) fun b hb => hb.2)
    have HS := hid hr3; have HO := hid ho1; have HONE := hid (byteCells_one (varB (x / 128)))
    have hz1w : w.heap.size + 1 ≤ w1.heap.size := by have := hb1.size; simpa using this
    have hbw1 : Below w.heap.size w w1 := by (repeat (first | exact Below.refl _ _ | assumption | (refine below_alloc ?_ _) | (refine Below.setCell ?_ (by first | omega | (simp; done) | (simp; omega)) _) | (refine Below.drew ?_) | (refine below_drewN ?_ _) | (refine below_then (by assumption) ?_)))
    clear hr1 hr3 ho ho1
    go_wp2_with (at_builtin; go_loud (refine wpList_append_src rfl _ _ _ rfl w.heap.size 5 i0 (.int .u8 0) 1 1 Tryz.underlying28 hi hz0 hz1 hz2 rfl (by decide) (.slice (some ⟨w.heap.size, 0, none⟩) 1 1) 1 _ rfl HO.out a1 (varB (x / 128)).length c1 (byteCells (varB (x / 128))) rfl HS.out HONE.out (by simp only [maxLen]; omega) (by omega) (by omega) ?_; intro v' w2 hown2 hgrow2 hat2; have HG := hid hgrow2; have HO2 := hid hown2; clear hgrow2 hown2 hat2))
    have ho := HO2.out
    rw [hby.out, show [Value.int .u8 ((UInt8.ofNat (128 + x % 128)).toNat : Int)] = byteCells [UInt8.ofNat (128 + x % 128)] from rfl, byteCells, byteCells, ← List.map_append, ← hfin.out] at ho
    rw [show 1 + (varB (x / 128)).length = (varB x).length by rw [hfin.out]; simp; omega] at ho
    have hB : Below w.heap.size w w2 := Below.grown hbw1 HG.out (by omega) (fun g e => (HO.out.lt g e).1)
    have HV := hid ho
    clear ho
    go_ret
    exact ⟨_, rfl, HV.out, hB⟩

set_option maxRecDepth 100000 in
theorem ref06_own (w : World) (D : List UInt8) (a : Option Addr) (n c : Nat) (hl : rBytes.r (· < w.heap.size) w [.slice a n c] D) (hlen : D.length ≤ 10000000000000) :
    Calls Tryz.prog 147 #[.slice a n c] w fun r w' => ∃ v, r = .returned v ∧ w'.ownsRow w.heap.size 5 1 v (blobB D).length (byteCells (blobB D)) ∧ Below w.heap.size w w' := by
  obtain ⟨rfl, hm, _, _⟩ := sl_len hl
  obtain ⟨i0, hi, hz0, hz1, hz2⟩ := info_parts info8
  have HL := hid hl
  have HV := hid (ref04_own D.length (by omega) w)
  have HONE := hid (byteCells_one D)
  have hvl := varB_len D.length
  have hbl := hid (blobB_len D)
  have hbd : Hid (blobB D = varB D.length ++ D) := hid rfl
  clear hl
  generalize varB D.length = E at *
  go_enter Tryz.func147, Tryz.ntmps147
  go_wp2_with fail
  refine HV.out.mono ?_
  rintro r w1 ⟨v, rfl, ho, hb1⟩
  obtain ⟨a1, c1, rfl⟩ := own_form ho
  have hs1 := hb1.size
  have HO := hid ho
  have HS := hid (src_bytes (lift HL.out hb1))
  clear ho
  go_wp2_with (at_builtin; go_loud (refine wpList_append_src rfl _ _ _ rfl w.heap.size 5 i0 (.int .u8 0) 1 1 Tryz.underlying28 hi hz0 hz1 hz2 rfl (by decide) (.slice a1 E.length c1) E.length (byteCells E) rfl HO.out a D.length c (byteCells D) rfl HS.out HONE.out (by simp only [maxLen]; omega) (by omega) (by omega) ?_; intro v' w2 hown2 hgrow2 hat2; have HG := hid hgrow2; have HO2 := hid hown2; clear hgrow2 hown2 hat2))
  have ho := HO2.out
  rw [byteCells_app, ← hbd.out, show E.length + D.length = (blobB D).length from hbl.out.symm] at ho
  have hB : Below w.heap.size w w2 := Below.grown hb1 HG.out (by omega) (fun g e => (HO.out.lt g e).1)
  have HV2 := hid ho
  clear ho
  go_ret
  exact ⟨_, rfl, HV2.out, hB⟩

set_option maxRecDepth 100000 in
theorem ref15_bytes (w : World) (b : List UInt8) (a : Option Addr) (n c : Nat) (hl : rBytes.r (· < w.heap.size) w [.slice a n c] b) (hlen : b.length ≤ 1048576) :
    Calls Tryz.prog 148 #[.slice a n c] w fun r w' => ∃ v, r = .returned v ∧ rBytes.r (fun q => w.heap.size ≤ q ∧ q < w'.heap.size) w' [v] (tokensB (toksR b)) ∧ Below w.heap.size w w' := by
  obtain ⟨rfl, hm, _, _⟩ := sl_len hl
  have HT := hid (ref15_tokens b a _ c w hl hlen)
  have hri := toks_right hlen
  have hl2 := toks_len2 hlen
  clear hl
  generalize toksR b = T at *
  go_enter Tryz.func148, Tryz.ntmps148
  go_wp2_with fail
  refine HT.out.mono ?_
  rintro r w1 ⟨v, rfl, hr, hb1⟩
  obtain ⟨a1, c1, hv, hr2, _⟩ := sl_form hr
  simp only [List.cons.injEq, and_true] at hv
  subst hv
  have HB := hid (ref11_bytes T a1 _ c1 w1 (rToks.mono hr2 fun q hq => hq.2) hl2 hri)
  have hs1 := hb1.size
  clear hr hr2
  go_wp2_with fail
  refine HB.out.mono ?_
  rintro r w2 ⟨v2, rfl, hv2, hb2⟩
  have hbe := below_then hb2 hb1
  have HV := hid (rBytes.mono (S' := fun q => w.heap.size ≤ q ∧ q < w2.heap.size) hv2 fun q hq => ⟨by have := hq.1; omega, hq.2⟩)
  clear hv2
  go_wp2
  go_ret
  exact ⟨_, rfl, HV.out, hbe⟩
end Go.Proofs.YtkipiefcnjfdjaaGreat
namespace Go.Proofs.YtkipiefcnjfdjaaGreat
open Go.RowKit Go.Bs Go.Maps
set_option linter.unusedVariables false
set_option linter.unusedSimpArgs false

theorem pressB_small {b : List UInt8} (hb : b.length ≤ 1048576) : (pressB b).length ≤ 10000000000000 := by
  have hL : ∀ t ∈ toksR b, t.lit.length ≤ 1048576 := fun t ht => by
    rcases right_forms (toks_right hb t ht) with ⟨D, rfl, h1, h2⟩ | ⟨o, m, rfl, _⟩
    · exact h2
    · simp
  have h1 := tokensB_len (toksR b)
  have h2 := roomT_le (toksR b) hL (toksR b).length (Nat.le_refl _)
  rw [List.take_length] at h2
  have h3 := toks_len b b.length 0 0
  unfold pressB
  unfold toksR at *
  omega

set_option maxRecDepth 100000 in
theorem ref16_packed (w : World) (p : List UInt8) (a : Option Addr) (n c : Nat) (hl : rBytes.r (· < w.heap.size) w [.slice a n c] p) (hlen : p.length ≤ 1048576) :
    Calls Tryz.prog 146 #[.slice a n c] w fun r w' => r = .returned (.bool (packR p)) ∧ Below w.heap.size w w' := by
  obtain ⟨rfl, hm, _, _⟩ := sl_len hl
  have HT := hid (ref15_bytes w p a _ c hl hlen)
  have hsm := pressB_small hlen
  have hpk : Hid (packR p = decide ((blobB (pressB p)).length < p.length)) := hid rfl
  have hpI : Hid (decide (((blobB (pressB p)).length : Int) < (p.length : Int)) = packR p) := hid (by rw [hpk.out]; by_cases h : (blobB (pressB p)).length < p.length <;> simp [h])
  clear hl
  rw [show tokensB (toksR p) = pressB p from rfl] at HT
  generalize pressB p = E at *
  generalize packR p = R at *
  have HB := hid (fun (W : World) (a1 : Option Addr) (c1 : Nat) (h : rBytes.r (· < W.heap.size) W [.slice a1 E.length c1] E) => ref06_own W E a1 _ c1 h hsm)
  generalize blobB E = G at *
  clear hpk
  go_enter Tryz.func146, Tryz.ntmps146
  go_wp2_with fail
  refine HT.out.mono ?_
  rintro r w1 ⟨v, rfl, hr, hb1⟩
  obtain ⟨a1, c1, hv, hr2, _⟩ := sl_form hr
  simp only [List.cons.injEq, and_true] at hv
  subst hv
  have HR := hid (rBytes.mono hr2 (S' := (· < w1.heap.size)) fun q hq => hq.2)
  clear hr hr2
  go_wp2_with fail
  refine (HB.out _ a1 c1 HR.out).mono ?_
  rintro r w2 ⟨v2, rfl, ho, hb2⟩
  obtain ⟨a2, c2, rfl⟩ := own_form ho
  have hbe := below_then hb2 hb1
  clear ho
  have hpI' := hpI.out
  clear hpI
  cases R
  · have d1 : decide ((G.length : Int) < (p.length : Int)) = false := hpI'
    have d1' : decide (G.length < p.length) = false := by simp at d1; simp; omega
    clear hpI'
    go_wp2
    go_ret
    exact ⟨rfl, hbe⟩
  · have d1 : decide ((G.length : Int) < (p.length : Int)) = true := hpI'
    have d1' : decide (G.length < p.length) = true := by simp at d1; simp; omega
    clear hpI'
    go_wp2
    go_ret
    exact ⟨rfl, hbe⟩

set_option maxRecDepth 100000 in
theorem block_packed (w : World) (p : List UInt8) (a : Option Addr) (n c : Nat) (hl : rBytes.r (· < w.heap.size) w [.slice a n c] p) (hlen : p.length ≤ 1048576) :
    Calls Tryz.prog 136 #[.slice a n c] w fun r w' => ∃ v, r = .returned (.tuple #[v, .bool (packR p)]) ∧ (packR p = true → rBytes.r (fun q => w.heap.size ≤ q ∧ q < w'.heap.size) w' [v] (pressB p)) ∧ (packR p = false → v = .slice none 0 0) ∧ Below w.heap.size w w' := by
  obtain ⟨rfl, hm, _, _⟩ := sl_len hl
  have HT := hid (press_bytes w p a _ c hl hlen)
  have hsm := pressB_small hlen
  have hbl := blobB_len (pressB p)
  have hpk : Hid (packR p = decide ((blobB (pressB p)).length < p.length)) := hid rfl
  clear hl
  rw [show tokensB (toksR p) = pressB p from rfl] at HT
  generalize pressB p = E at *
  rw [hbl] at hpk
  generalize packR p = R at *
  have HS := hid (fun (W : World) => blob_size E.length (by omega) W)
  have hvl := varB_len E.length
  clear hbl
  generalize (varB E.length).length = k at *
  go_enter Tryz.func136, Tryz.ntmps136
  go_wp2_with fail
  refine HT.out.mono ?_
  rintro r w1 ⟨v, rfl, hr, hb1⟩
  obtain ⟨a1, c1, hv, hr2, _⟩ := sl_form hr
  simp only [List.cons.injEq, and_true] at hv
  subst hv
  have HR := hid hr2
  have hs1 := hb1.size
  clear hr hr2
  go_wp2_with fail
  refine (HS.out _).mono ?_
  rintro r w2 ⟨rfl, hb2⟩
  have hbe := below_then hb2 hb1
  have hs2 := hb2.size
  have HR2 := hid (rBytes.mono (S' := fun q => w.heap.size ≤ q ∧ q < w2.heap.size) (rBytes.keep HR.out fun q hq => hb2.block q hq.2) fun q hq => ⟨hq.1, by omega⟩)
  have hpk' := hpk.out
  clear hpk
  cases R
  · have hle : ¬ k + E.length < p.length := of_decide_eq_false hpk'.symm
    have d1 : decide ((p.length : Int) ≤ (k : Int) + (E.length : Int)) = true := decide_eq_true (by omega)
    have d1' : decide ((p.length : Int) ≤ ((k + E.length : Nat) : Int)) = true := decide_eq_true (by omega)
    have d1'' : decide (p.length ≤ k + E.length) = true := decide_eq_true (by omega)
    clear hpk' hle
    go_wp2
    go_ret2
    exact ⟨_, rfl, rfl, hbe⟩
  · have hle : k + E.length < p.length := of_decide_eq_true hpk'.symm
    have d1 : decide ((p.length : Int) ≤ (k : Int) + (E.length : Int)) = false := decide_eq_false (by omega)
    have d1' : decide ((p.length : Int) ≤ ((k + E.length : Nat) : Int)) = false := decide_eq_false (by omega)
    have d1'' : decide (p.length ≤ k + E.length) = false := decide_eq_false (by omega)
    clear hpk' hle
    go_wp2
    go_ret2
    exact ⟨_, rfl, HR2.out, hbe⟩

end Go.Proofs.YtkipiefcnjfdjaaGreat
namespace Go.Proofs.YtkipiefcnjfdjaaGreat
open Go.RowKit Go.Bs Go.Maps
set_option linter.unusedVariables false
set_option linter.unusedSimpArgs false

set_option maxRecDepth 100000 in
set_option maxHeartbeats 1600000 in
theorem ref16_bytes (w : World) (p : List UInt8) (a : Option Addr) (n c : Nat) (hl : rBytes.r (· < w.heap.size) w [.slice a n c] p) (hlen : p.length ≤ 1048576) :
    Calls Tryz.prog 90 #[.slice a n c] w fun r w' => ∃ v, r = .returned v ∧ rBytes.r (fun q => w.heap.size ≤ q ∧ q < w'.heap.size) w' [v] (blockB p) ∧ Below w.heap.size w w' := by
  obtain ⟨rfl, hm, _, _⟩ := sl_len hl
  obtain ⟨i0, hi, hz0, hz1, hz2⟩ := info_parts info8
  have HL := hid hl
  have HV := hid (ref04_own p.length (by omega) w)
  have HPK := hid (fun (W : World) (hW : Below w.heap.size w W) => ref16_packed W p a _ c (lift HL.out hW) hlen)
  have HPB := hid (fun (W : World) (hW : Below w.heap.size w W) => ref15_bytes W p a _ c (lift HL.out hW) hlen)
  have hsm := pressB_small hlen
  have hbk : Hid (blockB p = varB p.length ++ (if packR p then 1 :: blobB (pressB p) else 0 :: p)) := hid rfl
  have hvl := varB_len p.length
  have HONE := hid (byteCells_one p)
  clear hl
  rw [show tokensB (toksR p) = pressB p from rfl] at HPB
  generalize pressB p = E at *
  have HB := hid (fun (W : World) (av : Option Addr) (cv : Nat) (h : rBytes.r (· < W.heap.size) W [.slice av E.length cv] E) => ref06_own W E av _ cv h hsm)
  have hgl := blobB_len E
  have hvE := varB_len E.length
  have hG : (blobB E).length ≤ 20000000000000 := by omega
  clear hgl hvE
  generalize blobB E = G at *
  generalize varB p.length = V at *
  generalize packR p = R at *
  generalize blockB p = K at *
  cases R
  · have hK : K = V ++ (0 :: p) := hbk.out
    have HK := hid hK
    clear hK hbk
    go_enter Tryz.func90, Tryz.ntmps90
    go_wp2_with fail
    refine HV.out.mono ?_
    rintro r w1 ⟨v, rfl, ho1, hb1⟩
    obtain ⟨a1, c1, rfl⟩ := own_form ho1
    have HO1 := hid ho1
    clear ho1
    go_wp2_with fail
    refine (HPK.out _ hb1).mono ?_
    rintro r w2 ⟨rfl, hb2⟩
    have hs1 := hb1.size
    have hs2 := hb2.size
    have hbw2 := below_then hb2 hb1
    have HO2 := hid (own_below HO1.out hb2)
    go_wp2_with (first
      | (at_builtin; go_loud (refine wpList_append_src rfl _ _ _ rfl w.heap.size 5 i0 (.int .u8 0) 1 1 Tryz.underlying28 hi hz0 hz1 hz2 rfl (by decide) (.slice a1 V.length c1) V.length (byteCells V) rfl (own_below HO2.out (by (repeat (first | exact Below.refl _ _ | assumption | (refine below_alloc ?_ _) | (refine Below.setCell ?_ (by first | omega | (simp; done) | (simp; omega)) _) | (refine Below.drew ?_) | (refine below_drewN ?_ _) | (refine below_then (by assumption) ?_))))) (some ⟨w2.heap.size, 0, none⟩) 1 1 [.int .u8 0] rfl (src_new1 w2 5 _ rfl rfl rfl) (by intro u hu; simp at hu; subst hu; rfl) (by simp only [maxLen]; omega) (by omega) (by simp; omega) ?_; intro v' w3 hown3 hgrow3 hat3; obtain ⟨a3, c3, rfl⟩ := own_form hown3; have HO3 := hid hown3; have hbw3 : Below w.heap.size w w3 := (Below.grown (by (repeat (first | exact Below.refl _ _ | assumption | (refine below_alloc ?_ _) | (refine Below.setCell ?_ (by first | omega | (simp; done) | (simp; omega)) _) | (refine Below.drew ?_) | (refine below_drewN ?_ _) | (refine below_then (by assumption) ?_)))) hgrow3 (by simp; omega) (fun g e => (HO2.out.lt g e).1)); have hs3 : w2.heap.size ≤ w3.heap.size := (Nat.le_trans (by simp) hgrow3.size); have HS3 := hid (src_bytes (lift HL.out hbw3)); clear hgrow3 hown3 hat3))
      | (at_builtin; go_loud (refine wpList_append_src rfl _ _ _ rfl w.heap.size 5 i0 (.int .u8 0) 1 1 Tryz.underlying28 hi hz0 hz1 hz2 rfl (by decide) (.slice a3 (V.length + 1) c3) (V.length + 1) (byteCells V ++ [.int .u8 0]) rfl HO3.out a p.length c (byteCells p) rfl HS3.out HONE.out (by simp only [maxLen]; omega) (by omega) (by omega) ?_; intro v' w5 hown5 hgrow5 hat5; have HG5 := hid hgrow5; have HO5 := hid hown5; clear hgrow5 hown5 hat5)))
    have ho := HO5.out
    rw [show [Value.int .u8 0] = byteCells [0] from rfl, byteCells_app, byteCells_app, List.append_assoc, show [(0 : UInt8)] ++ p = 0 :: p from rfl, ← HK.out] at ho
    have hln : V.length + 1 + p.length = K.length := by rw [HK.out]; simp; omega
    have hV5 := own_bytes2 hln ho
    have hbF : Below w.heap.size w w5 := Below.grown hbw3 HG5.out (by omega) (fun g e => (HO3.out.lt g e).1)
    have HV5 := hid hV5
    clear ho hln hV5
    go_ret
    exact ⟨_, rfl, HV5.out, hbF⟩
  · have hK : K = V ++ (1 :: G) := hbk.out
    have HK := hid hK
    clear hK hbk
    go_enter Tryz.func90, Tryz.ntmps90
    go_wp2_with fail
    refine HV.out.mono ?_
    rintro r w1 ⟨v, rfl, ho1, hb1⟩
    obtain ⟨a1, c1, rfl⟩ := own_form ho1
    have HO1 := hid ho1
    clear ho1
    go_wp2_with fail
    refine (HPK.out _ hb1).mono ?_
    rintro r w2 ⟨rfl, hb2⟩
    have hs1 := hb1.size
    have hs2 := hb2.size
    have hbw2 := below_then hb2 hb1
    have HO2 := hid (own_below HO1.out hb2)
    go_wp2_with (at_builtin; go_loud (refine wpList_append_src rfl _ _ _ rfl w.heap.size 5 i0 (.int .u8 0) 1 1 Tryz.underlying28 hi hz0 hz1 hz2 rfl (by decide) (.slice a1 V.length c1) V.length (byteCells V) rfl (own_below HO2.out (by (repeat (first | exact Below.refl _ _ | assumption | (refine below_alloc ?_ _) | (refine Below.setCell ?_ (by first | omega | (simp; done) | (simp; omega)) _) | (refine Below.drew ?_) | (refine below_drewN ?_ _) | (refine below_then (by assumption) ?_))))) (some ⟨w2.heap.size, 0, none⟩) 1 1 [.int .u8 1] rfl (src_new1 w2 5 _ rfl rfl rfl) (by intro u hu; simp at hu; subst hu; rfl) (by simp only [maxLen]; omega) (by omega) (by simp; omega) ?_; intro v' w3 hown3 hgrow3 hat3; obtain ⟨a3, c3, rfl⟩ := own_form hown3; have HO3 := hid hown3; have hbw3 : Below w.heap.size w w3 := (Below.grown (by (repeat (first | exact Below.refl _ _ | assumption | (refine below_alloc ?_ _) | (refine Below.setCell ?_ (by first | omega | (simp; done) | (simp; omega)) _) | (refine Below.drew ?_) | (refine below_drewN ?_ _) | (refine below_then (by assumption) ?_)))) hgrow3 (by simp; omega) (fun g e => (HO2.out.lt g e).1)); have hs3 : w2.heap.size ≤ w3.heap.size := (Nat.le_trans (by simp) hgrow3.size); have HS3 := hid (src_bytes (lift HL.out hbw3)); clear hgrow3 hown3 hat3))
    refine (HPB.out _ hbw3).mono ?_
    rintro r w4 ⟨v4, rfl, hr4, hb4⟩
    obtain ⟨a4, c4, hv4, hr4', _⟩ := sl_form hr4
    simp only [List.cons.injEq, and_true] at hv4
    subst hv4
    have HR4 := hid (rBytes.mono hr4' (S' := (· < w4.heap.size)) fun q hq => hq.2)
    clear hr4 hr4'
    go_wp2_with fail
    refine (HB.out _ a4 c4 HR4.out).mono ?_
    rintro r w5 ⟨v5, rfl, ho5, hb5⟩
    obtain ⟨a5, c5, rfl⟩ := own_form ho5
    have hs4 := hb4.size
    have hs5 := hb5.size
    have hb35 := below_then hb5 hb4
    have hbw5 := below_then hb35 hbw3
    have HS5 := hid (src_bytes (own_bytes rfl ho5))
    have HO5 := hid (own_below HO3.out hb35)
    have HONE5 := hid (byteCells_one G)
    clear ho5
    go_wp2_with (at_builtin; go_loud (refine wpList_append_src rfl _ _ _ rfl w.heap.size 5 i0 (.int .u8 0) 1 1 Tryz.underlying28 hi hz0 hz1 hz2 rfl (by decide) (.slice a3 (V.length + 1) c3) (V.length + 1) (byteCells V ++ [.int .u8 1]) rfl HO5.out a5 G.length c5 (byteCells G) rfl HS5.out HONE5.out (by simp only [maxLen]; omega) (by omega) (by omega) ?_; intro v' w6 hown6 hgrow6 hat6; have HG6 := hid hgrow6; have HO6 := hid hown6; clear hgrow6 hown6 hat6))
    have ho := HO6.out
    rw [show [Value.int .u8 1] = byteCells [1] from rfl, byteCells_app, byteCells_app, List.append_assoc, show [(1 : UInt8)] ++ G = 1 :: G from rfl, ← HK.out] at ho
    have hln : V.length + 1 + G.length = K.length := by rw [HK.out]; simp; omega
    have hV6 := own_bytes2 hln ho
    have hbF : Below w.heap.size w w6 := Below.grown hbw5 HG6.out (by omega) (fun g e => (HO5.out.lt g e).1)
    have HV6 := hid hV6
    clear ho hln hV6
    go_ret
    exact ⟨_, rfl, HV6.out, hbF⟩
end Go.Proofs.YtkipiefcnjfdjaaGreat
namespace Go.Proofs.YtkipiefcnjfdjaaGreat
open Go.RowKit Go.Bs Go.Maps
set_option linter.unusedVariables false
set_option linter.unusedSimpArgs false

theorem penF_old {w : World} {g : Nat} {a a1 : Option Addr} (h : a1.map Addr.block = a.map Addr.block ∨ ∃ q, a1.map Addr.block = some q ∧ w.heap.size ≤ q) {q : Nat} (hq : q < w.heap.size) (hn : ¬ PenF g a q) : ¬ PenF g a1 q := by
  rw [penF_is] at hn ⊢
  intro e
  rcases e with e | e
  · exact hn (.inl e)
  · rcases h with h | ⟨q', h, h2⟩
    · exact hn (.inr (h ▸ e))
    · rw [h] at e; have := Option.some.inj e; omega
set_option maxRecDepth 100000 in
set_option maxHeartbeats 1600000 in
theorem block_put (w : World) {g base most : Nat} {J : List UInt8} {a : Option Addr} {c : Nat} (h : PenAt w g base most J a c) (p : List UInt8) (ad : Option Addr) (nd cd : Nat)
    (hD : rBytes.r (fun q => q < w.heap.size ∧ ¬ PenF g a q) w [.slice ad nd cd] p) (hp : p.length ≤ 1048576) (hfit : J.length + (blockB p).length ≤ most) (hlen : J.length + (blockB p).length ≤ 100000000000000) :
    Calls Tryz.prog 75 #[.pointer (some ⟨g, 0, none⟩), .slice ad nd cd] w fun r w' => r = .returned (.tuple #[]) ∧ PenStep w g base most (J ++ blockB p) a w' := by
  obtain ⟨rfl, hm, _, _⟩ := sl_len hD
  have d1 : decide ((1048576 : Int) < (p.length : Int)) = false := decide_eq_false (by omega)
  have hbk : Hid (blockB p = varB p.length ++ (if packR p then 1 :: blobB (pressB p) else 0 :: p)) := hid rfl
  have hvl : (varB p.length).length ≤ (blockB p).length := by rw [hbk.out]; simp
  have HV := hid (varint_put w h p.length (by omega) (by omega) (by omega))
  have HPK := hid (fun (W : World) (hl : rBytes.r (· < W.heap.size) W [.slice ad p.length cd] p) => block_packed W p ad _ cd hl hp)
  have HD := hid hD
  have HFIT := hid hfit; have HLEN := hid hlen
  clear h hD hfit hlen hvl
  generalize packR p = R at *
  generalize pressB p = E at *
  generalize varB p.length = V at *
  generalize blockB p = K at *
  cases R
  · have HK : Hid (K = V ++ (0 :: p)) := hid hbk.out
    clear hbk
    go_enter Tryz.func75, Tryz.ntmps75
    go_wp2_with fail
    refine HV.out.mono ?_
    rintro r w1 ⟨rfl, a1, c1, hp1, ht1, ha1⟩
    have hs1 := ht1.size
    have hD1 : rBytes.r (fun q => q < w1.heap.size ∧ ¬ PenF g a1 q) w1 [.slice ad p.length cd] p := rBytes.mono (rBytes.keep HD.out fun q hq => ht1.block q hq.1 hq.2) fun q hq => ⟨by omega, penF_old ha1 hq.1 hq.2⟩
    have HD1 := hid hD1
    clear hD1
    go_wp2_with fail
    refine (HPK.out _ (rBytes.mono HD1.out fun q hq => hq.1)).mono ?_
    rintro r w2 ⟨v2, rfl, _, hv2, hb2⟩
    obtain rfl := hv2 trivial
    have hs2 := hb2.size
    have hp2 := hp1.later hb2
    go_wp2_with fail
    have hbW : Below w2.heap.size w2 (w2.alloc (.cells #[.int .u8 0] 5)) := by (repeat (first | exact Below.refl _ _ | assumption | (refine below_alloc ?_ _) | (refine Below.setCell ?_ (by first | omega | (simp; done) | (simp; omega)) _) | (refine Below.drew ?_) | (refine below_drewN ?_ _) | (refine below_then (by assumption) ?_)))
    have hlit : rBytes.r (· < (w2.alloc (.cells #[.int .u8 0] 5)).heap.size) (w2.alloc (.cells #[.int .u8 0] 5)) [.slice (some ⟨w2.heap.size, 0, none⟩) 1 1] [0] := lit_one w2 0
    generalize w2.alloc (.cells #[.int .u8 0] 5) = W at *
    have hsW := hbW.size
    refine (pen_put W (hp2.later hbW) [0] (some ⟨w2.heap.size, 0, none⟩) 1 1 hlit (by have := HFIT.out; rw [HK.out] at this; simp at this ⊢; omega) (by have := HLEN.out; rw [HK.out] at this; simp at this ⊢; omega)).mono ?_
    rintro r w3 ⟨rfl, a3, c3, hp3, ht3, ha3⟩
    have hs3 := ht3.size
    have hD3 : rBytes.r (· < w3.heap.size) w3 [.slice ad p.length cd] p := rBytes.mono (rBytes.keep HD1.out fun q hq => (ht3.block q (by omega) hq.2).trans ((hbW.block q (by omega)).trans (hb2.block q hq.1))) fun q hq => by omega
    have HQ := hid (pen_put w3 hp3 p ad _ cd hD3 (by have := HFIT.out; rw [HK.out] at this; simp at this ⊢; omega) (by have := HLEN.out; rw [HK.out] at this; simp at this ⊢; omega))
    clear hD3 hlit
    go_wp2_with fail
    refine HQ.out.mono ?_
    rintro r w4 ⟨rfl, hst⟩
    have hst2 := PenStep.trans (J := J) ht1 ha1 (PenStep.later hb2 (PenStep.later hbW (PenStep.trans (J := J) ht3 ha3 hst)))
    have HST : Hid (PenStep w g base most (J ++ K) a w4) := hid (by rw [HK.out]; simpa using hst2)
    clear hst hst2
    go_wp2
    first | go_end0 | refine bodyPost_ret (results_none rfl _ _ _) rfl ?_
    exact ⟨rfl, HST.out⟩
  · have HK : Hid (K = V ++ (1 :: blobB E)) := hid hbk.out
    clear hbk
    go_enter Tryz.func75, Tryz.ntmps75
    go_wp2_with fail
    refine HV.out.mono ?_
    rintro r w1 ⟨rfl, a1, c1, hp1, ht1, ha1⟩
    have hs1 := ht1.size
    have hD1 : rBytes.r (fun q => q < w1.heap.size ∧ ¬ PenF g a1 q) w1 [.slice ad p.length cd] p := rBytes.mono (rBytes.keep HD.out fun q hq => ht1.block q hq.1 hq.2) fun q hq => ⟨by omega, penF_old ha1 hq.1 hq.2⟩
    have HD1 := hid hD1
    clear hD1
    go_wp2_with fail
    refine (HPK.out _ (rBytes.mono HD1.out fun q hq => hq.1)).mono ?_
    rintro r w2 ⟨v2, rfl, hv2, _, hb2⟩
    obtain ⟨a2, c2, hve, hr2, _⟩ := sl_form (hv2 trivial)
    simp only [List.cons.injEq, and_true] at hve
    subst hve
    have HE := hid hr2
    clear hv2 hr2
    have hs2 := hb2.size
    have hp2 := hp1.later hb2
    go_wp2_with fail
    have hbW : Below w2.heap.size w2 (w2.alloc (.cells #[.int .u8 1] 5)) := by (repeat (first | exact Below.refl _ _ | assumption | (refine below_alloc ?_ _) | (refine Below.setCell ?_ (by first | omega | (simp; done) | (simp; omega)) _) | (refine Below.drew ?_) | (refine below_drewN ?_ _) | (refine below_then (by assumption) ?_)))
    have hlit : rBytes.r (· < (w2.alloc (.cells #[.int .u8 1] 5)).heap.size) (w2.alloc (.cells #[.int .u8 1] 5)) [.slice (some ⟨w2.heap.size, 0, none⟩) 1 1] [1] := lit_one w2 1
    generalize w2.alloc (.cells #[.int .u8 1] 5) = W at *
    have hsW := hbW.size
    refine (pen_put W (hp2.later hbW) [1] (some ⟨w2.heap.size, 0, none⟩) 1 1 hlit (by have := HFIT.out; rw [HK.out] at this; simp at this ⊢; omega) (by have := HLEN.out; rw [HK.out] at this; simp at this ⊢; omega)).mono ?_
    rintro r w3 ⟨rfl, a3, c3, hp3, ht3, ha3⟩
    have hs3 := ht3.size
    have hno : ∀ q, w1.heap.size ≤ q → ¬ PenF g a1 q := fun q hq hf => by have := (hp1.own_lt hf).2; omega
    have hE3 : rBytes.r (fun q => q < w3.heap.size ∧ ¬ PenF g a3 q) w3 [.slice a2 E.length c2] E := rBytes.mono (rBytes.keep HE.out fun q hq => (ht3.block q (by omega) (hno q hq.1)).trans (hbW.block q (by omega))) fun q hq => ⟨by omega, penF_old ha3 (by omega) (hno q hq.1)⟩
    have HQ := hid (blob_put w3 hp3 E a2 _ c2 hE3 (by have := HFIT.out; rw [HK.out] at this; simp at this ⊢; omega) (by have := HLEN.out; rw [HK.out] at this; simp at this ⊢; omega))
    clear hE3 hlit hno
    go_wp2_with fail
    refine HQ.out.mono ?_
    rintro r w4 ⟨rfl, hst⟩
    have hst2 := PenStep.trans (J := J) ht1 ha1 (PenStep.later hb2 (PenStep.later hbW (PenStep.trans (J := J) ht3 ha3 hst)))
    have HST : Hid (PenStep w g base most (J ++ K) a w4) := hid (by rw [HK.out]; simpa using hst2)
    clear hst hst2
    go_wp2
    first | go_end0 | refine bodyPost_ret (results_none rfl _ _ _) rfl ?_
    exact ⟨rfl, HST.out⟩
end Go.Proofs.YtkipiefcnjfdjaaGreat
namespace Go.Proofs.YtkipiefcnjfdjaaGreat
open Go.RowKit Go.Bs Go.Maps
set_option linter.unusedVariables false
set_option linter.unusedSimpArgs false

theorem toNat_cast {x : Int} (h : 0 ≤ x) : ((x.toNat : Nat) : Int) = x := Int.toNat_of_nonneg h
/-- By how much each stream is above the one ahead. -/
def upsL : Option Int → List Link → List Int
  | _, [] => []
  | p, x :: l => (match p with | none => x.stream | some q => x.stream - q - 1) :: upsL (some x.stream) l
theorem numsB_take_le (l : List Int) (k : Nat) : (numsB (l.take k)).length ≤ (numsB l).length := by
  have : numsB l = numsB (l.take k) ++ numsB (l.drop k) := by rw [← numsB_app, List.take_append_drop]
  rw [this, List.length_append]; omega
theorem upsL_len : ∀ (p : Option Int) (l : List Link), (upsL p l).length = l.length
  | _, [] => rfl
  | p, x :: l => by simp only [upsL, List.length_cons, upsL_len _ l]
/-- What was there, and no part of the pen, is there yet. -/
theorem pen_data {α : Type} {A : Rp α} {w w1 : World} {g : Nat} {a a1 : Option Addr} {cs : List Value} {x : α} (ht : Tch (PenF g a) w w1) (ha : a1.map Addr.block = a.map Addr.block ∨ ∃ q, a1.map Addr.block = some q ∧ w.heap.size ≤ q)
    (h : A.r (fun q => q < w.heap.size ∧ ¬ PenF g a q) w cs x) : A.r (fun q => q < w1.heap.size ∧ ¬ PenF g a1 q) w1 cs x :=
  A.mono (A.keep h fun q hq => ht.block q hq.1 hq.2) fun q hq => ⟨Nat.lt_of_lt_of_le hq.1 ht.size, penF_old ha hq.1 hq.2⟩
theorem pen_later {α : Type} {A : Rp α} {w w1 : World} {g : Nat} {a : Option Addr} {cs : List Value} {x : α} (hb : Below w.heap.size w w1)
    (h : A.r (fun q => q < w.heap.size ∧ ¬ PenF g a q) w cs x) : A.r (fun q => q < w1.heap.size ∧ ¬ PenF g a q) w1 cs x :=
  A.mono (A.keep h fun q hq => hb.block q hq.1) fun q hq => ⟨Nat.lt_of_lt_of_le hq.1 hb.size, hq.2⟩
theorem pen_low {α : Type} {A : Rp α} {w : World} {g : Nat} {a : Option Addr} {cs : List Value} {x : α} (h : A.r (fun q => q < w.heap.size ∧ ¬ PenF g a q) w cs x) : A.r (· < w.heap.size) w cs x := A.mono h fun q hq => hq.1
/-- What came behind a pen is no part of it. -/
theorem pen_new_data {α : Type} {A : Rp α} {w w1 : World} {g base most : Nat} {J : List UInt8} {a : Option Addr} {c : Nat} {cs : List Value} {x : α} (hp : PenAt w g base most J a c) (h : A.r (fun q => w.heap.size ≤ q ∧ q < w1.heap.size) w1 cs x) : A.r (fun q => q < w1.heap.size ∧ ¬ PenF g a q) w1 cs x :=
  A.mono h fun q hq => ⟨hq.2, fun hf => by have := (hp.own_lt hf).2; omega⟩
end Go.Proofs.YtkipiefcnjfdjaaGreat
namespace Go.Proofs.YtkipiefcnjfdjaaGreat
open Go.RowKit Go.Bs
set_option linter.unusedVariables false
set_option linter.unusedSimpArgs false

set_option maxHeartbeats 1600000 in
theorem ref25_same (x y : Batch) (a a' : Option Addr) (n c n' c' : Nat) (w : World) (hx : rEntries.r (· < w.heap.size) w [.slice a n c] x.entries) (hy : rEntries.r (· < w.heap.size) w [.slice a' n' c'] y.entries) :
    Calls Tryz.prog 26 #[.agg #[.int .u64 x.epoch, .int .u64 x.base, .slice a n c], .agg #[.int .u64 y.epoch, .int .u64 y.base, .slice a' n' c']] w fun r w' => r = .returned (.bool (decide (x = y))) ∧ Below w.heap.size w w' := by
  obtain ⟨xe, xb, xl⟩ := x
  obtain ⟨ye, yb, yl⟩ := y
  dsimp only at *
  have HX := hid hx; clear hx
  have HY := hid hy; clear hy
  by_cases h1 : xe = ye
  · by_cases h2 : xb = yb
    · have hff : Hid (decide ((⟨xe, xb, xl⟩ : Batch) = ⟨ye, yb, yl⟩) = decide (xl = yl)) := hid (by simp [h1, h2])
      have d1 : (xe == ye) = true := by simp [h1]
      have d2 : (xb == yb) = true := by simp [h2]
      clear h1 h2
      go_enter Tryz.func26, Tryz.ntmps26
      go_wp2_with fail
      refine (ref24_all xl yl _ _ _ _ _ _ _ (lift HX.out (by (repeat (first | exact Below.refl _ _ | assumption | (refine below_alloc ?_ _) | (refine Below.setCell ?_ (by first | omega | (simp; done) | (simp; omega)) _) | (refine Below.drew ?_) | (refine below_drewN ?_ _) | (refine below_then (by assumption) ?_))))) (lift HY.out (by (repeat (first | exact Below.refl _ _ | assumption | (refine below_alloc ?_ _) | (refine Below.setCell ?_ (by first | omega | (simp; done) | (simp; omega)) _) | (refine Below.drew ?_) | (refine below_drewN ?_ _) | (refine below_then (by assumption) ?_)))))).mono ?_
      rintro e w1 ⟨rfl, hb1⟩
      have hb2 : Below w.heap.size w w1 := by (repeat (first | exact Below.refl _ _ | assumption | (refine below_alloc ?_ _) | (refine Below.setCell ?_ (by first | omega | (simp; done) | (simp; omega)) _) | (refine Below.drew ?_) | (refine below_drewN ?_ _) | (refine below_then (by assumption) ?_)))
      go_wp2
      go_ret
      exact ⟨by rw [hff.out]; rfl, hb2⟩
    · have hff : Hid (decide ((⟨xe, xb, xl⟩ : Batch) = ⟨ye, yb, yl⟩) = false) := hid (by simp [h1, h2])
      have d1 : (xe == ye) = true := by simp [h1]
      have d2 : (xb == yb) = false := by simp [h2]
      clear h1 h2
      go_enter Tryz.func26, Tryz.ntmps26
      go_wp2
      go_ret
      exact ⟨by rw [hff.out]; rfl, by (repeat (first | exact Below.refl _ _ | assumption | (refine below_alloc ?_ _) | (refine Below.setCell ?_ (by first | omega | (simp; done) | (simp; omega)) _) | (refine Below.drew ?_) | (refine below_drewN ?_ _) | (refine below_then (by assumption) ?_)))⟩
  · have hff : Hid (decide ((⟨xe, xb, xl⟩ : Batch) = ⟨ye, yb, yl⟩) = false) := hid (by simp [h1])
    have d1 : (xe == ye) = false := by simp [h1]
    clear h1
    go_enter Tryz.func26, Tryz.ntmps26
    go_wp2
    go_ret
    exact ⟨by rw [hff.out]; rfl, by (repeat (first | exact Below.refl _ _ | assumption | (refine below_alloc ?_ _) | (refine Below.setCell ?_ (by first | omega | (simp; done) | (simp; omega)) _) | (refine Below.drew ?_) | (refine below_drewN ?_ _) | (refine below_then (by assumption) ?_)))⟩

set_option maxHeartbeats 1600000 in
theorem ref34_same (ex ey : Int) (x y : List Batch) (a a' : Option Addr) (n c n' c' : Nat) (w : World) (hx : rBatches.r (· < w.heap.size) w [.slice a n c] x) (hy : rBatches.r (· < w.heap.size) w [.slice a' n' c'] y) :
    Calls Tryz.prog 43 #[.agg #[.int .u64 ex, .slice a n c], .agg #[.int .u64 ey, .slice a' n' c']] w fun r w' => r = .returned (.bool (decide ((⟨ex, x⟩ : Seg) = ⟨ey, y⟩))) ∧ Below w.heap.size w w' := by
  obtain ⟨rfl, hm, _, _⟩ := sl_len hx
  obtain ⟨rfl, hm', _, _⟩ := sl_len hy
  by_cases he : ex = ey
  · have d0 : (ex != ey) = false := by simp [he]
    by_cases hl : x.length = y.length
    · have HX := hid hx; clear hx
      have HY := hid hy; clear hy
      have HL := hid hl
      have e1 : ((x.length : Int) != (y.length : Int)) = false := by simp [hl]
      have h0 : Hid (decide ((⟨ex, x⟩ : Seg) = ⟨ey, y⟩) = decide (x.drop 0 = y.drop 0)) := hid (by simp [he])
      clear hl he
      go_enter Tryz.func43, Tryz.ntmps43
      go_wp2_with fail
      refine wp_world (fun W => Below w.heap.size w W ∧ w.heap.size + 1 < W.heap.size ∧ W.cell? ⟨w.heap.size, 1, none⟩ = some (.slice a x.length c) ∧ W.cell? ⟨w.heap.size + 1, 1, none⟩ = some (.slice a' y.length c')) ⟨by (repeat (first | exact Below.refl _ _ | assumption | (refine below_alloc ?_ _) | (refine Below.setCell ?_ (by first | omega | (simp; done) | (simp; omega)) _) | (refine Below.drew ?_) | (refine below_drewN ?_ _) | (refine below_then (by assumption) ?_))), by simp, by go_simp, by go_simp⟩ ?_
      intro w1 ⟨hb2, hzb, s0, s1⟩
      go_loopw [5] (fun i wr => ∃ k : Nat, k ≤ x.length ∧ i = .int .i64 k ∧ Hid (decide ((⟨ex, x⟩ : Seg) = ⟨ey, y⟩) = decide (x.drop k = y.drop k)) ∧ Below w1.heap.size w1 wr) (fun i _ => x.length - (intOf i).toNat)
      case atStart => exact ⟨0, Nat.zero_le _, rfl, h0, Below.refl _ _⟩
      case round =>
        obtain ⟨k, hk, rfl, hf, hb7⟩ := hrel
        have hb := below_then hb7 hb2
        have t0 : wr.cell? ⟨w.heap.size, 1, none⟩ = some (.slice a x.length c) := (Later.mk wr hb7).cell s0
        have t1 : wr.cell? ⟨w.heap.size + 1, 1, none⟩ = some (.slice a' y.length c') := (Later.mk wr hb7).cell s1
        have hz3 : w.heap.size + 1 < wr.heap.size := by have := hb7.size; omega
        by_cases hlt : k < x.length
        · have hlt' : k < y.length := by rw [← HL.out]; exact hlt
          obtain ⟨b, o, hA, hbb, a1, c1, hc0, hc1, hc2, _, _, hr1⟩ := batch_at HX.out hlt
          obtain ⟨b', o', hA', hbb', a2, c2, hd0, hd1, hd2, _, _, hr2⟩ := batch_at HY.out hlt'
          have hst := hid (drop_eq_step x y k hlt hlt')
          subst hA hA'
          have T0 := fun s : Later wr => s.cell t0
          have T1 := fun s : Later wr => s.cell t1
          have X0 := fun s : Later wr => s.cell ((hb.cell (p := ⟨b, o + k * 3, none⟩) hbb).trans hc0)
          have X1 := fun s : Later wr => s.cell ((hb.cell (p := ⟨b, o + k * 3 + 1, none⟩) hbb).trans hc1)
          have X2 := fun s : Later wr => s.cell ((hb.cell (p := ⟨b, o + k * 3 + 2, none⟩) hbb).trans hc2)
          have Y0 := fun s : Later wr => s.cell ((hb.cell (p := ⟨b', o' + k * 3, none⟩) hbb').trans hd0)
          have Y1 := fun s : Later wr => s.cell ((hb.cell (p := ⟨b', o' + k * 3 + 1, none⟩) hbb').trans hd1)
          have Y2 := fun s : Later wr => s.cell ((hb.cell (p := ⟨b', o' + k * 3 + 2, none⟩) hbb').trans hd2)
          clear hc0 hc1 hc2 hd0 hd1 hd2
          generalize hlk : x[k] = u at *
          generalize hlm : y[k] = v at *
          clear hlk hlm
          have hs1 := hid (lift hr1 hb)
          have hs2 := hid (lift hr2 hb)
          clear hr1 hr2
          have hO := fun s : Later wr => ref25_same u v a1 a2 _ c1 _ c2 s.at_ (lift hs1.out s.below) (lift hs2.out s.below)
          have i0 : (0 : Int) ≤ (k : Int) := by omega
          have i1 : (k : Int) < (x.length : Int) := by omega
          have i2 : (k : Int) < (y.length : Int) := by omega
          by_cases huv : u = v
          · rw [decide_eq_true huv] at hO
            have HO := hid hO; clear hO
            have hst' : Hid (decide (x.drop k = y.drop k) = decide (x.drop (k + 1) = y.drop (k + 1))) := hid (by rw [hst.out]; simp [huv])
            clear huv
            go_wp2_with fail
            refine wp_region_later (by kernel_rfl) (by kernel_rfl) ?_
            repeat (go_big_quiet_step (((go_at_call 26; exact later_of (HO.out _)))))
            refine wpQuiet_nil ?_
            rintro W5 ⟨⟨W5', hb5⟩, rfl⟩
            go_wp2
            go_roundw
            case rel => exact ⟨k + 1, by omega, by go_num, hid (by rw [hf.out, hst'.out]), below_then hb5 hb7⟩
            case measure => simp [intOf]; omega
          · rw [decide_eq_false huv] at hO
            have HO := hid hO; clear hO
            have hff : Hid (decide ((⟨ex, x⟩ : Seg) = ⟨ey, y⟩) = false) := hid (by rw [hf.out, hst.out]; simp [huv])
            clear huv
            go_wp2_with fail
            refine wp_region_later (by kernel_rfl) (by kernel_rfl) ?_
            repeat (go_big_quiet_step (((go_at_call 26; exact later_of (HO.out _)))))
            refine wpQuiet_nil ?_
            rintro W5 ⟨⟨W5', hb5⟩, rfl⟩
            go_wp2
            go_ret
            exact ⟨by rw [hff.out]; rfl, below_then hb5 hb⟩
        · obtain rfl : k = x.length := by omega
          have hff : Hid (decide ((⟨ex, x⟩ : Seg) = ⟨ey, y⟩) = true) := hid (by rw [hf.out, List.drop_length, List.drop_of_length_le (by rw [HL.out]; exact Nat.le_refl _)]; rfl)
          go_wp2
          go_ret
          exact ⟨by rw [hff.out]; rfl, hb⟩
    · have hff : Hid (decide ((⟨ex, x⟩ : Seg) = ⟨ey, y⟩) = false) := hid (by simp; rintro _ rfl; exact hl rfl)
      have e1 : ((x.length : Int) != (y.length : Int)) = true := by simp; omega
      clear hl hx hy he
      go_enter Tryz.func43, Tryz.ntmps43
      go_wp2
      go_ret
      exact ⟨by rw [hff.out]; rfl, by (repeat (first | exact Below.refl _ _ | assumption | (refine below_alloc ?_ _) | (refine Below.setCell ?_ (by first | omega | (simp; done) | (simp; omega)) _) | (refine Below.drew ?_) | (refine below_drewN ?_ _) | (refine below_then (by assumption) ?_)))⟩
  · have hff : Hid (decide ((⟨ex, x⟩ : Seg) = ⟨ey, y⟩) = false) := hid (by simp [he])
    have d0 : (ex != ey) = true := by simp [he]
    clear he hx hy
    go_enter Tryz.func43, Tryz.ntmps43
    go_wp2
    go_ret
    exact ⟨by rw [hff.out]; rfl, by (repeat (first | exact Below.refl _ _ | assumption | (refine below_alloc ?_ _) | (refine Below.setCell ?_ (by first | omega | (simp; done) | (simp; omega)) _) | (refine Below.drew ?_) | (refine below_drewN ?_ _) | (refine below_then (by assumption) ?_)))⟩
end Go.Proofs.YtkipiefcnjfdjaaGreat
namespace Go.Proofs.YtkipiefcnjfdjaaGreat
open Go.RowKit Go.Bs
set_option linter.unusedVariables false
set_option linter.unusedSimpArgs false
theorem infoEntry : (Tryz.prog.info? 75).map (fun i => (i.zero, i.size, i.bytes)) = some (some (.agg #[.slice none 0 0, .slice none 0 0]), 2, 48) := by kernel_rfl
set_option maxHeartbeats 1600000 in
theorem batch_copyW (x : Batch) (a : Option Addr) (n c : Nat) (w : World) (hl : rEntries.r (· < w.heap.size) w [.slice a n c] x.entries) (hlen : x.entries.length ≤ 1000000000000) (hb : ∀ z ∈ x.entries, Mild z) :
    Calls Tryz.prog 27 #[.agg #[.int .u64 x.epoch, .int .u64 x.base, .slice a n c]] w fun r w' => ∃ v, r = .returned (.agg #[.int .u64 x.epoch, .int .u64 x.base, v]) ∧ rEntriesW.r (Fresh w w') w' [v] x.entries ∧ Below w.heap.size w w' := by
  obtain ⟨ep, ba, l⟩ := x
  dsimp only at *
  obtain ⟨rfl, hm, _, _⟩ := sl_len hl
  obtain ⟨i0, hi, hz0, hz1, hz2⟩ := info_parts infoEntry
  have HL := hid hl; clear hl
  have HB := hid hb; clear hb
  go_enter Tryz.func27, Tryz.ntmps27
  go_wp2_with fail
  refine wp_world (fun W => Below w.heap.size w W ∧ W.heap.size = w.heap.size + 2 ∧ Blk W w.heap.size 25 #[.int .u64 ep, .int .u64 ba, .slice a l.length c] ∧ Blk W (w.heap.size + 1) 25 #[.int .u64 0, .int .u64 0, .slice none 0 0]) ⟨by (repeat (first | exact Below.refl _ _ | assumption | (refine below_alloc ?_ _) | (refine Below.setCell ?_ (by first | omega | (simp; done) | (simp; omega)) _) | (refine Below.drew ?_) | (refine below_drewN ?_ _) | (refine below_then (by assumption) ?_))), by simp, (Blk.new w _ _).alloc _, Blk.new1 w _ _ _⟩ ?_
  intro W ⟨hbW, hzW, q0, q1⟩
  have LT0 : w.heap.size < W.heap.size := by omega
  have LT1 : w.heap.size + 1 < W.heap.size := by omega
  have Q0 := hid q0; have Q1 := hid q1; clear q0 q1
  have HW := hid hzW; clear hzW
  go_loopw [3, 9] (fun v i wr => ∃ k : Nat, k ≤ l.length ∧ i = .int .i64 k ∧ OwnEls W.heap.size rEntryW W.heap.size 75 2 wr v (l.take k) ∧ Below W.heap.size W wr) (fun _ i _ => l.length - (intOf i).toNat)
  case atStart => exact ⟨0, Nat.zero_le _, rfl, OwnEls.nil, Below.refl _ _⟩
  case round =>
    obtain ⟨k, hk, rfl, hown, hb⟩ := hrel
    have hbw := below_then hb hbW
    by_cases hlt : k < l.length
    · obtain ⟨b, o, hA, hbb, a1, c1, a2, c2, hc0, hc1, hd1, hd2⟩ := entry_at HL.out hlt
      subst hA
      have X0 := (hbw.cell (p := ⟨b, o + k * 2, none⟩) hbb).trans hc0
      have X1 := (hbw.cell (p := ⟨b, o + k * 2 + 1, none⟩) hbb).trans hc1
      clear hc0 hc1
      have htk := hid (List.take_succ_eq_append_getElem hlt)
      obtain ⟨m1, m2, m3⟩ := HB.out _ (List.getElem_mem hlt)
      have R1 := hid (lift hd1 hbw)
      have R2 := hid (lift hd2 hbw)
      clear hd1 hd2
      generalize l[k] = z at *
      have M3 := hid m3; clear m3
      have htl : (l.take k).length = k := by simp; omega
      generalize hT : l.take k = T at *
      clear hT
      subst htl
      have OW := hid hown; clear hown
      have i1 : (T.length : Int) < (l.length : Int) := by omega
      go_wp2_with fail
      refine (entry_copyW z _ _ _ _ _ _ _ (lift R1.out (by (repeat (first | exact Below.refl _ _ | assumption | (refine below_alloc ?_ _) | (refine Below.setCell ?_ (by first | omega | (simp; done) | (simp; omega)) _) | (refine Below.drew ?_) | (refine below_drewN ?_ _) | (refine below_then (by assumption) ?_))))) (lift R2.out (by (repeat (first | exact Below.refl _ _ | assumption | (refine below_alloc ?_ _) | (refine Below.setCell ?_ (by first | omega | (simp; done) | (simp; omega)) _) | (refine Below.drew ?_) | (refine below_drewN ?_ _) | (refine below_then (by assumption) ?_))))) m1 m2 M3.out).mono ?_
      rintro e w4 ⟨v1, v2, rfl, hr4, hr5, hb4⟩
      have hbw4 : Below wr.heap.size wr w4 := by (repeat (first | exact Below.refl _ _ | assumption | (refine below_alloc ?_ _) | (refine Below.setCell ?_ (by first | omega | (simp; done) | (simp; omega)) _) | (refine Below.drew ?_) | (refine below_drewN ?_ _) | (refine below_then (by assumption) ?_)))
      have hz4 : wr.heap.size + 1 ≤ w4.heap.size := by have := hb4.size; simpa using this
      obtain ⟨a4, c4, hv4, _, _⟩ := sl_form (linksW_links hr4)
      obtain ⟨a5, c5, hv5, _, _⟩ := sl_form hr5
      simp only [List.cons.injEq, and_true] at hv4 hv5
      subst hv4 hv5
      have O4 := OW.out.below hbw4
      have HR4 := hid (rLinksW.mono hr4 (S' := fun b => wr.heap.size + 1 ≤ b ∧ b < w4.heap.size) fun b h => by simpa [Fresh] using h)
      have HR5 := hid (rBytes.mono hr5 (S' := fun b => wr.heap.size + 1 ≤ b ∧ b < w4.heap.size) fun b h => by simpa [Fresh] using h)
      clear hr4 hr5
      obtain ⟨cells0, OA0⟩ := OW.out
      have hlt0 : ∀ g, u3.ownBlock = some g → g < wr.heap.size := fun g e => (OA0.1.lt g e).2
      have O5 := O4.below (show Below w4.heap.size w4 (w4.alloc (.cells #[.slice a4 z.links.length c4, .slice a5 z.data.length c5] 75)) from by (repeat (first | exact Below.refl _ _ | assumption | (refine below_alloc ?_ _) | (refine Below.setCell ?_ (by first | omega | (simp; done) | (simp; omega)) _) | (refine Below.drew ?_) | (refine below_drewN ?_ _) | (refine below_then (by assumption) ?_))))
      obtain ⟨cells, OA⟩ := O5
      have hx : rEntryW.r (fun b => W.heap.size ≤ b ∧ b < ((w4.alloc (.cells #[.slice a4 z.links.length c4, .slice a5 z.data.length c5] 75))).heap.size ∧ u3.ownBlock ≠ some b) (w4.alloc (.cells #[.slice a4 z.links.length c4, .slice a5 z.data.length c5] 75)) [.slice a4 z.links.length c4, .slice a5 z.data.length c5] z := by
        have hbs := hb.size
        refine entryW_mk (rLinksW.mono (rLinksW.keep HR4.out fun b hb => Below.heap_alloc w4 _ b hb.2) fun b hb' => ⟨?_, ?_, fun e => ?_⟩) (rBytes.mono (rBytes.keep HR5.out fun b hb => Below.heap_alloc w4 _ b hb.2) fun b hb' => ⟨?_, ?_, fun e => ?_⟩)
        · omega
        · simp; omega
        · have := hlt0 b e; omega
        · omega
        · simp; omega
        · have := hlt0 b e; omega
      have hb9 : Below W.heap.size W (w4.alloc (.cells #[.slice a4 z.links.length c4, .slice a5 z.data.length c5] 75)) := below_alloc (below_then hbw4 hb) _
      have HX := hid hx; clear hx
      have HS9 := hid hb9.size
      have HA := hid OA; clear OA OA0 O4 hlt0
      have HB9 := hid hb9; clear hb9
      go_wp2_with (at_builtin; go_loud (refine wpList_append_src rfl _ _ _ rfl W.heap.size 75 i0 (.agg #[.slice none 0 0, .slice none 0 0]) 2 48 Tryz.underlying23 hi hz0 hz1 hz2 rfl (by decide) u3 T.length _ rfl HA.out.1 (some ⟨w4.heap.size, 0, none⟩) 1 1 [.slice a4 z.links.length c4, .slice a5 z.data.length c5] rfl (src_new1 w4 75 _ rfl rfl rfl) (by intro u hu; simp at hu; rcases hu with rfl | rfl <;> rfl) (by simp only [maxLen]; omega) (by omega) HS9.out ?_; intro v1 w5 hown1 hgrow1 hat1; have OP := hid (OwnEls.push HA.out rfl HX.out hown1 hgrow1 hat1 hgrow1.size); have B5 := hid (HB9.out.grown hgrow1 HS9.out (fun g e => (HA.out.1.lt g e).1)); clear hown1 hgrow1 hat1))
      go_roundw
      case rel => exact ⟨T.length + 1, by omega, by go_num, by rw [htk.out]; exact OP.out, B5.out⟩
      case measure => simp [intOf]; omega
    · obtain rfl : k = l.length := by omega
      rw [List.take_length] at hown
      have hv := OwnEls.sliceW (Nat.le_refl _) hown
      obtain ⟨av, cv, hv1, _, _⟩ := sl_form (slW_sl hv)
      simp only [List.cons.injEq, and_true] at hv1
      subst hv1
      have HV := hid hv; clear hv hown
      have P0 := Q0.out.below hb LT0
      have P1 := Q1.out.below hb LT1
      have y0 : wr.cell? ⟨w.heap.size, 0, none⟩ = some (.int .u64 ep) := P0.cell 0
      have y1 : wr.cell? ⟨w.heap.size, 1, none⟩ = some (.int .u64 ba) := P0.cell 1
      have y2 : wr.cell? ⟨w.heap.size, 2, none⟩ = some (.slice a l.length c) := P0.cell 2
      have y3 := P0.free 2
      have z0 : wr.cell? ⟨w.heap.size + 1, 0, none⟩ = some (.int .u64 0) := P1.cell 0
      have z1 : wr.cell? ⟨w.heap.size + 1, 1, none⟩ = some (.int .u64 0) := P1.cell 1
      have z2 : wr.cell? ⟨w.heap.size + 1, 2, none⟩ = some (.slice none 0 0) := P1.cell 2
      have f0 := P1.free 0
      have f1 := P1.free 1
      have f2 := P1.free 2
      clear P0 P1
      go_wp2
      refine bodyPost_ret (v := .agg #[.int .u64 ep, .int .u64 ba, .slice av l.length cv]) (by simp [results, Tryz.results27, go_sem, y0, y1, y2, z0, z1, z2]) rfl ⟨_, rfl, ?_, by (repeat (first | exact Below.refl _ _ | assumption | (refine below_alloc ?_ _) | (refine Below.setCell ?_ (by first | omega | (simp; done) | (simp; omega)) _) | (refine Below.drew ?_) | (refine below_drewN ?_ _) | (refine below_then (by assumption) ?_)))⟩
      have hw2 := HW.out
      refine rEntriesW.mono (rEntriesW.keep HV.out fun b hb => ?_) fun b hb => ⟨by omega, by simp; omega⟩
      repeat rw [Below.heap_setCell _ _ _ _ (by dsimp only; omega)]

theorem batch_copy (x : Batch) (a : Option Addr) (n c : Nat) (w : World) (hl : rEntries.r (· < w.heap.size) w [.slice a n c] x.entries) (hlen : x.entries.length ≤ 1000000000000) (hb : ∀ z ∈ x.entries, Mild z) :
    Calls Tryz.prog 27 #[.agg #[.int .u64 x.epoch, .int .u64 x.base, .slice a n c]] w fun r w' => ∃ v, r = .returned (.agg #[.int .u64 x.epoch, .int .u64 x.base, v]) ∧ rEntries.r (Fresh w w') w' [v] x.entries ∧ Below w.heap.size w w' :=
  (batch_copyW x a n c w hl hlen hb).mono fun r w' ⟨v, h1, h2, h3⟩ => ⟨v, h1, entriesW_entries h2, h3⟩
end Go.Proofs.YtkipiefcnjfdjaaGreat
namespace Go.Proofs.YtkipiefcnjfdjaaGreat
open Go.RowKit Go.Bs
set_option linter.unusedVariables false
set_option linter.unusedSimpArgs false
theorem infoBatch : (Tryz.prog.info? 25).map (fun i => (i.zero, i.size, i.bytes)) = some (some (.agg #[.int .u64 0, .int .u64 0, .slice none 0 0]), 3, 40) := by kernel_rfl
set_option maxHeartbeats 1600000 in
theorem segment_copy (ep : Int) (l : List Batch) (a : Option Addr) (n c : Nat) (w : World) (hl : rBatches.r (· < w.heap.size) w [.slice a n c] l) (hlen : l.length ≤ 1000000000000) (hb : ∀ z ∈ l, MildB z) :
    Calls Tryz.prog 60 #[.agg #[.int .u64 ep, .slice a n c]] w fun r w' => ∃ v, r = .returned (.agg #[.int .u64 ep, v]) ∧ rBatches.r (Fresh w w') w' [v] l ∧ Below w.heap.size w w' := by
  obtain ⟨rfl, hm, _, _⟩ := sl_len hl
  obtain ⟨i0, hi, hz0, hz1, hz2⟩ := info_parts infoBatch
  have HL := hid hl; clear hl
  have HB := hid hb; clear hb
  go_enter Tryz.func60, Tryz.ntmps60
  go_wp2_with fail
  refine wp_world (fun W => Below w.heap.size w W ∧ W.heap.size = w.heap.size + 2 ∧ Blk W w.heap.size 62 #[.int .u64 ep, .slice a l.length c] ∧ Blk W (w.heap.size + 1) 62 #[.int .u64 0, .slice none 0 0]) ⟨by (repeat (first | exact Below.refl _ _ | assumption | (refine below_alloc ?_ _) | (refine Below.setCell ?_ (by first | omega | (simp; done) | (simp; omega)) _) | (refine Below.drew ?_) | (refine below_drewN ?_ _) | (refine below_then (by assumption) ?_))), by simp, (Blk.new w _ _).alloc _, Blk.new1 w _ _ _⟩ ?_
  intro W ⟨hbW, hzW, q0, q1⟩
  have LT0 : w.heap.size < W.heap.size := by omega
  have LT1 : w.heap.size + 1 < W.heap.size := by omega
  have Q0 := hid q0; have Q1 := hid q1; clear q0 q1
  have HW := hid hzW; clear hzW
  go_loopw [3, 9] (fun v i wr => ∃ k : Nat, k ≤ l.length ∧ i = .int .i64 k ∧ OwnEls W.heap.size rBatch W.heap.size 25 3 wr v (l.take k) ∧ Below W.heap.size W wr) (fun _ i _ => l.length - (intOf i).toNat)
  case atStart => exact ⟨0, Nat.zero_le _, rfl, OwnEls.nil, Below.refl _ _⟩
  case round =>
    obtain ⟨k, hk, rfl, hown, hb⟩ := hrel
    have hbw := below_then hb hbW
    by_cases hlt : k < l.length
    · obtain ⟨b, o, hA, hbb, a1, c1, hc0, hc1, hc2, g0, g1, hd1⟩ := batch_at HL.out hlt
      subst hA
      have X0 := (hbw.cell (p := ⟨b, o + k * 3, none⟩) hbb).trans hc0
      have X1 := (hbw.cell (p := ⟨b, o + k * 3 + 1, none⟩) hbb).trans hc1
      have X2 := (hbw.cell (p := ⟨b, o + k * 3 + 2, none⟩) hbb).trans hc2
      clear hc0 hc1 hc2
      have htk := hid (List.take_succ_eq_append_getElem hlt)
      obtain ⟨m1, m3⟩ := HB.out _ (List.getElem_mem hlt)
      have R1 := hid (lift hd1 hbw)
      clear hd1
      generalize l[k] = z at *
      have M3 := hid m3; clear m3
      have htl : (l.take k).length = k := by simp; omega
      generalize hT : l.take k = T at *
      clear hT
      subst htl
      have OW := hid hown; clear hown
      have i1 : (T.length : Int) < (l.length : Int) := by omega
      go_wp2_with fail
      refine (batch_copy z _ _ _ _ (lift R1.out (by (repeat (first | exact Below.refl _ _ | assumption | (refine below_alloc ?_ _) | (refine Below.setCell ?_ (by first | omega | (simp; done) | (simp; omega)) _) | (refine Below.drew ?_) | (refine below_drewN ?_ _) | (refine below_then (by assumption) ?_))))) m1 M3.out).mono ?_
      rintro e w4 ⟨v1, rfl, hr4, hb4⟩
      have hbw4 : Below wr.heap.size wr w4 := by (repeat (first | exact Below.refl _ _ | assumption | (refine below_alloc ?_ _) | (refine Below.setCell ?_ (by first | omega | (simp; done) | (simp; omega)) _) | (refine Below.drew ?_) | (refine below_drewN ?_ _) | (refine below_then (by assumption) ?_)))
      have hz4 : wr.heap.size + 1 ≤ w4.heap.size := by have := hb4.size; simpa using this
      obtain ⟨a4, c4, hv4, _, _⟩ := sl_form hr4
      simp only [List.cons.injEq, and_true] at hv4
      subst hv4
      have O4 := OW.out.below hbw4
      have HR4 := hid (rEntries.mono hr4 (S' := fun b => wr.heap.size + 1 ≤ b ∧ b < w4.heap.size) fun b h => by simpa [Fresh] using h)
      clear hr4
      obtain ⟨cells0, OA0⟩ := OW.out
      have hlt0 : ∀ g, u3.ownBlock = some g → g < wr.heap.size := fun g e => (OA0.1.lt g e).2
      have O5 := O4.below (show Below w4.heap.size w4 (w4.alloc (.cells #[.int .u64 z.epoch, .int .u64 z.base, .slice a4 z.entries.length c4] 25)) from by (repeat (first | exact Below.refl _ _ | assumption | (refine below_alloc ?_ _) | (refine Below.setCell ?_ (by first | omega | (simp; done) | (simp; omega)) _) | (refine Below.drew ?_) | (refine below_drewN ?_ _) | (refine below_then (by assumption) ?_))))
      obtain ⟨cells, OA⟩ := O5
      have hx : rBatch.r (fun b => W.heap.size ≤ b ∧ b < ((w4.alloc (.cells #[.int .u64 z.epoch, .int .u64 z.base, .slice a4 z.entries.length c4] 25))).heap.size ∧ u3.ownBlock ≠ some b) (w4.alloc (.cells #[.int .u64 z.epoch, .int .u64 z.base, .slice a4 z.entries.length c4] 25)) [.int .u64 z.epoch, .int .u64 z.base, .slice a4 z.entries.length c4] z := by
        have hbs := hb.size
        refine batch_mk g0 g1 (rEntries.mono (rEntries.keep HR4.out fun b hb => Below.heap_alloc w4 _ b hb.2) fun b hb' => ⟨?_, ?_, fun e => ?_⟩)
        · omega
        · simp; omega
        · have := hlt0 b e; omega
      have hb9 : Below W.heap.size W (w4.alloc (.cells #[.int .u64 z.epoch, .int .u64 z.base, .slice a4 z.entries.length c4] 25)) := below_alloc (below_then hbw4 hb) _
      have HX := hid hx; clear hx
      have HS9 := hid hb9.size
      have HA := hid OA; clear OA OA0 O4 hlt0
      have HB9 := hid hb9; clear hb9
      go_wp2_with (at_builtin; go_loud (refine wpList_append_src rfl _ _ _ rfl W.heap.size 25 i0 (.agg #[.int .u64 0, .int .u64 0, .slice none 0 0]) 3 40 Tryz.underlying60 hi hz0 hz1 hz2 rfl (by decide) u3 T.length _ rfl HA.out.1 (some ⟨w4.heap.size, 0, none⟩) 1 1 [.int .u64 z.epoch, .int .u64 z.base, .slice a4 z.entries.length c4] rfl (src_new1 w4 25 _ rfl rfl rfl) (by intro u hu; simp at hu; rcases hu with rfl | rfl | rfl <;> rfl) (by simp only [maxLen]; omega) (by omega) HS9.out ?_; intro v1 w5 hown1 hgrow1 hat1; have OP := hid (OwnEls.push HA.out rfl HX.out hown1 hgrow1 hat1 hgrow1.size); have B5 := hid (HB9.out.grown hgrow1 HS9.out (fun g e => (HA.out.1.lt g e).1)); clear hown1 hgrow1 hat1))
      go_roundw
      case rel => exact ⟨T.length + 1, by omega, by go_num, by rw [htk.out]; exact OP.out, B5.out⟩
      case measure => simp [intOf]; omega
    · obtain rfl : k = l.length := by omega
      rw [List.take_length] at hown
      have hv := OwnEls.slice (Nat.le_refl _) hown
      obtain ⟨av, cv, hv1, _, _⟩ := sl_form hv
      simp only [List.cons.injEq, and_true] at hv1
      subst hv1
      have HV := hid hv; clear hv hown
      have P0 := Q0.out.below hb LT0
      have P1 := Q1.out.below hb LT1
      have y0 : wr.cell? ⟨w.heap.size, 0, none⟩ = some (.int .u64 ep) := P0.cell 0
      have y2 : wr.cell? ⟨w.heap.size, 1, none⟩ = some (.slice a l.length c) := P0.cell 1
      have y3 := P0.free 1
      have z0 : wr.cell? ⟨w.heap.size + 1, 0, none⟩ = some (.int .u64 0) := P1.cell 0
      have z2 : wr.cell? ⟨w.heap.size + 1, 1, none⟩ = some (.slice none 0 0) := P1.cell 1
      have f0 := P1.free 0
      have f1 := P1.free 1
      clear P0 P1
      go_wp2
      refine bodyPost_ret (v := .agg #[.int .u64 ep, .slice av l.length cv]) (by simp [results, Tryz.results60, go_sem, y0, y2, z0, z2]) rfl ⟨_, rfl, ?_, by (repeat (first | exact Below.refl _ _ | assumption | (refine below_alloc ?_ _) | (refine Below.setCell ?_ (by first | omega | (simp; done) | (simp; omega)) _) | (refine Below.drew ?_) | (refine below_drewN ?_ _) | (refine below_then (by assumption) ?_)))⟩
      have hw2 := HW.out
      refine rBatches.mono (rBatches.keep HV.out fun b hb => ?_) fun b hb => ⟨by omega, by simp; omega⟩
      repeat rw [Below.heap_setCell _ _ _ _ (by dsimp only; omega)]
end Go.Proofs.YtkipiefcnjfdjaaGreat
namespace Go.Proofs.YtkipiefcnjfdjaaGreat
open Go.RowKit Go.Bs Go.Maps
set_option linter.unusedVariables false
set_option linter.unusedSimpArgs false

theorem rBytesless {W W' : World} {cs : List Value} {l : List Int} (h : rU64s.r (fun q => W.heap.size ≤ q ∧ q < W'.heap.size) W' cs l) : rU64s.r (· < W'.heap.size) W' cs l := rU64s.mono h fun q hq => hq.2
def StepsOwn (below : Int) (l : List Int) (w : World) (e : Ending) (w' : World) : Prop :=
  ∃ v, e = .returned (.tuple #[v, .bool (fallsB below l)]) ∧ rU64s.r (fun q => w.heap.size ≤ q ∧ q < w'.heap.size) w' [v] (if fallsB below l then stepsL below l else []) ∧ Below w.heap.size w w'
set_option maxHeartbeats 1600000 in
theorem steps_own (below : Int) (l : List Int) (a : Option Addr) (n c : Nat) (w : World) (hb0 : 0 ≤ below ∧ below ≤ 18446744073709551615) (hl : rU64s.r (· < w.heap.size) w [.slice a n c] l) (hlen : l.length ≤ 1000000000000) :
    Calls Tryz.prog 244 #[.int .u64 below, .slice a n c] w (StepsOwn below l w) := by
  obtain ⟨rfl, hm, _, _⟩ := sl_len hl
  obtain ⟨i0, hi, hz0, hz1, hz2⟩ := info_parts infoU
  have HL := hid hl; clear hl
  go_enter Tryz.func244, Tryz.ntmps244
  go_wp2
  go_loopw [0, 6, 11] (fun b v i wr => ∃ k : Nat, k ≤ l.length ∧ i = .int .i64 k ∧ b = .int .u64 (ahead below l k) ∧ 0 ≤ ahead below l k ∧ ahead below l k ≤ 18446744073709551615 ∧ Hid (fallsB below l = fallsB (ahead below l k) (l.drop k)) ∧
      (∃ xs : List Int, Hid (xs.length = k ∧ (∀ x ∈ xs, 0 ≤ x ∧ x ≤ 18446744073709551615) ∧ stepsL below l = xs ++ stepsL (ahead below l k) (l.drop k)) ∧ wr.ownsRow w.heap.size 22 1 v k (xs.map (Value.int .u64))) ∧ Below w.heap.size w wr) (fun _ _ i _ => l.length - (intOf i).toNat)
  case atStart => exact ⟨0, Nat.zero_le _, rfl, rfl, hb0.1, hb0.2, hid rfl, ⟨[], hid ⟨rfl, by simp, rfl⟩, ⟨rfl, .inl ⟨rfl, rfl⟩⟩⟩, Below.refl _ _⟩
  case round =>
    obtain ⟨k, hk, rfl, rfl, ha0, ha1, hf, ⟨xs, hxs, hown⟩, hb⟩ := hrel
    by_cases hlt : k < l.length
    · obtain ⟨b, o, hA, hbb, hc, hx0, hx1⟩ := u64_at HL.out hlt
      subst hA
      have q := (hb.cell (p := ⟨b, o + k, none⟩) hbb).trans hc
      clear hc
      have hd := hid (List.drop_eq_getElem_cons hlt)
      have hsu := hid (ahead_succ below l k hlt)
      generalize hlk : l[k] = x at *
      clear hlk
      generalize ahead below l k = p at *
      by_cases hge : p ≤ x
      · have hff : Hid (fallsB below l = false) := by
          rw [hf.out, hd.out]; exact hid (by simp [fallsB]; omega)
        go_wp2
        go_ret2
        exact ⟨.slice none 0 0, by rw [hff.out]; rfl, by rw [hff.out]; exact rSl_mk rfl (Nat.le_refl _) (Nat.zero_le _) (.inl rfl), hb⟩
      · have hbs := hb.size
        have w1 : 0 ≤ p - x := by omega
        have w2 : 0 ≤ p - x - 1 := by omega
        go_wp2_with (at_builtin; refine wpList_append_lies _ rfl _ _ _ rfl w.heap.size 22 i0 (.int .u64 0) 1 8 Tryz.underlying207 hi hz0 hz1 hz2 rfl (by decide) _ k _ rfl (hown.alloc _) ⟨wr.heap.size, 0, none⟩ 1 1 [.int .u64 (p - x - 1)] rfl rfl (World.news_of_block (Blk.new _ _ _)) (by simp [Value.oneCell']) (by decide) (by simp only [maxLen]; omega) (by omega) (by simp; omega) _ rfl ?_; intro g1 cap1 w1' hown1 hgrow1 hat1 hlt1)
        go_roundw
        case rel =>
          refine ⟨k + 1, by omega, by go_num, by rw [hsu.out], by rw [hsu.out]; exact hx0, by rw [hsu.out]; exact hx1, ?_, ⟨xs ++ [p - x - 1], ?_, ?_⟩, ?_⟩
          · rw [hf.out, hd.out, hsu.out]
            exact hid (by simp only [fallsB]; rw [decide_eq_true (by omega)]; rfl)
          · refine hid ⟨by simp [hxs.out.1], ?_, ?_⟩
            · intro y hy
              rw [List.mem_append, List.mem_singleton] at hy
              rcases hy with hy | rfl
              · exact hxs.out.2.1 y hy
              · omega
            · rw [hsu.out, hxs.out.2.2, hd.out]
              simp [stepsL]
          · rw [List.map_append]; exact hown1
          · refine Below.grown ?_ hgrow1 (by simp; omega) (fun g e => (hown.lt g e).1)
            exact hb.alloc hbs _
        case measure => simp [intOf]; omega
    · obtain rfl : k = l.length := by omega
      have hff : Hid (fallsB below l = true) := by
        rw [hf.out, List.drop_length]; exact hid rfl
      have hxl := hxs.out.1
      have hst : Hid (stepsL below l = xs) := hid (by rw [hxs.out.2.2, List.drop_length]; simp [stepsL])
      have hv : rU64s.r (fun q => w.heap.size ≤ q ∧ q < wr.heap.size) wr [u6] xs := own_ints64 hxs.out.2.1 hxl.symm hown
      have HV := hid hv; clear hv hxl
      go_wp2
      go_ret2
      exact ⟨u6, by rw [hff.out]; rfl, by rw [hff.out, if_pos rfl, hst.out]; exact HV.out, hb⟩


theorem stepsL_bounds : ∀ (l : List Int) (p : Int), fallsB p l = true → p ≤ 18446744073709551615 → (∀ x ∈ l, 0 ≤ x) → ∀ y ∈ stepsL p l, 0 ≤ y ∧ y ≤ 18446744073709551615
  | [], p, _, _, _, y, hy => by simp [stepsL] at hy
  | x :: l, p, hf, hp, hx, y, hy => by
    simp only [fallsB, Bool.and_eq_true, decide_eq_true_eq] at hf
    have h0 := hx x (by simp)
    simp only [stepsL, List.mem_cons] at hy
    rcases hy with rfl | hy
    · omega
    · exact stepsL_bounds l x hf.2 (by omega) (fun z hz => hx z (by simp [hz])) y hy

set_option maxRecDepth 100000 in
set_option maxHeartbeats 3200000 in
theorem delta_put (w : World) {g base most : Nat} {J : List UInt8} {a : Option Addr} {c : Nat} (h : PenAt w g base most J a c) (pos : Int) (hpos : 0 ≤ pos ∧ pos ≤ 18446744073709551615) (l : List Int) (al : Option Addr) (nl cl : Nat)
    (hl : rU64s.r (· < w.heap.size) w [.slice al nl cl] l) (hf : fallsB pos l = true) (hlen : l.length ≤ 1000000) (hfit : J.length + (deltaB pos l).length ≤ most) (hln2 : J.length + (deltaB pos l).length ≤ 100000000000000) :
    Calls Tryz.prog 195 #[.pointer (some ⟨g, 0, none⟩), .int .u64 pos, .slice al nl cl] w fun r w' => r = .returned (.tuple #[]) ∧ PenStep w g base most (J ++ deltaB pos l) a w' := by
  obtain ⟨rfl, hm, _, _⟩ := sl_len hl
  have HS := hid (steps_own pos l al _ cl w hpos hl (by omega))
  have hlt := h.len
  have hsl := stepsL_len pos l
  have hnb := numsB_len (stepsL pos l)
  have hxs := u64s_bounds hl
  have hsb := hid (stepsL_bounds l pos hf hpos.2 (fun x hx => (hxs x hx).1))
  have hvl := varB_len l.length
  have hdl : (deltaB pos l).length = (varB l.length).length + (numsB (stepsL pos l)).length := by unfold deltaB; rw [List.length_append]
  rw [hdl] at hfit hln2
  unfold StepsOwn at HS
  rw [hf] at HS
  simp only [if_true] at HS
  unfold deltaB
  have HP := hid h
  have HMO := hid (fun k => numsB_take_le (stepsL pos l) k)
  have HNS := hid (fun (k : Nat) (h : k < (stepsL pos l).length) => numsB_step (stepsL pos l) k h)
  generalize stepsL pos l = T at *
  generalize hL : l.length = L at *
  have hLL := hid hL
  clear h hl hf hxs hdl hL
  go_enter Tryz.func195, Tryz.ntmps195
  go_wp2_with fail
  refine HS.out.mono ?_
  rintro r w1 ⟨v, rfl, hr, hb1⟩
  obtain ⟨a1, c1, hv, hr2, _⟩ := sl_form hr
  simp only [List.cons.injEq, and_true] at hv
  subst hv
  rw [hsl] at hr2 ⊢
  have HR := hid (pen_new_data HP.out hr2)
  have HP1 := hid (HP.out.later hb1)
  have HV := hid (varint_put w1 HP1.out L (by omega) (by omega) (by omega))
  clear hr hr2
  go_wp2_with fail
  refine HV.out.mono ?_
  rintro r w2 ⟨rfl, hst⟩
  have HST := hid hst
  clear hst
  have hz1 := hb1.size
  go_wp2_with fail
  go_loopw [27] (fun i wr => ∃ k : Nat, k ≤ L ∧ i = .int .i64 k ∧ Hid (PenStep w1 g base most (J ++ varB L ++ numsB (T.take k)) a wr)) (fun i _ => L - (intOf i).toNat)
  case atStart => exact ⟨0, Nat.zero_le _, rfl, hid (by simpa [numsB] using HST.out)⟩
  case round =>
    obtain ⟨k, hk, rfl, hp⟩ := hrel
    obtain ⟨a3, c3, hp3, ht3, ha3⟩ := hp.out
    rcases Nat.lt_or_ge k L with hlt | hge
    · have hd3 := pen_data ht3 ha3 HR.out
      have hkT : k < T.length := by omega
      obtain ⟨b, o, hA, hbb, hc, hx0, hx1⟩ := u64_at hd3 hkT
      subst hA
      have hst := HNS.out k hkT
      have hfk := HMO.out (k + 1)
      rw [hst, List.length_append] at hfk
      have HSK := hid hst
      have hvk := (varB_len T[k].toNat).1
      have hJ3 := hp3.len
      simp only [List.length_append] at hJ3
      have hV := varint_put wr hp3 T[k].toNat (by omega) (by simp only [List.length_append]; omega) (by simp only [List.length_append]; omega)
      rw [toNat_cast hx0, List.append_assoc (J ++ varB L), ← hst] at hV
      have HV3 := hid hV
      have HT3 := hid (And.intro ht3 ha3)
      have i1 : (k : Int) < (L : Int) := by omega
      have d1 : decide ((k : Int) < (L : Int)) = true := decide_eq_true i1
      clear hV hd3 hst hp3 ht3 ha3 hp hfk hvk hJ3
      generalize T[k] = y at *
      go_wp2_with fail
      refine HV3.out.mono ?_
      rintro r w5 ⟨rfl, hst5⟩
      have HN := hid (PenStep.trans (J := J) HT3.out.1 HT3.out.2 hst5)
      clear hst5
      go_wp2
      go_roundw
      case rel => exact ⟨k + 1, by omega, by go_num, HN⟩
      case measure => simp [intOf]; omega
    · obtain rfl : k = L := by omega
      have d1 : decide ((k : Int) < (k : Int)) = false := decide_eq_false (by omega)
      rw [List.take_of_length_le (by omega)] at hp
      have HN := hid (PenStep.later hb1 hp.out)
      rw [List.append_assoc] at HN
      clear hp hp3 ht3 ha3
      go_wp2
      first | go_end0 | refine bodyPost_ret (results_none rfl _ _ _) rfl ?_
      exact ⟨rfl, HN.out⟩

set_option maxRecDepth 100000 in
set_option maxHeartbeats 3200000 in
theorem delta_size (w : World) (pos : Int) (hpos : 0 ≤ pos ∧ pos ≤ 18446744073709551615) (l : List Int) (al : Option Addr) (nl cl : Nat)
    (hl : rU64s.r (· < w.heap.size) w [.slice al nl cl] l) (hf : fallsB pos l = true) (hlen : l.length ≤ 1000000) :
    Calls Tryz.prog 243 #[.int .u64 pos, .slice al nl cl] w fun r w' => r = .returned (.int .i64 ((deltaB pos l).length : Int)) ∧ Below w.heap.size w w' := by
  obtain ⟨rfl, hm, _, _⟩ := sl_len hl
  have HS := hid (steps_own pos l al _ cl w hpos hl (by omega))
  have hsl := stepsL_len pos l
  have hxs := u64s_bounds hl
  have hnb := numsB_len (stepsL pos l)
  have hvl := varB_len l.length
  unfold StepsOwn at HS
  rw [hf] at HS
  simp only [if_true] at HS
  have hdl : (deltaB pos l).length = (varB l.length).length + (numsB (stepsL pos l)).length := by unfold deltaB; rw [List.length_append]
  rw [hdl]
  have HMO := hid (fun k => numsB_take_le (stepsL pos l) k)
  have HNS := hid (fun (k : Nat) (h : k < (stepsL pos l).length) => numsB_step (stepsL pos l) k h)
  have HVS := hid (fun (W : World) => varint_size l.length (by omega) W)
  generalize stepsL pos l = T at *
  generalize hL : l.length = L at *
  have hLL := hid hL
  generalize varB L = VL at *
  clear hl hf hxs hdl hL
  go_enter Tryz.func243, Tryz.ntmps243
  go_wp2_with fail
  refine HS.out.mono ?_
  rintro r w1 ⟨v, rfl, hr, hb1⟩
  obtain ⟨a1, c1, hv, hr2, _⟩ := sl_form hr
  simp only [List.cons.injEq, and_true] at hv
  subst hv
  rw [hsl] at hr2 ⊢
  have HR := hid (rBytesless hr2)
  clear hr hr2
  go_wp2_with fail
  refine (HVS.out _).mono ?_
  rintro r w2 ⟨rfl, hb2⟩
  have hbw2 := below_then hb2 hb1
  go_wp2_with fail
  go_loopw [7, 24] (fun n i wr => ∃ k m : Nat, k ≤ L ∧ i = .int .i64 k ∧ n = .int .i64 m ∧ Hid (m = VL.length + (numsB (T.take k)).length) ∧ Below w1.heap.size w1 wr) (fun _ i _ => L - (intOf i).toNat)
  case atStart => exact ⟨0, VL.length, Nat.zero_le _, rfl, rfl, hid (by simp [numsB]), hb2⟩
  case round =>
    obtain ⟨k, m, hk, rfl, rfl, hmm, hb⟩ := hrel
    have hmo := HMO.out k
    have hmk := hmm.out
    rcases Nat.lt_or_ge k L with hlt | hge
    · have hkT : k < T.length := by omega
      obtain ⟨b, o, hA, hbb, hc, hx0, hx1⟩ := u64_at (lift HR.out hb) hkT
      subst hA
      have hst := HNS.out k hkT
      have hvk := (varB_len T[k].toNat).1
      have hV := fun (W : World) => varint_size T[k].toNat (by omega) W
      rw [toNat_cast hx0] at hV
      have HV3 := hid hV
      have HM : Hid (m + (varB T[k].toNat).length = VL.length + (numsB (T.take (k + 1))).length) := hid (by rw [hst, List.length_append]; omega)
      have i1 : (k : Int) < (L : Int) := by omega
      have d1 : decide ((k : Int) < (L : Int)) = true := decide_eq_true i1
      have hmb : m ≤ 100000000 := by omega
      generalize varB T[k].toNat = VK at *
      generalize T[k] = y at *
      clear hV hst hmo hmk hmm
      go_wp2_with fail
      refine (HV3.out _).mono ?_
      rintro r w5 ⟨rfl, hb5⟩
      have hbw5 := below_then hb5 hb
      go_wp2
      go_roundw
      case rel => exact ⟨k + 1, m + VK.length, by omega, by go_num, by go_num, HM, hbw5⟩
      case measure => simp [intOf]; omega
    · obtain rfl : k = L := by omega
      have d1 : decide ((k : Int) < (k : Int)) = false := decide_eq_false (by omega)
      have hfin : Hid (m = VL.length + (numsB T).length) := hid (by rw [hmk, List.take_of_length_le (by omega)])
      clear hmo hmk hmm
      go_wp2
      go_ret
      exact ⟨by rw [hfin.out]; simp, below_then hb hb1⟩

theorem rises_at : ∀ (l : List Int) (k : Nat) (h : k + 1 < l.length), risesB l = true → l[k] < l[k + 1]
  | [], k, h, _ => by simp at h
  | [x], k, h, _ => by simp at h
  | x :: y :: l, k, h, hr => by
    simp only [risesB, Bool.and_eq_true, decide_eq_true_eq] at hr
    cases k with
    | zero => exact hr.1
    | succ k => exact rises_at (y :: l) k (by simpa using h) hr.2
theorem upsL_get : ∀ (l : List Link) (p : Option Int) (k : Nat) (h : k < l.length), (upsL p l)[k]'(by rw [upsL_len]; exact h) = if hk : k = 0 then (match p with | none => l[k].stream | some q => l[k].stream - q - 1) else l[k].stream - (l[k - 1]'(by omega)).stream - 1
  | [], p, k, h => by simp at h
  | x :: l, p, 0, h => by cases p <;> simp [upsL]
  | x :: l, p, k + 1, h => by
    simp only [upsL, List.getElem_cons_succ]
    rw [upsL_get l (some x.stream) k (by simpa using h)]
    cases k with
    | zero => simp
    | succ k => simp
/-- The parts of links, one behind the other. -/
def linkZ (pos : Int) (p : Option Int) (l : List Link) : List (List UInt8) := List.zipWith (fun (y : Int) (x : Link) => varB y.toNat ++ deltaB pos x.backs) (upsL p l) l
theorem linksF_zip (pos : Int) : ∀ (l : List Link) (p : Option Int), lnkF pos p l = (linkZ pos p l).flatten
  | [], p => rfl
  | x :: l, p => by
    simp only [lnkF, linkZ, upsL, List.zipWith_cons_cons, List.flatten_cons]
    rw [linksF_zip pos l (some x.stream)]
    rfl
theorem linkZ_len (pos : Int) (p : Option Int) (l : List Link) : (linkZ pos p l).length = l.length := by simp [linkZ, upsL_len]
theorem flat_step {α : Type} (Z : List (List α)) (k : Nat) (h : k < Z.length) : (Z.take (k + 1)).flatten = (Z.take k).flatten ++ Z[k] := by
  rw [List.take_succ_eq_append_getElem h, List.flatten_append]; simp
theorem flat_take_le {α : Type} (Z : List (List α)) (k : Nat) : (Z.take k).flatten.length ≤ Z.flatten.length := by
  have : Z.flatten = (Z.take k).flatten ++ (Z.drop k).flatten := by rw [← List.flatten_append, List.take_append_drop]
  rw [this, List.length_append]; omega
theorem linkZ_get (pos : Int) (l : List Link) (k : Nat) (h : k < l.length) : (linkZ pos none l)[k]'(by rw [linkZ_len]; exact h) = varB ((upsL none l)[k]'(by rw [upsL_len]; exact h)).toNat ++ deltaB pos l[k].backs := by
  simp [linkZ]

set_option maxRecDepth 100000 in
set_option maxHeartbeats 3200000 in
theorem link_steps (w : World) (l : List Link) (al : Option Addr) (nl cl : Nat) (hl : rLinks.r (· < w.heap.size) w [.slice al nl cl] l) (hri : risesB (l.map Link.stream) = true) (hlen : l.length ≤ 1000000) :
    Calls Tryz.prog 194 #[.slice al nl cl] w fun r w' => ∃ v, r = .returned v ∧ rU64s.r (fun q => w.heap.size ≤ q ∧ q < w'.heap.size) w' [v] (upsL none l) ∧ Below w.heap.size w w' := by
  obtain ⟨rfl, hm, _, _⟩ := sl_len hl
  obtain ⟨i0, hi, hz0, hz1, hz2⟩ := info_parts infoU
  have HL := hid hl
  have hul := upsL_len none l
  have HU := hid (fun (k : Nat) (h : k < l.length) => upsL_get l none k h)
  have HRI := hid (fun (k : Nat) (h : k + 1 < l.length) => (by have := rises_at (l.map Link.stream) k (by simpa using h) hri; simpa using this : l[k].stream < l[k + 1].stream))
  clear hl hri
  go_enter Tryz.func194, Tryz.ntmps194
  go_wp2_with fail
  go_loopw [3, 9] (fun v i wr => ∃ k : Nat, k ≤ l.length ∧ i = .int .i64 k ∧ wr.ownsRow w.heap.size 22 1 v k (u64Cells ((upsL none l).take k)) ∧ Hid (∀ x ∈ (upsL none l).take k, 0 ≤ x ∧ x ≤ 18446744073709551615) ∧ Below w.heap.size w wr) (fun _ i _ => l.length - (intOf i).toNat)
  case atStart => exact ⟨0, Nat.zero_le _, rfl, ⟨rfl, .inl ⟨rfl, rfl⟩⟩, hid (by simp), Below.refl _ _⟩
  case round =>
    obtain ⟨k, hk, rfl, hown, hbd, hb⟩ := hrel
    obtain ⟨av, cv, rfl⟩ := own_form hown
    rcases Nat.lt_or_ge k l.length with hlt | hge
    · obtain ⟨b, o, hA, hbb, a2, c2, x0, x1, hx, xl⟩ := link_at (lift HL.out hb) hlt
      subst hA
      have hu := HU.out k hlt
      have i1 : (k : Int) < (l.length : Int) := by omega
      have d1 : decide ((k : Int) < (l.length : Int)) = true := decide_eq_true i1
      have hbl : b < wr.heap.size := World.block_lt_of_cell? _ _ x0
      have htk : u64Cells ((upsL none l).take (k + 1)) = u64Cells ((upsL none l).take k) ++ [.int .u64 ((upsL none l)[k]'(by omega))] := by
        rw [List.take_succ_eq_append_getElem (by omega)]; unfold u64Cells; rw [List.map_append]; rfl
      have hnb : ∀ y : Int, (upsL none l)[k]'(by omega) = y → (0 ≤ y ∧ y ≤ 18446744073709551615) → ∀ x ∈ (upsL none l).take (k + 1), 0 ≤ x ∧ x ≤ 18446744073709551615 := fun y e hy x hx => by
        rw [List.take_succ_eq_append_getElem (by omega), List.mem_append, List.mem_singleton] at hx
        rcases hx with hx | rfl
        · exact hbd.out x hx
        · rw [e]; exact hy
      have HTK := hid htk
      have HNB := hid hnb
      have HO := hid hown
      have hz := hb.size
      rcases Nat.eq_zero_or_pos k with rfl | hk0
      · rw [dif_pos rfl] at hu
        (try dsimp only at hu)
        rw [hu] at HTK
        have HBD := hid (HNB.out _ hu hx)
        simp only [Nat.zero_mul, Nat.add_zero, Nat.zero_add] at x0 x1
        have d2 : decide ((0 : Int) < ((0 : Nat) : Int)) = false := by decide
        generalize l[0] = y at *
        clear hu htk hnb hbd hown xl hx
        go_wp2_with (at_builtin; go_loud (refine wpList_append_src rfl _ _ _ rfl w.heap.size 22 i0 (.int .u64 0) 1 8 Tryz.underlying207 hi hz0 hz1 hz2 rfl (by decide) (.slice av 0 cv) 0 _ rfl (own_below HO.out (by (repeat (first | with_reducible exact Below.refl _ _ | with_reducible assumption | (with_reducible refine below_alloc ?_ _) | (with_reducible refine Below.setCell ?_ (by first | omega | (simp; done) | (simp; omega)) _) | (with_reducible refine Below.drew ?_) | (with_reducible refine below_drewN ?_ _) | (refine below_then (by with_reducible assumption) ?_))))) (some ⟨wr.heap.size + 1, 0, none⟩) 1 1 [.int .u64 y.stream] rfl (src_new1 _ 22 _ rfl (by simp) rfl) (by simp [Value.oneCell']) (by simp only [maxLen]; omega) (by omega) (by simp; omega) ?_; intro v' w3 hown3 hgrow3 hat3; obtain ⟨a3, c3, rfl⟩ := own_form hown3; have HO3 := hid hown3; have hb3 : Below w.heap.size wr w3 := (Below.grown ((by (repeat (first | with_reducible exact Below.refl _ _ | with_reducible assumption | (with_reducible refine below_alloc ?_ _) | (with_reducible refine Below.setCell ?_ (by first | omega | (simp; done) | (simp; omega)) _) | (with_reducible refine Below.drew ?_) | (with_reducible refine below_drewN ?_ _) | (refine below_then (by with_reducible assumption) ?_))) : Below wr.heap.size wr _).mono hz) hgrow3 (by simp; omega) (fun g e => (HO.out.lt g e).1)); clear hown3 hgrow3 hat3))
        have ho3 := HO3.out
        rw [← HTK.out] at ho3
        have HO4 := hid ho3
        clear ho3 x0 x1
        go_roundw
        case rel => exact ⟨1, by omega, by go_num, by simpa using HO4.out, HBD, hb.trans hb3⟩
        case measure => simp [intOf]; omega
      · obtain ⟨m, rfl⟩ : ∃ m, k = m + 1 := ⟨k - 1, by omega⟩
        obtain ⟨b', o', hA', hbb', a3, c3, y0, y1, hy, yl⟩ := link_at (lift HL.out hb) (show m < l.length by omega)
        simp only [Option.some.injEq, Addr.mk.injEq] at hA'
        obtain ⟨rfl, rfl, _⟩ := hA'
        have hri := HRI.out m hlt
        rw [dif_neg (by omega)] at hu
        simp only [Nat.add_sub_cancel] at hu
        rw [hu] at HTK
        have HBD := hid (HNB.out _ hu (by omega))
        have i1' : (m : Int) + 1 < (l.length : Int) := by omega
        have i2 : (m : Int) < (l.length : Int) := by omega
        have d2 : decide ((m : Int) + 1 < (l.length : Int)) = true := decide_eq_true i1'
        have d3 : decide (m + 1 < l.length) = true := decide_eq_true hlt
        generalize l[m + 1] = y at *
        generalize l[m]'(by omega) = z at *
        have w1 : 0 ≤ y.stream - (z.stream + 1) := by omega
        have w2 : z.stream + 1 ≤ 18446744073709551615 := by omega
        rw [show y.stream - z.stream - 1 = y.stream - (z.stream + 1) by omega] at HTK
        clear hu htk hnb hbd hown xl yl
        go_wp2_with (at_builtin; go_loud (refine wpList_append_src rfl _ _ _ rfl w.heap.size 22 i0 (.int .u64 0) 1 8 Tryz.underlying207 hi hz0 hz1 hz2 rfl (by decide) (.slice av (m + 1) cv) (m + 1) _ rfl (own_below HO.out (by (repeat (first | with_reducible exact Below.refl _ _ | with_reducible assumption | (with_reducible refine below_alloc ?_ _) | (with_reducible refine Below.setCell ?_ (by first | omega | (simp; done) | (simp; omega)) _) | (with_reducible refine Below.drew ?_) | (with_reducible refine below_drewN ?_ _) | (refine below_then (by with_reducible assumption) ?_))))) (some ⟨wr.heap.size + 1, 0, none⟩) 1 1 [.int .u64 (y.stream - (z.stream + 1))] rfl (src_new1 _ 22 _ rfl (by simp) rfl) (by simp [Value.oneCell']) (by simp only [maxLen]; omega) (by omega) (by simp; omega) ?_; intro v' w3 hown3 hgrow3 hat3; obtain ⟨a3, c3, rfl⟩ := own_form hown3; have HO3 := hid hown3; have hb3 : Below w.heap.size wr w3 := (Below.grown ((by (repeat (first | with_reducible exact Below.refl _ _ | with_reducible assumption | (with_reducible refine below_alloc ?_ _) | (with_reducible refine Below.setCell ?_ (by first | omega | (simp; done) | (simp; omega)) _) | (with_reducible refine Below.drew ?_) | (with_reducible refine below_drewN ?_ _) | (refine below_then (by with_reducible assumption) ?_))) : Below wr.heap.size wr _).mono hz) hgrow3 (by simp; omega) (fun g e => (HO.out.lt g e).1)); clear hown3 hgrow3 hat3))
        have ho3 := HO3.out
        rw [← HTK.out] at ho3
        have HO4 := hid ho3
        clear ho3 x0 x1 y0 y1
        go_roundw
        case rel => exact ⟨m + 1 + 1, by omega, by go_num, HO4.out, HBD, hb.trans hb3⟩
        case measure => simp [intOf]; omega
    · obtain rfl : k = l.length := by omega
      have d1 : decide ((l.length : Int) < (l.length : Int)) = false := decide_eq_false (by omega)
      have hv := hown
      rw [List.take_of_length_le (by omega)] at hv hbd
      have HV := hid (own_ints64 hbd.out (by omega) hv)
      clear hv hown
      go_wp2
      go_ret
      exact ⟨_, rfl, HV.out, hb⟩
end Go.Proofs.YtkipiefcnjfdjaaGreat
