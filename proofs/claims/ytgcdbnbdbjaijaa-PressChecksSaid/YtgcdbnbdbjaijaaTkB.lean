/- The document's tokens of a text. -/
-- KEEP ((try dsimp only); refine ⟨?_, ?_⟩ <;> (first | assumption | (go_keep; done)))
import Derived.Test.YtgcdbnbdbjaijaaTkA
namespace Go.Proofs.Ytgcdbnbdbjaijaa
open Go.RowKit Go.Bs Go.Maps
set_option linter.unusedVariables false
set_option linter.unusedSimpArgs false

/-- What is still to come. -/
def Rest (b : List UInt8) (p i : Nat) (O : List Tok) : Prop := ∃ f, b.length ≤ p + f ∧ toksR b = O ++ toksF b f p i
theorem Rest.copy {b : List UInt8} {p i o m : Nat} {O : List Tok} (h : Rest b p i O) (hp : p < b.length) (hb : bestR b p = (o, m)) (hm : m ≠ 0) : Rest b (p + m) (p + m) (O ++ litT b i p ++ [⟨[], (o : Int), (m : Int)⟩]) := by
  obtain ⟨f, hf, h⟩ := h
  obtain ⟨f, rfl⟩ : ∃ f', f = f' + 1 := ⟨f - 1, by omega⟩
  refine ⟨f, by omega, ?_⟩
  rw [h]
  simp only [toksF, if_pos hp, hb, if_neg hm]
  simp
theorem Rest.none {b : List UInt8} {p i o : Nat} {O : List Tok} (h : Rest b p i O) (hp : p < b.length) (hb : bestR b p = (o, 0)) : Rest b (p + 1) i O := by
  obtain ⟨f, hf, h⟩ := h
  obtain ⟨f, rfl⟩ : ∃ f', f = f' + 1 := ⟨f - 1, by omega⟩
  refine ⟨f, by omega, ?_⟩
  rw [h]
  simp only [toksF, if_pos hp, hb, if_true]
theorem Rest.fin {b : List UInt8} {i : Nat} {O : List Tok} (h : Rest b b.length i O) : toksR b = O ++ litT b i b.length := by
  obtain ⟨f, hf, h⟩ := h
  rw [h]
  cases f with
  | zero => rfl
  | succ f => simp only [toksF, if_neg (Nat.lt_irrefl _)]

def LastCopy (O : List Tok) : Prop := ∀ n, O.length = n + 1 → ∀ t, O[n]? = some t → t.off ≠ 0
theorem LastCopy.snoc (O : List Tok) {o m : Nat} (ho : o ≠ 0) : LastCopy (O ++ [⟨[], (o : Int), (m : Int)⟩]) := fun n hn t ht => by
  have e : n = O.length := by simp at hn; omega
  subst e
  simp at ht
  subst ht
  simpa using ho

/-- The tokens so far. -/
def TOut (lo : Nat) (b : List UInt8) (w : World) (v : Value) (O : List Tok) (i p : Nat) : Prop :=
  (i = p ∧ ∃ cells, OwnElsAt lo rTok lo 30 3 w v O cells) ∨ (i < p ∧ ∃ g c cells vl, v = .slice (some ⟨g, 0, none⟩) (O.length + 1) c ∧ TBld lo w g c cells O ((b.drop i).take (p - i)) vl)
theorem TOut.close {lo : Nat} {b : List UInt8} {w : World} {v : Value} {O : List Tok} {i p : Nat} (h : TOut lo b w v O i p) : ∃ cells, OwnElsAt lo rTok lo 30 3 w v (O ++ litT b i p) cells := by
  rcases h with ⟨rfl, cells, h⟩ | ⟨h0, g, c, cells, vl, rfl, h⟩
  · exact ⟨cells, by simpa [litT] using h⟩
  · exact ⟨_, by have := h.close; simpa [litT, h0] using this⟩
theorem lit_snoc {b : List UInt8} {i p : Nat} (hi : i ≤ p) (hp : p < b.length) : (b.drop i).take (p + 1 - i) = (b.drop i).take (p - i) ++ [b[p]] := by
  rw [show p + 1 - i = (p - i) + 1 by omega, List.take_succ_eq_append_getElem (by simp; omega)]
  congr 2
  simp
  congr 1
  omega

set_option maxRecDepth 100000 in
set_option maxHeartbeats 6400000 in
theorem ref15_tokens (b : List UInt8) (a : Option Addr) (n c : Nat) (w : World) (hl : rBytes.r (· < w.heap.size) w [.slice a n c] b) (hlen : b.length ≤ 1048576) :
    Calls Try.prog 19 #[.slice a n c] w fun r w' => ∃ v, r = .returned v ∧ rToks.r (fun q => w.heap.size ≤ q ∧ q < w'.heap.size) w' [v] (toksR b) ∧ Below w.heap.size w w' := by
  obtain ⟨rfl, hm, _, _⟩ := sl_len hl
  obtain ⟨i0, hi, hz0, hz1, hz2⟩ := info_parts info8
  obtain ⟨j0, hj0, hy0, hy1, hy2⟩ := info_parts infoTok
  have HL := hid hl
  clear hl
  go_enter Try.func19, Try.ntmps19
  go_wp2_with fail
  go_loopw [3, 4] (fun v pv wr => ∃ (p i : Nat) (O : List Tok), pv = .int .i64 p ∧ p ≤ b.length ∧ i ≤ p ∧ O.length ≤ i ∧ Hid (Rest b p i O) ∧ Hid (LastCopy O) ∧ Hid (TOut w.heap.size b wr v O i p) ∧ Below w.heap.size w wr) (fun _ pv _ => b.length - (intOf pv).toNat)
  case atStart => exact ⟨0, 0, [], rfl, Nat.zero_le _, Nat.le_refl _, Nat.le_refl _, hid ⟨b.length, by omega, rfl⟩, hid (fun n hn => by simp at hn), hid (.inl ⟨rfl, OwnEls.nil⟩), Below.refl _ _⟩
  case round =>
    obtain ⟨p, i, O, rfl, hp, hip, hOi, hrest, hlc, hout, hb⟩ := hrel
    have hbs := hb.size
    obtain ⟨cells3, hcl⟩ := hout.out.close
    obtain ⟨av, cv, rfl⟩ := own_form hcl.1
    have hLL : (O ++ litT b i p).length ≤ p := by
      unfold litT
      split <;> simp <;> omega
    rcases Nat.lt_or_ge p b.length with hlt | hge
    · have HB := hid (ref14_best1 b p a _ c wr (lift HL.out hb) hlen)
      have hfc := hid (bestR_facts b p)
      have hroom := bestR_room b p
      generalize hom : bestR b p = om at *
      obtain ⟨o, m⟩ := om
      dsimp only at hroom
      have HOM := hid hom; have HCL := hid hcl
      clear hom hcl
      by_cases hm0 : m = 0
      · subst hm0
        have hrn := hid (hrest.out.none hlt HOM.out)
        have hyb := byte_at HL.out hlt
        obtain ⟨ab, ob, hA, hab, hcb⟩ := hyb
        subst hA
        have hab' : ab < w.heap.size := hab
        rcases hout.out with ⟨hipe, cells, hcl0⟩ | ⟨h0, g, cg, cells, vl, hv, htb⟩
        · subst hipe
          have hlit : litT b i i = [] := by simp [litT]
          have HLS := hid (lit_snoc (Nat.le_refl i) hlt)
          simp only [Nat.sub_self, List.take_zero, List.nil_append] at HLS
          simp only [hlit, List.append_nil] at hcl0 hLL hrn ⊢
          generalize b[i] = y at *
          clear hlit hout HCL
          have HCB := hid hcb
          clear hcb
          rcases Nat.eq_zero_or_pos O.length with hO0 | hO0
          · obtain rfl : O = [] := List.eq_nil_of_length_eq_zero hO0
            clear hO0
            simp only [List.length_nil] at *
            go_wp2_with fail
            refine HB.out.mono ?_
            rintro r w2 ⟨rfl, hb2⟩
            have hs2 := hb2.size
            have hbw2 := below_then hb2 hb
            have HC2 := hid (hcl0.below hb2)
            have Yb := (hbw2.cell (p := ⟨ab, ob + i, none⟩) hab).trans HCB.out
            have i4 : (i : Int) < (b.length : Int) := by omega
            go_wp2_with (at_builtin; go_loud (refine wpList_append_src rfl _ _ _ rfl w.heap.size 30 j0 (.agg #[.slice none 0 0, .int .i64 0, .int .i64 0]) 3 40 Try.underlying24 hj0 hy0 hy1 hy2 rfl (by decide) (.slice av 0 cv) 0 cells.flatten rfl (own_below HC2.out.1 (by (repeat (first | exact Below.refl _ _ | assumption | (refine below_alloc ?_ _) | (refine Below.setCell ?_ (by first | omega | (simp; done) | (simp; omega)) _) | (refine Below.drew ?_) | (refine below_drewN ?_ _) | (refine below_then (by assumption) ?_))))) (some ⟨w2.heap.size + 1, 0, none⟩) 1 1 [.slice (some ⟨w2.heap.size, 0, none⟩) 1 1, .int .i64 0, .int .i64 0] rfl (src_new1 (w2.alloc (.cells #[.int .u8 (y.toNat : Int)] 5)) 30 _ rfl (by simp) rfl) (by intro u hu; simp at hu; rcases hu with rfl | rfl | rfl <;> rfl) (by simp only [maxLen]; omega) (by omega) (by simp; omega) ?_; intro v8 w8 hown8 hgrow8 hat8; obtain ⟨g8, c8, rfl⟩ := own_at hown8; have HG8 := hid hgrow8; have HO8 := hid hown8; have HA8 := hid hat8; clear hgrow8 hown8 hat8))
            have hst := TBld.start (by omega) HC2.out HO8.out HG8.out HA8.out
            have hb8 : Below w.heap.size w w8 := Below.grown (by (repeat (first | exact Below.refl _ _ | assumption | (refine below_alloc ?_ _) | (refine Below.setCell ?_ (by first | omega | (simp; done) | (simp; omega)) _) | (refine Below.drew ?_) | (refine below_drewN ?_ _) | (refine below_then (by assumption) ?_)))) HG8.out (by simp; omega) (fun g e => (HC2.out.1.lt g e).1)
            have hto : TOut w.heap.size b w8 (.slice (some ⟨g8, 0, none⟩) (0 + 1) c8) [] i (i + 1) := .inr ⟨by omega, g8, c8, cells, _, rfl, by rw [HLS.out]; exact hst⟩
            have HTO := hid hto
            clear hto hst
            go_wp2_with fail
            go_roundw
            case rel => exact ⟨i + 1, i, [] , by go_num, by omega, by omega, by omega, hrn, hlc, HTO, hb8⟩
            case measure => simp [intOf]; omega
          · obtain ⟨k, hk⟩ : ∃ k, O.length = k + 1 := ⟨O.length - 1, by omega⟩
            obtain ⟨gt, ot, hA2, hgt, at2, ct2, q0, q1, q2, zz1, zz2, zz3⟩ := tok_at (xs := O) (OwnEls.slice (Nat.le_refl _) ⟨_, hcl0⟩) (i := k) (by omega)
            have hoff := hlc.out k hk O[k] (List.getElem?_eq_getElem (by omega))
            have eo : (O[k].off == 0) = false := by simpa using hoff
            have HQ1 := hid q1
            have t1 : ((O.length : Int) - 1).toNat = k := by omega
            have t2 : (0 : Int) ≤ (O.length : Int) - 1 := by omega
            have t3 : (O.length : Int) - 1 < (O.length : Int) := by omega
            have d5 : decide ((0 : Int) ≤ (O.length : Int) - 1) = true := decide_eq_true t2
            generalize O[k].off = of at *
            have HHK := hid hk
            clear zz1 zz2 zz3 q0 q1 q2 hoff
            clear hk hO0
            have hgt' := hgt
            subst hA2
            go_wp2_with fail
            refine HB.out.mono ?_
            rintro r w2 ⟨rfl, hb2⟩
            have hs2 := hb2.size
            have hbw2 := below_then hb2 hb
            have HC2 := hid (hcl0.below hb2)
            have Q1 := (hb2.cell (p := ⟨gt, ot + k * 3 + 1, none⟩) hgt.2).trans HQ1.out
            have Yb := (hbw2.cell (p := ⟨ab, ob + i, none⟩) hab).trans HCB.out
            have i4 : (i : Int) < (b.length : Int) := by omega
            go_wp2_with (at_builtin; go_loud (refine wpList_append_src rfl _ _ _ rfl w.heap.size 30 j0 (.agg #[.slice none 0 0, .int .i64 0, .int .i64 0]) 3 40 Try.underlying24 hj0 hy0 hy1 hy2 rfl (by decide) (.slice (some ⟨gt, ot, none⟩) O.length cv) O.length cells.flatten rfl (own_below HC2.out.1 (by (repeat (first | exact Below.refl _ _ | assumption | (refine below_alloc ?_ _) | (refine Below.setCell ?_ (by first | omega | (simp; done) | (simp; omega)) _) | (refine Below.drew ?_) | (refine below_drewN ?_ _) | (refine below_then (by assumption) ?_))))) (some ⟨w2.heap.size + 1, 0, none⟩) 1 1 [.slice (some ⟨w2.heap.size, 0, none⟩) 1 1, .int .i64 0, .int .i64 0] rfl (src_new1 (w2.alloc (.cells #[.int .u8 (y.toNat : Int)] 5)) 30 _ rfl (by simp) rfl) (by intro u hu; simp at hu; rcases hu with rfl | rfl | rfl <;> rfl) (by simp only [maxLen]; omega) (by omega) (by simp; omega) ?_; intro v8 w8 hown8 hgrow8 hat8; obtain ⟨g8, c8, rfl⟩ := own_at hown8; have HG8 := hid hgrow8; have HO8 := hid hown8; have HA8 := hid hat8; clear hgrow8 hown8 hat8))
            have hst := TBld.start (by omega) HC2.out HO8.out HG8.out HA8.out
            have hb8 : Below w.heap.size w w8 := Below.grown (by (repeat (first | exact Below.refl _ _ | assumption | (refine below_alloc ?_ _) | (refine Below.setCell ?_ (by first | omega | (simp; done) | (simp; omega)) _) | (refine Below.drew ?_) | (refine below_drewN ?_ _) | (refine below_then (by assumption) ?_)))) HG8.out (by simp; omega) (fun g e => (HC2.out.1.lt g e).1)
            have hto : TOut w.heap.size b w8 (.slice (some ⟨g8, 0, none⟩) (O.length + 1) c8) O i (i + 1) := .inr ⟨by omega, g8, c8, cells, _, rfl, by rw [HLS.out]; exact hst⟩
            have HTO := hid hto
            clear hto hst
            go_wp2_with fail
            go_roundw
            case rel => exact ⟨i + 1, i, O , by go_num, by omega, by omega, by omega, hrn, hlc, HTO, hb8⟩
            case measure => simp [intOf]; omega
        · have hlt1 : (O ++ litT b i p).length = O.length + 1 := by simp [litT, h0]
          rw [hlt1] at *
          have HLS := hid (lit_snoc hip hlt)
          simp only [Value.slice.injEq] at hv
          obtain ⟨rfl, _, rfl⟩ := hv
          generalize hDD : (b.drop i).take (p - i) = D at *
          have hDl : D.length ≤ 1048576 := by rw [← hDD]; simp; omega
          generalize b[p] = y at *
          clear hDD hlt1 hout HCL
          obtain ⟨al, cl, rfl⟩ := own_form htb.last
          have HCB := hid hcb; have HTB := hid htb
          clear hcb htb
          have d5 : decide ((0 : Int) ≤ (O.length : Int)) = true := decide_eq_true (by omega)
          have kk : (O.length : Int) + 1 - 1 = (O.length : Int) := by omega
          have i3 : (O.length : Int) < (O.length : Int) + 1 := by omega
          have i4 : (p : Int) < (b.length : Int) := by omega
          have i5 : (0 : Int) ≤ (O.length : Int) := by omega
          go_wp2_with fail
          refine HB.out.mono ?_
          rintro r w2 ⟨rfl, hb2⟩
          have hs2 := hb2.size
          have hbw2 := below_then hb2 hb
          have HT2 := hid (HTB.out.later hb2)
          obtain ⟨pl0, pl1, pl2⟩ := HT2.out.place
          obtain ⟨hg1, hg2⟩ := HT2.out.g_lt
          have hne := HT2.out.ne
          have hol := fun q (hq : (Value.slice al D.length cl).ownBlock = some q) => HT2.out.last.lt q hq
          have HOL := hid hol; clear hol
          have Yb := (hbw2.cell (p := ⟨ab, ob + p, none⟩) hab).trans HCB.out
          have hab2 : ab < w2.heap.size := by omega
          go_wp2_with fail
          refine wp_region_last_held (fun w' => w'.cell? ⟨g, O.length * 3, none⟩ = some (.slice al D.length cl) ∧ w'.cell? ⟨ab, ob + p, none⟩ = some (.int .u8 (y.toNat : Int))) _ (by kernel_rfl) rfl (by kernel_rfl) ⟨pl0, Yb⟩ (fun hHeld => ?_)
          simp only [noopLast, noopOf]
          refine wpAnyH_take (i := 0) (oi := _) (v := ?_) rfl (by decide +kernel) (by decide +kernel) (by decide +kernel) (fun _ _ _ h => h) (Or.inl ⟨by rfl, ?_⟩) (by assumption) ?_
          rotate_left
          · (intro w hSw; (try dsimp only at hSw); go_simp <;> with_reducible rfl)
          (try simp only [Act.put, List.setIfInBounds_toArray, List.set_cons_zero, List.set_cons_succ])
          refine wpAnyH_take (i := 1) (oi := _) (v := ?_) rfl (by decide +kernel) (by decide +kernel) (by decide +kernel) (fun _ _ _ h => h) (Or.inl ⟨by rfl, ?_⟩) (by assumption) ?_
          rotate_left
          · (intro w hSw; (try dsimp only at hSw); go_simp <;> with_reducible rfl)
          (try simp only [Act.put, List.setIfInBounds_toArray, List.set_cons_zero, List.set_cons_succ])
          refine wpAnyH_take (i := 2) (oi := _) (v := ?_) rfl (by decide +kernel) (by decide +kernel) (by decide +kernel) (fun _ _ _ h => h) (Or.inl ⟨by rfl, ?_⟩) (by assumption) ?_
          rotate_left
          · (intro w hSw; (try dsimp only at hSw); go_simp <;> with_reducible rfl)
          (try simp only [Act.put, List.setIfInBounds_toArray, List.set_cons_zero, List.set_cons_succ])
          refine wpAnyH_take (i := 3) (oi := _) (v := ?_) rfl (by decide +kernel) (by decide +kernel) (by decide +kernel) (fun _ _ _ h => h) (Or.inl ⟨by rfl, ?_⟩) (by assumption) ?_
          rotate_left
          · (intro w hSw; (try dsimp only at hSw); go_simp <;> with_reducible rfl)
          (try simp only [Act.put, List.setIfInBounds_toArray, List.set_cons_zero, List.set_cons_succ])
          refine wpAnyH_take (i := 4) (oi := _) (v := ?_) rfl (by decide +kernel) (by decide +kernel) (by decide +kernel) (fun _ _ _ h => h) (Or.inl ⟨by rfl, ?_⟩) (by assumption) ?_
          rotate_left
          · (intro w hSw; (try dsimp only at hSw); go_simp <;> with_reducible rfl)
          (try simp only [Act.put, List.setIfInBounds_toArray, List.set_cons_zero, List.set_cons_succ])
          refine wpAnyH_take (i := 5) (oi := _) (v := ?_) rfl (by decide +kernel) (by decide +kernel) (by decide +kernel) (fun _ _ _ h => h) (Or.inl ⟨by rfl, ?_⟩) (by assumption) ?_
          rotate_left
          · (intro w hSw; (try dsimp only at hSw); go_simp <;> with_reducible rfl)
          (try simp only [Act.put, List.setIfInBounds_toArray, List.set_cons_zero, List.set_cons_succ])
          refine wpAnyH_take (i := 6) (oi := _) (v := ?_) rfl (by decide +kernel) (by decide +kernel) (by decide +kernel) (fun _ _ _ h => h) (Or.inl ⟨by rfl, ?_⟩) (by assumption) ?_
          rotate_left
          · (intro w hSw; (try dsimp only at hSw); go_simp <;> with_reducible rfl)
          (try simp only [Act.put, List.setIfInBounds_toArray, List.set_cons_zero, List.set_cons_succ])
          refine wpAnyH_take (i := 7) (oi := _) (v := ?_) rfl (by decide +kernel) (by decide +kernel) (by decide +kernel) (fun _ _ _ h => h) (Or.inl ⟨by rfl, ?_⟩) (by assumption) ?_
          rotate_left
          · (intro w hSw; (try dsimp only at hSw); go_simp <;> with_reducible rfl)
          (try simp only [Act.put, List.setIfInBounds_toArray, List.set_cons_zero, List.set_cons_succ])
          refine wpAnyH_take (i := 8) (oi := _) (v := ?_) rfl (by decide +kernel) (by decide +kernel) (by decide +kernel) (fun _ _ _ h => h) (Or.inl ⟨by rfl, ?_⟩) (by assumption) ?_
          rotate_left
          · (intro w hSw; (try dsimp only at hSw); go_simp <;> with_reducible rfl)
          (try simp only [Act.put, List.setIfInBounds_toArray, List.set_cons_zero, List.set_cons_succ])
          refine wpAnyH_take (i := 9) (oi := _) (v := ?_) rfl (by decide +kernel) (by decide +kernel) (by decide +kernel) (fun _ _ _ h => h) (Or.inl ⟨by rfl, ?_⟩) (by assumption) ?_
          rotate_left
          · (intro w hSw; (try dsimp only at hSw); go_simp <;> with_reducible rfl)
          (try simp only [Act.put, List.setIfInBounds_toArray, List.set_cons_zero, List.set_cons_succ])
          refine wpAnyH_take (i := 10) (oi := _) (v := ?_) rfl (by decide +kernel) (by decide +kernel) (by decide +kernel) (fun _ _ _ h => h) (Or.inl ⟨by rfl, ?_⟩) (by assumption) ?_
          rotate_left
          · (intro w hSw; (try dsimp only at hSw); go_simp <;> with_reducible rfl)
          (try simp only [Act.put, List.setIfInBounds_toArray, List.set_cons_zero, List.set_cons_succ])
          refine wpAnyH_ready (rs := [11]) (by decide +kernel) (by simp) ?_
          refine AllReadyH.cons (o := _) rfl (fun K hK => ?_) AllReadyH.nil
          go_simp
          refine hK.out _ _ ?_ (fun hHeld => ?_)
          · ((try dsimp only); refine ⟨?_, ?_⟩ <;> (first | assumption | (go_keep; done)))
          clear hK K
          (try simp only [Act.put, List.setIfInBounds_toArray, List.set_cons_zero, List.set_cons_succ])
          refine wpAnyH_ready (rs := [12]) (by decide +kernel) (by simp) ?_
          refine AllReadyH.cons (o := _) rfl (fun K hK => ?_) AllReadyH.nil
          (refine step_append_src (by rfl) _ _ _ (by rfl) w.heap.size 5 i0 (.int .u8 0) 1 1 Try.underlying22 hi hz0 hz1 hz2 rfl (by decide) (.slice al D.length cl) D.length (byteCells D) (by rfl) (own_below HT2.out.last (by (repeat (first | exact Below.refl _ _ | assumption | (refine below_alloc ?_ _) | (refine Below.setCell ?_ (by first | omega | (simp; done) | (simp; omega)) _) | (refine Below.drew ?_) | (refine below_drewN ?_ _) | (refine below_then (by assumption) ?_))))) (some ⟨w2.heap.size, 0, none⟩) 1 1 [.int .u8 (y.toNat : Int)] (by rfl) (src_new1 w2.drew 5 _ (by rfl) (by rfl) rfl) (by intro u hu; simp at hu; subst hu; rfl) (by simp only [maxLen]; omega) (by omega) (by simp; omega) ?_; intro a8 c8 w8 hown8 hgrow8 hat8; have G := fun b' (hb : b' < w2.heap.size) (hne : (Value.slice al D.length cl).ownBlock ≠ some b') => (hgrow8.block b' (by simp; omega) (fun e => hne e.symm)).trans (Below.heap_alloc w2.drew _ b' (by exact hb)); have m1 := (World.cell?_of_block (a := ⟨g, O.length * 3, none⟩) (G g hg2 hne)).trans pl0; have m2 := (World.frozen?_of_block (a := ⟨g, O.length * 3, none⟩) (G g hg2 hne)).trans pl2; have neb : (Value.slice al D.length cl).ownBlock ≠ some ab := fun e => by { have := (HOL.out _ e).1; omega }; have m3 := (World.cell?_of_block (a := ⟨ab, ob + p, none⟩) (G ab hab2 neb)).trans Yb; have m4 : g < w8.heap.size := Nat.lt_of_lt_of_le hg2 (Nat.le_trans (by simp) hgrow8.size); have HG8 := hid hgrow8; have HO8 := hid hown8; have HA8 := hid hat8; have HGG := hid G; clear hgrow8 hown8 hat8 G neb)
          refine hK.out _ _ ?_ (fun hHeld => ?_)
          · ((try dsimp only); refine ⟨?_, ?_⟩ <;> (first | assumption | (go_keep; done)))
          clear hK K
          (try simp only [Act.put, List.setIfInBounds_toArray, List.set_cons_zero, List.set_cons_succ])
          refine wpAnyH_take (i := 13) (oi := _) (v := ?_) rfl (by decide +kernel) (by decide +kernel) (by decide +kernel) (fun _ _ _ h => h) (Or.inl ⟨by rfl, ?_⟩) (by assumption) ?_
          rotate_left
          · (intro w hSw; (try dsimp only at hSw); go_simp <;> with_reducible rfl)
          (try simp only [Act.put, List.setIfInBounds_toArray, List.set_cons_zero, List.set_cons_succ])
          refine wpAnyH_take (i := 14) (oi := _) (v := ?_) rfl (by decide +kernel) (by decide +kernel) (by decide +kernel) (fun _ _ _ h => h) (Or.inl ⟨by rfl, ?_⟩) (by assumption) ?_
          rotate_left
          · (intro w hSw; (try dsimp only at hSw); go_simp <;> with_reducible rfl)
          (try simp only [Act.put, List.setIfInBounds_toArray, List.set_cons_zero, List.set_cons_succ])
          refine wpAnyH_take (i := 15) (oi := _) (v := ?_) rfl (by decide +kernel) (by decide +kernel) (by decide +kernel) (fun _ _ _ h => h) (Or.inl ⟨by rfl, ?_⟩) (by assumption) ?_
          rotate_left
          · (intro w hSw; (try dsimp only at hSw); go_simp <;> with_reducible rfl)
          (try simp only [Act.put, List.setIfInBounds_toArray, List.set_cons_zero, List.set_cons_succ])
          refine wpAnyH_done (by kernel_rfl) ?_ _
          show wpList _ _ _ _ _ _
          have hs8 : w2.heap.size + 1 ≤ w8.heap.size := by have := HG8.out.size; simpa using this
          have hgr := TBld.grow (w' := w8) (D' := D ++ [y]) (vl' := .slice a8 (D.length + 1) c8) HT2.out (fun q hq hn => HGG.out q hq hn) (by omega) (by rw [List.length_append, ← byteCells_snoc]; exact HO8.out) (by
            rcases HA8.out with h | h
            · exact .inl h
            · exact .inr ⟨_, h, by simp⟩)
          have hb8 : Below w.heap.size w w8 := Below.grown (by (repeat (first | exact Below.refl _ _ | assumption | (refine below_alloc ?_ _) | (refine Below.setCell ?_ (by first | omega | (simp; done) | (simp; omega)) _) | (refine Below.drew ?_) | (refine below_drewN ?_ _) | (refine below_then (by assumption) ?_)))) HG8.out (by simp; omega) (fun g e => (HOL.out g e).1)
          have hb9 : Below w.heap.size w (w8.setCell ⟨g, O.length * 3, none⟩ (.slice a8 (D.length + 1) c8)) := hb8.setCell hg1 _
          have hto : TOut w.heap.size b (w8.setCell ⟨g, O.length * 3, none⟩ (.slice a8 (D.length + 1) c8)) (.slice (some ⟨g, 0, none⟩) (O.length + 1) cv) O i (p + 1) := .inr ⟨by omega, g, cv, cells, _, rfl, by rw [HLS.out]; exact hgr⟩
          have HTO := hid hto
          clear hto hgr
          go_wp2_with fail
          go_roundw
          case rel => exact ⟨p + 1, i, O, by go_num, by omega, by omega, by omega, hrn, hlc, HTO, hb9⟩
          case measure => simp [intOf]; omega
      · have hm4 : 1 ≤ o ∧ 4 ≤ m := by
          rcases hfc.out with h | ⟨o', m', h, h1, h2, h3, _⟩
          · simp only [Prod.mk.injEq] at h; omega
          · simp only [Prod.mk.injEq] at h; omega
        have hrn := hid (hrest.out.copy hlt HOM.out hm0)
        have hls := hid (LastCopy.snoc (O ++ litT b i p) (o := o) (m := m) (by omega))
        have d1 : decide ((0 : Int) < (m : Int)) = true := by simp; omega
        have d1' : decide (0 < m) = true := by simp; omega
        generalize hL3 : O ++ litT b i p = L3 at *
        clear hL3 hm0
        go_wp2_with fail
        refine HB.out.mono ?_
        rintro r w2 ⟨rfl, hb2⟩
        have hs2 := hb2.size
        have hbw2 := below_then hb2 hb
        have HC2 := hid (HCL.out.below hb2)
        go_wp2_with (at_builtin; go_loud (refine wpList_append_src rfl _ _ _ rfl w.heap.size 30 j0 (.agg #[.slice none 0 0, .int .i64 0, .int .i64 0]) 3 40 Try.underlying24 hj0 hy0 hy1 hy2 rfl (by decide) (.slice av L3.length cv) L3.length cells3.flatten rfl (own_below HC2.out.1 (by (repeat (first | exact Below.refl _ _ | assumption | (refine below_alloc ?_ _) | (refine Below.setCell ?_ (by first | omega | (simp; done) | (simp; omega)) _) | (refine Below.drew ?_) | (refine below_drewN ?_ _) | (refine below_then (by assumption) ?_))))) (some ⟨w2.heap.size, 0, none⟩) 1 1 [.slice none 0 0, .int .i64 (o : Int), .int .i64 (m : Int)] rfl (src_new1 w2 30 _ rfl rfl rfl) (by intro u hu; simp at hu; rcases hu with rfl | rfl | rfl <;> rfl) (by simp only [maxLen]; omega) (by omega) (by simp; omega) ?_; intro v8 w8 hown8 hgrow8 hat8; obtain ⟨a8, c8, rfl⟩ := own_form hown8; have HG8 := hid hgrow8; have HO8 := hid hown8; have HA8 := hid hat8; clear hgrow8 hown8 hat8))
        have hx : rTok.r (fun q => w.heap.size ≤ q ∧ q < (w2.alloc (.cells #[.slice none 0 0, .int .i64 (o : Int), .int .i64 (m : Int)] 30)).heap.size ∧ (Value.slice av L3.length cv).ownBlock ≠ some q) (w2.alloc (.cells #[.slice none 0 0, .int .i64 (o : Int), .int .i64 (m : Int)] 30)) [.slice none 0 0, .int .i64 (o : Int), .int .i64 (m : Int)] ⟨[], o, m⟩ :=
          tok_mk (x := ⟨[], o, m⟩) (rSl_mk rfl (Nat.le_refl _) (Nat.zero_le _) (.inl rfl)) (by simp; omega) (by simp; omega)
        have hpu := OwnEls.push (HC2.out.below (by (repeat (first | exact Below.refl _ _ | assumption | (refine below_alloc ?_ _) | (refine Below.setCell ?_ (by first | omega | (simp; done) | (simp; omega)) _) | (refine Below.drew ?_) | (refine below_drewN ?_ _) | (refine below_then (by assumption) ?_))))) rfl hx HO8.out HG8.out HA8.out HG8.out.size
        have hb8 : Below w.heap.size w w8 := Below.grown (by (repeat (first | exact Below.refl _ _ | assumption | (refine below_alloc ?_ _) | (refine Below.setCell ?_ (by first | omega | (simp; done) | (simp; omega)) _) | (refine Below.drew ?_) | (refine below_drewN ?_ _) | (refine below_then (by assumption) ?_)))) HG8.out (by simp; omega) (fun g e => (HC2.out.1.lt g e).1)
        have hto : TOut w.heap.size b w8 (.slice a8 (L3.length + 1) c8) (L3 ++ [⟨[], (o : Int), (m : Int)⟩]) (p + m) (p + m) := .inl ⟨rfl, hpu⟩
        have HTO := hid hto
        clear hto hpu hx
        go_wp2_with fail
        go_roundw
        case rel => exact ⟨p + m, p + m, L3 ++ [⟨[], (o : Int), (m : Int)⟩], by go_num, by omega, Nat.le_refl _, by simp; omega, hrn, hls, HTO, hb8⟩
        case measure => simp [intOf]; omega
    · obtain rfl : p = b.length := by omega
      have hf := hrest.out.fin
      rw [← hf] at hcl
      have hV := OwnEls.slice (Nat.le_refl _) ⟨_, hcl⟩
      rw [← hf] at *
      have HV := hid hV
      clear hV hcl hf
      go_wp2
      go_ret
      exact ⟨_, rfl, HV.out, hb⟩
end Go.Proofs.Ytgcdbnbdbjaijaa
