/- A payload's block, written by a pen. -/
import Derived.Test.YtgcdbnbdbjaijaaBlC
namespace Go.Proofs.Ytgcdbnbdbjaijaa
open Go.RowKit Go.Bs Go.Maps
set_option linter.unusedVariables false
set_option linter.unusedSimpArgs false

theorem penF_old {w : World} {g : Nat} {a a1 : Option Addr} (h : a1.map Addr.block = a.map Addr.block ∨ ∃ q, a1.map Addr.block = some q ∧ w.heap.size ≤ q) {q : Nat} (hq : q < w.heap.size) (hn : ¬ PenF g a q) : ¬ PenF g a1 q := by
  rw [penF_is] at hn ⊢
  intro e
  rcases e with e | e
  · exact hn (.inl e)
  · rcases h with h | ⟨q', h, h2⟩
    · exact hn (.inr (h ▸ e))
    · rw [h] at e; have := Option.some.inj e; omega
theorem lit_one (w : World) (y : UInt8) : rBytes.r (· < (w.alloc (.cells #[.int .u8 (y.toNat : Int)] 5)).heap.size) (w.alloc (.cells #[.int .u8 (y.toNat : Int)] 5)) [.slice (some ⟨w.heap.size, 0, none⟩) 1 1] [y] :=
  own_bytes (l := [y]) rfl (own_new1 (base := 0) (Nat.zero_le _) (World.alloc_heap_new w _))

set_option maxRecDepth 100000 in
set_option maxHeartbeats 1600000 in
theorem block_put (w : World) {g base most : Nat} {J : List UInt8} {a : Option Addr} {c : Nat} (h : PenAt w g base most J a c) (p : List UInt8) (ad : Option Addr) (nd cd : Nat)
    (hD : rBytes.r (fun q => q < w.heap.size ∧ ¬ PenF g a q) w [.slice ad nd cd] p) (hp : p.length ≤ 1048576) (hfit : J.length + (blockB p).length ≤ most) (hlen : J.length + (blockB p).length ≤ 100000000000000) :
    Calls Try.prog 28 #[.pointer (some ⟨g, 0, none⟩), .slice ad nd cd] w fun r w' => r = .returned (.tuple #[]) ∧ PenStep w g base most (J ++ blockB p) a w' := by
  obtain ⟨rfl, hm, _, _⟩ := sl_len hD
  have d1 : decide ((1048576 : Int) < (p.length : Int)) = false := decide_eq_false (by omega)
  have hbk : Hid (blockB p = varB p.length ++ (if packR p then 1 :: blobB (pressB p) else 0 :: p)) := hid rfl
  have hvl : (varB p.length).length ≤ (blockB p).length := by rw [hbk.out]; simp
  have HV := hid (varint_put w h p.length (by omega) (by omega) (by omega))
  have HPK := hid (fun (W : World) (hl : rBytes.r (· < W.heap.size) W [.slice ad p.length cd] p) => block_packed W p ad _ cd hl hp)
  have HD := hid hD
  have HFIT := hid hfit; have HLEN := hid hlen
  clear h hD hfit hlen hvl
  generalize packR p = R at *
  generalize pressB p = E at *
  generalize varB p.length = V at *
  generalize blockB p = K at *
  cases R
  · have HK : Hid (K = V ++ (0 :: p)) := hid hbk.out
    clear hbk
    go_enter Try.func28, Try.ntmps28
    go_wp2_with fail
    refine HV.out.mono ?_
    rintro r w1 ⟨rfl, a1, c1, hp1, ht1, ha1⟩
    have hs1 := ht1.size
    have hD1 : rBytes.r (fun q => q < w1.heap.size ∧ ¬ PenF g a1 q) w1 [.slice ad p.length cd] p := rBytes.mono (rBytes.keep HD.out fun q hq => ht1.block q hq.1 hq.2) fun q hq => ⟨by omega, penF_old ha1 hq.1 hq.2⟩
    have HD1 := hid hD1
    clear hD1
    go_wp2_with fail
    refine (HPK.out _ (rBytes.mono HD1.out fun q hq => hq.1)).mono ?_
    rintro r w2 ⟨v2, rfl, _, hv2, hb2⟩
    obtain rfl := hv2 trivial
    have hs2 := hb2.size
    have hp2 := hp1.later hb2
    go_wp2_with fail
    have hbW : Below w2.heap.size w2 (w2.alloc (.cells #[.int .u8 0] 5)) := by (repeat (first | exact Below.refl _ _ | assumption | (refine below_alloc ?_ _) | (refine Below.setCell ?_ (by first | omega | (simp; done) | (simp; omega)) _) | (refine Below.drew ?_) | (refine below_drewN ?_ _) | (refine below_then (by assumption) ?_)))
    have hlit : rBytes.r (· < (w2.alloc (.cells #[.int .u8 0] 5)).heap.size) (w2.alloc (.cells #[.int .u8 0] 5)) [.slice (some ⟨w2.heap.size, 0, none⟩) 1 1] [0] := lit_one w2 0
    generalize w2.alloc (.cells #[.int .u8 0] 5) = W at *
    have hsW := hbW.size
    refine (pen_put W (hp2.later hbW) [0] (some ⟨w2.heap.size, 0, none⟩) 1 1 hlit (by have := HFIT.out; rw [HK.out] at this; simp at this ⊢; omega) (by have := HLEN.out; rw [HK.out] at this; simp at this ⊢; omega)).mono ?_
    rintro r w3 ⟨rfl, a3, c3, hp3, ht3, ha3⟩
    have hs3 := ht3.size
    have hD3 : rBytes.r (· < w3.heap.size) w3 [.slice ad p.length cd] p := rBytes.mono (rBytes.keep HD1.out fun q hq => (ht3.block q (by omega) hq.2).trans ((hbW.block q (by omega)).trans (hb2.block q hq.1))) fun q hq => by omega
    have HQ := hid (pen_put w3 hp3 p ad _ cd hD3 (by have := HFIT.out; rw [HK.out] at this; simp at this ⊢; omega) (by have := HLEN.out; rw [HK.out] at this; simp at this ⊢; omega))
    clear hD3 hlit
    go_wp2_with fail
    refine HQ.out.mono ?_
    rintro r w4 ⟨rfl, hst⟩
    have hst2 := PenStep.trans (J := J) ht1 ha1 (PenStep.later hb2 (PenStep.later hbW (PenStep.trans (J := J) ht3 ha3 hst)))
    have HST : Hid (PenStep w g base most (J ++ K) a w4) := hid (by rw [HK.out]; simpa using hst2)
    clear hst hst2
    go_wp2
    first | go_end0 | refine bodyPost_ret (results_none rfl _ _ _) rfl ?_
    exact ⟨rfl, HST.out⟩
  · have HK : Hid (K = V ++ (1 :: blobB E)) := hid hbk.out
    clear hbk
    go_enter Try.func28, Try.ntmps28
    go_wp2_with fail
    refine HV.out.mono ?_
    rintro r w1 ⟨rfl, a1, c1, hp1, ht1, ha1⟩
    have hs1 := ht1.size
    have hD1 : rBytes.r (fun q => q < w1.heap.size ∧ ¬ PenF g a1 q) w1 [.slice ad p.length cd] p := rBytes.mono (rBytes.keep HD.out fun q hq => ht1.block q hq.1 hq.2) fun q hq => ⟨by omega, penF_old ha1 hq.1 hq.2⟩
    have HD1 := hid hD1
    clear hD1
    go_wp2_with fail
    refine (HPK.out _ (rBytes.mono HD1.out fun q hq => hq.1)).mono ?_
    rintro r w2 ⟨v2, rfl, hv2, _, hb2⟩
    obtain ⟨a2, c2, hve, hr2, _⟩ := sl_form (hv2 trivial)
    simp only [List.cons.injEq, and_true] at hve
    subst hve
    have HE := hid hr2
    clear hv2 hr2
    have hs2 := hb2.size
    have hp2 := hp1.later hb2
    go_wp2_with fail
    have hbW : Below w2.heap.size w2 (w2.alloc (.cells #[.int .u8 1] 5)) := by (repeat (first | exact Below.refl _ _ | assumption | (refine below_alloc ?_ _) | (refine Below.setCell ?_ (by first | omega | (simp; done) | (simp; omega)) _) | (refine Below.drew ?_) | (refine below_drewN ?_ _) | (refine below_then (by assumption) ?_)))
    have hlit : rBytes.r (· < (w2.alloc (.cells #[.int .u8 1] 5)).heap.size) (w2.alloc (.cells #[.int .u8 1] 5)) [.slice (some ⟨w2.heap.size, 0, none⟩) 1 1] [1] := lit_one w2 1
    generalize w2.alloc (.cells #[.int .u8 1] 5) = W at *
    have hsW := hbW.size
    refine (pen_put W (hp2.later hbW) [1] (some ⟨w2.heap.size, 0, none⟩) 1 1 hlit (by have := HFIT.out; rw [HK.out] at this; simp at this ⊢; omega) (by have := HLEN.out; rw [HK.out] at this; simp at this ⊢; omega)).mono ?_
    rintro r w3 ⟨rfl, a3, c3, hp3, ht3, ha3⟩
    have hs3 := ht3.size
    have hno : ∀ q, w1.heap.size ≤ q → ¬ PenF g a1 q := fun q hq hf => by have := (hp1.own_lt hf).2; omega
    have hE3 : rBytes.r (fun q => q < w3.heap.size ∧ ¬ PenF g a3 q) w3 [.slice a2 E.length c2] E := rBytes.mono (rBytes.keep HE.out fun q hq => (ht3.block q (by omega) (hno q hq.1)).trans (hbW.block q (by omega))) fun q hq => ⟨by omega, penF_old ha3 (by omega) (hno q hq.1)⟩
    have HQ := hid (blob_put w3 hp3 E a2 _ c2 hE3 (by have := HFIT.out; rw [HK.out] at this; simp at this ⊢; omega) (by have := HLEN.out; rw [HK.out] at this; simp at this ⊢; omega))
    clear hE3 hlit hno
    go_wp2_with fail
    refine HQ.out.mono ?_
    rintro r w4 ⟨rfl, hst⟩
    have hst2 := PenStep.trans (J := J) ht1 ha1 (PenStep.later hb2 (PenStep.later hbW (PenStep.trans (J := J) ht3 ha3 hst)))
    have HST : Hid (PenStep w g base most (J ++ K) a w4) := hid (by rw [HK.out]; simpa using hst2)
    clear hst hst2
    go_wp2
    first | go_end0 | refine bodyPost_ret (results_none rfl _ _ _) rfl ?_
    exact ⟨rfl, HST.out⟩
end Go.Proofs.Ytgcdbnbdbjaijaa
