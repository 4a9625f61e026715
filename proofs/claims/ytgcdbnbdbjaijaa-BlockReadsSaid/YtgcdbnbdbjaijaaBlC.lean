/- The document's block of a payload. -/
import Derived.Test.YtgcdbnbdbjaijaaBlB
namespace Go.Proofs.Ytgcdbnbdbjaijaa
open Go.RowKit Go.Bs Go.Maps
set_option linter.unusedVariables false
set_option linter.unusedSimpArgs false

set_option maxRecDepth 100000 in
set_option maxHeartbeats 1600000 in
theorem ref16_bytes (w : World) (p : List UInt8) (a : Option Addr) (n c : Nat) (hl : rBytes.r (· < w.heap.size) w [.slice a n c] p) (hlen : p.length ≤ 1048576) :
    Calls Try.prog 30 #[.slice a n c] w fun r w' => ∃ v, r = .returned v ∧ rBytes.r (fun q => w.heap.size ≤ q ∧ q < w'.heap.size) w' [v] (blockB p) ∧ Below w.heap.size w w' := by
  obtain ⟨rfl, hm, _, _⟩ := sl_len hl
  obtain ⟨i0, hi, hz0, hz1, hz2⟩ := info_parts info8
  have HL := hid hl
  have HV := hid (ref04_own p.length (by omega) w)
  have HPK := hid (fun (W : World) (hW : Below w.heap.size w W) => ref16_packed W p a _ c (lift HL.out hW) hlen)
  have HPB := hid (fun (W : World) (hW : Below w.heap.size w W) => ref15_bytes W p a _ c (lift HL.out hW) hlen)
  have hsm := pressB_small hlen
  have hbk : Hid (blockB p = varB p.length ++ (if packR p then 1 :: blobB (pressB p) else 0 :: p)) := hid rfl
  have hvl := varB_len p.length
  have HONE := hid (byteCells_one p)
  clear hl
  rw [show tokensB (toksR p) = pressB p from rfl] at HPB
  generalize pressB p = E at *
  have HB := hid (fun (W : World) (av : Option Addr) (cv : Nat) (h : rBytes.r (· < W.heap.size) W [.slice av E.length cv] E) => ref06_own W E av _ cv h hsm)
  have hgl := blobB_len E
  have hvE := varB_len E.length
  have hG : (blobB E).length ≤ 20000000000000 := by omega
  clear hgl hvE
  generalize blobB E = G at *
  generalize varB p.length = V at *
  generalize packR p = R at *
  generalize blockB p = K at *
  cases R
  · have hK : K = V ++ (0 :: p) := hbk.out
    have HK := hid hK
    clear hK hbk
    go_enter Try.func30, Try.ntmps30
    go_wp2_with fail
    refine HV.out.mono ?_
    rintro r w1 ⟨v, rfl, ho1, hb1⟩
    obtain ⟨a1, c1, rfl⟩ := own_form ho1
    have HO1 := hid ho1
    clear ho1
    go_wp2_with fail
    refine (HPK.out _ hb1).mono ?_
    rintro r w2 ⟨rfl, hb2⟩
    have hs1 := hb1.size
    have hs2 := hb2.size
    have hbw2 := below_then hb2 hb1
    have HO2 := hid (own_below HO1.out hb2)
    go_wp2_with (first
      | (at_builtin; go_loud (refine wpList_append_src rfl _ _ _ rfl w.heap.size 5 i0 (.int .u8 0) 1 1 Try.underlying22 hi hz0 hz1 hz2 rfl (by decide) (.slice a1 V.length c1) V.length (byteCells V) rfl (own_below HO2.out (by (repeat (first | exact Below.refl _ _ | assumption | (refine below_alloc ?_ _) | (refine Below.setCell ?_ (by first | omega | (simp; done) | (simp; omega)) _) | (refine Below.drew ?_) | (refine below_drewN ?_ _) | (refine below_then (by assumption) ?_))))) (some ⟨w2.heap.size, 0, none⟩) 1 1 [.int .u8 0] rfl (src_new1 w2 5 _ rfl rfl rfl) (by intro u hu; simp at hu; subst hu; rfl) (by simp only [maxLen]; omega) (by omega) (by simp; omega) ?_; intro v' w3 hown3 hgrow3 hat3; obtain ⟨a3, c3, rfl⟩ := own_form hown3; have HO3 := hid hown3; have hbw3 : Below w.heap.size w w3 := (Below.grown (by (repeat (first | exact Below.refl _ _ | assumption | (refine below_alloc ?_ _) | (refine Below.setCell ?_ (by first | omega | (simp; done) | (simp; omega)) _) | (refine Below.drew ?_) | (refine below_drewN ?_ _) | (refine below_then (by assumption) ?_)))) hgrow3 (by simp; omega) (fun g e => (HO2.out.lt g e).1)); have hs3 : w2.heap.size ≤ w3.heap.size := (Nat.le_trans (by simp) hgrow3.size); have HS3 := hid (src_bytes (lift HL.out hbw3)); clear hgrow3 hown3 hat3))
      | (at_builtin; go_loud (refine wpList_append_src rfl _ _ _ rfl w.heap.size 5 i0 (.int .u8 0) 1 1 Try.underlying22 hi hz0 hz1 hz2 rfl (by decide) (.slice a3 (V.length + 1) c3) (V.length + 1) (byteCells V ++ [.int .u8 0]) rfl HO3.out a p.length c (byteCells p) rfl HS3.out HONE.out (by simp only [maxLen]; omega) (by omega) (by omega) ?_; intro v' w5 hown5 hgrow5 hat5; have HG5 := hid hgrow5; have HO5 := hid hown5; clear hgrow5 hown5 hat5)))
    have ho := HO5.out
    rw [show [Value.int .u8 0] = byteCells [0] from rfl, byteCells_app, byteCells_app, List.append_assoc, show [(0 : UInt8)] ++ p = 0 :: p from rfl, ← HK.out] at ho
    have hln : V.length + 1 + p.length = K.length := by rw [HK.out]; simp; omega
    have hV5 := own_bytes2 hln ho
    have hbF : Below w.heap.size w w5 := Below.grown hbw3 HG5.out (by omega) (fun g e => (HO3.out.lt g e).1)
    have HV5 := hid hV5
    clear ho hln hV5
    go_ret
    exact ⟨_, rfl, HV5.out, hbF⟩
  · have hK : K = V ++ (1 :: G) := hbk.out
    have HK := hid hK
    clear hK hbk
    go_enter Try.func30, Try.ntmps30
    go_wp2_with fail
    refine HV.out.mono ?_
    rintro r w1 ⟨v, rfl, ho1, hb1⟩
    obtain ⟨a1, c1, rfl⟩ := own_form ho1
    have HO1 := hid ho1
    clear ho1
    go_wp2_with fail
    refine (HPK.out _ hb1).mono ?_
    rintro r w2 ⟨rfl, hb2⟩
    have hs1 := hb1.size
    have hs2 := hb2.size
    have hbw2 := below_then hb2 hb1
    have HO2 := hid (own_below HO1.out hb2)
    go_wp2_with (at_builtin; go_loud (refine wpList_append_src rfl _ _ _ rfl w.heap.size 5 i0 (.int .u8 0) 1 1 Try.underlying22 hi hz0 hz1 hz2 rfl (by decide) (.slice a1 V.length c1) V.length (byteCells V) rfl (own_below HO2.out (by (repeat (first | exact Below.refl _ _ | assumption | (refine below_alloc ?_ _) | (refine Below.setCell ?_ (by first | omega | (simp; done) | (simp; omega)) _) | (refine Below.drew ?_) | (refine below_drewN ?_ _) | (refine below_then (by assumption) ?_))))) (some ⟨w2.heap.size, 0, none⟩) 1 1 [.int .u8 1] rfl (src_new1 w2 5 _ rfl rfl rfl) (by intro u hu; simp at hu; subst hu; rfl) (by simp only [maxLen]; omega) (by omega) (by simp; omega) ?_; intro v' w3 hown3 hgrow3 hat3; obtain ⟨a3, c3, rfl⟩ := own_form hown3; have HO3 := hid hown3; have hbw3 : Below w.heap.size w w3 := (Below.grown (by (repeat (first | exact Below.refl _ _ | assumption | (refine below_alloc ?_ _) | (refine Below.setCell ?_ (by first | omega | (simp; done) | (simp; omega)) _) | (refine Below.drew ?_) | (refine below_drewN ?_ _) | (refine below_then (by assumption) ?_)))) hgrow3 (by simp; omega) (fun g e => (HO2.out.lt g e).1)); have hs3 : w2.heap.size ≤ w3.heap.size := (Nat.le_trans (by simp) hgrow3.size); have HS3 := hid (src_bytes (lift HL.out hbw3)); clear hgrow3 hown3 hat3))
    refine (HPB.out _ hbw3).mono ?_
    rintro r w4 ⟨v4, rfl, hr4, hb4⟩
    obtain ⟨a4, c4, hv4, hr4', _⟩ := sl_form hr4
    simp only [List.cons.injEq, and_true] at hv4
    subst hv4
    have HR4 := hid (rBytes.mono hr4' (S' := (· < w4.heap.size)) fun q hq => hq.2)
    clear hr4 hr4'
    go_wp2_with fail
    refine (HB.out _ a4 c4 HR4.out).mono ?_
    rintro r w5 ⟨v5, rfl, ho5, hb5⟩
    obtain ⟨a5, c5, rfl⟩ := own_form ho5
    have hs4 := hb4.size
    have hs5 := hb5.size
    have hb35 := below_then hb5 hb4
    have hbw5 := below_then hb35 hbw3
    have HS5 := hid (src_bytes (own_bytes rfl ho5))
    have HO5 := hid (own_below HO3.out hb35)
    have HONE5 := hid (byteCells_one G)
    clear ho5
    go_wp2_with (at_builtin; go_loud (refine wpList_append_src rfl _ _ _ rfl w.heap.size 5 i0 (.int .u8 0) 1 1 Try.underlying22 hi hz0 hz1 hz2 rfl (by decide) (.slice a3 (V.length + 1) c3) (V.length + 1) (byteCells V ++ [.int .u8 1]) rfl HO5.out a5 G.length c5 (byteCells G) rfl HS5.out HONE5.out (by simp only [maxLen]; omega) (by omega) (by omega) ?_; intro v' w6 hown6 hgrow6 hat6; have HG6 := hid hgrow6; have HO6 := hid hown6; clear hgrow6 hown6 hat6))
    have ho := HO6.out
    rw [show [Value.int .u8 1] = byteCells [1] from rfl, byteCells_app, byteCells_app, List.append_assoc, show [(1 : UInt8)] ++ G = 1 :: G from rfl, ← HK.out] at ho
    have hln : V.length + 1 + G.length = K.length := by rw [HK.out]; simp; omega
    have hV6 := own_bytes2 hln ho
    have hbF : Below w.heap.size w w6 := Below.grown hbw5 HG6.out (by omega) (fun g e => (HO5.out.lt g e).1)
    have HV6 := hid hV6
    clear ho hln hV6
    go_ret
    exact ⟨_, rfl, HV6.out, hbF⟩
end Go.Proofs.Ytgcdbnbdbjaijaa
