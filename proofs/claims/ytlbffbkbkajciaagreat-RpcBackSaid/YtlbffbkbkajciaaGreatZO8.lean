/- Mini: Needed by rpcOnce_walk, part 8: texts put together by shake.py; no condition. -/
import Derived.Deep.Cut
import Derived.Deep.CutRange
import Derived.BigRegion
import Derived.Test.YtlbffbkbkajciaaGreatZO7
import Derived.Test.YtlbffbkbkajciaaGreatZO2
import Derived.Test.YtlbffbkbkajciaaGreatZO6
import Derived.Laws.Bits64
import Derived.Test.YtlbffbkbkajciaaGreatZO3
import Derived.Scope
import Derived.Test.YtlbffbkbkajciaaGreatZO1
set_option linter.unusedVariables false
set_option linter.unusedSimpArgs false
set_option maxRecDepth 100000
set_option maxHeartbeats 6400000
namespace Go.Bs
theorem zBn{p:Prop}(h:p:=by simp [Bd]):p:=h
theorem zAz{p:Prop}(h:p:=by rw [hP, Ac (⟨h1, h2⟩ : 1 ≤ l.length ∧ l.length ≤ 64)]; simp):p:=h
theorem zAt{p:Prop}(h:p:=by rw [hP, Ab (fun h => h1 h.1 : ¬ (1 ≤ l.length ∧ l.length ≤ 64))]; rfl):p:=h
theorem zAs{p:Prop}(h:p:=by rw [hP, Ab (fun h => h2 h.2 : ¬ (1 ≤ l.length ∧ l.length ≤ 64))]; rfl):p:=h
theorem Z9{p:Prop}(h:p:=by rw [hff.out, hfin.out]; rfl):p:=h
theorem Z8{p:Prop}(h:p:=by simp [results, Tryz.results236, go_sem, n0, n1, n2, ln]):p:=h
theorem Z4{p:Prop}(h:p:=by have := hb.1; omega):p:=h
theorem ZS{p:Prop}(h:p:=by unfold Bb; dsimp only; rw [hG]):p:=h
theorem ZQ{p:Prop}(h:p:=by simp [results, Tryz.results196, go_sem, n0, n1, ln]):p:=h
theorem ZN{p:Prop}(h:p:=by unfold Bb; dsimp only; rw [Ab hG]; rfl):p:=h
end Go.Bs
namespace Go.Proofs.YtlbffbkbkajciaaGreat
open Go.RowKit Go.Bs Go.Maps
theorem AY.S8 {w w' : World} {α : Type} {lo : Nat} {A : Rp α} {e : TypeId} {sz : Nat} {v : Value} {xs : List α} {F : Nat → Prop} (h : AY lo A lo e sz w v xs) (hb : Tch F w w') (hF : ∀ b, lo ≤ b → b < w.heap.size → ¬ F b) : AY lo A lo e sz w' v xs := by
 have hk : ∀ b, lo ≤ b → b < w.heap.size → w'.heap[b]? = w.heap[b]? := fun b h1 h2 => hb.block b h2 (hF b h1 h2)
 obtain ⟨cells, ho, hlen, hsz, hA⟩ := h
 refine ⟨cells, ⟨ho.1, ?_⟩, hlen, hsz, fun i cs x hi hx => A.mono (A.keep (hA i cs x hi hx) fun b h => hk b h.1 h.2.1) fun b h => ⟨h.1, Ah h.2.1 hb.size, h.2.2⟩⟩
 rcases ho.2 with h0 | ⟨g', cap, cur, h1, h2, h3, h4⟩
 ·exact .inl h0
 ·exact .inr ⟨g', cap, cur, h1, h2, (hk _ h2 (Blk.lt h3)).trans h3, h4⟩
theorem Hj {w : World} {g : Nat} {t : TypeId} {v0 v1 v2 : Value} (h : Blk w g t #[v0, v1, v2]) : w.cell? ⟨g, 0, none⟩ = some v0 ∧ w.cell? ⟨g, 1, none⟩ = some v1 ∧ w.cell? ⟨g, 2, none⟩ = some v2 ∧ w.frozen? ⟨g, 0, none⟩ = false ∧ w.frozen? ⟨g, 1, none⟩ = false ∧ w.frozen? ⟨g, 2, none⟩ = false ∧ g < w.heap.size :=
 ⟨h.cell 0, h.cell 1, h.cell 2, h.free 0, h.free 1, h.free 2, h.lt⟩
theorem Ts {w : World} {g : Nat} {t : TypeId} {cs : Array Value} (h : Blk w g t cs) (i : Nat) : w.frozen? ⟨g, i, none⟩ = false := h.free i
theorem FU (w : World) (p : Addr) (u : Value) : (w.setCell p u).heap.size = w.heap.size := zAb
theorem MT (w : World) {g : Nat} {B : List UInt8} {a : Option Addr} {s : Rs} (h : AK w g B a s) (hB : B.length ≤ 1000000000) (lo : Int) (hlo : 0 ≤ lo ∧ lo ≤ 18446744073709551615) :
  Calls Tryz.prog 236 #[.pointer (some ⟨g, 0, none⟩), .int .u64 lo] w fun r w' => ∃ v, r = .returned (.agg #[.int .u64 (s.Bi B lo).2.lo, .int .u64 (s.Bi B lo).2.hi, v]) ∧ Dw.r (Dq w w') w' [v] (s.Bi B lo).2.sets ∧ Av w g B a (s.Bi B lo).1 w' := by
 have hlt := h.blk.lt
 have HIN := hid (Cy.refl h)
 obtain ⟨j0, ji, jz0, jz1, jz2⟩ := Bq SE
 have hspin := Rs.PI (B := B) (s := s) (lo := lo)
 unfold Rs.Bi Rs.span;unfold Rs.span at hspin;dsimp only at *;obtain ⟨s0, hs0⟩ : ∃ t, t = (if 4611686018427387904 < lo then s.fail 3 s.p else s) := ⟨_, rfl⟩
 rw [← hs0] at hspin ⊢
 have HS0 := hid hs0
 clear hs0;have HAT := hid (fun (W : World) (hW : AK W g B a s) => BI W hW)
 have hsp9 := h.ok.le
 have HVR := hid (fun (W : World) (hW : AK W g B a s0) => Cj W hW zD)
 have hnn := Rs.CL (B := B) (s := s0)
 generalize s0.num B = D at *
 obtain ⟨s1, n⟩ := D
 dsimp only at *;obtain ⟨s2, hs2⟩ : ∃ t, t = (if 4611686018427387904 - min lo 4611686018427387904 ≤ (n : Int) then s1.fail 3 s.p else s1) := ⟨_, rfl⟩
 rw [← hs2] at hspin ⊢
 have HS2 := hid hs2
 clear hs2;have HMN := hid (fun (W : World) (hW : AK W g B a s2) => Jl W hW hB 8 zD)
 have hmk := Rs.Ku (B := B) (s := s2) (m := 8)
 have hml : (s2.many B 8).2 ≤ 8 := Rs.Gj (m := 8)
 generalize s2.many B 8 = M at *
 obtain ⟨s3, k⟩ := M
 dsimp only at *;have hsk := Rs.Ol (B := B) (s := s3) k (out := [])
 obtain ⟨U, hU⟩ : ∃ t, t = Rs.Du B k s3 [] := ⟨_, rfl⟩
 rw [← hU] at hsk ⊢
 have HU := hid hU
 have HYY : Hid (U.1.k = 0 → lo ≤ 4611686018427387904 ∧ lo + n + 1 ≤ 4611686018427387904) := hid (fun e => hspin (hmk (hsk e)))
 generalize hRS : (if U.1.k = 0 then (U.1, (⟨lo, lo + n + 1, U.2⟩ : Bk)) else (U.1, FX)) = RES
 have HRZ := hid hRS
 clear h hspin hmk hsk hU hRS;go_enter Tryz.func236, Tryz.ntmps236
 go_wp2_with fail;go_step3
 go_wp2_with fail;refine (HAT.out _ (HIN.out.row zA).rd).mono ?_
 rintro r w1 ⟨rfl, rfl⟩;go_upto_if 12 with (fail)
 go_cut [] from 11 to 15 (fun V => Hid (Cy w V g B a s0) ∧ Hid (Blk V w.heap.size 155 #[.int .u64 0, .int .u64 0, .slice none 0 0]))
 case first =>
  by_cases hp : 4611686018427387904 < lo
  ·have d1 : decide (4611686018427387904 < lo) = true := Ac hp
   have HE := HS0.out
   rw [Ak hp] at HE
   have HE2 := hid HE
   clear HE hp;rw [d1]
   go_wp2_with fail;refine (Bf _ (HIN.out.row zA).rd 3 (s.p : Int) zD).mono ?_
   rintro r w2 ⟨rfl, hst⟩;have HB2 := hid (Blk.tch (Blk.new w 155 #[.int .u64 0, .int .u64 0, .slice none 0 0]) hst.2 zD)
   have HI2 := hid ((HIN.out.row zA).step hst)
   clear hst;go_wp2_with fail;go_meet
   case rel => exact ⟨hid (by rw [HE2.out]; exact HI2.out), HB2⟩
  ·have d1 : decide (4611686018427387904 < lo) = false := Ab hp
   have HE := HS0.out
   rw [An hp] at HE
   have HE2 := hid HE
   clear HE hp;rw [d1]
   go_wp2_with fail;go_meet
   case rel => exact ⟨hid (by rw [HE2.out]; exact HIN.out.row (by (repeat (first | with_reducible exact Below.refl _ _ | with_reducible assumption | (with_reducible refine Az ?_ _) | (with_reducible refine Below.setCell ?_ (by first | omega | (simp; done) | (simp; omega)) _) | (with_reducible refine Below.drew ?_) | (with_reducible refine below_drewN ?_ _) | (refine Af (by with_reducible assumption) ?_))))), hid (Blk.new w _ _)⟩
 case rest =>
  obtain ⟨hI1, hR1⟩ := hcut
  obtain ⟨w1, hwn⟩ : ∃ W : World, W = wc := ⟨_, rfl⟩
  subst hwn;have hz1 : w.heap.size < w1.heap.size := hR1.out.lt
  go_wp2_with fail;refine (HVR.out _ (hI1.out.row ((by (repeat (first | with_reducible exact Below.refl _ _ | with_reducible assumption | (with_reducible refine Az ?_ _) | (with_reducible refine Below.setCell ?_ zE _) | (with_reducible refine Below.drew ?_) | (with_reducible refine below_drewN ?_ _) | (refine Af zJ ?_))) : Below w1.heap.size w1 _).mono zD)).rd).mono ?_
  rintro r w2 ⟨rfl, hst⟩;have hS2 : Hid (Blk w2 w1.heap.size 155 #[.int .u64 lo, .int .u64 0, .slice none 0 0]) := hid (Blk.tch (Blk.new w1 _ _) hst.2 zD)
  have hR2 := hid (Blk.tch (hR1.out.alloc _) hst.2 zD)
  have hI2 := hid ((hI1.out.row ((by (repeat (first | with_reducible exact Below.refl _ _ | with_reducible assumption | (with_reducible refine Az ?_ _) | (with_reducible refine Below.setCell ?_ zE _) | (with_reducible refine Below.drew ?_) | (with_reducible refine below_drewN ?_ _) | (refine Af zJ ?_))) : Below w1.heap.size w1 _).mono zD)).step hst)
  have hz2 : w1.heap.size < w2.heap.size := hS2.out.lt
  clear hst;go_upto_region 6 with (fail)
  obtain ⟨R, hR⟩ : ∃ R, R = decide (4611686018427387904 - min lo 4611686018427387904 ≤ (n : Int)) := ⟨_, rfl⟩
  have HR := hid hR
  clear hR;go_cut [24] from 20 to 23 (fun v V => v = .bool R ∧ Hid (V = w2))
  case first =>
   by_cases hp : lo ≤ 4611686018427387904
   ·have v1 : 0 ≤ 4611686018427387904 - lo := by omega
    have v2 : 4611686018427387904 - lo ≤ 18446744073709551615 := zD
    go_wp2_with fail;go_meet
    case rel => exact ⟨IF Value.bool (by rw [HR.out]; first | exact decide_eq_decide.2 zD | exact (Ac zD).symm), hid rfl⟩
   ·have v1 : 4611686018427387904 < lo := by omega
    go_wp2_with fail;go_meet
    case rel => exact ⟨IF Value.bool (by rw [HR.out]; first | exact decide_eq_decide.2 zD | exact (Ac zD).symm), hid rfl⟩
  case rest =>
  obtain ⟨rfl, hV⟩ := hcut
  have hV' := hV.out.symm
  subst hV';go_upto_if 24 with (fail)
  go_cut [] from 25 to 27 (fun V => Hid (Cy w V g B a s2) ∧ Hid (Blk V w.heap.size 155 #[.int .u64 0, .int .u64 0, .slice none 0 0]) ∧ Hid (Blk V w1.heap.size 155 #[.int .u64 lo, .int .u64 0, .slice none 0 0]))
  case first =>
   have HE := HS2.out
   have hR := HR.out
   cases R
   ·rw [An (of_decide_eq_false hR.symm)] at HE
    have HE2 := hid HE
    clear HE hR;go_wp2_with fail;go_meet
    case rel => exact ⟨hid (by rw [HE2.out]; exact hI2.out), hR2, hS2⟩
   ·rw [Ak (B6 hR.symm)] at HE
    have HE2 := hid HE
    clear HE hR;go_wp2_with fail;refine (Bf _ hI2.out.rd 3 (s.p : Int) zD).mono ?_
    rintro r w3 ⟨rfl, hst⟩;have hI3 := hid (hI2.out.step hst)
    have hR3 := hid (Blk.tch hR2.out hst.2 zD)
    have hS3 := hid (Blk.tch hS2.out hst.2 zD)
    clear hst;go_wp2_with fail;go_meet
    case rel => exact ⟨hid (by rw [HE2.out]; exact hI3.out), hR3, hS3⟩
  case rest =>
   obtain ⟨hI3, hR3, hS3⟩ := hcut
   obtain ⟨w3, hwn⟩ : ∃ W : World, W = wc := ⟨_, rfl⟩
   subst hwn;obtain ⟨x0, x1, x2, f0, f1, f2, l3⟩ := Hj hS3.out
   have hg3 : g ≠ w1.heap.size := zD
   go_upto_region 8 with (fail)
   go_cut [] from 28 to 32 (fun V => ∃ y : Int, Hid (U.1.k = 0 → y = lo + n + 1) ∧ Hid (Cy w V g B a s2) ∧ Hid (Blk V w.heap.size 155 #[.int .u64 0, .int .u64 0, .slice none 0 0]) ∧ Hid (Blk V w1.heap.size 155 #[.int .u64 lo, .int .u64 y, .slice none 0 0]))
   case first =>
    go_wp2_with fail;go_meet
    case rel =>
     refine ⟨_, hid (fun e => ?_), hid (hI3.out.row zA), hid (Blk.far hR3.out zM _), hid (hS3.out.set 1 _)⟩
     have := HYY.out e
     rw [IntKind.wrap_u64, IntKind.wrap_u64]
     omega
   case rest =>
    obtain ⟨y, HY, hI4, hR4, hS4⟩ := hcut
    obtain ⟨w4, hwn⟩ : ∃ W : World, W = wc := ⟨_, rfl⟩
    subst hwn;clear x0 x1 x2 f0 f1 f2 l3;go_wp2_with fail;refine (HMN.out _ hI4.out.rd).mono ?_
    rintro r w5 ⟨rfl, hst⟩;have hS5 := hid (Blk.tch hS4.out hst.2 zD)
    have hR5 := hid (Blk.tch hR4.out hst.2 zD)
    have hI5 := hid (hI4.out.step hst)
    have hz5 : w1.heap.size < w5.heap.size := hS5.out.lt
    clear hst;go_wp2_with fail;go_step3
    go_wp2_with fail;go_loopw [36] (fun i wr => ∃ (j : Nat) (J : List (List Int)) (st : Rs) (av : Option Addr) (cv : Nat), j ≤ k ∧ i = .int .i64 j ∧ Hid (J.length = j) ∧ Hid (AY w5.heap.size AQ w5.heap.size 23 1 wr (.slice av J.length cv) J) ∧ Hid (Cy w wr g B a st) ∧ Hid (Blk wr w.heap.size 155 #[.int .u64 0, .int .u64 0, .slice none 0 0]) ∧ Hid (Blk wr w1.heap.size 155 #[.int .u64 lo, .int .u64 y, .slice av J.length cv]) ∧ Hid (U = Rs.Du B (k - j) st J) ∧ w5.heap.size ≤ wr.heap.size) (fun i _ => k - (intOf i).toNat)
    case atStart => exact ⟨0, [], s3, none, 0, Aj _, rfl, hid rfl, hid AY.nil, hI5, hR5, hS5, HU, Al _⟩
    case round =>
     obtain ⟨j, J, st, av, cv, hj, rfl, HJ, HO, hIr, hRr, hSr, HSP, hzr⟩ := hrel
     obtain ⟨x0, x1, x2, f0, f1, f2, l8⟩ := Hj hSr.out
     have lr := hRr.out.lt
     rcases Bo j k with hlt2 | hge
     ·have i1 : (j : Int) < (k : Int) := by omega
      have d1 : decide ((j : Int) < (k : Int)) = true := Ac i1
      have hJ9 : J.length ≤ 8 := by have := HJ.out; omega
      have hstep : U = (if (st.DX B J).1.k = 0 then Rs.Du B (k - (j + 1)) (st.DX B J).1 (J ++ [(st.DX B J).2]) else ((st.DX B J).1, [])) := by
       rw [HSP.out, show k - j = (k - (j + 1)) + 1 by omega]; rfl
      have HRS := hid (Kd wr.drew (hIr.out.rd.later (show Below wr.heap.size wr wr.drew from (Below.refl _ _).drew)) hB J av J.length cv (Dw.mono (AY.slice (Al _) (AY.below HO.out (show Below wr.heap.size wr wr.drew from (Below.refl _ _).drew))) fun b hb => ⟨hb.2, Z4⟩))
      generalize st.DX B J = T at *
      obtain ⟨s5, L⟩ := T
      dsimp only at *;have HST := hid hstep
      have HOB : Hid (∀ q, (Value.slice av J.length cv).ownBlock = some q → w5.heap.size ≤ q ∧ q < wr.heap.size) := hid (by
       obtain ⟨cells0, OA0⟩ := HO.out
       exact fun q e => DG OA0.1 q e)
      clear hstep;go_wp2_with fail;refine DF (fun w' => w'.cell? ⟨w1.heap.size, 2, none⟩ = some (.slice av J.length cv)) _ zH rfl zH x2 (fun hHeld => ?_)
      simp only [BX, Ge]
      refine At (i := 0) (oi := _) (v := ?_) rfl zF zF zF (fun _ _ _ h => h) (Or.inl ⟨zX, ?_⟩) zN ?_
      rotate_left
      ·(intro w hSw; (try dsimp only at hSw); go_simp <;> with_reducible rfl)
      (try simp only [Act.put, Aa, Ad, Ae])
      refine At (i := 1) (oi := _) (v := ?_) rfl zF zF zF (fun _ _ _ h => h) (Or.inl ⟨zX, ?_⟩) zN ?_
      rotate_left
      ·(intro w hSw; (try dsimp only at hSw); go_simp <;> with_reducible rfl)
      (try simp only [Act.put, Aa, Ad, Ae])
      refine At (i := 2) (oi := _) (v := ?_) rfl zF zF zF (fun _ _ _ h => h) (Or.inl ⟨zX, ?_⟩) zN ?_
      rotate_left
      ·(intro w hSw; (try dsimp only at hSw); go_simp <;> with_reducible rfl)
      (try simp only [Act.put, Aa, Ad, Ae])
      refine At (i := 3) (oi := _) (v := ?_) rfl zF zF zF (fun _ _ _ h => h) (Or.inl ⟨zX, ?_⟩) zN ?_
      rotate_left
      ·(intro w hSw; (try dsimp only at hSw); go_simp <;> with_reducible rfl)
      (try simp only [Act.put, Aa, Ad, Ae])
      refine At (i := 4) (oi := _) (v := ?_) rfl zF zF zF (fun _ _ _ h => h) (Or.inl ⟨zX, ?_⟩) zN ?_
      rotate_left
      ·(intro w hSw; (try dsimp only at hSw); go_simp <;> with_reducible rfl)
      (try simp only [Act.put, Aa, Ad, Ae])
      refine A4 (rs := [5]) zF zO ?_
      refine AR (o := _) rfl (fun K hK => ?_) AllReadyH.nil
      (go_simp; go_at_call 257; refine HRS.out.mono ?_; rintro e1 w7 ⟨v7, rfl, hv7, hst7⟩; obtain ⟨a7, c7, hfv, _, _⟩ := AE hv7; simp only [Ap, AD] at hfv; subst hfv; have hst8 : Av wr g B a s5 w7 := ⟨hst7.1, (Tch.refl (· = g) wr).drew.trans hst7.2 fun _ _ e => e⟩; have HV7 := hid hv7; have HI7 := hid (hIr.out.step hst8); have HR7 := hid (Blk.tch hRr.out hst8.2 zD); have HS7 := hid (Blk.tch hSr.out hst8.2 zD); have HO7 := hid (AY.S8 HO.out hst8.2 (fun b h1 h2 e => zD)); have z7 := hst8.2.size; have m1 : w7.cell? ⟨w1.heap.size, 2, none⟩ = some (.slice av J.length cv) := HS7.out.cell 2; have l7 : w1.heap.size < w7.heap.size := zD; clear hst7 hst8 hv7; (try dsimp only))
      refine hK.out _ _ ?_ (fun hHeld => ?_)
      ·((try dsimp only); first | assumption | (go_keep; done))
      clear hK K
      (try simp only [Act.put, Aa, Ad, Ae])
      refine A4 (rs := [6]) zF zO ?_
      refine AR (o := _) rfl (fun K hK => ?_) AllReadyH.nil
      go_simp
      refine hK.out _ _ ?_ (fun hHeld => ?_)
      ·((try dsimp only); first | assumption | (go_keep; done))
      clear hK K
      (try simp only [Act.put, Aa, Ad, Ae])
      have hb78 : Below w7.heap.size w7 (w7.alloc (.cells #[.slice a7 L.length c7] 23)) := zA
      obtain ⟨cells, OA⟩ := AY.below HO7.out hb78
      have hx : AQ.r (fun b => w5.heap.size ≤ b ∧ b < (w7.alloc (.cells #[.slice a7 L.length c7] 23)).heap.size ∧ (Value.slice av J.length cv).ownBlock ≠ some b) (w7.alloc (.cells #[.slice a7 L.length c7] 23)) [.slice a7 L.length c7] L := by
       refine AQ.mono (AQ.keep HV7.out fun b hb => hb78.block b hb.2) fun b hb => ⟨?_, ?_, fun e => ?_⟩
       ·have h1 : wr.heap.size ≤ b := hb.1; omega
       ·have := hb.2; simp; omega
       ·have h1 : wr.heap.size ≤ b := hb.1
        have := (HOB.out b e).2
        omega
      have HX := hid hx
      have HA := hid OA
      have HS9 : Hid (w5.heap.size ≤ (w7.alloc (.cells #[.slice a7 L.length c7] 23)).heap.size) := hid zL
      clear hx OA;refine A4 (rs := [7]) zF zO ?_
      refine AR (o := _) rfl (fun K hK => ?_) AllReadyH.nil
      (refine Di zX _ _ _ zX w5.heap.size 23 j0 (.slice none 0 0) 1 24 Tryz.underlying153 ji jz0 jz1 jz2 rfl zP (.slice av J.length cv) J.length _ zX HA.out.1 (some ⟨w7.heap.size, 0, none⟩) 1 1 [.slice a7 L.length c7] zX (B9 w7 23 _ zX zX rfl) ZD zQ zD HS9.out ?_; intro a9 c9 w9 hown9 hgrow9 hat9; have OP := hid (AY.push HA.out rfl HX.out hown9 hgrow9 hat9 hgrow9.size); have HB9 := hid (show Below w5.heap.size w7 w9 from Below.grown (hb78.mono zD) hgrow9 HS9.out (fun g e => (HOB.out g e).1)); have hz9 := hgrow9.size; simp at hz9; have HS9b := hid (HS7.out.below HB9.out zD); have m2 : w9.cell? ⟨w1.heap.size, 2, none⟩ = some (.slice av J.length cv) := HS9b.out.cell 2; have m3 := Ts HS9b.out 2; clear hown9 hgrow9 hat9; (try dsimp only))
      refine hK.out _ _ ?_ (fun hHeld => ?_)
      ·((try dsimp only); first | assumption | (go_keep; done))
      clear hK K
      (try simp only [Act.put, Aa, Ad, Ae])
      refine At (i := 8) (oi := _) (v := ?_) rfl zF zF zF (fun _ _ _ h => h) (Or.inl ⟨zX, ?_⟩) zN ?_
      rotate_left
      ·(intro w hSw; (try dsimp only at hSw); go_simp <;> with_reducible rfl)
      (try simp only [Act.put, Aa, Ad, Ae])
      refine At (i := 9) (oi := _) (v := ?_) rfl zF zF zF (fun _ _ _ h => h) (Or.inl ⟨zX, ?_⟩) zN ?_
      rotate_left
      ·(intro w hSw; (try dsimp only at hSw); go_simp <;> with_reducible rfl)
      (try simp only [Act.put, Aa, Ad, Ae])
      refine Dj zH ?_ _
      show wpList _ _ _ _ _ _
      have HIW := hid (show Cy w (w9.setCell ⟨w1.heap.size, 2, none⟩ (.slice a9 (J.length + 1) c9)) g B a s5 from (HI7.out.row (HB9.out.mono zD)).row zA)
      have HOW := hid (AY.S8 OP.out ((Tch.refl (· = w1.heap.size) w9).setCell (p := ⟨w1.heap.size, 2, none⟩) (fun _ => rfl) (.slice a9 (J.length + 1) c9)) (fun b h1 h2 e => zD))
      have HSW := hid (HS9b.out.set 2 (.slice a9 (J.length + 1) c9))
      have HRW := hid (Blk.far (HR7.out.below HB9.out zD) (p := ⟨w1.heap.size, 2, none⟩) zM (.slice a9 (J.length + 1) c9))
      by_cases hk : s5.k = 0
      ·have HE := HST.out
       rw [Ak hk] at HE
       have HSP2 := hid HE
       have HG := Ax _ HIW.out.rd
       rw [Ac hk] at HG
       have HGG := hid HG
       clear HE HG hk;go_wp2_with fail;refine HGG.out.mono ?_
       rintro r w10 ⟨rfl, hb10⟩;have hz10 := hb10.size
       rw [FU] at hz10
       have HI10 := hid (HIW.out.row (hb10.mono (by rw [FU]; omega)))
       have HR10 := hid (HRW.out.later hb10)
       have HS10 := hid (HSW.out.later hb10)
       have HO10 := hid (AY.below HOW.out hb10)
       clear hb10;go_wp2_with fail;go_roundw
       case rel => exact ⟨j + 1, J ++ [L], s5, a9, c9, zD, zW, hid (by rw [Am, HJ.out]; rfl), hid (by rw [Am]; exact HO10.out), HI10, HR10, hid (by rw [Am]; exact HS10.out), HSP2, zD⟩
       case measure => (simp [intOf]; try omega)
      ·have HE := HST.out
       rw [An hk] at HE
       have HRES : Hid (RES = (s5, FX)) := hid (by rw [← HRZ.out, HE]; exact An hk)
       have HG := hid (fun (W : World) (hW : AK W g B a s5) => (by have := Ax W hW; rw [Ab hk] at this; exact this : Calls Tryz.prog 44 #[.pointer (some ⟨g, 0, none⟩)] W fun r w' => r = .returned (.bool false) ∧ Below W.heap.size W w'))
       clear HE hk;go_wp2_with fail;refine (HG.out _ HIW.out.rd).mono ?_
       rintro r w10 ⟨rfl, hb10⟩;have hz10 := hb10.size
       rw [FU] at hz10
       have HI10 := hid (HIW.out.row (hb10.mono (by rw [FU]; omega)))
       have HR10 := hid (HRW.out.later hb10)
       clear hb10;go_wp2_with fail;refine (HG.out _ HI10.out.rd).mono ?_
       rintro r w11 ⟨rfl, hb11⟩;have HI11 := hid (HI10.out.row (hb11.mono zD))
       have HR11 := hid (HR10.out.later hb11)
       clear hb11;obtain ⟨r0, r1, r2, g0, g1, g2, lr2⟩ := Hj HR11.out
       go_wp2_with fail;obtain ⟨n0, n1, n2, _, _, _, ln⟩ := Hj (((HR11.out.set 0 (.int .u64 0)).set 1 (.int .u64 0)).set 2 (.slice none 0 0))
       simp only [Exit.noGoto]
       go_wp2_with fail;rw [HRES.out]
       refine Ai (v := .agg #[.int .u64 0, .int .u64 0, .slice none 0 0]) Z8 rfl ⟨_, rfl, A3 (xs := []) rfl (Al _) (Aj _) (.inl rfl), (HI11.out.row zA).to⟩
     ·obtain rfl : j = k := by omega
      have d1 : decide ((j : Int) < (j : Int)) = false := Ab zD
      have HE := HSP.out
      rw [Nat.sub_self] at HE
      have HE2 : U = (st, J) := HE
      clear HE;by_cases hk : st.k = 0
      ·have hy := HY.out (by rw [HE2]; exact hk)
       have HRES : Hid (RES = (st, ⟨lo, y, J⟩)) := hid (by rw [← HRZ.out, HE2, hy]; exact Ak hk)
       have HG := hid (fun (W : World) (hW : AK W g B a st) => (by have := Ax W hW; rw [Ac hk] at this; exact this : Calls Tryz.prog 44 #[.pointer (some ⟨g, 0, none⟩)] W fun r w' => r = .returned (.bool true) ∧ Below W.heap.size W w'))
       clear HE2 hk hy;go_wp2_with fail;refine (HG.out _ hIr.out.rd).mono ?_
       rintro r w11 ⟨rfl, hb11⟩;have hz11 := hb11.size
       have HI11 := hid (hIr.out.row (hb11.mono zD))
       have HS11 := hSr.out.later hb11
       have HR11 := hRr.out.later hb11
       have HO11 := hid (AY.slice (Al _) (AY.below HO.out hb11))
       clear x0 x1 x2 f0 f1 f2 l8 hb11;obtain ⟨x0, x1, x2, f0, f1, f2, l8⟩ := Hj HS11
       obtain ⟨r0, r1, r2, g0, g1, g2, lr2⟩ := Hj HR11
       go_wp2_with fail;obtain ⟨n0, n1, n2, _, _, _, ln⟩ := Hj (((HR11.set 0 (.int .u64 lo)).set 1 (.int .u64 y)).set 2 (.slice av J.length cv))
       simp only [Exit.noGoto]
       go_wp2_with fail;rw [HRES.out]
       refine Ai (v := .agg #[.int .u64 lo, .int .u64 y, .slice av J.length cv]) Z8 rfl ⟨_, rfl, ?_, (HI11.out.row zA).to⟩
       refine Dw.mono (Dw.keep HO11.out fun b hb => ?_) fun b hb => ⟨Z4, by have := hb.2; simp; omega⟩
       have := hb.1
       repeat rw [AG _ _ _ _ zM]
      ·have HRES : Hid (RES = (st, FX)) := hid (by rw [← HRZ.out, HE2]; exact An hk)
       have HG := hid (fun (W : World) (hW : AK W g B a st) => (by have := Ax W hW; rw [Ab hk] at this; exact this : Calls Tryz.prog 44 #[.pointer (some ⟨g, 0, none⟩)] W fun r w' => r = .returned (.bool false) ∧ Below W.heap.size W w'))
       clear HE2 hk;go_wp2_with fail;refine (HG.out _ hIr.out.rd).mono ?_
       rintro r w11 ⟨rfl, hb11⟩;have hz11 := hb11.size
       have HI11 := hid (hIr.out.row (hb11.mono zD))
       have HR11 := hid (hRr.out.later hb11)
       clear x0 x1 x2 f0 f1 f2 l8 hb11;obtain ⟨r0, r1, r2, g0, g1, g2, lr2⟩ := Hj HR11.out
       go_wp2_with fail;obtain ⟨n0, n1, n2, _, _, _, ln⟩ := Hj (((HR11.out.set 0 (.int .u64 0)).set 1 (.int .u64 0)).set 2 (.slice none 0 0))
       simp only [Exit.noGoto]
       go_wp2_with fail;rw [HRES.out]
       refine Ai (v := .agg #[.int .u64 0, .int .u64 0, .slice none 0 0]) Z8 rfl ⟨_, rfl, A3 (xs := []) rfl (Al _) (Aj _) (.inl rfl), (HI11.out.row zA).to⟩
structure PE (w : World) (a : Option Addr) (n c : Nat) (g6 g8 L0 : Nat) (lo y : Int) (st : Rs) (v : Value) (J : List (List Int)) (W : World) : Prop where
 d : Blk W g6 60 #[.slice a n c, .int .i64 (st.p : Int), .int .i64 st.k, .int .i64 st.f]
 s : Blk W g8 155 #[.int .u64 lo, .int .u64 y, v]
 r4 : Blk W (w.heap.size + 1) 60 #[.slice none 0 0, .int .i64 0, .int .i64 0, .int .i64 0]
 r5 : Blk W (w.heap.size + 1 + 1) 155 #[.int .u64 0, .int .u64 0, .slice none 0 0]
 own : AY L0 AQ L0 23 1 W v J
 bel : Below w.heap.size w W
 le : L0 ≤ W.heap.size
theorem PE.later {w W W' : World} {a : Option Addr} {n c g6 g8 L0 : Nat} {lo y : Int} {st : Rs} {v : Value} {J : List (List Int)} (h : PE w a n c g6 g8 L0 lo y st v J W) (hb : Below W.heap.size W W') : PE w a n c g6 g8 L0 lo y st v J W' :=
 ⟨h.d.later hb, h.s.later hb, h.r4.later hb, h.r5.later hb, AY.below h.own hb, Af hb h.bel, A5 h.le hb.size⟩
theorem Rs.MU {B : List UInt8} {s : Rs} {lo : Int} (h : (s.Bi B lo).1.k ≠ 0) : (s.Bi B lo).2 = FX := by
 unfold Rs.Bi at h ⊢;dsimp only at h ⊢;split at h
 ·rename_i h1
  exact absurd h1 h
 ·rename_i h1
  rw [An h1]
theorem Rs.RJ {B : List UInt8} {s : Rs} {lo : Int} (h0 : 0 ≤ lo) : inU (s.Bi B lo).2.lo ∧ inU (s.Bi B lo).2.hi := by
 by_cases hk : (s.Bi B lo).1.k = 0
 ·obtain ⟨h1, h2⟩ := Rs.Li hk
  simp only [Bb, As, Aw] at h1
  unfold inU;omega
 ·rw [Rs.MU hk]
  exact ⟨⟨zP, zP⟩, ⟨zP, zP⟩⟩
theorem ED {w : World} {g : Nat} {t : TypeId} {v0 v1 : Value} (h : Blk w g t #[v0, v1]) : w.cell? ⟨g, 0, none⟩ = some v0 ∧ w.cell? ⟨g, 1, none⟩ = some v1 ∧ w.frozen? ⟨g, 0, none⟩ = false ∧ w.frozen? ⟨g, 1, none⟩ = false ∧ g < w.heap.size :=
 ⟨h.cell 0, h.cell 1, h.free 0, h.free 1, h.lt⟩
theorem Rs.Kb {B : List UInt8} {s : Rs} {lo : Int} {out : List Bk} (h : s.k ≠ 0) : ∀ n, (Rs.Bt B n s lo out).1 = s
 | 0 => rfl
 | n + 1 => by
  unfold Rs.Bt;rw [Rs.FI h, An h]
theorem QQ (w : World) {g : Nat} {B : List UInt8} {a : Option Addr} {s : Rs} (h : AK w g B a s) (hB : B.length ≤ 1000000000) :
  Calls Tryz.prog 196 #[.pointer (some ⟨g, 0, none⟩)] w fun r w' => ∃ v, r = .returned (.agg #[.int .u64 (s.C3 B).2.epoch, v]) ∧ A9.r (Dq w w') w' [v] (s.C3 B).2.stripes ∧ Av w g B a (s.C3 B).1 w' := by
 have hlt := h.blk.lt
 have HIN := hid (Cy.refl h)
 obtain ⟨j0, ji, jz0, jz1, jz2⟩ := Bq Pa
 have HEP := hid (fun (W : World) (hW : AK W g B a s) => H9 W hW hB)
 unfold Rs.C3 Rs.many;clear h;generalize s.ep B = E at *
 obtain ⟨s1, e⟩ := E
 dsimp only at *;have HAT := hid (fun (W : World) (hW : AK W g B a s1) => BI W hW)
 have HVI := hid (fun (W : World) (hW : AK W g B a s1) => Dt W hW zD 64 zD)
 have hn64 := Rs.FK (B := B) (s := s1) (m := 64)
 generalize s1.int B 64 = I at *
 obtain ⟨s2, n⟩ := I
 dsimp only at *;have hn : n ≤ 64 := zD
 clear hn64;obtain ⟨s3, hs3⟩ : ∃ t, t = (if n = 0 then s2.fail 3 s1.p else s2) := ⟨_, rfl⟩
 rw [← hs3]
 have HS3 := hid hs3
 clear hs3;obtain ⟨U, hU⟩ : ∃ t, t = Rs.Bt B n s3 0 [] := ⟨_, rfl⟩
 rw [← hU]
 have HU := hid hU
 clear hU;generalize hRES : (if (if U.2.1 = 4611686018427387904 then U.1 else U.1.fail 3 U.1.p).k = 0 then ((if U.2.1 = 4611686018427387904 then U.1 else U.1.fail 3 U.1.p), (⟨(e : Int), U.2.2⟩ : Ea)) else ((if U.2.1 = 4611686018427387904 then U.1 else U.1.fail 3 U.1.p), CX)) = RES
 have HRES := hid hRES
 clear hRES;go_enter Tryz.func196, Tryz.ntmps196
 go_wp2_with fail;refine (HEP.out _ (HIN.out.row zA).rd).mono ?_
 rintro r w1 ⟨rfl, hst⟩;have hR1 := hid (Blk.tch (Blk.new w 30 #[.int .u64 0, .slice none 0 0]) hst.2 zD)
 have hI1 := hid ((HIN.out.row zA).step hst)
 have hz1 : w.heap.size < w1.heap.size := hR1.out.lt
 clear hst;go_wp2_with fail;refine (HAT.out _ (hI1.out.row ((by (repeat (first | with_reducible exact Below.refl _ _ | with_reducible assumption | (with_reducible refine Az ?_ _) | (with_reducible refine Below.setCell ?_ zE _) | (with_reducible refine Below.drew ?_) | (with_reducible refine below_drewN ?_ _) | (refine Af zJ ?_))) : Below w1.heap.size w1 _).mono zD)).rd).mono ?_
 rintro r w1' ⟨rfl, rfl⟩;go_wp2_with fail;refine (HVI.out _ (hI1.out.row ((by (repeat (first | with_reducible exact Below.refl _ _ | with_reducible assumption | (with_reducible refine Az ?_ _) | (with_reducible refine Below.setCell ?_ zE _) | (with_reducible refine Below.drew ?_) | (with_reducible refine below_drewN ?_ _) | (refine Af zJ ?_))) : Below w1.heap.size w1 _).mono zD)).rd).mono ?_
 rintro r w2 ⟨rfl, hst⟩;have hP2 := hid (Blk.tch (Blk.new w1 30 #[.int .u64 (e : Int), .slice none 0 0]) hst.2 zD)
 have hR2 := hid (Blk.tch (hR1.out.alloc _) hst.2 zD)
 have hI2 := hid ((hI1.out.row ((by (repeat (first | with_reducible exact Below.refl _ _ | with_reducible assumption | (with_reducible refine Az ?_ _) | (with_reducible refine Below.setCell ?_ zE _) | (with_reducible refine Below.drew ?_) | (with_reducible refine below_drewN ?_ _) | (refine Af zJ ?_))) : Below w1.heap.size w1 _).mono zD)).step hst)
 have hz2 : w1.heap.size < w2.heap.size := hP2.out.lt
 clear hst;go_upto_if 16 with (fail)
 go_cut [] from 15 to 19 (fun V => Hid (Cy w V g B a s3) ∧ Hid (Blk V w.heap.size 30 #[.int .u64 0, .slice none 0 0]) ∧ Hid (Blk V w1.heap.size 30 #[.int .u64 (e : Int), .slice none 0 0]))
 case first =>
  by_cases hp : n = 0
  ·have HE := HS3.out
   rw [Ak hp] at HE
   have HE2 := hid HE
   have d1 : ((n : Int) == 0) = true := by simp [hp]
   clear HE hp;rw [d1]
   go_wp2_with fail;refine (Bf _ hI2.out.rd 3 (s1.p : Int) zD).mono ?_
   rintro r w3 ⟨rfl, hst⟩;have hI3 := hid (hI2.out.step hst)
   have hR3 := hid (Blk.tch hR2.out hst.2 zD)
   have hP3 := hid (Blk.tch hP2.out hst.2 zD)
   clear hst;go_wp2_with fail;go_meet
   case rel => exact ⟨hid (by rw [HE2.out]; exact hI3.out), hR3, hP3⟩
  ·have HE := HS3.out
   rw [An hp] at HE
   have HE2 := hid HE
   have d1 : ((n : Int) == 0) = false := by simp [hp]
   clear HE hp;rw [d1]
   go_wp2_with fail;go_meet
   case rel => exact ⟨hid (by rw [HE2.out]; exact hI2.out), hR2, hP2⟩
 case rest =>
  obtain ⟨hI3, hR3, hP3⟩ := hcut
  obtain ⟨w3, hwn⟩ : ∃ W : World, W = wc := ⟨_, rfl⟩
  subst hwn;have lP3 := hP3.out.lt
  go_wp2_with fail;go_loopw [6, 21] (fun f i wr => ∃ (j : Nat) (J : List Bk) (st : Rs) (lo : Int) (av : Option Addr) (cv : Nat), j ≤ n ∧ i = .int .i64 j ∧ f = .int .u64 lo ∧ 0 ≤ lo ∧ lo ≤ 18446744073709551615 ∧ Hid (J.length = j) ∧ Hid (AY w3.heap.size G2 w3.heap.size 155 3 wr (.slice av J.length cv) J) ∧ Hid (Cy w wr g B a st) ∧ Hid (Blk wr w.heap.size 30 #[.int .u64 0, .slice none 0 0]) ∧ Hid (Blk wr w1.heap.size 30 #[.int .u64 (e : Int), .slice av J.length cv]) ∧ Hid (st.k = 0 → U = Rs.Bt B (n - j) st lo J) ∧ Hid (st.k ≠ 0 → U.1 = st) ∧ w3.heap.size ≤ wr.heap.size) (fun _ i _ => n - (intOf i).toNat)
  case atStart => exact ⟨0, [], s3, 0, none, 0, Aj _, rfl, rfl, zD, zD, hid rfl, hid AY.nil, hI3, hR3, hP3, hid (fun _ => HU.out), hid (fun hk => by rw [HU.out]; exact Rs.Kb hk n), Al _⟩
  case round =>
   obtain ⟨j, J, st, lo, av, cv, hj, rfl, rfl, hl0, hl1, HJ, HO, hIr, hRr, hPr, HSP, HSN, hzr⟩ := hrel
   obtain ⟨x0, x1, f0, f1, l8⟩ := ED hPr.out
   have lr := hRr.out.lt
   have hJ9 : J.length ≤ 64 := by have := HJ.out; omega
   rcases Bo j n with hlt2 | hge
   ·have i1 : (j : Int) < (n : Int) := by omega
    have d1 : decide ((j : Int) < (n : Int)) = true := Ac i1
    have hsp1 : (st.Bi B lo).1.k = 0 → U = Rs.Bt B (n - (j + 1)) (st.Bi B lo).1 (st.Bi B lo).2.hi (J ++ [(st.Bi B lo).2]) := fun hk => by
     rw [HSP.out (Rs.MV hk), show n - j = (n - (j + 1)) + 1 by omega]
     exact Ak hk
    have hsn1 : (st.Bi B lo).1.k ≠ 0 → U.1 = (st.Bi B lo).1 := fun hk => by
     by_cases hs : st.k = 0
     ·rw [HSP.out hs, show n - j = (n - (j + 1)) + 1 by omega]
      exact IF Prod.fst (An hk)
     ·rw [Rs.FI hs]
      exact HSN.out hs
    have hbu := Rs.RJ (B := B) (s := st) hl0
    have HSR := hid (MT wr hIr.out.rd hB lo ⟨hl0, hl1⟩)
    generalize st.Bi B lo = T at *
    obtain ⟨s5, z⟩ := T
    dsimp only at *;have HS1 := hid hsp1
    have HS2 := hid hsn1
    have HOB : Hid (∀ q, (Value.slice av J.length cv).ownBlock = some q → w3.heap.size ≤ q ∧ q < wr.heap.size) := hid (by
     obtain ⟨cells0, OA0⟩ := HO.out
     exact fun q e => DG OA0.1 q e)
    clear hsp1 hsn1;go_wp2_with fail;refine HSR.out.mono ?_
    rintro r w5 ⟨v5, rfl, hv5, hst⟩;obtain ⟨a5, c5, hfv, hv5', _⟩ := AE hv5
    simp only [Ap, AD] at hfv
    subst hfv;have hI5 := hid (hIr.out.step hst)
    have hR5 := hid (Blk.tch hRr.out hst.2 zD)
    have hP5 := hid (Blk.tch hPr.out hst.2 zD)
    have hO5 := hid (AY.S8 HO.out hst.2 (fun b h1 h2 e => zD))
    have hz5 := hst.2.size
    obtain ⟨y0, y1, g0, g1, l5⟩ := ED hP5.out
    have hb68 : Below w5.heap.size w5 ((w5.alloc (.cells #[.int .u64 z.lo, .int .u64 z.hi, .slice a5 z.sets.length c5] 155)).alloc (.cells #[.int .u64 z.lo, .int .u64 z.hi, .slice a5 z.sets.length c5] 155)) := zA
    obtain ⟨cells, OA⟩ := AY.below hO5.out hb68
    have hx : G2.r (fun b => w3.heap.size ≤ b ∧ b < ((w5.alloc (.cells #[.int .u64 z.lo, .int .u64 z.hi, .slice a5 z.sets.length c5] 155)).alloc (.cells #[.int .u64 z.lo, .int .u64 z.hi, .slice a5 z.sets.length c5] 155)).heap.size ∧ (Value.slice av J.length cv).ownBlock ≠ some b) ((w5.alloc (.cells #[.int .u64 z.lo, .int .u64 z.hi, .slice a5 z.sets.length c5] 155)).alloc (.cells #[.int .u64 z.lo, .int .u64 z.hi, .slice a5 z.sets.length c5] 155)) [.int .u64 z.lo, .int .u64 z.hi, .slice a5 z.sets.length c5] z := by
     refine Qu hbu.1 hbu.2 (Dw.mono (Dw.keep hv5 fun b hb => hb68.block b hb.2) fun b hb => ⟨?_, ?_, fun e => ?_⟩)
     ·have := hb.1; omega
     ·have := hb.2; simp; omega
     ·have := (HOB.out b e).2; have := hb.1; omega
    have HX := hid hx
    have HA := hid OA
    have HS9 : Hid (w3.heap.size ≤ ((w5.alloc (.cells #[.int .u64 z.lo, .int .u64 z.hi, .slice a5 z.sets.length c5] 155)).alloc (.cells #[.int .u64 z.lo, .int .u64 z.hi, .slice a5 z.sets.length c5] 155)).heap.size) := hid zL
    have Q6 : Blk ((w5.alloc (.cells #[.int .u64 z.lo, .int .u64 z.hi, .slice a5 z.sets.length c5] 155)).alloc (.cells #[.int .u64 z.lo, .int .u64 z.hi, .slice a5 z.sets.length c5] 155)) w5.heap.size 155 #[.int .u64 z.lo, .int .u64 z.hi, .slice a5 z.sets.length c5] := zC
    have HQ6 := hid Q6
    clear hx OA hst hv5 hv5' Q6 x0 x1 f0 f1;go_wp2_with (at_builtin; go_loud (refine AB rfl _ _ _ rfl w3.heap.size 155 j0 (.agg #[.int .u64 0, .int .u64 0, .slice none 0 0]) 3 40 Tryz.underlying28 ji jz0 jz1 jz2 rfl zP (.slice av J.length cv) J.length _ rfl HA.out.1 (some ⟨w5.heap.size + 1, 0, none⟩) 1 1 [.int .u64 z.lo, .int .u64 z.hi, .slice a5 z.sets.length c5] rfl (B9 (w5.alloc (.cells #[.int .u64 z.lo, .int .u64 z.hi, .slice a5 z.sets.length c5] 155)) 155 _ rfl zO rfl) (by intro u hu; simp at hu; rcases hu with rfl | rfl | rfl <;> rfl) zQ zD HS9.out ?_; intro v9 w9 hown9 hgrow9 hat9; obtain ⟨a9, c9, rfl⟩ := Bh hown9; have OP := hid (AY.push HA.out rfl HX.out hown9 hgrow9 hat9 hgrow9.size); have hb9 := hid (show Below w3.heap.size w5 w9 from Below.grown (hb68.mono zD) hgrow9 HS9.out (fun g e => (HOB.out g e).1)); have hz9 := hgrow9.size; simp at hz9; have hQ9 : Blk w9 w5.heap.size 155 #[.int .u64 z.lo, .int .u64 z.hi, .slice a5 z.sets.length c5] := (hgrow9.block w5.heap.size zL (fun e => by have := (HOB.out _ e.symm).2; omega)).trans HQ6.out; have hP9 := hP5.out.below hb9.out zD; obtain ⟨n0, n1, n2, n3, n4⟩ := ED hP9; obtain ⟨q0, q1, q2, _, _, _, lq⟩ := Hj (Blk.far hQ9 (p := ⟨w1.heap.size, 1, none⟩) zM (.slice a9 (J.length + 1) c9)); have HP9 := hid hP9; clear hown9 hgrow9 hat9 hQ9 hP9 y0 y1 g0 g1 l5))
    have HO9 := hid (AY.S8 OP.out ((Tch.refl (· = w1.heap.size) w9).setCell (p := ⟨w1.heap.size, 1, none⟩) (fun _ => rfl) (.slice a9 (J.length + 1) c9)) (fun b h1 h2 e => zD))
    go_roundw
    case rel => exact ⟨j + 1, J ++ [z], s5, z.hi, a9, c9, zD, zW, rfl, hbu.2.1, hbu.2.2, hid (by rw [Am, HJ.out]; rfl), hid (by rw [Am]; exact HO9.out), hid ((hI5.out.row (hb9.out.mono zD)).row zA), hid (Blk.far (hR5.out.below hb9.out zD) zM _), hid (by rw [Am]; exact HP9.out.set 1 _), HS1, HS2, by rw [FU]; omega⟩
    case measure => (simp [intOf]; try omega)
   ·obtain rfl : j = n := by omega
    have d1 : decide ((j : Int) < (j : Int)) = false := Ab zD
    by_cases hk : st.k = 0
    ·have HE := HSP.out hk
     rw [Nat.sub_self] at HE
     have HE2 : U = (st, lo, J) := HE
     clear HE;by_cases hm : lo = 4611686018427387904
     ·have HR2 : Hid (RES = (st, ⟨(e : Int), J⟩)) := hid (by
       rw [← HRES.out, HE2]
       dsimp only;rw [Ak hm]
       exact Ak hk)
      have dn : (lo != 4611686018427387904) = false := by simp [hm]
      have HG := hid (fun (W : World) (hW : AK W g B a st) => (by have := Ax W hW; rw [Ac hk] at this; exact this : Calls Tryz.prog 44 #[.pointer (some ⟨g, 0, none⟩)] W fun r w' => r = .returned (.bool true) ∧ Below W.heap.size W w'))
      clear hm hk HE2;go_wp2_with fail;refine (HG.out _ hIr.out.rd).mono ?_
      rintro r w11 ⟨rfl, hb11⟩;have hz11 := hb11.size
      have HI11 := hid (hIr.out.row (hb11.mono zD))
      have HP11 := hPr.out.later hb11
      have HR11 := hRr.out.later hb11
      have HO11 := hid (AY.slice (Al _) (AY.below HO.out hb11))
      clear x0 x1 f0 f1 l8 hb11;obtain ⟨x0, x1, f0, f1, l8⟩ := ED HP11
      obtain ⟨r0, r1, g0, g1, lr2⟩ := ED HR11
      go_wp2_with fail;obtain ⟨n0, n1, _, _, ln⟩ := ED ((HR11.set 0 (.int .u64 (e : Int))).set 1 (.slice av J.length cv))
      rw [HR2.out]
      refine Ai (v := .agg #[.int .u64 (e : Int), .slice av J.length cv]) ZQ rfl ⟨_, rfl, ?_, (HI11.out.row zA).to⟩
      refine A9.mono (A9.keep HO11.out fun b hb => ?_) fun b hb => ⟨Z4, by have := hb.2; simp; omega⟩
      have := hb.1
      repeat rw [AG _ _ _ _ zM]
     ·have hfk : (st.fail 3 (st.p : Int)).k ≠ 0 := Rs.Be zD
      have HR2 : Hid (RES = (st.fail 3 (st.p : Int), CX)) := hid (by
       rw [← HRES.out, HE2]
       dsimp only;rw [An hm]
       exact An hfk)
      have dn : (lo != 4611686018427387904) = true := by simp [hm]
      have HFA := hid (fun (W : World) (hW : AK W g B a st) => Bf W hW 3 (st.p : Int) zD)
      have HAS := hid (fun (W : World) (hW : AK W g B a st) => BI W hW)
      have HG := hid (fun (W : World) (hW : AK W g B a (st.fail 3 (st.p : Int))) => (by have := Ax W hW; rw [Ab hfk] at this; exact this : Calls Tryz.prog 44 #[.pointer (some ⟨g, 0, none⟩)] W fun r w' => r = .returned (.bool false) ∧ Below W.heap.size W w'))
      clear hm hk hfk HE2;go_wp2_with fail;refine (HAS.out _ hIr.out.rd).mono ?_
      rintro r wr' ⟨rfl, rfl⟩;go_wp2_with fail;refine (HFA.out _ hIr.out.rd).mono ?_
      rintro r w10 ⟨rfl, hst⟩;have hI10 := hid (hIr.out.step hst)
      have hR10 := hid (Blk.tch hRr.out hst.2 zD)
      clear hst;go_wp2_with fail;refine (HG.out _ hI10.out.rd).mono ?_
      rintro r w11 ⟨rfl, hb11⟩;have HI11 := hid (hI10.out.row (hb11.mono (by have := hI10.out.tch.size; omega)))
      have HR11 := hid (hR10.out.later hb11)
      clear hb11 x0 x1 f0 f1 l8;obtain ⟨r0, r1, g0, g1, lr2⟩ := ED HR11.out
      go_wp2_with fail;obtain ⟨n0, n1, _, _, ln⟩ := ED ((HR11.out.set 0 (.int .u64 0)).set 1 (.slice none 0 0))
      rw [HR2.out]
      refine Ai (v := .agg #[.int .u64 0, .slice none 0 0]) ZQ rfl ⟨_, rfl, A3 (xs := []) rfl (Al _) (Aj _) (.inl rfl), (HI11.out.row zA).to⟩
    ·have HE := HSN.out hk
     have hfb : st.fail 3 (st.p : Int) = st := Rs.Bw hk
     have HR2 : Hid (RES = (st, CX)) := hid (by
      rw [← HRES.out, HE, hfb, ite_self]
      exact An hk)
     have HG := hid (fun (W : World) (hW : AK W g B a st) => (by have := Ax W hW; rw [Ab hk] at this; exact this : Calls Tryz.prog 44 #[.pointer (some ⟨g, 0, none⟩)] W fun r w' => r = .returned (.bool false) ∧ Below W.heap.size W w'))
     have HFB := hid hfb
     clear hk HE hfb;by_cases hm : lo = 4611686018427387904
     ·have dn : (lo != 4611686018427387904) = false := by simp [hm]
      clear hm;go_wp2_with fail;refine (HG.out _ hIr.out.rd).mono ?_
      rintro r w11 ⟨rfl, hb11⟩;have HI11 := hid (hIr.out.row (hb11.mono zD))
      have HR11 := hid (hRr.out.later hb11)
      clear hb11 x0 x1 f0 f1 l8;obtain ⟨r0, r1, g0, g1, lr2⟩ := ED HR11.out
      go_wp2_with fail;obtain ⟨n0, n1, _, _, ln⟩ := ED ((HR11.out.set 0 (.int .u64 0)).set 1 (.slice none 0 0))
      rw [HR2.out]
      refine Ai (v := .agg #[.int .u64 0, .slice none 0 0]) ZQ rfl ⟨_, rfl, A3 (xs := []) rfl (Al _) (Aj _) (.inl rfl), (HI11.out.row zA).to⟩
     ·have dn : (lo != 4611686018427387904) = true := by simp [hm]
      clear hm;have HFA := hid (fun (W : World) (hW : AK W g B a st) => (by have := Bf W hW 3 (st.p : Int) zD; rw [HFB.out] at this; exact this : Calls Tryz.prog 180 #[.pointer (some ⟨g, 0, none⟩), .int .i64 3, .int .i64 (st.p : Int)] W fun r w' => r = .returned (.tuple #[]) ∧ Av W g B a st w'))
      have HAS := hid (fun (W : World) (hW : AK W g B a st) => BI W hW)
      go_wp2_with fail;refine (HAS.out _ hIr.out.rd).mono ?_
      rintro r wr' ⟨rfl, rfl⟩;go_wp2_with fail;refine (HFA.out _ hIr.out.rd).mono ?_
      rintro r w10 ⟨rfl, hst⟩;have hI10 := hid (hIr.out.step hst)
      have hR10 := hid (Blk.tch hRr.out hst.2 zD)
      clear hst;go_wp2_with fail;refine (HG.out _ hI10.out.rd).mono ?_
      rintro r w11 ⟨rfl, hb11⟩;have HI11 := hid (hI10.out.row (hb11.mono (by have := hI10.out.tch.size; omega)))
      have HR11 := hid (hR10.out.later hb11)
      clear hb11 x0 x1 f0 f1 l8;obtain ⟨r0, r1, g0, g1, lr2⟩ := ED HR11.out
      go_wp2_with fail;obtain ⟨n0, n1, _, _, ln⟩ := ED ((HR11.out.set 0 (.int .u64 0)).set 1 (.slice none 0 0))
      rw [HR2.out]
      refine Ai (v := .agg #[.int .u64 0, .slice none 0 0]) ZQ rfl ⟨_, rfl, A3 (xs := []) rfl (Al _) (Aj _) (.inl rfl), (HI11.out.row zA).to⟩
structure S5 (w : World) (a : Option Addr) (n c : Nat) (g6 g8 L0 : Nat) (e : Int) (st : Rs) (v : Value) (J : List Bk) (W : World) : Prop where
 d : Blk W g6 60 #[.slice a n c, .int .i64 (st.p : Int), .int .i64 st.k, .int .i64 st.f]
 s : Blk W g8 30 #[.int .u64 e, v]
 r4 : Blk W (w.heap.size + 1) 60 #[.slice none 0 0, .int .i64 0, .int .i64 0, .int .i64 0]
 r5 : Blk W (w.heap.size + 1 + 1) 30 #[.int .u64 0, .slice none 0 0]
 own : AY L0 G2 L0 155 3 W v J
 bel : Below w.heap.size w W
 le : L0 ≤ W.heap.size
theorem S5.later {w W W' : World} {a : Option Addr} {n c g6 g8 L0 : Nat} {e : Int} {st : Rs} {v : Value} {J : List Bk} (h : S5 w a n c g6 g8 L0 e st v J W) (hb : Below W.heap.size W W') : S5 w a n c g6 g8 L0 e st v J W' :=
 ⟨h.d.later hb, h.s.later hb, h.r4.later hb, h.r5.later hb, AY.below h.own hb, Af hb h.bel, A5 h.le hb.size⟩
theorem Lj (L : List (List Int)) : ∀ n k, k ≤ n → Bd L n = true → Bd L k = true
 | 0, k, h, hs => by rw [show k = 0 by omega]; rfl
 | n + 1, k, h, hs => by
  by_cases hk : k = n + 1
  ·rw [hk]; exact hs
  ·simp only [Bd, As] at hs
   exact Lj L n k zD hs.1
theorem Io (lo hi : Int) (L : List (List Int)) (a : Option Addr) (n c : Nat) (w : World) (hl : Dw.r (· < w.heap.size) w [.slice a n c] L) :
  Calls Tryz.prog 161 #[.agg #[.int .u64 lo, .int .u64 hi, .slice a n c]] w fun r w' => r = .returned (.bool (Bb ⟨lo, hi, L⟩)) ∧ Below w.heap.size w w' := by
 obtain ⟨rfl, hm, hcc, hcm⟩ := AP hl
 have HL := hid hl
 clear hl;by_cases h1 : lo < hi
 ·have d1' : decide (lo < hi) = true := Ac h1
  by_cases h2 : hi ≤ 4611686018427387904
  ·have d2' : decide (hi ≤ 4611686018427387904) = true := Ac h2
   by_cases h3 : 1 ≤ L.length
   ·have d3' : decide ((1 : Int) ≤ (L.length : Int)) = true := Ac zD
    by_cases h4 : L.length ≤ 8
    ·have d4' : decide ((L.length : Int) ≤ 8) = true := Ac zD
     have hG : decide (lo < hi ∧ hi ≤ 4611686018427387904 ∧ 1 ≤ L.length ∧ L.length ≤ 8) = true := Ac ⟨h1, h2, h3, h4⟩
     go_enter Tryz.func161, Tryz.ntmps161
     have hff : Hid (Bb ⟨lo, hi, L⟩ = (true && Bd L L.length)) := hid ZS
     have x0 : (w.alloc (.cells #[.int .u64 lo, .int .u64 hi, .slice a L.length c] 155)).cell? ⟨w.heap.size, 2, none⟩ = some (.slice a L.length c) := zO
     have hb0 : Below w.heap.size w (w.alloc (.cells #[.int .u64 lo, .int .u64 hi, .slice a L.length c] 155)) := zB
     have hs0 : w.heap.size < (w.alloc (.cells #[.int .u64 lo, .int .u64 hi, .slice a L.length c] 155)).heap.size := zO
     go_wp2_with fail;refine wp_scope_straight ?_
     go_wp2_with fail;refine wp_label ?_
     go_wp2_with fail;generalize w.alloc (.cells #[.int .u64 lo, .int .u64 hi, .slice a L.length c] 155) = w0 at *
     have HB0 := hid hb0
     clear hb0;go_loopw [3, 31] (fun g i wr => ∃ k : Nat, k ≤ L.length ∧ i = .int .i64 k ∧ g = .bool (true && Bd L k) ∧ Below w0.heap.size w0 wr) (fun _ i _ => L.length - (intOf i).toNat)
     case atStart => exact ⟨0, Aj _, rfl, zBn, Below.refl _ _⟩
     case round =>
      obtain ⟨k, hk, rfl, rfl, hb⟩ := hrel
      have HB := hid hb
      have HBW := hid (HB0.out.trans (hb.mono HB0.out.size))
      have hsz := hb.size
      by_cases hlt : k < L.length
      ·have i1 : (k : Int) < (L.length : Int) := by omega
       have i2 : (k : Int) ≤ (c : Int) := zD
       have d1 : decide ((k : Int) < (L.length : Int)) = true := Ac i1
       have X0 := (hb.cell (p := ⟨w.heap.size, 2, none⟩) hs0).trans x0
       obtain ⟨b, o, hA, hbb, ak, ck, u0, xl⟩ := EZ (lift HL.out HBW.out) hlt
       subst hA;have hmono : (true && Bd L k) = false → (true && Bd L L.length) = false := fun h => by
        cases hg : true
        ·rfl
        ·rw [hg] at h
         rcases hh : Bd L L.length with _ | _
         ·rfl
         ·exfalso
          have := Lj L L.length k zD hh
          rw [this] at h; cases h
       have hstep : Bd L (k + 1) = (Bd L k && (CH L[k] && BW L[k] (L.take k))) := by
        show (Bd L k && E0 L k) = _
        unfold E0; rw [FB L k [] hlt]
       have HN := hid (DZ L[k] ak _ ck wr xl)
       have HAP := hid (fun (W : World) (hW : Below wr.heap.size wr W) => Dg L[k] (L.take k) ak _ ck (some ⟨b, o, none⟩) k c W (lift xl hW) (Ga (lift (lift HL.out HBW.out) hW) zD))
       have HMO := hid hmono
       have HST := hid hstep
       have hc0 : k ≤ c := zD
       obtain ⟨s1, hs1⟩ : ∃ s1, Bd L (k + 1) = s1 := ⟨_, rfl⟩
       have HS1 := hid hs1
       rw [hs1] at HST
       clear hs1;generalize Bd L k = s0 at *
       generalize CH L[k] = nn at *
       generalize BW L[k] (L.take k) = ap at *
       generalize L[k] = X at *
       clear hb xl hmono hstep;rcases hg : (true && s0) with _ | _
       ·have hfin := hid (HMO.out hg)
        clear hg;go_wp2_with fail
        (try simp only [Exit.noGoto])
        (try go_wp2_with fail)
        go_ret;exact ⟨Z9, HBW.out⟩
       ·have hg2 : (true && s1) = (nn && ap) := by
         rw [HST.out, ← Bool.and_assoc, hg, BJ]
        have HG2 := hid hg2
        clear hg hg2;cases nn
        ·go_wp2_with fail
         refine HN.out.mono ?_
         rintro r w3 ⟨rfl, hb3⟩;have hbe := Af hb3 HB.out
         go_wp2_with fail;go_roundw
         case rel => exact ⟨k + 1, zD, zW, by rw [HS1.out, HG2.out]; rfl, hbe⟩
         case measure => (simp [intOf]; try omega)
        ·go_wp2_with fail
         refine HN.out.mono ?_
         rintro r w3 ⟨rfl, hb3⟩;have Y0 := (hb3.cell (p := ⟨w.heap.size, 2, none⟩) zM).trans X0
         have hbe := Af hb3 HB.out
         have HA2 := hid (HAP.out w3 hb3)
         go_wp2_with fail;refine HA2.out.mono ?_
         rintro r w4 ⟨rfl, hb4⟩;have hbf := Af hb4 hbe
         go_wp2_with fail;go_roundw
         case rel => exact ⟨k + 1, zD, zW, by rw [HS1.out, HG2.out]; rfl, hbf⟩
         case measure => (simp [intOf]; try omega)
      ·obtain rfl : k = L.length := by omega
       have d1 : decide ((L.length : Int) < (L.length : Int)) = false := Ab zD
       clear hb;go_wp2_with fail
       (try simp only [Exit.noGoto])
       (try go_wp2_with fail)
       go_ret;exact ⟨by rw [hff.out]; first | done | rfl | (simp; done) | simp [Exit.noGoto], HBW.out⟩
    ·have d4' : decide ((L.length : Int) ≤ 8) = false := Ab zD
     have hG : decide (lo < hi ∧ hi ≤ 4611686018427387904 ∧ 1 ≤ L.length ∧ L.length ≤ 8) = false := Ab zD
     go_enter Tryz.func161, Tryz.ntmps161
     have hff : Hid (Bb ⟨lo, hi, L⟩ = (false && Bd L L.length)) := hid ZS
     have x0 : (w.alloc (.cells #[.int .u64 lo, .int .u64 hi, .slice a L.length c] 155)).cell? ⟨w.heap.size, 2, none⟩ = some (.slice a L.length c) := zO
     have hb0 : Below w.heap.size w (w.alloc (.cells #[.int .u64 lo, .int .u64 hi, .slice a L.length c] 155)) := zB
     have hs0 : w.heap.size < (w.alloc (.cells #[.int .u64 lo, .int .u64 hi, .slice a L.length c] 155)).heap.size := zO
     go_wp2_with fail;refine wp_scope_straight ?_
     go_wp2_with fail;refine wp_label ?_
     go_wp2_with fail;generalize w.alloc (.cells #[.int .u64 lo, .int .u64 hi, .slice a L.length c] 155) = w0 at *
     have HB0 := hid hb0
     clear hb0;go_loopw [3, 31] (fun g i wr => ∃ k : Nat, k ≤ L.length ∧ i = .int .i64 k ∧ g = .bool (false && Bd L k) ∧ Below w0.heap.size w0 wr) (fun _ i _ => L.length - (intOf i).toNat)
     case atStart => exact ⟨0, Aj _, rfl, zBn, Below.refl _ _⟩
     case round =>
      obtain ⟨k, hk, rfl, rfl, hb⟩ := hrel
      have HB := hid hb
      have HBW := hid (HB0.out.trans (hb.mono HB0.out.size))
      have hsz := hb.size
      by_cases hlt : k < L.length
      ·have i1 : (k : Int) < (L.length : Int) := by omega
       have i2 : (k : Int) ≤ (c : Int) := zD
       have d1 : decide ((k : Int) < (L.length : Int)) = true := Ac i1
       have X0 := (hb.cell (p := ⟨w.heap.size, 2, none⟩) hs0).trans x0
       obtain ⟨b, o, hA, hbb, ak, ck, u0, xl⟩ := EZ (lift HL.out HBW.out) hlt
       subst hA;have hmono : (false && Bd L k) = false → (false && Bd L L.length) = false := fun _ => rfl
       have hstep : Bd L (k + 1) = (Bd L k && (CH L[k] && BW L[k] (L.take k))) := by
        show (Bd L k && E0 L k) = _
        unfold E0; rw [FB L k [] hlt]
       have HN := hid (DZ L[k] ak _ ck wr xl)
       have HAP := hid (fun (W : World) (hW : Below wr.heap.size wr W) => Dg L[k] (L.take k) ak _ ck (some ⟨b, o, none⟩) k c W (lift xl hW) (Ga (lift (lift HL.out HBW.out) hW) zD))
       have HMO := hid hmono
       have HST := hid hstep
       have hc0 : k ≤ c := zD
       obtain ⟨s1, hs1⟩ : ∃ s1, Bd L (k + 1) = s1 := ⟨_, rfl⟩
       have HS1 := hid hs1
       rw [hs1] at HST
       clear hs1;generalize Bd L k = s0 at *
       generalize CH L[k] = nn at *
       generalize BW L[k] (L.take k) = ap at *
       generalize L[k] = X at *
       clear hb xl hmono hstep;rcases hg : (false && s0) with _ | _
       ·have hfin := hid (HMO.out hg)
        clear hg;go_wp2_with fail
        (try simp only [Exit.noGoto])
        (try go_wp2_with fail)
        go_ret;exact ⟨Z9, HBW.out⟩
       ·exfalso; simp at hg
      ·obtain rfl : k = L.length := by omega
       have d1 : decide ((L.length : Int) < (L.length : Int)) = false := Ab zD
       clear hb;go_wp2_with fail
       (try simp only [Exit.noGoto])
       (try go_wp2_with fail)
       go_ret;exact ⟨by rw [hff.out]; first | done | rfl | (simp; done) | simp [Exit.noGoto], HBW.out⟩
   ·have d3' : decide ((1 : Int) ≤ (L.length : Int)) = false := Ab zD
    have hG : decide (lo < hi ∧ hi ≤ 4611686018427387904 ∧ 1 ≤ L.length ∧ L.length ≤ 8) = false := Ab zD
    go_enter Tryz.func161, Tryz.ntmps161
    have hff : Hid (Bb ⟨lo, hi, L⟩ = (false && Bd L L.length)) := hid ZS
    have x0 : (w.alloc (.cells #[.int .u64 lo, .int .u64 hi, .slice a L.length c] 155)).cell? ⟨w.heap.size, 2, none⟩ = some (.slice a L.length c) := zO
    have hb0 : Below w.heap.size w (w.alloc (.cells #[.int .u64 lo, .int .u64 hi, .slice a L.length c] 155)) := zB
    have hs0 : w.heap.size < (w.alloc (.cells #[.int .u64 lo, .int .u64 hi, .slice a L.length c] 155)).heap.size := zO
    go_wp2_with fail;refine wp_scope_straight ?_
    go_wp2_with fail;refine wp_label ?_
    go_wp2_with fail;generalize w.alloc (.cells #[.int .u64 lo, .int .u64 hi, .slice a L.length c] 155) = w0 at *
    have HB0 := hid hb0
    clear hb0;go_loopw [3, 31] (fun g i wr => ∃ k : Nat, k ≤ L.length ∧ i = .int .i64 k ∧ g = .bool (false && Bd L k) ∧ Below w0.heap.size w0 wr) (fun _ i _ => L.length - (intOf i).toNat)
    case atStart => exact ⟨0, Aj _, rfl, zBn, Below.refl _ _⟩
    case round =>
     obtain ⟨k, hk, rfl, rfl, hb⟩ := hrel
     have HB := hid hb
     have HBW := hid (HB0.out.trans (hb.mono HB0.out.size))
     have hsz := hb.size
     by_cases hlt : k < L.length
     ·have i1 : (k : Int) < (L.length : Int) := by omega
      have i2 : (k : Int) ≤ (c : Int) := zD
      have d1 : decide ((k : Int) < (L.length : Int)) = true := Ac i1
      have X0 := (hb.cell (p := ⟨w.heap.size, 2, none⟩) hs0).trans x0
      obtain ⟨b, o, hA, hbb, ak, ck, u0, xl⟩ := EZ (lift HL.out HBW.out) hlt
      subst hA;have hmono : (false && Bd L k) = false → (false && Bd L L.length) = false := fun _ => rfl
      have hstep : Bd L (k + 1) = (Bd L k && (CH L[k] && BW L[k] (L.take k))) := by
       show (Bd L k && E0 L k) = _
       unfold E0; rw [FB L k [] hlt]
      have HN := hid (DZ L[k] ak _ ck wr xl)
      have HAP := hid (fun (W : World) (hW : Below wr.heap.size wr W) => Dg L[k] (L.take k) ak _ ck (some ⟨b, o, none⟩) k c W (lift xl hW) (Ga (lift (lift HL.out HBW.out) hW) zD))
      have HMO := hid hmono
      have HST := hid hstep
      have hc0 : k ≤ c := zD
      obtain ⟨s1, hs1⟩ : ∃ s1, Bd L (k + 1) = s1 := ⟨_, rfl⟩
      have HS1 := hid hs1
      rw [hs1] at HST
      clear hs1;generalize Bd L k = s0 at *
      generalize CH L[k] = nn at *
      generalize BW L[k] (L.take k) = ap at *
      generalize L[k] = X at *
      clear hb xl hmono hstep;rcases hg : (false && s0) with _ | _
      ·have hfin := hid (HMO.out hg)
       clear hg;go_wp2_with fail
       (try simp only [Exit.noGoto])
       (try go_wp2_with fail)
       go_ret;exact ⟨Z9, HBW.out⟩
      ·exfalso; simp at hg
     ·obtain rfl : k = L.length := by omega
      have d1 : decide ((L.length : Int) < (L.length : Int)) = false := Ab zD
      clear hb;go_wp2_with fail
      (try simp only [Exit.noGoto])
      (try go_wp2_with fail)
      go_ret;exact ⟨by rw [hff.out]; first | done | rfl | (simp; done) | simp [Exit.noGoto], HBW.out⟩
  ·have d2' : decide (hi ≤ 4611686018427387904) = false := Ab h2
   have hG : decide (lo < hi ∧ hi ≤ 4611686018427387904 ∧ 1 ≤ L.length ∧ L.length ≤ 8) = false := Ab zD
   go_enter Tryz.func161, Tryz.ntmps161
   have hff : Hid (Bb ⟨lo, hi, L⟩ = (false && Bd L L.length)) := hid ZS
   have x0 : (w.alloc (.cells #[.int .u64 lo, .int .u64 hi, .slice a L.length c] 155)).cell? ⟨w.heap.size, 2, none⟩ = some (.slice a L.length c) := zO
   have hb0 : Below w.heap.size w (w.alloc (.cells #[.int .u64 lo, .int .u64 hi, .slice a L.length c] 155)) := zB
   have hs0 : w.heap.size < (w.alloc (.cells #[.int .u64 lo, .int .u64 hi, .slice a L.length c] 155)).heap.size := zO
   go_wp2_with fail;refine wp_scope_straight ?_
   go_wp2_with fail;refine wp_label ?_
   go_wp2_with fail;generalize w.alloc (.cells #[.int .u64 lo, .int .u64 hi, .slice a L.length c] 155) = w0 at *
   have HB0 := hid hb0
   clear hb0;go_loopw [3, 31] (fun g i wr => ∃ k : Nat, k ≤ L.length ∧ i = .int .i64 k ∧ g = .bool (false && Bd L k) ∧ Below w0.heap.size w0 wr) (fun _ i _ => L.length - (intOf i).toNat)
   case atStart => exact ⟨0, Aj _, rfl, zBn, Below.refl _ _⟩
   case round =>
    obtain ⟨k, hk, rfl, rfl, hb⟩ := hrel
    have HB := hid hb
    have HBW := hid (HB0.out.trans (hb.mono HB0.out.size))
    have hsz := hb.size
    by_cases hlt : k < L.length
    ·have i1 : (k : Int) < (L.length : Int) := by omega
     have i2 : (k : Int) ≤ (c : Int) := zD
     have d1 : decide ((k : Int) < (L.length : Int)) = true := Ac i1
     have X0 := (hb.cell (p := ⟨w.heap.size, 2, none⟩) hs0).trans x0
     obtain ⟨b, o, hA, hbb, ak, ck, u0, xl⟩ := EZ (lift HL.out HBW.out) hlt
     subst hA;have hmono : (false && Bd L k) = false → (false && Bd L L.length) = false := fun _ => rfl
     have hstep : Bd L (k + 1) = (Bd L k && (CH L[k] && BW L[k] (L.take k))) := by
      show (Bd L k && E0 L k) = _
      unfold E0; rw [FB L k [] hlt]
     have HN := hid (DZ L[k] ak _ ck wr xl)
     have HAP := hid (fun (W : World) (hW : Below wr.heap.size wr W) => Dg L[k] (L.take k) ak _ ck (some ⟨b, o, none⟩) k c W (lift xl hW) (Ga (lift (lift HL.out HBW.out) hW) zD))
     have HMO := hid hmono
     have HST := hid hstep
     have hc0 : k ≤ c := zD
     obtain ⟨s1, hs1⟩ : ∃ s1, Bd L (k + 1) = s1 := ⟨_, rfl⟩
     have HS1 := hid hs1
     rw [hs1] at HST
     clear hs1;generalize Bd L k = s0 at *
     generalize CH L[k] = nn at *
     generalize BW L[k] (L.take k) = ap at *
     generalize L[k] = X at *
     clear hb xl hmono hstep;rcases hg : (false && s0) with _ | _
     ·have hfin := hid (HMO.out hg)
      clear hg;go_wp2_with fail
      (try simp only [Exit.noGoto])
      (try go_wp2_with fail)
      go_ret;exact ⟨Z9, HBW.out⟩
     ·exfalso; simp at hg
    ·obtain rfl : k = L.length := by omega
     have d1 : decide ((L.length : Int) < (L.length : Int)) = false := Ab zD
     clear hb;go_wp2_with fail
     (try simp only [Exit.noGoto])
     (try go_wp2_with fail)
     go_ret;exact ⟨by rw [hff.out]; first | done | rfl | (simp; done) | simp [Exit.noGoto], HBW.out⟩
 ·have d1' : decide (lo < hi) = false := Ab h1
  have hG : decide (lo < hi ∧ hi ≤ 4611686018427387904 ∧ 1 ≤ L.length ∧ L.length ≤ 8) = false := Ab zD
  go_enter Tryz.func161, Tryz.ntmps161
  have hff : Hid (Bb ⟨lo, hi, L⟩ = (false && Bd L L.length)) := hid ZS
  have x0 : (w.alloc (.cells #[.int .u64 lo, .int .u64 hi, .slice a L.length c] 155)).cell? ⟨w.heap.size, 2, none⟩ = some (.slice a L.length c) := zO
  have hb0 : Below w.heap.size w (w.alloc (.cells #[.int .u64 lo, .int .u64 hi, .slice a L.length c] 155)) := zB
  have hs0 : w.heap.size < (w.alloc (.cells #[.int .u64 lo, .int .u64 hi, .slice a L.length c] 155)).heap.size := zO
  go_wp2_with fail;refine wp_scope_straight ?_
  go_wp2_with fail;refine wp_label ?_
  go_wp2_with fail;generalize w.alloc (.cells #[.int .u64 lo, .int .u64 hi, .slice a L.length c] 155) = w0 at *
  have HB0 := hid hb0
  clear hb0;go_loopw [3, 31] (fun g i wr => ∃ k : Nat, k ≤ L.length ∧ i = .int .i64 k ∧ g = .bool (false && Bd L k) ∧ Below w0.heap.size w0 wr) (fun _ i _ => L.length - (intOf i).toNat)
  case atStart => exact ⟨0, Aj _, rfl, zBn, Below.refl _ _⟩
  case round =>
   obtain ⟨k, hk, rfl, rfl, hb⟩ := hrel
   have HB := hid hb
   have HBW := hid (HB0.out.trans (hb.mono HB0.out.size))
   have hsz := hb.size
   by_cases hlt : k < L.length
   ·have i1 : (k : Int) < (L.length : Int) := by omega
    have i2 : (k : Int) ≤ (c : Int) := zD
    have d1 : decide ((k : Int) < (L.length : Int)) = true := Ac i1
    have X0 := (hb.cell (p := ⟨w.heap.size, 2, none⟩) hs0).trans x0
    obtain ⟨b, o, hA, hbb, ak, ck, u0, xl⟩ := EZ (lift HL.out HBW.out) hlt
    subst hA;have hmono : (false && Bd L k) = false → (false && Bd L L.length) = false := fun _ => rfl
    have hstep : Bd L (k + 1) = (Bd L k && (CH L[k] && BW L[k] (L.take k))) := by
     show (Bd L k && E0 L k) = _
     unfold E0; rw [FB L k [] hlt]
    have HN := hid (DZ L[k] ak _ ck wr xl)
    have HAP := hid (fun (W : World) (hW : Below wr.heap.size wr W) => Dg L[k] (L.take k) ak _ ck (some ⟨b, o, none⟩) k c W (lift xl hW) (Ga (lift (lift HL.out HBW.out) hW) zD))
    have HMO := hid hmono
    have HST := hid hstep
    have hc0 : k ≤ c := zD
    obtain ⟨s1, hs1⟩ : ∃ s1, Bd L (k + 1) = s1 := ⟨_, rfl⟩
    have HS1 := hid hs1
    rw [hs1] at HST
    clear hs1;generalize Bd L k = s0 at *
    generalize CH L[k] = nn at *
    generalize BW L[k] (L.take k) = ap at *
    generalize L[k] = X at *
    clear hb xl hmono hstep;rcases hg : (false && s0) with _ | _
    ·have hfin := hid (HMO.out hg)
     clear hg;go_wp2_with fail
     (try simp only [Exit.noGoto])
     (try go_wp2_with fail)
     go_ret;exact ⟨Z9, HBW.out⟩
    ·exfalso; simp at hg
   ·obtain rfl : k = L.length := by omega
    have d1 : decide ((L.length : Int) < (L.length : Int)) = false := Ab zD
    clear hb;go_wp2_with fail
    (try simp only [Exit.noGoto])
    (try go_wp2_with fail)
    go_ret;exact ⟨by rw [hff.out]; first | done | rfl | (simp; done) | simp [Exit.noGoto], HBW.out⟩
theorem M9 (lo hi : Int) (L : List (List Int)) (a : Option Addr) (n c : Nat) (w : World) (hl : Dw.r (· < w.heap.size) w [.slice a n c] L) :
  Calls Tryz.prog 164 #[.agg #[.int .u64 lo, .int .u64 hi, .slice a n c]] w fun r w' => r = .returned (.bool (Bb ⟨lo, hi, L⟩)) ∧ Below w.heap.size w w' := by
 obtain ⟨rfl, hm, hcc, hcm⟩ := AP hl
 have HL := hid hl
 clear hl;by_cases hG : lo < hi ∧ hi ≤ 4611686018427387904 ∧ 1 ≤ L.length ∧ L.length ≤ 8
 ·obtain ⟨g1, g2, g3, g4⟩ := hG
  have hS : Bb ⟨lo, hi, L⟩ = Bd L L.length := by unfold Bb; dsimp only; rw [Ac (⟨g1, g2, g3, g4⟩ : lo < hi ∧ hi ≤ 4611686018427387904 ∧ 1 ≤ L.length ∧ L.length ≤ 8), BJ]
  have HBAD := hid (fun (k : Nat) (h : k < L.length) (hb : E0 L k = false) => (show Bb ⟨lo, hi, L⟩ = false by
   rw [hS]
   rcases hh : Bd L L.length with _ | _
   ·rfl
   ·have := Kh L L.length k hh h
    rw [hb] at this; cases this))
  have HS := hid hS
  have d1 : decide (hi ≤ lo) = false := Ab zD
  have d2 : decide ((4611686018427387904 : Int) < hi) = false := Ab zD
  have d3 : decide ((L.length : Int) < 1) = false := Ab zD
  have d4 : decide ((8 : Int) < (L.length : Int)) = false := Ab zD
  have x0 : (w.alloc (.cells #[.int .u64 lo, .int .u64 hi, .slice a L.length c] 155)).cell? ⟨w.heap.size, 2, none⟩ = some (.slice a L.length c) := zO
  have hb0 : Below w.heap.size w (w.alloc (.cells #[.int .u64 lo, .int .u64 hi, .slice a L.length c] 155)) := zB
  have hs0 : w.heap.size < (w.alloc (.cells #[.int .u64 lo, .int .u64 hi, .slice a L.length c] 155)).heap.size := zO
  clear hS;go_enter Tryz.func164, Tryz.ntmps164
  go_wp2_with fail;generalize (w.alloc (.cells #[.int .u64 lo, .int .u64 hi, .slice a L.length c] 155)) = w0 at *
  have HB0 := hid hb0
  clear hb0;go_loopw [3] (fun i wr => ∃ k : Nat, k ≤ L.length ∧ i = .int .i64 k ∧ Hid (Bd L k = true) ∧ Below w0.heap.size w0 wr) (fun i _ => L.length - (intOf i).toNat)
  case atStart => exact ⟨0, Aj _, rfl, hid rfl, Below.refl _ _⟩
  case round =>
   obtain ⟨k, hk, rfl, hf, hb⟩ := hrel
   have HB := hid hb
   have HBW := hid (HB0.out.trans (hb.mono HB0.out.size))
   have hsz := hb.size
   have X0 := (hb.cell (p := ⟨w.heap.size, 2, none⟩) hs0).trans x0
   by_cases hlt : k < L.length
   ·have i1 : (k : Int) < (L.length : Int) := by omega
    have e0 : decide ((k : Int) < (L.length : Int)) = true := Ac i1
    obtain ⟨b, o, hA, hbb, ak, ck, u0, xl⟩ := EZ (lift HL.out HBW.out) hlt
    subst hA;obtain ⟨X, hX⟩ : ∃ X, L[k] = X := ⟨_, rfl⟩
    have hset : E0 L k = (CH X && BW X (L.take k)) := by unfold E0; rw [FB L k [] hlt, hX]
    rw [hX] at u0 xl
    clear hX;have hbd := HBAD.out k hlt
    have hgd : E0 L k = true → Bd L (k + 1) = true := fun h => by show (Bd L k && E0 L k) = true; rw [hf.out, h]; rfl
    have hnr : CH X = (decide (1 ≤ X.length ∧ X.length ≤ 8) && (A1 X && decide (X.getLastD 0 ≤ 4294967295))) := rfl
    have HR := hid (Jr X ak _ ck wr xl)
    have HT := hid (fun (W : World) (hW : Below wr.heap.size wr W) => M8 L k X (some ⟨b, o, none⟩) _ c ak _ ck W (lift (lift HL.out HBW.out) hW) (lift xl hW) zD)
    have hla := IA X
    have hu := fun (h : 1 ≤ X.length) => Cn xl (i := X.length - 1) zD
    clear hb xl;generalize BW X (L.take k) = ap at *
    by_cases hx1 : 1 ≤ X.length
    ·have e1 : decide ((X.length : Int) < 1) = false := Ab zD
     by_cases hx2 : X.length ≤ 8
     ·have e2 : decide ((8 : Int) < (X.length : Int)) = false := Ab zD
      rw [Ac (⟨hx1, hx2⟩ : 1 ≤ X.length ∧ X.length ≤ 8), BJ, hla hx1] at hnr
      obtain ⟨b2, o2, hA2, hbb2, y0, hy0, hy1⟩ := hu hx1
      subst hA2;rw [hnr] at hset
      clear hu hla hnr;obtain ⟨m, hm'⟩ : ∃ m, X.length = m + 1 := ⟨X.length - 1, zD⟩
      simp only [hm', ET] at hset y0 hy0 hy1 HR HT u0 e1 e2
      have q1 : (0 : Int) ≤ (m : Int) + 1 - 1 := zD
      have hmm : m ≤ 7 := zD
      generalize X[m]'zD = y at *
      generalize A1 X = R at *
      clear hx1 hx2 hm';cases R
      ·have hff : Hid (Bb ⟨lo, hi, L⟩ = false) := hid (hbd (by rw [hset]; rfl))
       clear hset hbd hgd;go_wp2_with fail;refine HR.out.mono ?_
       rintro r w3 ⟨rfl, hb3⟩;have hbe := Af hb3 HBW.out
       go_wp2_with fail;go_ret;exact ⟨zI, hbe⟩
      ·by_cases hy : 4294967296 ≤ y
       ·have e3 : decide ((4294967296 : Int) ≤ y) = true := Ac hy
        have hff : Hid (Bb ⟨lo, hi, L⟩ = false) := hid (hbd (by rw [hset, Ab (by omega : ¬ y ≤ 4294967295)]; rfl))
        clear hset hbd hgd hy;go_wp2_with fail;refine HR.out.mono ?_
        rintro r w3 ⟨rfl, hb3⟩;have Y0 := (hb3.cell (p := ⟨b2, o2 + m, none⟩) hbb2).trans y0
        have hbe := Af hb3 HBW.out
        go_wp2_with fail;go_ret;exact ⟨zI, hbe⟩
       ·have e3 : decide ((4294967296 : Int) ≤ y) = false := Ab hy
        rw [Ac (by omega : y ≤ 4294967295)] at hset
        have HSE := hid hset
        have HBD := hid hbd
        have HGD := hid hgd
        clear hset hbd hgd hy;go_wp2_with fail;refine HR.out.mono ?_
        rintro r w3 ⟨rfl, hb3⟩;have Y0 := (hb3.cell (p := ⟨b2, o2 + m, none⟩) hbb2).trans y0
        have Z0 := (hb3.cell (p := ⟨w.heap.size, 2, none⟩) zM).trans X0
        have hbe := Af hb3 HBW.out
        have hbe2 := Af hb3 HB.out
        have HTT := hid (HT.out w3 hb3)
        clear X0 y0;cases ap
        ·have hff : Hid (Bb ⟨lo, hi, L⟩ = false) := hid (HBD.out (by rw [HSE.out]; rfl))
         go_wp2_with fail;refine HTT.out.mono ?_
         rintro r w4 ⟨rfl, hb4⟩;have hbf := Af hb4 hbe
         go_wp2_with fail;go_ret;exact ⟨zI, hbf⟩
        ·have hnx : Hid (Bd L (k + 1) = true) := hid (HGD.out (by rw [HSE.out]; rfl))
         go_wp2_with fail;refine HTT.out.mono ?_
         rintro r w4 ⟨rfl, hb4⟩;have hbf := Af hb4 hbe2
         go_wp2_with fail;go_roundw
         case rel => exact ⟨k + 1, zD, zW, hnx, hbf⟩
         case measure => (simp [intOf]; try omega)
     ·have e2 : decide ((8 : Int) < (X.length : Int)) = true := Ac zD
      have hff : Hid (Bb ⟨lo, hi, L⟩ = false) := hid (hbd (by rw [hset, hnr, Ab (fun h => hx2 h.2 : ¬ (1 ≤ X.length ∧ X.length ≤ 8))]; rfl))
      clear hset hbd hgd hnr hla hu hx1 hx2;go_wp2_with fail;go_ret;exact ⟨zI, HBW.out⟩
    ·have e1 : decide ((X.length : Int) < 1) = true := Ac zD
     have hff : Hid (Bb ⟨lo, hi, L⟩ = false) := hid (hbd (by rw [hset, hnr, Ab (fun h => hx1 h.1 : ¬ (1 ≤ X.length ∧ X.length ≤ 8))]; rfl))
     clear hset hbd hgd hnr hla hu hx1;go_wp2_with fail;go_ret;exact ⟨zI, HBW.out⟩
   ·obtain rfl : k = L.length := by omega
    have e0 : decide ((L.length : Int) < (L.length : Int)) = false := Ab zD
    have hff : Hid (Bb ⟨lo, hi, L⟩ = true) := hid (by rw [HS.out, hf.out])
    clear hb;go_wp2_with fail;go_ret;exact ⟨zI, HBW.out⟩
 ·by_cases g1 : lo < hi
  ·have d1 : decide (hi ≤ lo) = false := Ab zD
   by_cases g2 : hi ≤ 4611686018427387904
   ·have d2 : decide ((4611686018427387904 : Int) < hi) = false := Ab zD
    by_cases g3 : 1 ≤ L.length
    ·have d3 : decide ((L.length : Int) < 1) = false := Ab zD
     have d4 : decide ((8 : Int) < (L.length : Int)) = true := Ac zD
     have hff : Hid (Bb ⟨lo, hi, L⟩ = false) := hid ZN
     clear hG;go_enter Tryz.func164, Tryz.ntmps164
     go_wp2_with fail;go_ret;exact ⟨zI, zB⟩
    ·have d3 : decide ((L.length : Int) < 1) = true := Ac zD
     have hff : Hid (Bb ⟨lo, hi, L⟩ = false) := hid ZN
     clear hG;go_enter Tryz.func164, Tryz.ntmps164
     go_wp2_with fail;go_ret;exact ⟨zI, zB⟩
   ·have d2 : decide ((4611686018427387904 : Int) < hi) = true := Ac zD
    have hff : Hid (Bb ⟨lo, hi, L⟩ = false) := hid ZN
    clear hG;go_enter Tryz.func164, Tryz.ntmps164
    go_wp2_with fail;go_ret;exact ⟨zI, zB⟩
  ·have d1 : decide (hi ≤ lo) = true := Ac zD
   have hff : Hid (Bb ⟨lo, hi, L⟩ = false) := hid ZN
   clear hG;go_enter Tryz.func164, Tryz.ntmps164
   go_wp2_with fail;go_ret;exact ⟨zI, zB⟩
def CP : Int → List Bk → Nat → Int
 | p, _, 0 => p
 | _, [], _ + 1 => 0
 | _, s :: l, n + 1 => CP s.hi l n
theorem GK : ∀ (l : List Bk) (p : Int) (i : Nat) (h : i < l.length), CP p l (i + 1) = l[i].hi
 | [], _, i, h => by simp at h
 | s :: l, p, 0, h => by cases l <;> rfl
 | s :: l, p, i + 1, h => by
  have := GK l s.hi i ZZ
  simpa [CP] using this
theorem MW (p : Int) (l : List Bk) : CP p l 0 = p := by cases l <;> rfl
theorem F6 : ∀ (l : List Bk) (p : Int), CY p l = true ↔ (∀ i (h : i < l.length), Bb l[i] = true ∧ l[i].lo = CP p l i) ∧ CP p l l.length = 4611686018427387904
 | [], p => by simp [CY, CP]
 | s :: l, p => by
  simp only [CY, As, Aw]
  rw [F6 l s.hi]
  constructor
  ·rintro ⟨h1, h2, h3, h4⟩
   refine ⟨fun i h => ?_, by simpa [CP] using h4⟩
   rcases i with _ | i
   ·exact ⟨h2, h1⟩
   ·have := h3 i ZZ
    simpa [CP] using this
  ·rintro ⟨h1, h2⟩
   refine ⟨(h1 0 zO).2, (h1 0 zO).1, fun i h => ?_, by simpa [CP] using h2⟩
   have := h1 (i + 1) ZZ
   simpa [CP] using this
theorem Pn (l : List Bk) (p : Int) (k : Nat) (h : k < l.length) : CY p (l.drop k) = (decide (l[k].lo = p) && (Bb l[k] && CY l[k].hi (l.drop (k + 1)))) := by
 rw [AI h]; rfl
theorem NI {l : List Bk} {p : Int} (k : Nat) (h : k < l.length) (hb : Bb l[k] = false ∨ l[k].lo ≠ CP p l k) : CY p l = false := by
 rcases hh : CY p l with _ | _
 ·rfl
 ·have := ((F6 l p).1 hh).1 k h
  rcases hb with hb | hb
  ·rw [this.1] at hb; cases hb
  ·exact absurd this.2 hb
theorem Ko (ep : Int) (l : List Bk) (a : Option Addr) (n c : Nat) (w : World) (hl : A9.r (· < w.heap.size) w [.slice a n c] l) :
  Calls Tryz.prog 87 #[.agg #[.int .u64 ep, .slice a n c]] w fun r w' => r = .returned (.bool (Cc ⟨ep, l⟩)) ∧ Below w.heap.size w w' := by
 obtain ⟨rfl, hm, hcc, hcm⟩ := AP hl
 have HL := hid hl
 have HE := hid (fun W : World => Ey ep W)
 have hP : Cc ⟨ep, l⟩ = (epR ep && (decide (1 ≤ l.length ∧ l.length ≤ 64) && CY 0 l)) := rfl
 generalize epR ep = E at *
 clear hl;cases E
 ·have hff : Hid (Cc ⟨ep, l⟩ = false) := hid (by rw [hP]; rfl)
  clear hP;go_enter Tryz.func87, Tryz.ntmps87
  go_wp2_with fail;refine (HE.out _).mono ?_
  rintro r w1 ⟨rfl, rfl⟩;go_wp2_with fail;go_ret;exact ⟨zI, zB⟩
 ·by_cases h1 : 1 ≤ l.length
  ·have d1 : decide ((l.length : Int) < 1) = false := Ab zD
   by_cases h2 : l.length ≤ 64
   ·have d2 : decide ((64 : Int) < (l.length : Int)) = false := Ab zD
    have hff0 : Hid (Cc ⟨ep, l⟩ = CY 0 (l.drop 0)) := hid zAz
    have x1 : (w.alloc (.cells #[.int .u64 ep, .slice a l.length c] 30)).cell? ⟨w.heap.size, 1, none⟩ = some (.slice a l.length c) := zO
    have hb0 : Below w.heap.size w (w.alloc (.cells #[.int .u64 ep, .slice a l.length c] 30)) := zB
    clear hP;go_enter Tryz.func87, Tryz.ntmps87
    go_wp2_with fail;refine (HE.out _).mono ?_
    rintro r w1 ⟨rfl, rfl⟩;go_wp2_with fail;generalize (w.alloc (.cells #[.int .u64 ep, .slice a l.length c] 30)) = w0 at *
    have HB0 := hid hb0
    clear hb0 x1;go_loopw [3, 25] (fun f i wr => ∃ (k : Nat) (p : Int), k ≤ l.length ∧ i = .int .i64 k ∧ f = .int .u64 p ∧ Hid (Cc ⟨ep, l⟩ = CY p (l.drop k)) ∧ Below w0.heap.size w0 wr) (fun _ i _ => l.length - (intOf i).toNat)
    case atStart => exact ⟨0, 0, Aj _, rfl, rfl, hff0, Below.refl _ _⟩
    case round =>
     obtain ⟨k, p, hk, rfl, rfl, hf, hb⟩ := hrel
     have HBW := hid (HB0.out.trans (hb.mono HB0.out.size))
     have HB := hid hb
     by_cases hlt : k < l.length
     ·have i1 : (k : Int) < (l.length : Int) := by omega
      have e0 : decide ((k : Int) < (l.length : Int)) = true := Ac i1
      obtain ⟨b, o, hA, hbb, ak, ck, u0, u1, u2, ub0, ub1, xl⟩ := DV (lift HL.out HBW.out) hlt
      subst hA;have hst := hid (Pn l p k hlt)
      have HR := hid (fun (W : World) (hW : Below wr.heap.size wr W) => Io l[k].lo l[k].hi l[k].sets ak _ ck W (lift xl hW))
      have hbl : b < wr.heap.size := Ck _ _ u0
      clear hb xl;generalize l[k] = X at *
      have hX : (⟨X.lo, X.hi, X.sets⟩ : Bk) = X := rfl
      simp only [hX] at HR
      by_cases hlo : X.lo = p
      ·have e1 : (X.lo != p) = false := by simp [hlo]
       generalize Bb X = R at *
       cases R
       ·have hff : Hid (Cc ⟨ep, l⟩ = false) := hid (by rw [hf.out, hst.out]; simp)
        clear hlo hX;go_wp2_with fail;refine (HR.out _ zA).mono ?_
        rintro r w3 ⟨rfl, hb3⟩;have hbe : Below w0.heap.size w0 w3 := Af hb3 (Az HB.out _)
        have hbf : Below w.heap.size w w3 := HB0.out.trans (hbe.mono HB0.out.size)
        go_wp2_with fail;go_ret;exact ⟨zI, hbf⟩
       ·have hff : Hid (Cc ⟨ep, l⟩ = CY X.hi (l.drop (k + 1))) := hid (by rw [hf.out, hst.out, Ac hlo]; rfl)
        clear hlo hX;go_wp2_with fail;refine (HR.out _ zA).mono ?_
        rintro r w3 ⟨rfl, hb3⟩;have z1 := hb3.cell (p := ⟨wr.heap.size, 1, none⟩) zO
        simp at z1
        have hbe : Below w0.heap.size w0 w3 := Af hb3 (Az HB.out _)
        clear hb3;go_wp2_with fail;go_roundw
        case rel => exact ⟨k + 1, X.hi, zD, zW, rfl, hff, hbe⟩
        case measure => (simp [intOf]; try omega)
      ·have e1 : (X.lo != p) = true := by simpa using hlo
       have hff : Hid (Cc ⟨ep, l⟩ = false) := hid (by rw [hf.out, hst.out, Ab hlo]; rfl)
       clear hlo hX;go_wp2_with fail;go_ret;exact ⟨zI, by have := HBW.out; (repeat (first | with_reducible exact Below.refl _ _ | with_reducible assumption | (with_reducible refine Az ?_ _) | (with_reducible refine Below.setCell ?_ (by first | omega | (simp; done) | (simp; omega)) _) | (with_reducible refine Below.drew ?_) | (with_reducible refine below_drewN ?_ _) | (refine Af (by with_reducible assumption) ?_)))⟩
     ·obtain rfl : k = l.length := by omega
      have e0 : decide ((l.length : Int) < (l.length : Int)) = false := Ab zD
      have hff : Hid (Cc ⟨ep, l⟩ = decide (p = 4611686018427387904)) := hid ZM
      have hbq : (p == 4611686018427387904) = decide (p = 4611686018427387904) := by
       by_cases h : p = 4611686018427387904
       ·subst h; rfl
       ·rw [Ab h]; simpa using h
      generalize decide (p = 4611686018427387904) = Q at *
      clear hb;go_wp2_with fail;go_ret;exact ⟨by rw [hff.out]; first | rfl | (rw [← hbq]; rfl) | (simp only [hbq]; rfl), HBW.out⟩
   ·have d2 : decide ((64 : Int) < (l.length : Int)) = true := Ac zD
    have hff : Hid (Cc ⟨ep, l⟩ = false) := hid zAs
    clear hP h2;go_enter Tryz.func87, Tryz.ntmps87
    go_wp2_with fail;refine (HE.out _).mono ?_
    rintro r w1 ⟨rfl, rfl⟩;go_wp2_with fail;go_ret;exact ⟨zI, zB⟩
  ·have d1 : decide ((l.length : Int) < 1) = true := Ac zD
   have hff : Hid (Cc ⟨ep, l⟩ = false) := hid zAt
   clear hP h1;go_enter Tryz.func87, Tryz.ntmps87
   go_wp2_with fail;refine (HE.out _).mono ?_
   rintro r w1 ⟨rfl, rfl⟩;go_wp2_with fail;go_ret;exact ⟨zI, zB⟩
theorem M7 (ep : Int) (h0 : 0 ≤ ep) (l : List Bk) (a : Option Addr) (n c : Nat) (w : World) (hl : A9.r (· < w.heap.size) w [.slice a n c] l) :
  Calls Tryz.prog 94 #[.agg #[.int .u64 ep, .slice a n c]] w fun r w' => r = .returned (.bool (Cc ⟨ep, l⟩)) ∧ Below w.heap.size w w' := by
 obtain ⟨rfl, hm, hcc, hcm⟩ := AP hl
 have HL := hid hl
 have HE := hid (fun W : World => GO ep h0 W)
 have hP : Cc ⟨ep, l⟩ = (epR ep && (decide (1 ≤ l.length ∧ l.length ≤ 64) && CY 0 l)) := rfl
 generalize epR ep = E at *
 clear hl;cases E
 ·have hff : Hid (Cc ⟨ep, l⟩ = false) := hid (by rw [hP]; rfl)
  clear hP;go_enter Tryz.func94, Tryz.ntmps94
  go_wp2_with fail;refine (HE.out _).mono ?_
  rintro r w1 ⟨rfl, rfl⟩;go_wp2_with fail;go_ret;exact ⟨zI, zB⟩
 ·by_cases h1 : 1 ≤ l.length
  ·have d1 : decide ((l.length : Int) < 1) = false := Ab zD
   by_cases h2 : l.length ≤ 64
   ·have d2 : decide ((64 : Int) < (l.length : Int)) = false := Ab zD
    have hff0 : Cc ⟨ep, l⟩ = CY 0 l := zAz
    have hp0 : 0 < l.length := zD
    obtain ⟨b, o, hA, hbb, _, _, p0, _, _, _, _, _⟩ := DV HL.out hp0
    obtain ⟨m, hmm⟩ : ∃ m, l.length = m + 1 := ⟨l.length - 1, zD⟩
    have hpm : m < l.length := zD
    obtain ⟨b', o', hA', hbb', _, _, _, q1, _, _, _, _⟩ := DV HL.out hpm
    rw [hA] at hA'
    simp only [Bc, DE] at hA'
    obtain ⟨rfl, rfl, _⟩ := hA'
    have HA := hid hA
    have hc0 : CY 0 l = true → (l[0]'hp0).lo = 0 := fun h => (((F6 l 0).1 h).1 0 hp0).2.trans (MW 0 l)
    have hcm' : CP 0 l l.length = (l[m]'hpm).hi := (IF (CP 0 l) hmm).trans (GK l 0 m hpm)
    have hcl : CY 0 l = true → (l[m]'hpm).hi = 4611686018427387904 := fun h => by rw [← hcm']; exact ((F6 l 0).1 h).2
    have hok : (∀ i (h : i < l.length), Bb l[i] = true ∧ l[i].lo = CP 0 l i) → (l[m]'hpm).hi = 4611686018427387904 → CY 0 l = true := fun h h' => (F6 l 0).2 ⟨h, by rw [hcm']; exact h'⟩
    have HOK := hid hok
    have HBAD := hid (fun (k : Nat) (h : k < l.length) (hb : Bb l[k] = false ∨ l[k].lo ≠ CP 0 l k) => NI (p := 0) k h hb)
    have HFF := hid hff0
    simp only [Nat.zero_mul, BR] at p0
    have hnot0 : (l[0]'hp0).lo ≠ 0 → Hid (Cc ⟨ep, l⟩ = false) := fun h => hid (by rw [hff0]; exact GD fun e => h (hc0 e))
    have hnotl : (l[m]'hpm).hi ≠ 4611686018427387904 → Hid (Cc ⟨ep, l⟩ = false) := fun h => hid (by rw [hff0]; exact GD fun e => h (hcl e))
    have x1 : (w.alloc (.cells #[.int .u64 ep, .slice a l.length c] 30)).cell? ⟨w.heap.size, 1, none⟩ = some (.slice a l.length c) := zO
    have hb0 : Below w.heap.size w (w.alloc (.cells #[.int .u64 ep, .slice a l.length c] 30)) := zB
    have hs0 : w.heap.size < (w.alloc (.cells #[.int .u64 ep, .slice a l.length c] 30)).heap.size := zO
    have P0 := (hb0.cell (p := ⟨b, o, none⟩) hbb).trans p0
    have Q1 := (hb0.cell (p := ⟨b, o + m * 3 + 1, none⟩) hbb).trans q1
    generalize hzz : l[0]'hp0 = Z at *
    generalize hyy : (l[m]'hpm).hi = hY at *
    have HM := hid hmm
    have HPP := hid (And.intro hp0 hpm)
    have HLM := hid hcm'
    have hm64 : m ≤ 63 := zD
    have HZZ := hid hzz
    clear hP hff0 hc0 hcl hcm' hok p0 q1 hzz hyy h1 h2;subst hA;have j1 : (0 : Int) ≤ (m : Int) + 1 - 1 := zD
    rw [hmm] at x1 hb0 hs0 P0 Q1 d1 d2 ⊢
    clear hmm;by_cases hz0 : Z.lo = 0
    ·have e0 : (Z.lo != 0) = false := by simp [hz0]
     by_cases hym : hY = 4611686018427387904
     ·have e1 : (hY != 4611686018427387904) = false := by simp [hym]
      have HY := hid hym
      have HZ0 := hid hz0
      clear hz0 hym hnot0 hnotl;go_enter Tryz.func94, Tryz.ntmps94
      go_wp2_with fail;refine (HE.out _).mono ?_
      rintro r w1 ⟨rfl, rfl⟩;go_wp2_with fail;generalize (w.alloc (.cells #[.int .u64 ep, .slice (some ⟨b, o, none⟩) (m + 1) c] 30)) = w0 at *
      have HB0 := hid hb0
      clear hb0 P0 Q1;go_loopw [4] (fun i wr => ∃ k : Nat, k ≤ m + 1 ∧ i = .int .i64 k ∧ Hid (∀ i, i < k → ∀ (h : i < l.length), Bb l[i] = true ∧ l[i].lo = CP 0 l i) ∧ Below w0.heap.size w0 wr) (fun i _ => m + 1 - (intOf i).toNat)
      case atStart => exact ⟨0, Aj _, rfl, hid (fun i hi => zD), Below.refl _ _⟩
      case round =>
       obtain ⟨k, hk, rfl, hf, hb⟩ := hrel
       have HBW := hid (HB0.out.trans (hb.mono HB0.out.size))
       have HB := hid hb
       by_cases hlt : k < m + 1
       ·have i1 : (k : Int) < (m : Int) + 1 := by omega
        have e3 : decide ((k : Int) < (m : Int) + 1) = true := Ac i1
        have hll : k < l.length := by rw [HM.out]; exact hlt
        obtain ⟨b2, o2, hA2, hbb2, ak, ck, u0, u1, u2, ub0, ub1, xl⟩ := DV HL.out hll
        simp only [Bc, DE, AD] at hA2
        obtain ⟨rfl, rfl⟩ := hA2
        have hbd := HBAD.out k hll
        have hss : ∀ j, k = j + 1 → ∃ h : j < l.length, CP 0 l k = l[j].hi := fun j e => by subst e; exact ⟨zD, GK l 0 j zD⟩
        have hs00 : k = 0 → CP 0 l k = 0 := fun e => by subst e; cases l <;> rfl
        have hnx : Bb l[k] = true → l[k].lo = CP 0 l k → ∀ i, i < k + 1 → ∀ (h : i < l.length), Bb l[i] = true ∧ l[i].lo = CP 0 l i := fun h1 h2 i hi h => by
         rcases Bo i k with h3 | h3
         ·exact hf.out i h3 h
         ·obtain rfl : i = k := by omega
          exact ⟨h1, h2⟩
        have HR := hid (fun (s : AN wr) => M9 l[k].lo l[k].hi l[k].sets ak _ ck s.at_ (lift (lift xl HBW.out) s.below))
        have W1 := (hb.cell (p := ⟨w.heap.size, 1, none⟩) hs0).trans x1
        have X1 := fun s : AN wr => s.cell W1
        have U0 := fun s : AN wr => s.cell ((HBW.out.cell (p := ⟨b, o + k * 3, none⟩) hbb2).trans u0)
        have U1 := fun s : AN wr => s.cell ((HBW.out.cell (p := ⟨b, o + k * 3 + 1, none⟩) hbb2).trans u1)
        have U2 := fun s : AN wr => s.cell ((HBW.out.cell (p := ⟨b, o + k * 3 + 2, none⟩) hbb2).trans u2)
        have hx0 : k = 0 → l[k].lo = 0 := fun e => by subst e; rw [HZZ.out]; exact HZ0.out
        have HX0 := hid hx0
        have HBD := hid hbd
        have HNX := hid hnx
        clear hb xl u0 u1 u2 ub0 ub1 hbd hnx hx0;generalize l[k] = X at *
        simp only [show (⟨X.lo, X.hi, X.sets⟩ : Bk) = X from rfl] at HR
        generalize Bb X = R at *
        cases R
        ·have hff : Hid (Cc ⟨ep, l⟩ = false) := hid (by rw [HFF.out]; exact HBD.out (.inl rfl))
         clear hss hs00;go_wp2_with fail;refine Ar zH zH ?_
         repeat (go_big_quiet_step (((go_at_call 164; exact AW (HR.out _)))))
         refine AA ?_
         rintro W5 ⟨⟨W5', hb5⟩, rfl⟩;go_wp2_with fail;go_ret;exact ⟨zI, Af hb5 HBW.out⟩
        ·rcases k with _ | j
         ·have hff : Hid (∀ i, i < 0 + 1 → ∀ (h : i < l.length), Bb l[i] = true ∧ l[i].lo = CP 0 l i) := hid (HNX.out rfl ((HX0.out rfl).trans (hs00 rfl).symm))
          simp only [Nat.zero_mul, BR] at U0 U1 U2
          clear hss hs00;go_wp2_with fail;refine Ar zH zH ?_
          repeat (go_big_quiet_step (((go_at_call 164; exact AW (HR.out _)))))
          refine AA ?_
          rintro W5 ⟨⟨W5', hb5⟩, rfl⟩;go_wp2_with fail;go_roundw
          case rel => exact ⟨1, zD, rfl, hff, Af hb5 HB.out⟩
          case measure => (simp [intOf]; try omega)
         ·obtain ⟨hj, hsj⟩ := hss j rfl
          obtain ⟨b3, o3, hA3, hbb3, _, _, _, t1, _, _, _, _⟩ := DV HL.out hj
          simp only [Bc, DE, AD] at hA3
          obtain ⟨rfl, rfl⟩ := hA3
          have T1 := fun s : AN wr => s.cell ((HBW.out.cell (p := ⟨b, o + j * 3 + 1, none⟩) hbb3).trans t1)
          have HSJ := hid hsj
          clear hss hs00 hsj t1;generalize l[j].hi = y at *
          rw [show ((j + 1 : Nat) : Int) = (j : Int) + 1 from zD]
          have k1 : decide ((0 : Int) < (j : Int) + 1) = true := Ac zD
          have k2 : (0 : Int) ≤ (j : Int) + 1 - 1 := zD
          have k3 : (j : Int) + 1 < (m : Int) + 1 := zD
          have k4 : (j : Int) < (m : Int) + 1 := zD
          have k5 : decide ((j : Int) + 1 < (m : Int) + 1) = true := Ac k3
          by_cases hxy : X.lo = y
          ·have e5 : (X.lo != y) = false := by simp [hxy]
           have hff : Hid (∀ i, i < j + 1 + 1 → ∀ (h : i < l.length), Bb l[i] = true ∧ l[i].lo = CP 0 l i) := hid (HNX.out rfl (hxy.trans HSJ.out.symm))
           clear hxy;go_wp2_with fail;refine Ar zH zH ?_
           repeat (go_big_quiet_step (((go_at_call 164; exact AW (HR.out _)))))
           refine AA ?_
           rintro W5 ⟨⟨W5', hb5⟩, rfl⟩;go_wp2_with fail;go_roundw
           case rel => exact ⟨j + 1 + 1, zD, zW, hff, Af hb5 HB.out⟩
           case measure => (simp [intOf]; try omega)
          ·have e5 : (X.lo != y) = true := by simpa using hxy
           have hff : Hid (Cc ⟨ep, l⟩ = false) := hid (by rw [HFF.out]; exact HBD.out (.inr (by rw [HSJ.out]; exact hxy)))
           clear hxy;go_wp2_with fail;refine Ar zH zH ?_
           repeat (go_big_quiet_step (((go_at_call 164; exact AW (HR.out _)))))
           refine AA ?_
           rintro W5 ⟨⟨W5', hb5⟩, rfl⟩;go_wp2_with fail;go_ret;exact ⟨zI, Af hb5 HBW.out⟩
       ·obtain rfl : k = m + 1 := by omega
        have e3 : decide ((m : Int) + 1 < (m : Int) + 1) = false := Ab zD
        have hff : Hid (Cc ⟨ep, l⟩ = true) := hid (by rw [HFF.out]; exact HOK.out (fun i h => hf.out i (by rw [← HM.out]; exact h) h) HY.out)
        clear hb;go_wp2_with fail;go_ret;exact ⟨zI, HBW.out⟩
     ·have e1 : (hY != 4611686018427387904) = true := by simpa using hym
      have hff := hnotl hym
      clear hz0 hym hnot0 hnotl;go_enter Tryz.func94, Tryz.ntmps94
      go_wp2_with fail;refine (HE.out _).mono ?_
      rintro r w1 ⟨rfl, rfl⟩;go_wp2_with fail;go_ret;exact ⟨zI, hb0⟩
    ·have e0 : (Z.lo != 0) = true := by simpa using hz0
     have hff := hnot0 hz0
     clear hz0 hnot0 hnotl;go_enter Tryz.func94, Tryz.ntmps94
     go_wp2_with fail;refine (HE.out _).mono ?_
     rintro r w1 ⟨rfl, rfl⟩;go_wp2_with fail;go_ret;exact ⟨zI, hb0⟩
   ·have d2 : decide ((64 : Int) < (l.length : Int)) = true := Ac zD
    have hff : Hid (Cc ⟨ep, l⟩ = false) := hid zAs
    clear hP h2;go_enter Tryz.func94, Tryz.ntmps94
    go_wp2_with fail;refine (HE.out _).mono ?_
    rintro r w1 ⟨rfl, rfl⟩;go_wp2_with fail;go_ret;exact ⟨zI, zB⟩
  ·have d1 : decide ((l.length : Int) < 1) = true := Ac zD
   have hff : Hid (Cc ⟨ep, l⟩ = false) := hid zAt
   clear hP h1;go_enter Tryz.func94, Tryz.ntmps94
   go_wp2_with fail;refine (HE.out _).mono ?_
   rintro r w1 ⟨rfl, rfl⟩;go_wp2_with fail;go_ret;exact ⟨zI, zB⟩
end Go.Proofs.YtlbffbkbkajciaaGreat
