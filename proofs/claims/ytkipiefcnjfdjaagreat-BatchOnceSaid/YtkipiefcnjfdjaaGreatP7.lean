/- Needed by batchOnce_walk, part 7: texts put together by shake.py; no condition. -/
import Derived.Laws.Bits64
import Derived.Test.YtkipiefcnjfdjaaGreatP6
import Derived.Test.YtkipiefcnjfdjaaGreatP2
namespace Go.Proofs.YtkipiefcnjfdjaaGreat
open Go.RowKit Go.Bs Go.Maps
set_option linter.unusedVariables false
set_option linter.unusedSimpArgs false

theorem OwnEls.tch3 {w w' : World} {α : Type} {lo g : Nat} {A : Rp α} {e : TypeId} {sz : Nat} {v : Value} {xs : List α} (h : OwnEls lo A lo e sz w v xs) (hb : Tch (fun b => b = g ∨ w.heap.size ≤ b) w w') (hg : g < lo) : OwnEls lo A lo e sz w' v xs := by
  have hk : ∀ b, lo ≤ b → b < w.heap.size → w'.heap[b]? = w.heap[b]? := fun b h1 h2 => hb.block b h2 (by omega)
  obtain ⟨cells, ho, hlen, hsz, hA⟩ := h
  refine ⟨cells, ⟨ho.1, ?_⟩, hlen, hsz, fun i cs x hi hx => A.mono (A.keep (hA i cs x hi hx) fun b h => hk b h.1 h.2.1) fun b h => ⟨h.1, Nat.lt_of_lt_of_le h.2.1 hb.size, h.2.2⟩⟩
  rcases ho.2 with h0 | ⟨g', cap, cur, h1, h2, h3, h4⟩
  · exact .inl h0
  · exact .inr ⟨g', cap, cur, h1, h2, (hk _ h2 (Blk.lt h3)).trans h3, h4⟩
theorem OwnEls.form {w : World} {α : Type} {lo base : Nat} {A : Rp α} {e : TypeId} {sz : Nat} {v : Value} {xs : List α} (h : OwnEls lo A base e sz w v xs) : ∃ a c, v = .slice a xs.length c := by
  obtain ⟨cells, h1, _⟩ := h
  exact own_form h1
theorem not_u64 {z : Int} (h : 0 ≤ z ∧ z ≤ 18446744073709551615) : bits BinOp.xor IntKind.u64 IntKind.u64.max z = 18446744073709551615 - z := by
  obtain ⟨a, rfl⟩ := Int.eq_ofNat_of_zero_le h.1
  have ha : a < 18446744073709551616 := by omega
  have e : IntKind.u64.max = ((18446744073709551615 : Nat) : Int) := rfl
  rw [e, bits_xor_u64_nat _ _ (by decide) ha]
  have h1 : 18446744073709551615 ^^^ a = 18446744073709551615 - a := by
    have h2 := BitVec.toNat_not (x := BitVec.ofNat 64 a)
    rw [BitVec.not_def, BitVec.toNat_xor, BitVec.toNat_allOnes, BitVec.toNat_ofNat, Nat.mod_eq_of_lt (by omega)] at h2
    exact h2
  rw [h1]
  omega
set_option maxRecDepth 100000 in
set_option maxHeartbeats 6400000 in
theorem link_read (w : World) {g : Nat} {B : List UInt8} {a : Option Addr} {s : Rs} (h : RdAt w g B a s) (hB : B.length ≤ 1000000000) (pos : Int) (hpos : 0 ≤ pos ∧ pos ≤ 18446744073709551615) :
    Calls Tryz.prog 253 #[.pointer (some ⟨g, 0, none⟩), .int .u64 pos] w fun r w' => ∃ v, r = .returned v ∧ rLinksW.r (Fresh w w') w' [v] (s.links B pos).2 ∧ RdStep w g B a (s.links B pos).1 w' := by
  obtain ⟨i0, hi, hz0, hz1, hz2⟩ := info_parts infoLink
  have HI := hid (varint_int w h (by omega) 16 (by omega))
  have hNm := Rs.int_le (B := B) (s := s) (m := 16)
  have hlt := h.blk.lt
  have HIN := hid (RdInv.refl h)
  unfold Rs.links
  generalize s.int B 16 = I at *
  obtain ⟨s1, N⟩ := I
  dsimp only at *
  have hN : N ≤ 16 := by omega
  clear h
  go_enter Tryz.func253, Tryz.ntmps253
  go_wp2_with fail
  refine HI.out.mono ?_
  rintro r w1 ⟨rfl, hst⟩
  have HIN1 := hid (HIN.out.step hst)
  clear hst
  go_wp2_with fail
  go_loopw [5, 12] (fun v i wr => ∃ (k : Nat) (J : List Link) (st : Rs), k ≤ N ∧ i = .int .i64 k ∧ Hid (J.length = k) ∧ OwnEls w.heap.size rLink w.heap.size 209 2 wr v J ∧ Hid (∀ x ∈ J, 0 ≤ x.stream ∧ x.stream ≤ 18446744073709551615) ∧ Hid (RdInv w wr g B a st) ∧ Hid (Rs.linksF B pos N s1 none [] = Rs.linksF B pos (N - k) st (J.getLast?.map Link.stream) J)) (fun _ i _ => N - (intOf i).toNat)
  case atStart => exact ⟨0, [], s1, Nat.zero_le _, rfl, hid rfl, OwnEls.nil, hid (by simp), HIN1, hid rfl⟩
  case round =>
    obtain ⟨k, J, st, hk, rfl, hJl, hown, hJb, hin, hsp⟩ := hrel
    obtain ⟨av, cv, rfl⟩ := OwnEls.form hown
    rcases Nat.lt_or_ge k N with hlt2 | hge
    · have HAT := hid (rd_at wr hin.out.rd)
      have HVR := hid (varint_read wr hin.out.rd (by omega))
      have hx := Rs.num_small (B := B) (s := st)
      have hsz0 := hin.out.tch.size
      have i1 : (k : Int) < (N : Int) := by omega
      have d1 : decide ((k : Int) < (N : Int)) = true := decide_eq_true i1
      have d1' : decide (k < N) = true := decide_eq_true hlt2
      have HO := hid hown
      clear hown
      have hJ16 : J.length ≤ 16 := by have := hJl.out; omega
      by_cases hJe : J = []
      · have hstep : Rs.linksF B pos (N - k) st (J.getLast?.map Link.stream) J = (if ((st.num B).1.delta B pos 4).1.k = 0 then Rs.linksF B pos (N - (k + 1)) ((st.num B).1.delta B pos 4).1 (some ((st.num B).2 : Int)) (J ++ [⟨((st.num B).2 : Int), ((st.num B).1.delta B pos 4).2⟩]) else (((st.num B).1.delta B pos 4).1, [])) := by
          rw [show N - k = (N - (k + 1)) + 1 by omega, hJe]; rfl
        have hk0 : k = 0 := by have := hJl.out; rw [hJe] at this; simpa using this.symm
        subst hk0
        clear hJe
        generalize st.num B = R at *
        obtain ⟨st1, x⟩ := R
        dsimp only at *
        have hxb : (0 : Int) ≤ (x : Int) ∧ (x : Int) ≤ 18446744073709551615 := by omega
        have HD := hid (fun (W : World) (hW : RdAt W g B a st1) => delta_read W hW hB pos hpos 4 (by omega))
        generalize st1.delta B pos 4 = D at *
        obtain ⟨s6, bk⟩ := D
        dsimp only at *

        go_wp2_with fail
        refine HAT.out.mono ?_
        rintro r w2 ⟨rfl, rfl⟩
        go_wp2_with fail
        refine HVR.out.mono ?_
        rintro r w3 ⟨rfl, hst3⟩
        have HIN3 := hid (hin.out.step hst3)
        have HO3 := hid (OwnEls.tch3 HO.out (hst3.2.mono fun b hb e => .inl e) hlt)
        have hsz3 := HIN3.out.tch.size
        clear hst3
        go_wp2_with fail

        refine (HD.out _ (HIN3.out.row ((by (repeat (first | with_reducible exact Below.refl _ _ | with_reducible assumption | (with_reducible refine below_alloc ?_ _) | (with_reducible refine Below.setCell ?_ (by first | omega | (simp; done) | (simp; omega)) _) | (with_reducible refine Below.drew ?_) | (with_reducible refine below_drewN ?_ _) | (refine below_then (by with_reducible assumption) ?_))) : Below w3.heap.size w3 _).mono hsz3)).rd).mono ?_
        rintro r w6 ⟨v6, rfl, hv6, hst6⟩
        obtain ⟨a6, c6, hfv, _, _⟩ := sl_form hv6
        simp only [List.cons.injEq, and_true] at hfv
        subst hfv
        have BK6 : Blk w6 w3.heap.size 209 #[.int .u64 (x : Int), .slice none 0 0] := Blk.tch (by (repeat (first | assumption | exact Blk.newAt _ _ _ (by first | (simp; done) | (simp; omega)) | refine Blk.alloc ?_ _ | refine Blk.drew ?_ | refine Blk.drewN ?_ _ | refine Blk.far ?_ (by first | (simp; done) | (simp; omega)) _))) hst6.2 (by omega)
        have HIN6 := hid ((HIN3.out.row ((by (repeat (first | with_reducible exact Below.refl _ _ | with_reducible assumption | (with_reducible refine below_alloc ?_ _) | (with_reducible refine Below.setCell ?_ (by first | omega | (simp; done) | (simp; omega)) _) | (with_reducible refine Below.drew ?_) | (with_reducible refine below_drewN ?_ _) | (refine below_then (by with_reducible assumption) ?_))) : Below w3.heap.size w3 _).mono hsz3)).step hst6)
        have HK6 : Hid (Tch (fun b => b = g ∨ w3.heap.size ≤ b) w3 w6) := hid ((Tch.of_below (by (repeat (first | with_reducible exact Below.refl _ _ | with_reducible assumption | (with_reducible refine below_alloc ?_ _) | (with_reducible refine Below.setCell ?_ (by first | omega | (simp; done) | (simp; omega)) _) | (with_reducible refine Below.drew ?_) | (with_reducible refine below_drewN ?_ _) | (refine below_then (by with_reducible assumption) ?_))) : Below w3.heap.size w3 _)).mono (fun b hb e => .inr e) |>.trans hst6.2 (fun b hb e => .inl e))
        by_cases hk6 : s6.k = 0
        · rw [if_pos hk6] at hstep
          have HSP := hid (hsp.out.trans hstep)
          have HG := hid (fun (W : World) (hW : RdAt W g B a s6) => (by have := rd_good W hW; rw [decide_eq_true hk6] at this; exact this : Calls Tryz.prog 96 #[.pointer (some ⟨g, 0, none⟩)] W fun r w' => r = .returned (.bool true) ∧ Below W.heap.size W w'))
          obtain ⟨y0, y1, f0, f1, hl6⟩ := f_blk BK6
          have HV6 := hid hv6
          have hq6 := hst6.2.size
          simp at hq6
          clear hsp hstep hk6 hv6 hst6
          go_wp2_with fail
          refine (HG.out _ (HIN6.out.row ((by (repeat (first | with_reducible exact Below.refl _ _ | with_reducible assumption | (with_reducible refine below_alloc ?_ _) | (with_reducible refine Below.setCell ?_ (by first | omega | (simp; done) | (simp; omega)) _) | (with_reducible refine Below.drew ?_) | (with_reducible refine below_drewN ?_ _) | (refine below_then (by with_reducible assumption) ?_))) : Below w3.heap.size w6 _).mono hsz3)).rd).mono ?_
          rintro r w7 ⟨rfl, hb7⟩
          have B7 : Blk w7 w3.heap.size 209 #[.int .u64 (x : Int), .slice a6 bk.length c6] := Blk.later (BK6.set 1 _) hb7
          obtain ⟨z0, z1, _, _, hl7⟩ := f_blk B7
          have hb67 : Below w3.heap.size w6 w7 := (by (repeat (first | with_reducible exact Below.refl _ _ | with_reducible assumption | (with_reducible refine below_alloc ?_ _) | (with_reducible refine Below.setCell ?_ (by first | omega | (simp; done) | (simp; omega)) _) | (with_reducible refine Below.drew ?_) | (with_reducible refine below_drewN ?_ _) | (refine below_then (by with_reducible assumption) ?_))) : Below w3.heap.size w6 (w6.setCell ⟨w3.heap.size, 1, none⟩ (.slice a6 bk.length c6))).trans (hb7.mono (by simp; omega))
          have HIN7 := hid (HIN6.out.row (hb67.mono hsz3))
          have hsz7 := HIN7.out.tch.size
          have hk7 : Tch (fun b => b = g ∨ w3.heap.size ≤ b) w3 w7 := HK6.out.trans (Tch.of_below hb67) (fun b hb hle => .inr hle)
          have O7 := OwnEls.tch3 HO3.out hk7 hlt
          obtain ⟨cells0, OA0⟩ := HO3.out
          have hlt0 : ∀ g', (Value.slice av J.length cv).ownBlock = some g' → g' < w3.heap.size := fun g' e => (OA0.1.lt g' e).2
          obtain ⟨cells, OA⟩ := OwnEls.below O7 (show Below w7.heap.size w7 (w7.alloc (.cells #[.int .u64 (x : Int), .slice a6 bk.length c6] 209)) from by (repeat (first | with_reducible exact Below.refl _ _ | with_reducible assumption | (with_reducible refine below_alloc ?_ _) | (with_reducible refine Below.setCell ?_ (by first | omega | (simp; done) | (simp; omega)) _) | (with_reducible refine Below.drew ?_) | (with_reducible refine below_drewN ?_ _) | (refine below_then (by with_reducible assumption) ?_))))
          have hk8 : ∀ b, w3.heap.size + 1 ≤ b → b < w6.heap.size → (w7.alloc (.cells #[.int .u64 (x : Int), .slice a6 bk.length c6] 209)).heap[b]? = w6.heap[b]? := fun b h1 h2 => (Below.heap_alloc w7 _ b (by have := hb67.size; omega)).trans ((hb7.block b (by simpa using h2)).trans (Below.heap_setCell _ _ _ _ (by dsimp only; omega)))
          have hv8 := rU64s.keep (w' := (w7.alloc (.cells #[.int .u64 (x : Int), .slice a6 bk.length c6] 209))) HV6.out (fun b (hb : (w3.alloc (.cells #[.int .u64 (x : Int), .slice none 0 0] 209)).heap.size ≤ b ∧ b < w6.heap.size) => hk8 b (by have := hb.1; simp at this; omega) hb.2)
          have hx8 : rLink.r (fun b => w.heap.size ≤ b ∧ b < (w7.alloc (.cells #[.int .u64 (x : Int), .slice a6 bk.length c6] 209)).heap.size ∧ (Value.slice av J.length cv).ownBlock ≠ some b) (w7.alloc (.cells #[.int .u64 (x : Int), .slice a6 bk.length c6] 209)) [.int .u64 (x : Int), .slice a6 bk.length c6] ⟨(x : Int), bk⟩ := by
            refine link_mk (x := ⟨(x : Int), bk⟩) hxb (rU64s.mono hv8 fun b hb => ?_)
            have h1 := hb.1
            have h2 := hb.2
            have h3 := hb67.size
            simp at h1
            refine ⟨by omega, by simp; omega, fun e => ?_⟩
            have := hlt0 b e
            omega
          have HX := hid hx8
          have HA := hid OA
          have HS9 : Hid (w.heap.size ≤ (w7.alloc (.cells #[.int .u64 (x : Int), .slice a6 bk.length c6] 209)).heap.size) := hid (by simp; omega)
          clear hx8 hv8 OA OA0 hlt0 hk8 O7 hk7 hb67 hb7 B7 y0 y1 f0 f1 HV6
          go_wp2_with (at_builtin; go_loud (refine wpList_append_src rfl _ _ _ rfl w.heap.size 209 i0 (.agg #[.int .u64 0, .slice none 0 0]) 2 32 Tryz.underlying73 hi hz0 hz1 hz2 rfl (by decide) (.slice av J.length cv) J.length _ rfl HA.out.1 (some ⟨w7.heap.size, 0, none⟩) 1 1 [.int .u64 (x : Int), .slice a6 bk.length c6] rfl (src_new1 w7 209 _ rfl rfl rfl) (by intro u hu; simp at hu; rcases hu with rfl | rfl <;> rfl) (by simp only [maxLen]; omega) (by omega) HS9.out ?_; intro v1 w9 hown1 hgrow1 hat1; have OP := hid (OwnEls.push HA.out rfl HX.out hown1 hgrow1 hat1 hgrow1.size); have hb9 : Below w.heap.size w7 w9 := (Below.grown ((by (repeat (first | with_reducible exact Below.refl _ _ | with_reducible assumption | (with_reducible refine below_alloc ?_ _) | (with_reducible refine Below.setCell ?_ (by first | omega | (simp; done) | (simp; omega)) _) | (with_reducible refine Below.drew ?_) | (with_reducible refine below_drewN ?_ _) | (refine below_then (by with_reducible assumption) ?_))) : Below w7.heap.size w7 _).mono hsz7) hgrow1 HS9.out (fun g e => (HA.out.1.lt g e).1)); clear hown1 hgrow1 hat1))
          have HIN9 := hid (HIN7.out.row hb9)
          have HJ9 : Hid (∀ y ∈ J ++ [(⟨(x : Int), bk⟩ : Link)], 0 ≤ y.stream ∧ y.stream ≤ 18446744073709551615) := hid (fun y hy => by
            rw [List.mem_append, List.mem_singleton] at hy
            rcases hy with hy | rfl
            · exact hJb.out y hy
            · exact hxb)
          go_roundw
          case rel => exact ⟨0 + 1, J ++ [⟨(x : Int), bk⟩], s6, by omega, by go_num, hid (by rw [List.length_append, hJl.out]; rfl), OP.out, HJ9, HIN9, hid (by rw [HSP.out]; simp)⟩
          case measure => simp [intOf]; omega
        · rw [if_neg hk6] at hstep
          have HSP := hid (hsp.out.trans hstep)
          have HG := hid (fun (W : World) (hW : RdAt W g B a s6) => (by have := rd_good W hW; rw [decide_eq_false hk6] at this; exact this : Calls Tryz.prog 96 #[.pointer (some ⟨g, 0, none⟩)] W fun r w' => r = .returned (.bool false) ∧ Below W.heap.size W w'))
          obtain ⟨y0, y1, f0, f1, hl6⟩ := f_blk BK6
          clear hsp hstep hk6 hv6
          go_wp2_with fail
          refine (HG.out _ (HIN6.out.row ((by (repeat (first | with_reducible exact Below.refl _ _ | with_reducible assumption | (with_reducible refine below_alloc ?_ _) | (with_reducible refine Below.setCell ?_ (by first | omega | (simp; done) | (simp; omega)) _) | (with_reducible refine Below.drew ?_) | (with_reducible refine below_drewN ?_ _) | (refine below_then (by with_reducible assumption) ?_))) : Below w3.heap.size w6 _).mono hsz3)).rd).mono ?_
          rintro r w7 ⟨rfl, hb7⟩
          have hb67 : Below w3.heap.size w6 w7 := (by (repeat (first | with_reducible exact Below.refl _ _ | with_reducible assumption | (with_reducible refine below_alloc ?_ _) | (with_reducible refine Below.setCell ?_ (by first | omega | (simp; done) | (simp; omega)) _) | (with_reducible refine Below.drew ?_) | (with_reducible refine below_drewN ?_ _) | (refine below_then (by with_reducible assumption) ?_))) : Below w3.heap.size w6 (w6.setCell ⟨w3.heap.size, 1, none⟩ (.slice a6 bk.length c6))).trans (hb7.mono (by simp; omega))
          have HE := hid (HIN6.out.row (hb67.mono hsz3)).to
          clear hb7
          go_wp2
          go_ret
          rw [HSP.out]
          exact ⟨.slice none 0 0, rfl, OwnEls.sliceW (e := 0) (Nat.le_refl _) OwnEls.nil, HE.out⟩
      · obtain ⟨m, rfl⟩ : ∃ m, k = m + 1 := ⟨k - 1, by
          have := hJl.out
          have : J.length ≠ 0 := fun e => hJe (List.eq_nil_of_length_eq_zero e)
          omega⟩
        have hmJ : m < J.length := by have := hJl.out; omega
        have hlast : J.getLast?.map Link.stream = some J[m].stream := by
          have := hJl.out
          rw [List.getLast?_eq_getElem?, this, Nat.add_sub_cancel, List.getElem?_eq_getElem hmJ]
          rfl
        have hzb := hJb.out J[m] (List.getElem_mem hmJ)
        obtain ⟨bq, o, hA, hbb, a1, c1, hc0, hc1, hst, hd⟩ := link_at (OwnEls.slice (Nat.le_refl _) HO.out) hmJ
        subst hA
        have hbg : bq ≠ g := by have := hbb.1; omega
        have hbr : bq < wr.heap.size := hbb.2
        have hstep : Rs.linksF B pos (N - (m + 1)) st (J.getLast?.map Link.stream) J = (if ((st.stream B (some J[m].stream)).1.delta B pos 4).1.k = 0 then Rs.linksF B pos (N - (m + 1 + 1)) ((st.stream B (some J[m].stream)).1.delta B pos 4).1 (some (st.stream B (some J[m].stream)).2) (J ++ [⟨(st.stream B (some J[m].stream)).2, ((st.stream B (some J[m].stream)).1.delta B pos 4).2⟩]) else (((st.stream B (some J[m].stream)).1.delta B pos 4).1, [])) := by
          rw [hlast, show N - (m + 1) = (N - (m + 1 + 1)) + 1 by omega]; rfl
        clear hlast hd hc1 hbb
        generalize J[m] = z at *
        have i1' : (m : Int) + 1 < (N : Int) := by omega
        have i2 : (m : Int) < (J.length : Int) := by omega
        have d2 : decide ((m : Int) + 1 < (N : Int)) = true := decide_eq_true i1'
        have e1 := not_u64 hzb
        have hsg : IntKind.u64.signed = false := rfl
        by_cases hf : 18446744073709551615 - z.stream ≤ ((st.num B).2 : Int)
        · have hS : (st.stream B (some z.stream)).1 = (st.num B).1.fail 13 st.p := by
            simp only [Rs.stream]
            rw [if_pos hf]
          have hbad : ((st.stream B (some z.stream)).1.delta B pos 4).1.k ≠ 0 := fun e => (Rs.fail_k (s := (st.num B).1) (c := 13) (at_ := (st.p : Int)) (by omega)) (by rw [← hS]; exact (Rs.delta_canon (Rs.stream_ok hin.out.rd.ok) hpos.2 e).2.2.2.2)
          rw [if_neg hbad, hS] at hstep
          rw [hS] at hbad
          clear hS
          generalize st.num B = R at *
          obtain ⟨st1, x⟩ := R
          dsimp only at *
          have d4 : decide (bits BinOp.xor IntKind.u64 IntKind.u64.max z.stream ≤ (x : Int)) = true := by rw [e1]; exact decide_eq_true hf
          clear hf e1
          have HD := hid (fun (W : World) (hW : RdAt W g B a (st1.fail 13 (st.p : Int))) => delta_read W hW hB pos hpos 4 (by omega))
          generalize (st1.fail 13 (st.p : Int)).delta B pos 4 = D at *
          obtain ⟨s6, bk⟩ := D
          dsimp only at *

          go_wp2_with fail
          refine HAT.out.mono ?_
          rintro r w2 ⟨rfl, rfl⟩
          go_wp2_with fail
          refine HVR.out.mono ?_
          rintro r w3 ⟨rfl, hst3⟩
          have HIN3 := hid (hin.out.step hst3)
          have HO3 := hid (OwnEls.tch3 HO.out (hst3.2.mono fun b hb e => .inl e) hlt)
          have hsz3 := HIN3.out.tch.size
          have X0 := (hst3.2.cell (p := ⟨bq, o + m * 2, none⟩) hbr hbg).trans hc0
          have hb3 : bq < w3.heap.size := Nat.lt_of_lt_of_le hbr hst3.2.size
          clear hst3 hc0
          go_wp2_with fail

          refine (rd_fail _ (HIN3.out.row ((by (repeat (first | with_reducible exact Below.refl _ _ | with_reducible assumption | (with_reducible refine below_alloc ?_ _) | (with_reducible refine Below.setCell ?_ (by first | omega | (simp; done) | (simp; omega)) _) | (with_reducible refine Below.drew ?_) | (with_reducible refine below_drewN ?_ _) | (refine below_then (by with_reducible assumption) ?_))) : Below w3.heap.size w3 _).mono hsz3)).rd 13 (st.p : Int) (by omega)).mono ?_
          rintro r w4 ⟨rfl, hst4⟩
          have B4 : Blk w4 w3.heap.size 209 #[.int .u64 (x : Int), .slice none 0 0] := Blk.tch (by (repeat (first | assumption | exact Blk.newAt _ _ _ (by first | (simp; done) | (simp; omega)) | refine Blk.alloc ?_ _ | refine Blk.drew ?_ | refine Blk.drewN ?_ _ | refine Blk.far ?_ (by first | (simp; done) | (simp; omega)) _))) hst4.2 (by omega)
          have HIN4 := hid ((HIN3.out.row ((by (repeat (first | with_reducible exact Below.refl _ _ | with_reducible assumption | (with_reducible refine below_alloc ?_ _) | (with_reducible refine Below.setCell ?_ (by first | omega | (simp; done) | (simp; omega)) _) | (with_reducible refine Below.drew ?_) | (with_reducible refine below_drewN ?_ _) | (refine below_then (by with_reducible assumption) ?_))) : Below w3.heap.size w3 _).mono hsz3)).step hst4)
          have hsz4 := hst4.2.size
          obtain ⟨q0, q1, e0, e1, l4⟩ := f_blk B4
          clear hst4
          go_wp2_with fail
          refine (HD.out _ (HIN4.out.row ((by (repeat (first | with_reducible exact Below.refl _ _ | with_reducible assumption | (with_reducible refine below_alloc ?_ _) | (with_reducible refine Below.setCell ?_ (by first | omega | (simp; done) | (simp; omega)) _) | (with_reducible refine Below.drew ?_) | (with_reducible refine below_drewN ?_ _) | (refine below_then (by with_reducible assumption) ?_))) : Below w3.heap.size w4 _).mono hsz3)).rd).mono ?_
          rintro r w6 ⟨v6, rfl, hv6, hst6⟩
          obtain ⟨a6, c6, hfv, _, _⟩ := sl_form hv6
          simp only [List.cons.injEq, and_true] at hfv
          subst hfv
          have BK6 : Blk w6 w3.heap.size 209 #[_, .slice none 0 0] := Blk.tch (B4.set 0 _) hst6.2 (by omega)
          have HIN6 := hid ((HIN4.out.row ((by (repeat (first | with_reducible exact Below.refl _ _ | with_reducible assumption | (with_reducible refine below_alloc ?_ _) | (with_reducible refine Below.setCell ?_ (by first | omega | (simp; done) | (simp; omega)) _) | (with_reducible refine Below.drew ?_) | (with_reducible refine below_drewN ?_ _) | (refine below_then (by with_reducible assumption) ?_))) : Below w3.heap.size w4 _).mono hsz3)).step hst6)
          have HSP := hid (hsp.out.trans hstep)
          have HG := hid (fun (W : World) (hW : RdAt W g B a s6) => (by have := rd_good W hW; rw [decide_eq_false hbad] at this; exact this : Calls Tryz.prog 96 #[.pointer (some ⟨g, 0, none⟩)] W fun r w' => r = .returned (.bool false) ∧ Below W.heap.size W w'))
          obtain ⟨y0, y1, f0, f1, hl6⟩ := f_blk BK6
          clear hsp hstep hbad hv6 B4 q0 q1 e0 e1 l4
          go_wp2_with fail
          refine (HG.out _ (HIN6.out.row ((by (repeat (first | with_reducible exact Below.refl _ _ | with_reducible assumption | (with_reducible refine below_alloc ?_ _) | (with_reducible refine Below.setCell ?_ (by first | omega | (simp; done) | (simp; omega)) _) | (with_reducible refine Below.drew ?_) | (with_reducible refine below_drewN ?_ _) | (refine below_then (by with_reducible assumption) ?_))) : Below w3.heap.size w6 _).mono hsz3)).rd).mono ?_
          rintro r w7 ⟨rfl, hb7⟩
          have hb67 : Below w3.heap.size w6 w7 := (by (repeat (first | with_reducible exact Below.refl _ _ | with_reducible assumption | (with_reducible refine below_alloc ?_ _) | (with_reducible refine Below.setCell ?_ (by first | omega | (simp; done) | (simp; omega)) _) | (with_reducible refine Below.drew ?_) | (with_reducible refine below_drewN ?_ _) | (refine below_then (by with_reducible assumption) ?_))) : Below w3.heap.size w6 (w6.setCell ⟨w3.heap.size, 1, none⟩ (.slice a6 bk.length c6))).trans (hb7.mono (by simp; omega))
          have HE := hid (HIN6.out.row (hb67.mono hsz3)).to
          clear hb7
          go_wp2
          go_ret
          rw [HSP.out]
          exact ⟨.slice none 0 0, rfl, OwnEls.sliceW (e := 0) (Nat.le_refl _) OwnEls.nil, HE.out⟩
        · have hS : st.stream B (some z.stream) = ((st.num B).1, ((st.num B).2 : Int) + (z.stream + 1)) := by
            simp only [Rs.stream]
            rw [if_neg hf, Int.add_assoc]
          rw [hS] at hstep
          clear hS
          generalize st.num B = R at *
          obtain ⟨st1, x⟩ := R
          dsimp only at *
          have hxb : (0 : Int) ≤ (x : Int) + (z.stream + 1) ∧ (x : Int) + (z.stream + 1) ≤ 18446744073709551615 := by omega
          have d4 : decide (bits BinOp.xor IntKind.u64 IntKind.u64.max z.stream ≤ (x : Int)) = false := by rw [e1]; exact decide_eq_false hf
          have v1 : 0 ≤ z.stream + 1 := by omega
          have v2 : z.stream + 1 ≤ 18446744073709551615 := by omega
          have v3 := hxb.1
          have v4 := hxb.2
          clear hf e1
          have HD := hid (fun (W : World) (hW : RdAt W g B a st1) => delta_read W hW hB pos hpos 4 (by omega))
          generalize st1.delta B pos 4 = D at *
          obtain ⟨s6, bk⟩ := D
          dsimp only at *

          go_wp2_with fail
          refine HAT.out.mono ?_
          rintro r w2 ⟨rfl, rfl⟩
          go_wp2_with fail
          refine HVR.out.mono ?_
          rintro r w3 ⟨rfl, hst3⟩
          have HIN3 := hid (hin.out.step hst3)
          have HO3 := hid (OwnEls.tch3 HO.out (hst3.2.mono fun b hb e => .inl e) hlt)
          have hsz3 := HIN3.out.tch.size
          have X0 := (hst3.2.cell (p := ⟨bq, o + m * 2, none⟩) hbr hbg).trans hc0
          have hb3 : bq < w3.heap.size := Nat.lt_of_lt_of_le hbr hst3.2.size
          clear hst3 hc0
          go_wp2_with fail

          refine (HD.out _ (HIN3.out.row ((by (repeat (first | with_reducible exact Below.refl _ _ | with_reducible assumption | (with_reducible refine below_alloc ?_ _) | (with_reducible refine Below.setCell ?_ (by first | omega | (simp; done) | (simp; omega)) _) | (with_reducible refine Below.drew ?_) | (with_reducible refine below_drewN ?_ _) | (refine below_then (by with_reducible assumption) ?_))) : Below w3.heap.size w3 _).mono hsz3)).rd).mono ?_
          rintro r w6 ⟨v6, rfl, hv6, hst6⟩
          obtain ⟨a6, c6, hfv, _, _⟩ := sl_form hv6
          simp only [List.cons.injEq, and_true] at hfv
          subst hfv
          have BK6 : Blk w6 w3.heap.size 209 #[.int .u64 ((x : Int) + (z.stream + 1)), .slice none 0 0] := Blk.tch (by (repeat (first | assumption | exact Blk.newAt _ _ _ (by first | (simp; done) | (simp; omega)) | refine Blk.alloc ?_ _ | refine Blk.drew ?_ | refine Blk.drewN ?_ _ | refine Blk.far ?_ (by first | (simp; done) | (simp; omega)) _))) hst6.2 (by omega)
          have HIN6 := hid ((HIN3.out.row ((by (repeat (first | with_reducible exact Below.refl _ _ | with_reducible assumption | (with_reducible refine below_alloc ?_ _) | (with_reducible refine Below.setCell ?_ (by first | omega | (simp; done) | (simp; omega)) _) | (with_reducible refine Below.drew ?_) | (with_reducible refine below_drewN ?_ _) | (refine below_then (by with_reducible assumption) ?_))) : Below w3.heap.size w3 _).mono hsz3)).step hst6)
          have HK6 : Hid (Tch (fun b => b = g ∨ w3.heap.size ≤ b) w3 w6) := hid ((Tch.of_below (by (repeat (first | with_reducible exact Below.refl _ _ | with_reducible assumption | (with_reducible refine below_alloc ?_ _) | (with_reducible refine Below.setCell ?_ (by first | omega | (simp; done) | (simp; omega)) _) | (with_reducible refine Below.drew ?_) | (with_reducible refine below_drewN ?_ _) | (refine below_then (by with_reducible assumption) ?_))) : Below w3.heap.size w3 _)).mono (fun b hb e => .inr e) |>.trans hst6.2 (fun b hb e => .inl e))
          by_cases hk6 : s6.k = 0
          · rw [if_pos hk6] at hstep
            have HSP := hid (hsp.out.trans hstep)
            have HG := hid (fun (W : World) (hW : RdAt W g B a s6) => (by have := rd_good W hW; rw [decide_eq_true hk6] at this; exact this : Calls Tryz.prog 96 #[.pointer (some ⟨g, 0, none⟩)] W fun r w' => r = .returned (.bool true) ∧ Below W.heap.size W w'))
            obtain ⟨y0, y1, f0, f1, hl6⟩ := f_blk BK6
            have HV6 := hid hv6
            have hq6 := hst6.2.size
            simp at hq6
            clear hsp hstep hk6 hv6 hst6
            go_wp2_with fail
            refine (HG.out _ (HIN6.out.row ((by (repeat (first | with_reducible exact Below.refl _ _ | with_reducible assumption | (with_reducible refine below_alloc ?_ _) | (with_reducible refine Below.setCell ?_ (by first | omega | (simp; done) | (simp; omega)) _) | (with_reducible refine Below.drew ?_) | (with_reducible refine below_drewN ?_ _) | (refine below_then (by with_reducible assumption) ?_))) : Below w3.heap.size w6 _).mono hsz3)).rd).mono ?_
            rintro r w7 ⟨rfl, hb7⟩
            have B7 : Blk w7 w3.heap.size 209 #[.int .u64 ((x : Int) + (z.stream + 1)), .slice a6 bk.length c6] := Blk.later (BK6.set 1 _) hb7
            obtain ⟨z0, z1, _, _, hl7⟩ := f_blk B7
            have hb67 : Below w3.heap.size w6 w7 := (by (repeat (first | with_reducible exact Below.refl _ _ | with_reducible assumption | (with_reducible refine below_alloc ?_ _) | (with_reducible refine Below.setCell ?_ (by first | omega | (simp; done) | (simp; omega)) _) | (with_reducible refine Below.drew ?_) | (with_reducible refine below_drewN ?_ _) | (refine below_then (by with_reducible assumption) ?_))) : Below w3.heap.size w6 (w6.setCell ⟨w3.heap.size, 1, none⟩ (.slice a6 bk.length c6))).trans (hb7.mono (by simp; omega))
            have HIN7 := hid (HIN6.out.row (hb67.mono hsz3))
            have hsz7 := HIN7.out.tch.size
            have hk7 : Tch (fun b => b = g ∨ w3.heap.size ≤ b) w3 w7 := HK6.out.trans (Tch.of_below hb67) (fun b hb hle => .inr hle)
            have O7 := OwnEls.tch3 HO3.out hk7 hlt
            obtain ⟨cells0, OA0⟩ := HO3.out
            have hlt0 : ∀ g', (Value.slice (some ⟨bq, o, none⟩) J.length cv).ownBlock = some g' → g' < w3.heap.size := fun g' e => (OA0.1.lt g' e).2
            obtain ⟨cells, OA⟩ := OwnEls.below O7 (show Below w7.heap.size w7 (w7.alloc (.cells #[.int .u64 ((x : Int) + (z.stream + 1)), .slice a6 bk.length c6] 209)) from by (repeat (first | with_reducible exact Below.refl _ _ | with_reducible assumption | (with_reducible refine below_alloc ?_ _) | (with_reducible refine Below.setCell ?_ (by first | omega | (simp; done) | (simp; omega)) _) | (with_reducible refine Below.drew ?_) | (with_reducible refine below_drewN ?_ _) | (refine below_then (by with_reducible assumption) ?_))))
            have hk8 : ∀ b, w3.heap.size + 1 ≤ b → b < w6.heap.size → (w7.alloc (.cells #[.int .u64 ((x : Int) + (z.stream + 1)), .slice a6 bk.length c6] 209)).heap[b]? = w6.heap[b]? := fun b h1 h2 => (Below.heap_alloc w7 _ b (by have := hb67.size; omega)).trans ((hb7.block b (by simpa using h2)).trans (Below.heap_setCell _ _ _ _ (by dsimp only; omega)))
            have hv8 := rU64s.keep (w' := (w7.alloc (.cells #[.int .u64 ((x : Int) + (z.stream + 1)), .slice a6 bk.length c6] 209))) HV6.out (fun b (hb : (w3.alloc (.cells #[.int .u64 ((x : Int) + (z.stream + 1)), .slice none 0 0] 209)).heap.size ≤ b ∧ b < w6.heap.size) => hk8 b (by have := hb.1; simp at this; omega) hb.2)
            have hx8 : rLink.r (fun b => w.heap.size ≤ b ∧ b < (w7.alloc (.cells #[.int .u64 ((x : Int) + (z.stream + 1)), .slice a6 bk.length c6] 209)).heap.size ∧ (Value.slice (some ⟨bq, o, none⟩) J.length cv).ownBlock ≠ some b) (w7.alloc (.cells #[.int .u64 ((x : Int) + (z.stream + 1)), .slice a6 bk.length c6] 209)) [.int .u64 ((x : Int) + (z.stream + 1)), .slice a6 bk.length c6] ⟨((x : Int) + (z.stream + 1)), bk⟩ := by
              refine link_mk (x := ⟨((x : Int) + (z.stream + 1)), bk⟩) hxb (rU64s.mono hv8 fun b hb => ?_)
              have h1 := hb.1
              have h2 := hb.2
              have h3 := hb67.size
              simp at h1
              refine ⟨by omega, by simp; omega, fun e => ?_⟩
              have := hlt0 b e
              omega
            have HX := hid hx8
            have HA := hid OA
            have HS9 : Hid (w.heap.size ≤ (w7.alloc (.cells #[.int .u64 ((x : Int) + (z.stream + 1)), .slice a6 bk.length c6] 209)).heap.size) := hid (by simp; omega)
            clear hx8 hv8 OA OA0 hlt0 hk8 O7 hk7 hb67 hb7 B7 y0 y1 f0 f1 HV6
            go_wp2_with (at_builtin; go_loud (refine wpList_append_src rfl _ _ _ rfl w.heap.size 209 i0 (.agg #[.int .u64 0, .slice none 0 0]) 2 32 Tryz.underlying73 hi hz0 hz1 hz2 rfl (by decide) (.slice (some ⟨bq, o, none⟩) J.length cv) J.length _ rfl HA.out.1 (some ⟨w7.heap.size, 0, none⟩) 1 1 [.int .u64 ((x : Int) + (z.stream + 1)), .slice a6 bk.length c6] rfl (src_new1 w7 209 _ rfl rfl rfl) (by intro u hu; simp at hu; rcases hu with rfl | rfl <;> rfl) (by simp only [maxLen]; omega) (by omega) HS9.out ?_; intro v1 w9 hown1 hgrow1 hat1; have OP := hid (OwnEls.push HA.out rfl HX.out hown1 hgrow1 hat1 hgrow1.size); have hb9 : Below w.heap.size w7 w9 := (Below.grown ((by (repeat (first | with_reducible exact Below.refl _ _ | with_reducible assumption | (with_reducible refine below_alloc ?_ _) | (with_reducible refine Below.setCell ?_ (by first | omega | (simp; done) | (simp; omega)) _) | (with_reducible refine Below.drew ?_) | (with_reducible refine below_drewN ?_ _) | (refine below_then (by with_reducible assumption) ?_))) : Below w7.heap.size w7 _).mono hsz7) hgrow1 HS9.out (fun g e => (HA.out.1.lt g e).1)); clear hown1 hgrow1 hat1))
            have HIN9 := hid (HIN7.out.row hb9)
            have HJ9 : Hid (∀ y ∈ J ++ [(⟨((x : Int) + (z.stream + 1)), bk⟩ : Link)], 0 ≤ y.stream ∧ y.stream ≤ 18446744073709551615) := hid (fun y hy => by
              rw [List.mem_append, List.mem_singleton] at hy
              rcases hy with hy | rfl
              · exact hJb.out y hy
              · exact hxb)
            go_roundw
            case rel => exact ⟨m + 1 + 1, J ++ [⟨((x : Int) + (z.stream + 1)), bk⟩], s6, by omega, by go_num, hid (by rw [List.length_append, hJl.out]; rfl), OP.out, HJ9, HIN9, hid (by rw [HSP.out]; simp)⟩
            case measure => simp [intOf]; omega
          · rw [if_neg hk6] at hstep
            have HSP := hid (hsp.out.trans hstep)
            have HG := hid (fun (W : World) (hW : RdAt W g B a s6) => (by have := rd_good W hW; rw [decide_eq_false hk6] at this; exact this : Calls Tryz.prog 96 #[.pointer (some ⟨g, 0, none⟩)] W fun r w' => r = .returned (.bool false) ∧ Below W.heap.size W w'))
            obtain ⟨y0, y1, f0, f1, hl6⟩ := f_blk BK6
            clear hsp hstep hk6 hv6
            go_wp2_with fail
            refine (HG.out _ (HIN6.out.row ((by (repeat (first | with_reducible exact Below.refl _ _ | with_reducible assumption | (with_reducible refine below_alloc ?_ _) | (with_reducible refine Below.setCell ?_ (by first | omega | (simp; done) | (simp; omega)) _) | (with_reducible refine Below.drew ?_) | (with_reducible refine below_drewN ?_ _) | (refine below_then (by with_reducible assumption) ?_))) : Below w3.heap.size w6 _).mono hsz3)).rd).mono ?_
            rintro r w7 ⟨rfl, hb7⟩
            have hb67 : Below w3.heap.size w6 w7 := (by (repeat (first | with_reducible exact Below.refl _ _ | with_reducible assumption | (with_reducible refine below_alloc ?_ _) | (with_reducible refine Below.setCell ?_ (by first | omega | (simp; done) | (simp; omega)) _) | (with_reducible refine Below.drew ?_) | (with_reducible refine below_drewN ?_ _) | (refine below_then (by with_reducible assumption) ?_))) : Below w3.heap.size w6 (w6.setCell ⟨w3.heap.size, 1, none⟩ (.slice a6 bk.length c6))).trans (hb7.mono (by simp; omega))
            have HE := hid (HIN6.out.row (hb67.mono hsz3)).to
            clear hb7
            go_wp2
            go_ret
            rw [HSP.out]
            exact ⟨.slice none 0 0, rfl, OwnEls.sliceW (e := 0) (Nat.le_refl _) OwnEls.nil, HE.out⟩
    · obtain rfl : k = N := by omega
      have hE := hsp.out
      rw [Nat.sub_self] at hE
      have HSP : Hid (Rs.linksF B pos k s1 none [] = (st, J)) := hid hE
      have hv := OwnEls.sliceW (Nat.le_refl _) hown
      have HV := hid hv
      have HE := hid hin.out.to
      clear hE hv hown
      go_wp2
      go_ret
      rw [HSP.out]
      exact ⟨_, rfl, HV.out, HE.out⟩
end Go.Proofs.YtkipiefcnjfdjaaGreat
namespace Go.Proofs.YtkipiefcnjfdjaaGreat
open Go.RowKit Go.Bs Go.Maps
set_option linter.unusedVariables false
set_option linter.unusedSimpArgs false

set_option maxRecDepth 100000 in
set_option maxHeartbeats 3200000 in
theorem entry_readhead (w : World) {g : Nat} {B : List UInt8} {a : Option Addr} {s : Rs} (h : RdAt w g B a s) (hB : B.length ≤ 1000000000) (pos : Int) (hpos : 0 ≤ pos ∧ pos ≤ 18446744073709551615) (most : Int) (hmo : -9223372036854775808 ≤ most ∧ most ≤ 9223372036854775807) :
    Calls Tryz.prog 211 #[.pointer (some ⟨g, 0, none⟩), .int .u64 pos, .int .i64 most] w fun r w' => ∃ v, r = .returned (.tuple #[.agg #[v, .slice none 0 0], .int .i64 ((s.ehead B pos most).2.2 : Int)]) ∧ rLinksW.r (Fresh w w') w' [v] (s.ehead B pos most).2.1 ∧ RdStep w g B a (s.ehead B pos most).1 w' := by
  have HLN := hid (fun (W : World) (hW : RdAt W g B a s) => link_read W hW hB pos hpos)
  have HIT := hid (fun (W : World) (hW : RdAt W g B a (s.links B pos).1) => varint_int W hW (by omega) most hmo)
  have HIN := hid (RdInv.refl h)
  have hlt := h.blk.lt
  unfold Rs.ehead
  generalize s.links B pos = LK at *
  obtain ⟨s1, l⟩ := LK
  dsimp only at *
  generalize s1.int B most = I at *
  obtain ⟨s2, n⟩ := I
  dsimp only at *
  clear h
  by_cases hk : s2.k = 0
  · rw [if_pos hk]
    have HG := hid (fun (W : World) (hW : RdAt W g B a s2) => (by have := rd_good W hW; rw [decide_eq_true hk] at this; exact this : Calls Tryz.prog 96 #[.pointer (some ⟨g, 0, none⟩)] W fun r w' => r = .returned (.bool true) ∧ Below W.heap.size W w'))
    clear hk
    go_enter Tryz.func211, Tryz.ntmps211
    go_wp2_with fail
    refine (HLN.out _ (HIN.out.row (by (repeat (first | with_reducible exact Below.refl _ _ | with_reducible assumption | (with_reducible refine below_alloc ?_ _) | (with_reducible refine Below.setCell ?_ (by first | omega | (simp; done) | (simp; omega)) _) | (with_reducible refine Below.drew ?_) | (with_reducible refine below_drewN ?_ _) | (refine below_then (by with_reducible assumption) ?_))))).rd).mono ?_
    rintro r w1 ⟨v1, rfl, hv1, hst1⟩
    have HIN1 := hid ((HIN.out.row (by (repeat (first | with_reducible exact Below.refl _ _ | with_reducible assumption | (with_reducible refine below_alloc ?_ _) | (with_reducible refine Below.setCell ?_ (by first | omega | (simp; done) | (simp; omega)) _) | (with_reducible refine Below.drew ?_) | (with_reducible refine below_drewN ?_ _) | (refine below_then (by with_reducible assumption) ?_))))).step hst1)
    have R1 : Blk w1 w.heap.size 75 #[.slice none 0 0, .slice none 0 0] := Blk.tch (by (repeat (first | assumption | exact Blk.newAt _ _ _ (by first | (simp; done) | (simp; omega)) | refine Blk.alloc ?_ _ | refine Blk.drew ?_ | refine Blk.drewN ?_ _ | refine Blk.far ?_ (by first | (simp; done) | (simp; omega)) _))) hst1.2 (by omega)
    have hz1 := HIN1.out.tch.size
    have hr1 := R1.lt
    obtain ⟨a1, c1, hfv, _, _⟩ := sl_form (linksW_links hv1)
    simp only [List.cons.injEq, and_true] at hfv
    subst hfv
    have HV1 := hid hv1
    clear hst1 hv1
    go_wp2_with fail
    refine (HIT.out _ (HIN1.out.row ((by (repeat (first | with_reducible exact Below.refl _ _ | with_reducible assumption | (with_reducible refine below_alloc ?_ _) | (with_reducible refine Below.setCell ?_ (by first | omega | (simp; done) | (simp; omega)) _) | (with_reducible refine Below.drew ?_) | (with_reducible refine below_drewN ?_ _) | (refine below_then (by with_reducible assumption) ?_))) : Below w1.heap.size w1 _).mono hz1)).rd).mono ?_
    rintro r w2 ⟨rfl, hst2⟩
    have hT2 := hst2.2
    have hz2 := hst2.2.size
    have HIN2 := hid ((HIN1.out.row ((by (repeat (first | with_reducible exact Below.refl _ _ | with_reducible assumption | (with_reducible refine below_alloc ?_ _) | (with_reducible refine Below.setCell ?_ (by first | omega | (simp; done) | (simp; omega)) _) | (with_reducible refine Below.drew ?_) | (with_reducible refine below_drewN ?_ _) | (refine below_then (by with_reducible assumption) ?_))) : Below w1.heap.size w1 _).mono hz1)).step hst2)
    have B2 : Blk w2 w1.heap.size 75 #[.slice a1 l.length c1, .slice none 0 0] := Blk.tch (by (repeat (first | assumption | exact Blk.newAt _ _ _ (by first | (simp; done) | (simp; omega)) | refine Blk.alloc ?_ _ | refine Blk.drew ?_ | refine Blk.drewN ?_ _ | refine Blk.far ?_ (by first | (simp; done) | (simp; omega)) _))) hst2.2 (by omega)
    have R2 : Blk w2 w.heap.size 75 #[.slice none 0 0, .slice none 0 0] := Blk.tch (Blk.later R1 (by (repeat (first | with_reducible exact Below.refl _ _ | with_reducible assumption | (with_reducible refine below_alloc ?_ _) | (with_reducible refine Below.setCell ?_ (by first | omega | (simp; done) | (simp; omega)) _) | (with_reducible refine Below.drew ?_) | (with_reducible refine below_drewN ?_ _) | (refine below_then (by with_reducible assumption) ?_))) : Below w1.heap.size w1 _)) hst2.2 (by omega)
    go_wp2_with fail
    refine (HG.out _ HIN2.out.rd).mono ?_
    rintro r w3 ⟨rfl, hb3⟩
    have HIN3 := hid (HIN2.out.row (hb3.mono HIN2.out.tch.size))
    have B3 := B2.later hb3
    have R3 := R2.later hb3
    obtain ⟨x0, x1, f0, f1, l3⟩ := f_blk B3
    obtain ⟨y0, y1, g0, g1, m3⟩ := f_blk R3
    go_wp2

    have RF : Blk ((w3.setCell ⟨w.heap.size, 0, none⟩ (.slice a1 l.length c1)).setCell ⟨w.heap.size, 1, none⟩ (.slice none 0 0)) w.heap.size 75 #[.slice a1 l.length c1, .slice none 0 0] := (R3.set 0 _).set 1 _
    obtain ⟨u0, u1, _, _, lF⟩ := f_blk RF
    have HF : Below w.heap.size w3 ((w3.setCell ⟨w.heap.size, 0, none⟩ (.slice a1 l.length c1)).setCell ⟨w.heap.size, 1, none⟩ (.slice none 0 0)) := by (repeat (first | with_reducible exact Below.refl _ _ | with_reducible assumption | (with_reducible refine below_alloc ?_ _) | (with_reducible refine Below.setCell ?_ (by first | omega | (simp; done) | (simp; omega)) _) | (with_reducible refine Below.drew ?_) | (with_reducible refine below_drewN ?_ _) | (refine below_then (by with_reducible assumption) ?_)))
    have HINF := HIN3.out.row HF

    simp at hz2
    have hz3 := hb3.size
    have hkk : ∀ q, w.heap.size + 1 ≤ q → q < w1.heap.size → ((w3.setCell ⟨w.heap.size, 0, none⟩ (.slice a1 l.length c1)).setCell ⟨w.heap.size, 1, none⟩ (.slice none 0 0)).heap[q]? = w1.heap[q]? := fun q h1 h2 =>
      ((Below.heap_setCell _ _ _ _ (by dsimp only; omega)).trans (Below.heap_setCell _ _ _ _ (by dsimp only; omega))).trans ((hb3.block q (by omega)).trans ((hT2.block q (by simp; omega) (by omega)).trans (Below.heap_alloc w1 _ q h2)))
    have hvF : rLinksW.r (Fresh w ((w3.setCell ⟨w.heap.size, 0, none⟩ (.slice a1 l.length c1)).setCell ⟨w.heap.size, 1, none⟩ (.slice none 0 0))) ((w3.setCell ⟨w.heap.size, 0, none⟩ (.slice a1 l.length c1)).setCell ⟨w.heap.size, 1, none⟩ (.slice none 0 0)) [.slice a1 l.length c1] l := rLinksW.mono (rLinksW.keep HV1.out (fun q hq => hkk q (by have := hq.1; simp at this; omega) hq.2)) (fun q hq => ⟨by have := hq.1; simp at this; omega, by have := hq.2; simp; omega⟩)
    refine bodyPost_ret (v := .tuple #[.agg #[.slice a1 l.length c1, .slice none 0 0], .int .i64 n]) (by simp [results, Tryz.results211, go_sem, u0, u1, lF]) rfl ⟨_, rfl, hvF, HINF.to⟩
  · rw [if_neg hk]
    have HG := hid (fun (W : World) (hW : RdAt W g B a s2) => (by have := rd_good W hW; rw [decide_eq_false hk] at this; exact this : Calls Tryz.prog 96 #[.pointer (some ⟨g, 0, none⟩)] W fun r w' => r = .returned (.bool false) ∧ Below W.heap.size W w'))
    clear hk
    go_enter Tryz.func211, Tryz.ntmps211
    go_wp2_with fail
    refine (HLN.out _ (HIN.out.row (by (repeat (first | with_reducible exact Below.refl _ _ | with_reducible assumption | (with_reducible refine below_alloc ?_ _) | (with_reducible refine Below.setCell ?_ (by first | omega | (simp; done) | (simp; omega)) _) | (with_reducible refine Below.drew ?_) | (with_reducible refine below_drewN ?_ _) | (refine below_then (by with_reducible assumption) ?_))))).rd).mono ?_
    rintro r w1 ⟨v1, rfl, hv1, hst1⟩
    have HIN1 := hid ((HIN.out.row (by (repeat (first | with_reducible exact Below.refl _ _ | with_reducible assumption | (with_reducible refine below_alloc ?_ _) | (with_reducible refine Below.setCell ?_ (by first | omega | (simp; done) | (simp; omega)) _) | (with_reducible refine Below.drew ?_) | (with_reducible refine below_drewN ?_ _) | (refine below_then (by with_reducible assumption) ?_))))).step hst1)
    have R1 : Blk w1 w.heap.size 75 #[.slice none 0 0, .slice none 0 0] := Blk.tch (by (repeat (first | assumption | exact Blk.newAt _ _ _ (by first | (simp; done) | (simp; omega)) | refine Blk.alloc ?_ _ | refine Blk.drew ?_ | refine Blk.drewN ?_ _ | refine Blk.far ?_ (by first | (simp; done) | (simp; omega)) _))) hst1.2 (by omega)
    have hz1 := HIN1.out.tch.size
    have hr1 := R1.lt
    obtain ⟨a1, c1, hfv, _, _⟩ := sl_form (linksW_links hv1)
    simp only [List.cons.injEq, and_true] at hfv
    subst hfv
    have HV1 := hid hv1
    clear hst1 hv1
    go_wp2_with fail
    refine (HIT.out _ (HIN1.out.row ((by (repeat (first | with_reducible exact Below.refl _ _ | with_reducible assumption | (with_reducible refine below_alloc ?_ _) | (with_reducible refine Below.setCell ?_ (by first | omega | (simp; done) | (simp; omega)) _) | (with_reducible refine Below.drew ?_) | (with_reducible refine below_drewN ?_ _) | (refine below_then (by with_reducible assumption) ?_))) : Below w1.heap.size w1 _).mono hz1)).rd).mono ?_
    rintro r w2 ⟨rfl, hst2⟩
    have hT2 := hst2.2
    have hz2 := hst2.2.size
    have HIN2 := hid ((HIN1.out.row ((by (repeat (first | with_reducible exact Below.refl _ _ | with_reducible assumption | (with_reducible refine below_alloc ?_ _) | (with_reducible refine Below.setCell ?_ (by first | omega | (simp; done) | (simp; omega)) _) | (with_reducible refine Below.drew ?_) | (with_reducible refine below_drewN ?_ _) | (refine below_then (by with_reducible assumption) ?_))) : Below w1.heap.size w1 _).mono hz1)).step hst2)
    have B2 : Blk w2 w1.heap.size 75 #[.slice a1 l.length c1, .slice none 0 0] := Blk.tch (by (repeat (first | assumption | exact Blk.newAt _ _ _ (by first | (simp; done) | (simp; omega)) | refine Blk.alloc ?_ _ | refine Blk.drew ?_ | refine Blk.drewN ?_ _ | refine Blk.far ?_ (by first | (simp; done) | (simp; omega)) _))) hst2.2 (by omega)
    have R2 : Blk w2 w.heap.size 75 #[.slice none 0 0, .slice none 0 0] := Blk.tch (Blk.later R1 (by (repeat (first | with_reducible exact Below.refl _ _ | with_reducible assumption | (with_reducible refine below_alloc ?_ _) | (with_reducible refine Below.setCell ?_ (by first | omega | (simp; done) | (simp; omega)) _) | (with_reducible refine Below.drew ?_) | (with_reducible refine below_drewN ?_ _) | (refine below_then (by with_reducible assumption) ?_))) : Below w1.heap.size w1 _)) hst2.2 (by omega)
    go_wp2_with fail
    refine (HG.out _ HIN2.out.rd).mono ?_
    rintro r w3 ⟨rfl, hb3⟩
    have HIN3 := hid (HIN2.out.row (hb3.mono HIN2.out.tch.size))
    have B3 := B2.later hb3
    have R3 := R2.later hb3
    obtain ⟨x0, x1, f0, f1, l3⟩ := f_blk B3
    obtain ⟨y0, y1, g0, g1, m3⟩ := f_blk R3
    go_wp2

    have RF : Blk ((w3.setCell ⟨w.heap.size, 0, none⟩ (.slice none 0 0)).setCell ⟨w.heap.size, 1, none⟩ (.slice none 0 0)) w.heap.size 75 #[.slice none 0 0, .slice none 0 0] := (R3.set 0 _).set 1 _
    obtain ⟨u0, u1, _, _, lF⟩ := f_blk RF
    have HF : Below w.heap.size w3 ((w3.setCell ⟨w.heap.size, 0, none⟩ (.slice none 0 0)).setCell ⟨w.heap.size, 1, none⟩ (.slice none 0 0)) := by (repeat (first | with_reducible exact Below.refl _ _ | with_reducible assumption | (with_reducible refine below_alloc ?_ _) | (with_reducible refine Below.setCell ?_ (by first | omega | (simp; done) | (simp; omega)) _) | (with_reducible refine Below.drew ?_) | (with_reducible refine below_drewN ?_ _) | (refine below_then (by with_reducible assumption) ?_)))
    have HINF := HIN3.out.row HF

    refine bodyPost_ret (v := .tuple #[.agg #[.slice none 0 0, .slice none 0 0], .int .i64 0]) (by simp [results, Tryz.results211, go_sem, u0, u1, lF]) rfl ⟨_, rfl, OwnEls.sliceW (e := 0) (Nat.le_refl _) OwnEls.nil, HINF.to⟩
end Go.Proofs.YtkipiefcnjfdjaaGreat
namespace Go.Proofs.YtkipiefcnjfdjaaGreat
open Go.RowKit Go.Bs Go.Maps
set_option linter.unusedVariables false
set_option linter.unusedSimpArgs false

def headE (h : List Link × Nat) : Entry := ⟨h.1, []⟩
def sizeCells (l : List (List Link × Nat)) : List Value := l.map fun h => .int .i64 (h.2 : Int)
theorem Rs.ehead_le {B : List UInt8} {s : Rs} {pos most : Int} : (s.ehead B pos most).2.2 ≤ most.toNat := by
  unfold Rs.ehead
  split
  · exact Rs.int_le
  · exact Nat.zero_le _
structure HeadsAt (lo : Nat) (W : World) (v u : Value) (J : List (List Link × Nat)) : Prop where
  els : ∃ cells, OwnElsF (fun b => lo ≤ b ∧ b < W.heap.size ∧ u.ownBlock ≠ some b) rEntryW lo 75 2 W v (J.map headE) cells
  szs : W.ownsRow lo 3 1 u J.length (sizeCells J)
theorem own_ne {W : World} {lo lo' : Nat} {e e' : TypeId} {sz sz' n m : Nat} {v u : Value} {xs ys : List Value} (h : W.ownsRow lo e sz v n xs) (h' : W.ownsRow lo' e' sz' u m ys) (hne : e ≠ e') : ∀ b, v.ownBlock = some b → u.ownBlock ≠ some b := by
  intro b hv hu
  rcases h.2 with ⟨rfl, _⟩ | ⟨g, cap, cur, rfl, _, hg, _⟩
  · cases hv
  · rcases h'.2 with ⟨rfl, _⟩ | ⟨g', cap', cur', rfl, _, hg', _⟩
    · cases hu
    · have e1 : g = b := by simpa [Value.ownBlock] using hv
      have e2 : g' = b := by simpa [Value.ownBlock] using hu
      subst e1 e2
      rw [hg] at hg'
      simp at hg'
      exact hne hg'.2
theorem own_stays {W W' : World} {lo : Nat} {e : TypeId} {sz n : Nat} {v : Value} {xs : List Value} (h : W.ownsRow lo e sz v n xs) (hk : ∀ b, v.ownBlock = some b → b < W.heap.size → W'.heap[b]? = W.heap[b]?) : W'.ownsRow lo e sz v n xs := by
  refine ⟨h.1, ?_⟩
  rcases h.2 with h0 | ⟨g', cap, cur, h1, h2, h3, h4⟩
  · exact .inl h0
  · exact .inr ⟨g', cap, cur, h1, h2, (hk g' (by rw [h1]; rfl) (Blk.lt h3)).trans h3, h4⟩
theorem own_lt {W : World} {lo : Nat} {e : TypeId} {sz n : Nat} {v : Value} {xs : List Value} (h : W.ownsRow lo e sz v n xs) : ∀ b, v.ownBlock = some b → lo ≤ b ∧ b < W.heap.size := by
  intro b hv
  rcases h.2 with ⟨rfl, _⟩ | ⟨g, cap, cur, rfl, hb, hg, _⟩
  · cases hv
  · have e1 : g = b := by simpa [Value.ownBlock] using hv
    subst e1
    exact ⟨hb, Blk.lt hg⟩
theorem HeadsAt.nil {lo : Nat} {W : World} : HeadsAt lo W (.slice none 0 0) (.slice none 0 0) [] := ⟨⟨[], OwnElsF.nil⟩, ⟨rfl, .inl ⟨rfl, rfl⟩⟩⟩
theorem HeadsAt.formv {lo : Nat} {W : World} {v u : Value} {J : List (List Link × Nat)} (h : HeadsAt lo W v u J) : ∃ a c, v = .slice a J.length c := by
  obtain ⟨⟨cells, OA⟩, hu⟩ := h
  have := own_form OA.1
  rwa [List.length_map] at this
theorem HeadsAt.tch {lo g : Nat} {W W' : World} {v u : Value} {J : List (List Link × Nat)} (h : HeadsAt lo W v u J) (hb : Tch (fun b => b = g ∨ W.heap.size ≤ b) W W') (hg : g < lo) : HeadsAt lo W' v u J := by
  obtain ⟨⟨cells, OA⟩, hu⟩ := h
  have hk : ∀ b, lo ≤ b → b < W.heap.size → W'.heap[b]? = W.heap[b]? := fun b h1 h2 => hb.block b h2 (by omega)
  refine ⟨⟨cells, ?_⟩, own_stays hu fun b hv hl => hk b (own_lt hu b hv).1 hl⟩
  refine OwnElsF.mono (OwnElsF.keep OA (fun b h => hk b h.1 h.2.1) fun b hv => hk b (own_lt OA.1 b hv).1 (own_lt OA.1 b hv).2) fun b h => ⟨h.1, Nat.lt_of_lt_of_le h.2.1 hb.size, h.2.2⟩
/-- Behind the first append. -/
structure HeadsMid (lo : Nat) (B : Nat) (W : World) (v u : Value) (J J' : List (List Link × Nat)) : Prop where
  els : ∃ cells, OwnElsF (fun b => lo ≤ b ∧ b < B ∧ u.ownBlock ≠ some b) rEntryW lo 75 2 W v (J'.map headE) cells
  szs : W.ownsRow lo 3 1 u J.length (sizeCells J)
  le : B ≤ W.heap.size
theorem HeadsMid.of {lo : Nat} {W W' : World} {v v' u : Value} {J : List (List Link × Nat)} {x : List Link × Nat} {cells : List (List Value)} {news : List Value}
    (OA : OwnElsF (fun b => lo ≤ b ∧ b < W.heap.size ∧ u.ownBlock ≠ some b) rEntryW lo 75 2 W v (J.map headE) cells) (hu : W.ownsRow lo 3 1 u J.length (sizeCells J))
    (hn : news.length = 2) (hx : rEntryW.r (fun b => (lo ≤ b ∧ b < W.heap.size ∧ u.ownBlock ≠ some b) ∧ v.ownBlock ≠ some b) W news (headE x))
    (hown : W'.ownsRow lo 75 2 v' (J.length + 1) (cells.flatten ++ news)) (hg : W.grownBy W' v.ownBlock) (hat : v'.ownBlock = v.ownBlock ∨ v'.ownBlock = some W.heap.size) : HeadsMid lo W.heap.size W' v' u J (J ++ [x]) := by
  refine ⟨⟨cells ++ [news], ?_⟩, own_stays hu fun b hv hl => hg.block b hl (fun e => own_ne OA.1 hu (by decide) b e.symm hv), hg.size⟩
  rw [List.map_append, List.map_cons, List.map_nil]
  exact OwnElsF.push OA (fun b hb => hb.2.1) hn hx (by simpa using hown) hg hat
theorem HeadsMid.below {lo B : Nat} {W W' : World} {v u : Value} {J J' : List (List Link × Nat)} (h : HeadsMid lo B W v u J J') (hb : Below W.heap.size W W') : HeadsMid lo B W' v u J J' := by
  obtain ⟨⟨cells, OA⟩, hu, hB⟩ := h
  exact ⟨⟨cells, OwnElsF.keep OA (fun b h => hb.block b (by have := h.2.1; omega)) fun b hv => hb.block b (own_lt OA.1 b hv).2⟩, own_stays hu fun b hv hl => hb.block b hl, by have := hb.size; omega⟩
theorem HeadsMid.to {lo B : Nat} {W W' : World} {v u u' : Value} {J : List (List Link × Nat)} {x : List Link × Nat} (h : HeadsMid lo B W v u J (J ++ [x]))
    (hown : W'.ownsRow lo 3 1 u' (J.length + 1) (sizeCells J ++ [.int .i64 (x.2 : Int)])) (hg : W.grownBy W' u.ownBlock) (hat : u'.ownBlock = u.ownBlock ∨ u'.ownBlock = some W.heap.size) : HeadsAt lo W' v u' (J ++ [x]) := by
  obtain ⟨⟨cells, OA⟩, hu, hB⟩ := h
  refine ⟨⟨cells, ?_⟩, ?_⟩
  · refine OwnElsF.mono (OwnElsF.keep OA (fun b h => hg.block b (by have := h.2.1; omega) (fun e => h.2.2 e.symm)) fun b hv => hg.block b (own_lt OA.1 b hv).2 (fun e => own_ne OA.1 hu (by decide) b hv e.symm)) fun b h => ⟨h.1, ?_, fun e => ?_⟩
    · have := h.2.1; have := hg.size; omega
    · rcases hat with h' | h'
      · exact h.2.2 (h' ▸ e)
      · rw [h'] at e; have := Option.some.inj e; have := h.2.1; omega
  · have e : sizeCells (J ++ [x]) = sizeCells J ++ [.int .i64 (x.2 : Int)] := by simp [sizeCells]
    rw [e, List.length_append]
    exact hown
theorem HeadsAt.out {lo : Nat} {W : World} {v u : Value} {J : List (List Link × Nat)} (h : HeadsAt lo W v u J) : rEntriesW.r (fun b => lo ≤ b ∧ b < W.heap.size) W [v] (J.map headE) := by
  obtain ⟨⟨cells, OA⟩, hu⟩ := h
  exact OwnEls.sliceW (Nat.le_refl _) ⟨cells, OwnElsF.to OA fun b h => ⟨h.1, h.2.1⟩⟩
set_option maxRecDepth 100000 in
set_option maxHeartbeats 6400000 in
theorem batch_heads (w : World) {g : Nat} {B : List UInt8} {a : Option Addr} {s : Rs} (h : RdAt w g B a s) (hB : B.length ≤ 1000000000) (pos : Int) (N : Nat) (hN : N ≤ 16) (hpos : 0 ≤ pos ∧ pos + N ≤ 18446744073709551615) :
    Calls Tryz.prog 154 #[.pointer (some ⟨g, 0, none⟩), .int .u64 pos, .int .i64 N] w fun r w' => ∃ v u, r = .returned (.tuple #[v, u]) ∧ HeadsAt w.heap.size w' v u (Rs.heads B N s pos 1048576 []).2 ∧ RdStep w g B a (Rs.heads B N s pos 1048576 []).1 w' := by
  obtain ⟨i0, hi, hz0, hz1, hz2⟩ := info_parts infoEntry
  obtain ⟨j0, hj, hy0, hy1, hy2⟩ := info_parts infoInt
  have hlt := h.blk.lt
  have HIN := hid (RdInv.refl h)
  clear h
  go_enter Tryz.func154, Tryz.ntmps154
  go_wp2
  go_loopw [8, 9, 10, 15] (fun v u l i wr => ∃ (k : Nat) (J : List (List Link × Nat)) (st : Rs) (left : Int), k ≤ N ∧ i = .int .i64 k ∧ l = .int .i64 left ∧ 0 ≤ left ∧ left ≤ 1048576 ∧ Hid (J.length = k) ∧ HeadsAt w.heap.size wr v u J ∧ Hid (RdInv w wr g B a st) ∧ Hid (Rs.heads B N s pos 1048576 [] = Rs.heads B (N - k) st (pos + k) left J)) (fun _ _ _ i _ => N - (intOf i).toNat)
  case atStart => exact ⟨0, [], s, 1048576, Nat.zero_le _, rfl, rfl, by omega, by omega, hid rfl, HeadsAt.nil, HIN, hid (by simp)⟩
  case round =>
    obtain ⟨k, J, st, left, hk, rfl, rfl, hl0, hl1, hJl, hown, hin, hsp⟩ := hrel
    obtain ⟨av, cv, rfl⟩ := HeadsAt.formv hown
    obtain ⟨au, cu, rfl⟩ := own_form hown.szs
    rcases Nat.lt_or_ge k N with hlt2 | hge
    · have HER := hid (entry_readhead wr hin.out.rd hB (pos + k) (by omega) left (by omega))
      have hle := Rs.ehead_le (B := B) (s := st) (pos := pos + k) (most := left)
      have hstep : Rs.heads B (N - k) st (pos + k) left J = (if (st.ehead B (pos + k) left).1.k = 0 then Rs.heads B (N - (k + 1)) (st.ehead B (pos + k) left).1 (pos + k + 1) (left - (st.ehead B (pos + k) left).2.2) (J ++ [(st.ehead B (pos + k) left).2]) else ((st.ehead B (pos + k) left).1, [])) := by
        rw [show N - k = (N - (k + 1)) + 1 by omega]; rfl
      have hsz0 := hin.out.tch.size
      have hJ16 : J.length ≤ 16 := by have := hJl.out; omega
      have i1 : (k : Int) < (N : Int) := by omega
      have d1 : decide ((k : Int) < (N : Int)) = true := decide_eq_true i1
      have d1' : decide (k < N) = true := decide_eq_true hlt2
      have c1 : 0 ≤ pos + (k : Int) := by omega
      have c2 : pos + (k : Int) ≤ 18446744073709551615 := by omega
      have HO := hid hown
      generalize st.ehead B (pos + k) left = EH at *
      obtain ⟨s2, l, n⟩ := EH
      dsimp only at *
      clear hown
      go_wp2_with fail
      refine HER.out.mono ?_
      rintro r w1 ⟨v1, rfl, hv1, hst1⟩
      obtain ⟨a1, c1', hfv, _, _⟩ := sl_form (linksW_links hv1)
      simp only [List.cons.injEq, and_true] at hfv
      subst hfv
      have HIN1 := hid (hin.out.step hst1)
      have HO1 := hid (HeadsAt.tch HO.out (hst1.2.mono fun b hb e => .inl e) hlt)
      have hsz1 := HIN1.out.tch.size
      have HV1 := hid hv1
      clear hst1 hv1
      by_cases hk2 : s2.k = 0
      · rw [if_pos hk2] at hstep
        have HSP := hid (hsp.out.trans hstep)
        have HG := hid (fun (W : World) (hW : RdAt W g B a s2) => (by have := rd_good W hW; rw [decide_eq_true hk2] at this; exact this : Calls Tryz.prog 96 #[.pointer (some ⟨g, 0, none⟩)] W fun r w' => r = .returned (.bool true) ∧ Below W.heap.size W w'))
        have w1' : 0 ≤ left - (n : Int) := by omega
        have w2' : left - (n : Int) ≤ 1048576 := by omega
        clear hsp hstep hk2
        go_wp2_with fail
        refine (HG.out _ (HIN1.out.row ((by (repeat (first | with_reducible exact Below.refl _ _ | with_reducible assumption | (with_reducible refine below_alloc ?_ _) | (with_reducible refine Below.setCell ?_ (by first | omega | (simp; done) | (simp; omega)) _) | (with_reducible refine Below.drew ?_) | (with_reducible refine below_drewN ?_ _) | (refine below_then (by with_reducible assumption) ?_))) : Below w1.heap.size w1 _).mono hsz1)).rd).mono ?_
        rintro r w3 ⟨rfl, hb3⟩
        have B3 : Blk w3 w1.heap.size 75 #[.slice a1 l.length c1', .slice none 0 0] := Blk.later (by (repeat (first | assumption | exact Blk.newAt _ _ _ (by first | (simp; done) | (simp; omega)) | refine Blk.alloc ?_ _ | refine Blk.drew ?_ | refine Blk.drewN ?_ _ | refine Blk.far ?_ (by first | (simp; done) | (simp; omega)) _))) hb3
        have hb13 : Below w1.heap.size w1 w3 := (by (repeat (first | with_reducible exact Below.refl _ _ | with_reducible assumption | (with_reducible refine below_alloc ?_ _) | (with_reducible refine Below.setCell ?_ (by first | omega | (simp; done) | (simp; omega)) _) | (with_reducible refine Below.drew ?_) | (with_reducible refine below_drewN ?_ _) | (refine below_then (by with_reducible assumption) ?_))) : Below w1.heap.size w1 (w1.alloc (.cells #[.slice a1 l.length c1', .slice none 0 0] 75))).trans (hb3.mono (by simp))
        have HIN3 := hid (HIN1.out.row (hb13.mono hsz1))
        obtain ⟨x0, x1, _, _, l3⟩ := f_blk B3
        clear hb3
        have hb14 : Below w1.heap.size w1 (w3.alloc (.cells #[.slice a1 l.length c1', .slice none 0 0] 75)) := hb13.alloc (by have := hb13.size; omega) _
        have k4 : Tch (fun b => b = g ∨ w1.heap.size ≤ b) w1 (w3.alloc (.cells #[.slice a1 l.length c1', .slice none 0 0] 75)) := (Tch.of_below hb14).mono (fun b hb e => .inr e)
        have hsz3 := HIN3.out.tch.size
        obtain ⟨⟨cells, OA⟩, hu4⟩ := HeadsAt.tch HO1.out k4 hlt
        have hlu : ∀ b, (Value.slice au J.length cu).ownBlock = some b → b < wr.heap.size := fun b e => (own_lt HO.out.szs b e).2
        have hlv : ∀ b, (Value.slice av J.length cv).ownBlock = some b → b < wr.heap.size := by
          obtain ⟨⟨cells0, OA0⟩, _⟩ := HO.out
          exact fun b e => (own_lt OA0.1 b (by simpa using e)).2
        have hx : rEntryW.r (fun b => (w.heap.size ≤ b ∧ b < (w3.alloc (.cells #[.slice a1 l.length c1', .slice none 0 0] 75)).heap.size ∧ (Value.slice au J.length cu).ownBlock ≠ some b) ∧ (Value.slice av J.length cv).ownBlock ≠ some b) (w3.alloc (.cells #[.slice a1 l.length c1', .slice none 0 0] 75)) [.slice a1 l.length c1', .slice none 0 0] (headE (l, n)) := by
          have h4s := hb14.size
          refine entryW_mk (rLinksW.mono (rLinksW.keep HV1.out (w' := (w3.alloc (.cells #[.slice a1 l.length c1', .slice none 0 0] 75))) fun b hb => hb14.block b hb.2) fun b hb => ⟨⟨?_, ?_, fun e => ?_⟩, fun e => ?_⟩) (empty_bytes rfl rfl (by omega))
          · have := hb.1; omega
          · have := hb.2; omega
          · have := hlu b e; have := hb.1; omega
          · have := hlv b e; have := hb.1; omega
        have HX := hid hx
        have HA := hid OA
        have HU := hid hu4
        have HS9 : Hid (w.heap.size ≤ (w3.alloc (.cells #[.slice a1 l.length c1', .slice none 0 0] 75)).heap.size) := hid (by simp; omega)
        have HR4 := hid (HIN3.out.row (show Below w.heap.size w3 (w3.alloc (.cells #[.slice a1 l.length c1', .slice none 0 0] 75)) from (Below.refl _ _).alloc hsz3 _))
        have hJm : (J.map headE).length = J.length := by simp
        have HOW : Hid ((w3.alloc (.cells #[.slice a1 l.length c1', .slice none 0 0] 75)).ownsRow w.heap.size 75 2 (.slice av J.length cv) J.length cells.flatten) := hid (by have := OA.1; rwa [hJm] at this)
        clear hx OA hu4 hlu hlv k4 hb14 hJm HV1
        go_wp2_with (first | (at_builtin; go_loud (refine wpList_append_src rfl _ _ _ rfl w.heap.size 75 i0 (.agg #[.slice none 0 0, .slice none 0 0]) 2 48 Tryz.underlying23 hi hz0 hz1 hz2 rfl (by decide) (.slice av J.length cv) J.length _ rfl HOW.out (some ⟨w3.heap.size, 0, none⟩) 1 1 [.slice a1 l.length c1', .slice none 0 0] rfl (src_new1 w3 75 _ rfl rfl rfl) (by intro u hu; simp at hu; rcases hu with rfl | rfl <;> rfl) (by simp only [maxLen]; omega) (by omega) HS9.out ?_; intro v5 w5 hown5 hgrow5 hat5; obtain ⟨a5, c5, rfl⟩ := own_form hown5; have HM5 := hid (HeadsMid.of (x := (l, n)) HA.out HU.out rfl HX.out hown5 hgrow5 hat5); have HIN5 := hid (HR4.out.row (Below.grown (Below.refl _ _) hgrow5 HS9.out (fun g e => (own_lt HOW.out g e).1))); have hsz5 := HIN5.out.tch.size; have HU6 := hid (HeadsMid.below HM5.out (show Below w5.heap.size w5 (w5.alloc (.cells #[.int .i64 (n : Int)] 3)) from (Below.refl _ _).alloc (Nat.le_refl _) _)); have HIN6 := hid (HIN5.out.row (show Below w.heap.size w5 (w5.alloc (.cells #[.int .i64 (n : Int)] 3)) from (Below.refl _ _).alloc hsz5 _)); have HS6 : Hid (w.heap.size ≤ (w5.alloc (.cells #[.int .i64 (n : Int)] 3)).heap.size) := hid (by simp; omega); clear hown5 hgrow5 hat5 hsz5)) | (at_builtin; go_loud (refine wpList_append_src rfl _ _ _ rfl w.heap.size 3 j0 (.int .i64 0) 1 8 Tryz.underlying135 hj hy0 hy1 hy2 rfl (by decide) (.slice au J.length cu) J.length _ rfl HU6.out.szs (some ⟨w5.heap.size, 0, none⟩) 1 1 [.int .i64 (n : Int)] rfl (src_new1 w5 3 _ rfl rfl rfl) (by intro u hu; simp at hu; subst hu; rfl) (by simp only [maxLen]; omega) (by omega) HS6.out ?_; intro v7 w7 hown7 hgrow7 hat7; obtain ⟨a7, c7, rfl⟩ := own_form hown7; have HO7 := hid (HeadsMid.to HU6.out hown7 hgrow7 hat7); have HIN7 := hid (HIN6.out.row (Below.grown (Below.refl _ _) hgrow7 HS6.out (fun g e => (own_lt HU6.out.szs g e).1))); clear hown7 hgrow7 hat7)))
        go_roundw
        case rel => exact ⟨k + 1, J ++ [(l, n)], s2, left - (n : Int), by omega, by go_num, rfl, by omega, by omega, hid (by rw [List.length_append, hJl.out]; rfl), HO7.out, HIN7, hid (by rw [HSP.out]; simp [Int.add_assoc])⟩
        case measure => simp [intOf]; omega
      · rw [if_neg hk2] at hstep
        have HSP := hid (hsp.out.trans hstep)
        have HG := hid (fun (W : World) (hW : RdAt W g B a s2) => (by have := rd_good W hW; rw [decide_eq_false hk2] at this; exact this : Calls Tryz.prog 96 #[.pointer (some ⟨g, 0, none⟩)] W fun r w' => r = .returned (.bool false) ∧ Below W.heap.size W w'))
        clear hsp hstep hk2
        go_wp2_with fail
        refine (HG.out _ (HIN1.out.row ((by (repeat (first | with_reducible exact Below.refl _ _ | with_reducible assumption | (with_reducible refine below_alloc ?_ _) | (with_reducible refine Below.setCell ?_ (by first | omega | (simp; done) | (simp; omega)) _) | (with_reducible refine Below.drew ?_) | (with_reducible refine below_drewN ?_ _) | (refine below_then (by with_reducible assumption) ?_))) : Below w1.heap.size w1 _).mono hsz1)).rd).mono ?_
        rintro r w3 ⟨rfl, hb3⟩
        have hb13 : Below w1.heap.size w1 w3 := (by (repeat (first | with_reducible exact Below.refl _ _ | with_reducible assumption | (with_reducible refine below_alloc ?_ _) | (with_reducible refine Below.setCell ?_ (by first | omega | (simp; done) | (simp; omega)) _) | (with_reducible refine Below.drew ?_) | (with_reducible refine below_drewN ?_ _) | (refine below_then (by with_reducible assumption) ?_))) : Below w1.heap.size w1 (w1.alloc (.cells #[.slice a1 l.length c1', .slice none 0 0] 75))).trans (hb3.mono (by simp))
        have HE := hid (HIN1.out.row (hb13.mono hsz1)).to
        clear hb3
        go_wp2
        rw [HSP.out]
        refine bodyPost_ret (v := .tuple #[.slice none 0 0, .slice none 0 0]) (by simp [results, Tryz.results154, go_sem]) rfl ⟨_, _, rfl, HeadsAt.nil, HE.out⟩
    · obtain rfl : k = N := by omega
      have hE := hsp.out
      rw [Nat.sub_self] at hE
      have HSP : Hid (Rs.heads B k s pos 1048576 [] = (st, J)) := hid hE
      have HO := hid hown
      have HE := hid hin.out.to
      clear hE hown
      go_wp2
      rw [HSP.out]
      refine bodyPost_ret (v := .tuple #[.slice av J.length cv, .slice au J.length cu]) (by simp [results, Tryz.results154, go_sem]) rfl ⟨_, _, rfl, HO.out, HE.out⟩
end Go.Proofs.YtkipiefcnjfdjaaGreat
namespace Go.Proofs.YtkipiefcnjfdjaaGreat
open Go.RowKit Go.Bs Go.Maps
set_option linter.unusedVariables false
set_option linter.unusedSimpArgs false

def rI64s : Rp (List Int) := rSl 1 (rInt .i64)
theorem i64_at {S : Nat → Prop} {w : World} {xs : List Int} {a : Option Addr} {n c : Nat} (h : rI64s.r S w [.slice a n c] xs) {i : Nat} (hi : i < xs.length) : ∃ b off, a = some ⟨b, off, none⟩ ∧ S b ∧ w.cell? ⟨b, off + i, none⟩ = some (.int .i64 xs[i]) := by
  obtain ⟨b, off, e, hS, cs, _, hc, rfl, hw⟩ := sl_at h hi
  have := hc 0 _ rfl
  rw [Nat.mul_one, Nat.add_zero] at this
  exact ⟨b, off, e, hS, this⟩
/-- The first n bytes, with no room behind them. -/
theorem cut_full {S : Nat → Prop} {w : World} {a : Option Addr} {B : List UInt8} {c : Nat} (h : rBytes.r S w [.slice a B.length c] B) {n : Nat} (h1 : n ≤ B.length) :
    (∀ w' : World, (Instr.slice 28 (.slice a B.length c) none (some (.int .i64 (n : Int))) (some (.int .i64 (n : Int)))).run Tryz.prog w' = .ok (.slice a n n) w') ∧ rBytes.r S w [.slice a n n] (B.take n) := by
  obtain ⟨_, hm, hc, hcm⟩ := sl_len h
  have g1 : (0 : Int) ≤ (n : Int) := by omega
  have g3 : (n : Int) ≤ (c : Int) := by omega
  refine ⟨fun w' => ?_, ?_⟩
  · clear h
    cases a with
    | none => go_simp
    | some p => go_simp
  · obtain ⟨a', c', e, h2, h3, h4⟩ := sl_take h h1
    have hl : (B.take n).length = n := by simp; omega
    simp at e
    obtain ⟨rfl, _, rfl⟩ := e
    exact rSl_mk (a := a) (c := n) (by rw [hl]) (by omega) (by omega) h4

def dealF : List (List Link × Nat) → List UInt8 → List Entry → Option (List Entry)
  | [], D, out => if D.length = 0 then some out else none
  | (l, n) :: r, D, out => if D.length < n then none else dealF r (D.drop n) (out ++ [⟨l, D.take n⟩])
theorem dealF_is : ∀ (H : List (List Link × Nat)) (D : List UInt8) (out : List Entry), dealF H D out = if sizesN H = D.length then some (out ++ dealE H D) else none
  | [], D, out => by
    simp only [dealF, sizesN, dealE, List.map_nil, List.sum_nil, List.append_nil]
    split
    · rw [if_pos (by omega)]
    · rw [if_neg (by omega)]
  | (l, n) :: r, D, out => by
    have hs : sizesN ((l, n) :: r) = n + sizesN r := by simp [sizesN]
    simp only [dealF]
    rw [hs]
    split
    · rw [if_neg (by omega)]
    · rw [dealF_is r (D.drop n)]
      simp only [List.length_drop, dealE, List.append_assoc, List.singleton_append]
      by_cases h : sizesN r = D.length - n
      · rw [if_pos h, if_pos (by omega)]
      · rw [if_neg h, if_neg (by omega)]

set_option maxRecDepth 100000 in
set_option maxHeartbeats 6400000 in
theorem entry_deal (H : List (List Link × Nat)) (D : List UInt8) (a1 a2 a3 : Option Addr) (n1 n2 n3 c1 c2 c3 : Nat) (w : World) (hh : rEntries.r (· < w.heap.size) w [.slice a1 n1 c1] (H.map headE)) (hs : rI64s.r (· < w.heap.size) w [.slice a2 n2 c2] (H.map fun h => (h.2 : Int)))
    (hd : rBytes.r (· < w.heap.size) w [.slice a3 n3 c3] D) (hH : H.length ≤ 1000000) (hD : D.length ≤ 1000000000) (hm : ∀ h ∈ H, h.1.length ≤ 1000000000000 ∧ ∀ z ∈ h.1, z.backs.length ≤ 1000000000000) :
    Calls Tryz.prog 155 #[.slice a1 n1 c1, .slice a2 n2 c2, .slice a3 n3 c3] w fun r w' => ∃ v, r = .returned (.tuple #[v, .bool (dealF H D []).isSome]) ∧ rEntriesW.r (Fresh w w') w' [v] ((dealF H D []).getD []) ∧ Below w.heap.size w w' := by
  obtain ⟨rfl, hm1, _, _⟩ := sl_len hh
  obtain ⟨rfl, hm2, _, _⟩ := sl_len hs
  obtain ⟨rfl, hm3, _, _⟩ := sl_len hd
  obtain ⟨i0, hi, hz0, hz1, hz2⟩ := info_parts infoEntry
  obtain ⟨j0, hj, hy0, hy1, hy2⟩ := info_parts info8
  rw [List.length_map] at hh hs
  have HH := hid hh
  have HS := hid hs
  have HD := hid (fun (W : World) (hW : Below w.heap.size w W) => src_bytes (lift hd hW))
  have HONE := hid (byteCells_one D)
  have HM := hid hm
  rw [List.length_map, List.length_map]
  clear hh hs hd hm hm1 hm2 hm3
  go_enter Tryz.func155, Tryz.ntmps155
  go_wp2_with (at_builtin; go_loud (refine wpList_append_src rfl _ _ _ rfl w.heap.size 5 j0 (.int .u8 0) 1 1 Tryz.underlying28 hj hy0 hy1 hy2 rfl (by decide) (.slice (some ⟨w.heap.size, 0, none⟩) 0 0) 0 [] rfl (own_empty _ (by simp) rfl) a3 D.length c3 (byteCells D) rfl (HD.out _ (by (repeat (first | with_reducible exact Below.refl _ _ | with_reducible assumption | (with_reducible refine below_alloc ?_ _) | (with_reducible refine Below.setCell ?_ (by first | omega | (simp; done) | (simp; omega)) _) | (with_reducible refine Below.drew ?_) | (with_reducible refine below_drewN ?_ _) | (refine below_then (by with_reducible assumption) ?_))))) HONE.out (by simp only [maxLen]; omega) (by omega) (by simp) ?_; intro v5 w5 hown5 hgrow5 hat5; rw [Nat.zero_add, List.nil_append] at hown5; obtain ⟨a5, c5, rfl⟩ := own_form hown5; have hb5 : Below w.heap.size w w5 := (Below.grown (by (repeat (first | with_reducible exact Below.refl _ _ | with_reducible assumption | (with_reducible refine below_alloc ?_ _) | (with_reducible refine Below.setCell ?_ (by first | omega | (simp; done) | (simp; omega)) _) | (with_reducible refine Below.drew ?_) | (with_reducible refine below_drewN ?_ _) | (refine below_then (by with_reducible assumption) ?_)))) hgrow5 (by simp) (fun g e => by { have e' : some w.heap.size = some g := e; injection e' with e'; omega })); have HO5 := hid (own_bytes2 rfl hown5); clear hown5 hgrow5 hat5))
  go_loopw [8, 9, 23] (fun al v i wr => ∃ (k : Nat) (J : List Entry) (R : List UInt8), k ≤ H.length ∧ i = .int .i64 k ∧ rBytes.r (fun q => w.heap.size ≤ q ∧ q < w5.heap.size) wr [al] R ∧ R.length ≤ 1000000000 ∧ Hid (J.length = k) ∧ OwnEls w.heap.size rEntryW w5.heap.size 75 2 wr v J ∧ Below w5.heap.size w5 wr ∧ Hid (dealF H D [] = dealF (H.drop k) R J)) (fun _ _ i _ => H.length - (intOf i).toNat)
  case atStart => exact ⟨0, [], D, Nat.zero_le _, rfl, HO5.out, hD, hid rfl, OwnEls.nil, Below.refl _ _, hid rfl⟩
  case round =>
    obtain ⟨k, J, R, hk, rfl, hR, hRl, hJl, hown, hb, hsp⟩ := hrel
    have hbw := hb5.trans (hb.mono hb5.size)
    have hsz5 := hb5.size
    have hszr := hb.size
    obtain ⟨A, cR, hA, hR', _⟩ := sl_form hR
    simp only [List.cons.injEq, and_true] at hA
    subst hA
    obtain ⟨av, cv, rfl⟩ := OwnEls.form hown
    rcases Nat.lt_or_ge k H.length with hlt | hge
    · have hxk : (H.map headE)[k]'(by simpa using hlt) = headE H[k] := by simp
      have hsk : (H.map fun h => (h.2 : Int))[k]'(by simpa using hlt) = (H[k].2 : Int) := by simp
      obtain ⟨b1, o1, hA1, hbb1, a4, c4, a6, c6, hc0, hc1, hd1, _⟩ := entry_at HH.out (i := k) (by simpa using hlt)
      obtain ⟨b2, o2, hA2, hbb2, he0⟩ := i64_at HS.out (i := k) (by simpa using hlt)
      rw [hxk] at hc0 hc1 hd1
      rw [hsk] at he0
      subst hA1 hA2
      have hmk := HM.out H[k] (List.getElem_mem hlt)
      have hstep : dealF (H.drop k) R J = if R.length < H[k].2 then none else dealF (H.drop (k + 1)) (R.drop H[k].2) (J ++ [⟨H[k].1, R.take H[k].2⟩]) := by
        rw [List.drop_eq_getElem_cons hlt]; rfl
      generalize H[k] = z at *
      obtain ⟨l, n⟩ := z
      dsimp only [headE] at *
      have X0 := (hbw.cell (p := ⟨b1, o1 + k * 2, none⟩) hbb1).trans hc0
      have X1 := (hbw.cell (p := ⟨b1, o1 + k * 2 + 1, none⟩) hbb1).trans hc1
      have Y0 := (hbw.cell (p := ⟨b2, o2 + k, none⟩) hbb2).trans he0
      have i1 : (k : Int) < (H.length : Int) := by omega
      have hJ9 : J.length ≤ 1000000 := by have := hJl.out; omega
      have hr1 : b1 < wr.heap.size := by omega
      have hr2 : b2 < wr.heap.size := by omega
      have hd1' := hid (lift hd1 hbw)
      have OW := hid hown
      clear hc0 hc1 hd1 he0 hxk hsk hown
      rcases Nat.lt_or_ge R.length n with hlt2 | hge2
      · rw [if_pos hlt2] at hstep
        have HSP := hid (hsp.out.trans hstep)
        have d1 : decide ((n : Int) < 0) = false := decide_eq_false (by omega)
        have d2 : decide ((R.length : Int) < (n : Int)) = true := decide_eq_true (by omega)
        clear hsp hstep hR hR'
        go_wp2
        rw [HSP.out]
        refine bodyPost_ret (v := .tuple #[.slice none 0 0, .bool false]) (by simp [results, Tryz.results155, go_sem]) rfl ⟨_, rfl, ⟨none, 0, rfl, Nat.le_refl _, Nat.zero_le _, .inl rfl⟩, by (repeat (first | with_reducible exact Below.refl _ _ | with_reducible assumption | (with_reducible refine below_alloc ?_ _) | (with_reducible refine Below.setCell ?_ (by first | omega | (simp; done) | (simp; omega)) _) | (with_reducible refine Below.drew ?_) | (with_reducible refine below_drewN ?_ _) | (refine below_then (by with_reducible assumption) ?_)))⟩
      · rw [if_neg (by omega)] at hstep
        have HSP := hid (hsp.out.trans hstep)
        have d1 : decide ((n : Int) < 0) = false := decide_eq_false (by omega)
        have d2 : decide ((R.length : Int) < (n : Int)) = false := decide_eq_false (by omega)
        obtain ⟨hcut, hrc⟩ := cut_full hR' hge2
        obtain ⟨A', c', hcut2, hrd⟩ := cut_to hR' hge2
        have HC := hid (fun (W : World) (hW : Below wr.heap.size wr W) => link_copyW l a4 l.length c4 W (lift hd1'.out hW) hmk.1 hmk.2)
        have HRC := hid hrc
        have HRD := hid hrd
        clear hsp hstep hR hR' hrc hrd hmk
        go_wp2_with fail
        refine (HC.out _ (by (repeat (first | with_reducible exact Below.refl _ _ | with_reducible assumption | (with_reducible refine below_alloc ?_ _) | (with_reducible refine Below.setCell ?_ (by first | omega | (simp; done) | (simp; omega)) _) | (with_reducible refine Below.drew ?_) | (with_reducible refine below_drewN ?_ _) | (refine below_then (by with_reducible assumption) ?_))))).mono ?_
        rintro r w7 ⟨v7, rfl, hv7, hb7⟩
        obtain ⟨a7, c7, hfv, _, _⟩ := sl_form (linksW_links hv7)
        simp only [List.cons.injEq, and_true] at hfv
        subst hfv
        have B7 : Blk w7 wr.heap.size 75 #[.slice a4 l.length c4, .slice a6 0 c6] := Blk.later (by (repeat (first | assumption | exact Blk.newAt _ _ _ (by first | (simp; done) | (simp; omega)) | refine Blk.alloc ?_ _ | refine Blk.drew ?_ | refine Blk.drewN ?_ _ | refine Blk.far ?_ (by first | (simp; done) | (simp; omega)) _))) hb7
        obtain ⟨x0, x1, f0, f1, l7⟩ := f_blk B7
        obtain ⟨z0, z1, g0, g1, m7⟩ := f_blk (B7.set 0 (.slice a7 l.length c7))
        have hb78 : Below wr.heap.size wr w7 := by (repeat (first | with_reducible exact Below.refl _ _ | with_reducible assumption | (with_reducible refine below_alloc ?_ _) | (with_reducible refine Below.setCell ?_ (by first | omega | (simp; done) | (simp; omega)) _) | (with_reducible refine Below.drew ?_) | (with_reducible refine below_drewN ?_ _) | (refine below_then (by with_reducible assumption) ?_)))
        have hz7 := hb7.size
        simp at hz7
        have hb8 : Below wr.heap.size wr (((w7.setCell ⟨wr.heap.size, 0, none⟩ (.slice a7 l.length c7)).setCell ⟨wr.heap.size, 1, none⟩ (.slice A n n)).alloc (.cells #[.slice a7 l.length c7, .slice A n n] 75)) := by (repeat (first | with_reducible exact Below.refl _ _ | with_reducible assumption | (with_reducible refine below_alloc ?_ _) | (with_reducible refine Below.setCell ?_ (by first | omega | (simp; done) | (simp; omega)) _) | (with_reducible refine Below.drew ?_) | (with_reducible refine below_drewN ?_ _) | (refine below_then (by with_reducible assumption) ?_)))
        have hk8 : ∀ q, wr.heap.size + 1 ≤ q → q < w7.heap.size → ((((w7.setCell ⟨wr.heap.size, 0, none⟩ (.slice a7 l.length c7)).setCell ⟨wr.heap.size, 1, none⟩ (.slice A n n)).alloc (.cells #[.slice a7 l.length c7, .slice A n n] 75))).heap[q]? = w7.heap[q]? := fun q h1 h2 =>
          (Below.heap_alloc _ _ q (by simp; omega)).trans ((Below.heap_setCell _ _ _ _ (by dsimp only; omega)).trans (Below.heap_setCell _ _ _ _ (by dsimp only; omega)))
        have hsz8 : ((((w7.setCell ⟨wr.heap.size, 0, none⟩ (.slice a7 l.length c7)).setCell ⟨wr.heap.size, 1, none⟩ (.slice A n n)).alloc (.cells #[.slice a7 l.length c7, .slice A n n] 75))).heap.size = w7.heap.size + 1 := by simp
        obtain ⟨cells0, OA0⟩ := OW.out
        have hlt0 : ∀ q, (Value.slice av J.length cv).ownBlock = some q → w5.heap.size ≤ q ∧ q < wr.heap.size := fun q e => own_lt OA0.1 q e
        obtain ⟨cells, OA⟩ := OwnEls.below OW.out hb8
        have hx : rEntryW.r (fun b => w.heap.size ≤ b ∧ b < ((((w7.setCell ⟨wr.heap.size, 0, none⟩ (.slice a7 l.length c7)).setCell ⟨wr.heap.size, 1, none⟩ (.slice A n n)).alloc (.cells #[.slice a7 l.length c7, .slice A n n] 75))).heap.size ∧ (Value.slice av J.length cv).ownBlock ≠ some b) ((((w7.setCell ⟨wr.heap.size, 0, none⟩ (.slice a7 l.length c7)).setCell ⟨wr.heap.size, 1, none⟩ (.slice A n n)).alloc (.cells #[.slice a7 l.length c7, .slice A n n] 75))) [.slice a7 l.length c7, .slice A n n] ⟨l, R.take n⟩ := by
          refine entryW_mk (rLinksW.mono (rLinksW.keep hv7 (w' := (((w7.setCell ⟨wr.heap.size, 0, none⟩ (.slice a7 l.length c7)).setCell ⟨wr.heap.size, 1, none⟩ (.slice A n n)).alloc (.cells #[.slice a7 l.length c7, .slice A n n] 75))) fun q hq => hk8 q (by have := hq.1; simp at this; omega) hq.2) fun q hq => ⟨?_, ?_, fun e => ?_⟩) (rBytes.mono (rBytes.keep HRC.out (w' := (((w7.setCell ⟨wr.heap.size, 0, none⟩ (.slice a7 l.length c7)).setCell ⟨wr.heap.size, 1, none⟩ (.slice A n n)).alloc (.cells #[.slice a7 l.length c7, .slice A n n] 75))) fun q hq => hb8.block q (by omega)) fun q hq => ⟨hq.1, ?_, fun e => ?_⟩)
          · have := hq.1; simp at this; omega
          · have := hq.2; omega
          · have := hlt0 q e; have := hq.1; simp at this; omega
          · have := hq.2; omega
          · have := hlt0 q e; have := hq.2; omega
        have HX := hid hx
        have HA := hid OA
        have HS9 : Hid (w5.heap.size ≤ ((((w7.setCell ⟨wr.heap.size, 0, none⟩ (.slice a7 l.length c7)).setCell ⟨wr.heap.size, 1, none⟩ (.slice A n n)).alloc (.cells #[.slice a7 l.length c7, .slice A n n] 75))).heap.size) := hid (by rw [hsz8]; omega)
        have HB8 := hid hb8
        clear hx OA OA0 hlt0 hk8 hb7 hb8 hsz8 hb78 hv7 B7 OW
        go_wp2_with (at_builtin; go_loud (refine wpList_append_src rfl _ _ _ rfl w5.heap.size 75 i0 (.agg #[.slice none 0 0, .slice none 0 0]) 2 48 Tryz.underlying23 hi hz0 hz1 hz2 rfl (by decide) (.slice av J.length cv) J.length _ rfl HA.out.1 (some ⟨w7.heap.size, 0, none⟩) 1 1 [.slice a7 l.length c7, .slice A n n] rfl (src_new1 ((w7.setCell ⟨wr.heap.size, 0, none⟩ (.slice a7 l.length c7)).setCell ⟨wr.heap.size, 1, none⟩ (.slice A n n)) 75 _ rfl (by simp) rfl) (by intro u hu; simp at hu; rcases hu with rfl | rfl <;> rfl) (by simp only [maxLen]; omega) (by omega) HS9.out ?_; intro v9 w9 hown9 hgrow9 hat9; obtain ⟨a9, c9, rfl⟩ := own_form hown9; have OP := hid (OwnEls.push HA.out rfl HX.out hown9 hgrow9 hat9 hgrow9.size); have hb9 : Below w5.heap.size wr w9 := (Below.grown (HB8.out.mono hszr) hgrow9 HS9.out (fun g e => (own_lt HA.out.1 g e).1)); clear hown9 hgrow9 hat9))
        have HRD9 := hid (rBytes.keep HRD.out (w' := w9) fun q hq => hb9.block q hq.2)
        have HB9 := hid (hb.trans hb9)
        go_roundw
        case rel => exact ⟨k + 1, J ++ [⟨l, R.take n⟩], R.drop n, by omega, by go_num, HRD9.out, by simp; omega, hid (by rw [List.length_append, hJl.out]; rfl), OP.out, HB9.out, HSP⟩
        case measure => simp [intOf]; omega
    · obtain rfl : k = H.length := by omega
      have hE := hsp.out
      rw [List.drop_length] at hE
      have HV := hid (OwnEls.sliceW (A := rEntryW) (by exact hsz5) hown)
      clear hsp hown
      by_cases hR0 : R.length = 0
      · have HSP : Hid (dealF H D [] = some J) := hid (by rw [hE]; simp only [dealF]; rw [if_pos hR0])
        have d1 : decide (0 < (R.length : Int)) = false := decide_eq_false (by omega)
        clear hE hR hR'
        go_wp2
        rw [HSP.out]
        refine bodyPost_ret (v := .tuple #[.slice av J.length cv, .bool true]) (by simp [results, Tryz.results155, go_sem]) rfl ⟨_, rfl, ?_, by (repeat (first | with_reducible exact Below.refl _ _ | with_reducible assumption | (with_reducible refine below_alloc ?_ _) | (with_reducible refine Below.setCell ?_ (by first | omega | (simp; done) | (simp; omega)) _) | (with_reducible refine Below.drew ?_) | (with_reducible refine below_drewN ?_ _) | (refine below_then (by with_reducible assumption) ?_)))⟩
        exact HV.out
      · have HSP : Hid (dealF H D [] = none) := hid (by rw [hE]; simp only [dealF]; rw [if_neg hR0])
        have d1 : decide (0 < (R.length : Int)) = true := decide_eq_true (by omega)
        clear hE hR hR'
        go_wp2
        rw [HSP.out]
        refine bodyPost_ret (v := .tuple #[.slice none 0 0, .bool false]) (by simp [results, Tryz.results155, go_sem]) rfl ⟨_, rfl, ⟨none, 0, rfl, Nat.le_refl _, Nat.zero_le _, .inl rfl⟩, by (repeat (first | with_reducible exact Below.refl _ _ | with_reducible assumption | (with_reducible refine below_alloc ?_ _) | (with_reducible refine Below.setCell ?_ (by first | omega | (simp; done) | (simp; omega)) _) | (with_reducible refine Below.drew ?_) | (with_reducible refine below_drewN ?_ _) | (refine below_then (by with_reducible assumption) ?_)))⟩
end Go.Proofs.YtkipiefcnjfdjaaGreat
