/- Needed by pushNone_walk, part 6: texts put together by shake.py; no condition. -/
import Derived.Laws.Bits64
import Derived.Test.YtfddhafbhceoaaaGreatWA5
import Derived.Deep.AppendLies
import Derived.Deep.RegionLaw
import Derived.Test.YtfddhafbhceoaaaGreatWA1
import Derived.Test.YtfddhafbhceoaaaGreatWA3
import Derived.Test.YtfddhafbhceoaaaGreatWA4
import Derived.Deep.RegionHeld3
import Derived.Test.YtfddhafbhceoaaaGreatWA2
namespace Go.Proofs.YtfddhafbhceoaaaGreat
open Go.RowKit Go.Bs Go.Maps
set_option linter.unusedVariables false
set_option linter.unusedSimpArgs false

theorem OwnEls.tch3 {w w' : World} {α : Type} {lo g : Nat} {A : Rp α} {e : TypeId} {sz : Nat} {v : Value} {xs : List α} (h : OwnEls lo A lo e sz w v xs) (hb : Tch (fun b => b = g ∨ w.heap.size ≤ b) w w') (hg : g < lo) : OwnEls lo A lo e sz w' v xs := by
  have hk : ∀ b, lo ≤ b → b < w.heap.size → w'.heap[b]? = w.heap[b]? := fun b h1 h2 => hb.block b h2 (by omega)
  obtain ⟨cells, ho, hlen, hsz, hA⟩ := h
  refine ⟨cells, ⟨ho.1, ?_⟩, hlen, hsz, fun i cs x hi hx => A.mono (A.keep (hA i cs x hi hx) fun b h => hk b h.1 h.2.1) fun b h => ⟨h.1, Nat.lt_of_lt_of_le h.2.1 hb.size, h.2.2⟩⟩
  rcases ho.2 with h0 | ⟨g', cap, cur, h1, h2, h3, h4⟩
  · exact .inl h0
  · exact .inr ⟨g', cap, cur, h1, h2, (hk _ h2 (Blk.lt h3)).trans h3, h4⟩
theorem OwnEls.form {w : World} {α : Type} {lo base : Nat} {A : Rp α} {e : TypeId} {sz : Nat} {v : Value} {xs : List α} (h : OwnEls lo A base e sz w v xs) : ∃ a c, v = .slice a xs.length c := by
  obtain ⟨cells, h1, _⟩ := h
  exact own_form h1
theorem not_u64 {z : Int} (h : 0 ≤ z ∧ z ≤ 18446744073709551615) : bits BinOp.xor IntKind.u64 IntKind.u64.max z = 18446744073709551615 - z := by
  obtain ⟨a, rfl⟩ := Int.eq_ofNat_of_zero_le h.1
  have ha : a < 18446744073709551616 := by omega
  have e : IntKind.u64.max = ((18446744073709551615 : Nat) : Int) := rfl
  rw [e, bits_xor_u64_nat _ _ (by decide) ha]
  have h1 : 18446744073709551615 ^^^ a = 18446744073709551615 - a := by
    have h2 := BitVec.toNat_not (x := BitVec.ofNat 64 a)
    rw [BitVec.not_def, BitVec.toNat_xor, BitVec.toNat_allOnes, BitVec.toNat_ofNat, Nat.mod_eq_of_lt (by omega)] at h2
    exact h2
  rw [h1]
  omega
set_option maxRecDepth 100000 in
set_option maxHeartbeats 6400000 in
theorem link_read (w : World) {g : Nat} {B : List UInt8} {a : Option Addr} {s : Rs} (h : RdAt w g B a s) (hB : B.length ≤ 1000000000) (pos : Int) (hpos : 0 ≤ pos ∧ pos ≤ 18446744073709551615) :
    Calls Tryz.prog 315 #[.pointer (some ⟨g, 0, none⟩), .int .u64 pos] w fun r w' => ∃ v, r = .returned v ∧ rLinksW.r (Fresh w w') w' [v] (s.links B pos).2 ∧ RdStep w g B a (s.links B pos).1 w' := by
  obtain ⟨i0, hi, hz0, hz1, hz2⟩ := info_parts infoLink
  have HI := hid (varint_int w h (by omega) 16 (by omega))
  have hNm := Rs.int_le (B := B) (s := s) (m := 16)
  have hlt := h.blk.lt
  have HIN := hid (RdInv.refl h)
  unfold Rs.links
  generalize s.int B 16 = I at *
  obtain ⟨s1, N⟩ := I
  dsimp only at *
  have hN : N ≤ 16 := by omega
  clear h
  go_enter Tryz.func315, Tryz.ntmps315
  go_wp2_with fail
  refine HI.out.mono ?_
  rintro r w1 ⟨rfl, hst⟩
  have HIN1 := hid (HIN.out.step hst)
  clear hst
  go_wp2_with fail
  go_loopw [5, 12] (fun v i wr => ∃ (k : Nat) (J : List Link) (st : Rs), k ≤ N ∧ i = .int .i64 k ∧ Hid (J.length = k) ∧ OwnEls w.heap.size rLink w.heap.size 215 2 wr v J ∧ Hid (∀ x ∈ J, 0 ≤ x.stream ∧ x.stream ≤ 18446744073709551615) ∧ Hid (RdInv w wr g B a st) ∧ Hid (Rs.linksF B pos N s1 none [] = Rs.linksF B pos (N - k) st (J.getLast?.map Link.stream) J)) (fun _ i _ => N - (intOf i).toNat)
  case atStart => exact ⟨0, [], s1, Nat.zero_le _, rfl, hid rfl, OwnEls.nil, hid (by simp), HIN1, hid rfl⟩
  case round =>
    obtain ⟨k, J, st, hk, rfl, hJl, hown, hJb, hin, hsp⟩ := hrel
    obtain ⟨av, cv, rfl⟩ := OwnEls.form hown
    rcases Nat.lt_or_ge k N with hlt2 | hge
    · have HAT := hid (rd_at wr hin.out.rd)
      have HVR := hid (varint_read wr hin.out.rd (by omega))
      have hx := Rs.num_small (B := B) (s := st)
      have hsz0 := hin.out.tch.size
      have i1 : (k : Int) < (N : Int) := by omega
      have d1 : decide ((k : Int) < (N : Int)) = true := decide_eq_true i1
      have d1' : decide (k < N) = true := decide_eq_true hlt2
      have HO := hid hown
      clear hown
      have hJ16 : J.length ≤ 16 := by have := hJl.out; omega
      by_cases hJe : J = []
      · have hstep : Rs.linksF B pos (N - k) st (J.getLast?.map Link.stream) J = (if ((st.num B).1.delta B pos 4).1.k = 0 then Rs.linksF B pos (N - (k + 1)) ((st.num B).1.delta B pos 4).1 (some ((st.num B).2 : Int)) (J ++ [⟨((st.num B).2 : Int), ((st.num B).1.delta B pos 4).2⟩]) else (((st.num B).1.delta B pos 4).1, [])) := by
          rw [show N - k = (N - (k + 1)) + 1 by omega, hJe]; rfl
        have hk0 : k = 0 := by have := hJl.out; rw [hJe] at this; simpa using this.symm
        subst hk0
        clear hJe
        generalize st.num B = R at *
        obtain ⟨st1, x⟩ := R
        dsimp only at *
        have hxb : (0 : Int) ≤ (x : Int) ∧ (x : Int) ≤ 18446744073709551615 := by omega
        have HD := hid (fun (W : World) (hW : RdAt W g B a st1) => delta_read W hW hB pos hpos 4 (by omega))
        generalize st1.delta B pos 4 = D at *
        obtain ⟨s6, bk⟩ := D
        dsimp only at *

        go_wp2_with fail
        refine HAT.out.mono ?_
        rintro r w2 ⟨rfl, rfl⟩
        go_wp2_with fail
        refine HVR.out.mono ?_
        rintro r w3 ⟨rfl, hst3⟩
        have HIN3 := hid (hin.out.step hst3)
        have HO3 := hid (OwnEls.tch3 HO.out (hst3.2.mono fun b hb e => .inl e) hlt)
        have hsz3 := HIN3.out.tch.size
        clear hst3
        go_wp2_with fail

        refine (HD.out _ (HIN3.out.row ((by (repeat (first | with_reducible exact Below.refl _ _ | with_reducible assumption | (with_reducible refine below_alloc ?_ _) | (with_reducible refine Below.setCell ?_ (by first | omega | (simp; done) | (simp; omega)) _) | (with_reducible refine Below.drew ?_) | (with_reducible refine below_drewN ?_ _) | (refine below_then (by with_reducible assumption) ?_))) : Below w3.heap.size w3 _).mono hsz3)).rd).mono ?_
        rintro r w6 ⟨v6, rfl, hv6, hst6⟩
        obtain ⟨a6, c6, hfv, _, _⟩ := sl_form hv6
        simp only [List.cons.injEq, and_true] at hfv
        subst hfv
        have BK6 : Blk w6 w3.heap.size 215 #[.int .u64 (x : Int), .slice none 0 0] := Blk.tch (by (repeat (first | assumption | exact Blk.newAt _ _ _ (by first | (simp; done) | (simp; omega)) | refine Blk.alloc ?_ _ | refine Blk.drew ?_ | refine Blk.drewN ?_ _ | refine Blk.far ?_ (by first | (simp; done) | (simp; omega)) _))) hst6.2 (by omega)
        have HIN6 := hid ((HIN3.out.row ((by (repeat (first | with_reducible exact Below.refl _ _ | with_reducible assumption | (with_reducible refine below_alloc ?_ _) | (with_reducible refine Below.setCell ?_ (by first | omega | (simp; done) | (simp; omega)) _) | (with_reducible refine Below.drew ?_) | (with_reducible refine below_drewN ?_ _) | (refine below_then (by with_reducible assumption) ?_))) : Below w3.heap.size w3 _).mono hsz3)).step hst6)
        have HK6 : Hid (Tch (fun b => b = g ∨ w3.heap.size ≤ b) w3 w6) := hid ((Tch.of_below (by (repeat (first | with_reducible exact Below.refl _ _ | with_reducible assumption | (with_reducible refine below_alloc ?_ _) | (with_reducible refine Below.setCell ?_ (by first | omega | (simp; done) | (simp; omega)) _) | (with_reducible refine Below.drew ?_) | (with_reducible refine below_drewN ?_ _) | (refine below_then (by with_reducible assumption) ?_))) : Below w3.heap.size w3 _)).mono (fun b hb e => .inr e) |>.trans hst6.2 (fun b hb e => .inl e))
        by_cases hk6 : s6.k = 0
        · rw [if_pos hk6] at hstep
          have HSP := hid (hsp.out.trans hstep)
          have HG := hid (fun (W : World) (hW : RdAt W g B a s6) => (by have := rd_good W hW; rw [decide_eq_true hk6] at this; exact this : Calls Tryz.prog 112 #[.pointer (some ⟨g, 0, none⟩)] W fun r w' => r = .returned (.bool true) ∧ Below W.heap.size W w'))
          obtain ⟨y0, y1, f0, f1, hl6⟩ := f_blk BK6
          have HV6 := hid hv6
          have hq6 := hst6.2.size
          simp at hq6
          clear hsp hstep hk6 hv6 hst6
          go_wp2_with fail
          refine (HG.out _ (HIN6.out.row ((by (repeat (first | with_reducible exact Below.refl _ _ | with_reducible assumption | (with_reducible refine below_alloc ?_ _) | (with_reducible refine Below.setCell ?_ (by first | omega | (simp; done) | (simp; omega)) _) | (with_reducible refine Below.drew ?_) | (with_reducible refine below_drewN ?_ _) | (refine below_then (by with_reducible assumption) ?_))) : Below w3.heap.size w6 _).mono hsz3)).rd).mono ?_
          rintro r w7 ⟨rfl, hb7⟩
          have B7 : Blk w7 w3.heap.size 215 #[.int .u64 (x : Int), .slice a6 bk.length c6] := Blk.later (BK6.set 1 _) hb7
          obtain ⟨z0, z1, _, _, hl7⟩ := f_blk B7
          have hb67 : Below w3.heap.size w6 w7 := (by (repeat (first | with_reducible exact Below.refl _ _ | with_reducible assumption | (with_reducible refine below_alloc ?_ _) | (with_reducible refine Below.setCell ?_ (by first | omega | (simp; done) | (simp; omega)) _) | (with_reducible refine Below.drew ?_) | (with_reducible refine below_drewN ?_ _) | (refine below_then (by with_reducible assumption) ?_))) : Below w3.heap.size w6 (w6.setCell ⟨w3.heap.size, 1, none⟩ (.slice a6 bk.length c6))).trans (hb7.mono (by simp; omega))
          have HIN7 := hid (HIN6.out.row (hb67.mono hsz3))
          have hsz7 := HIN7.out.tch.size
          have hk7 : Tch (fun b => b = g ∨ w3.heap.size ≤ b) w3 w7 := HK6.out.trans (Tch.of_below hb67) (fun b hb hle => .inr hle)
          have O7 := OwnEls.tch3 HO3.out hk7 hlt
          obtain ⟨cells0, OA0⟩ := HO3.out
          have hlt0 : ∀ g', (Value.slice av J.length cv).ownBlock = some g' → g' < w3.heap.size := fun g' e => (OA0.1.lt g' e).2
          obtain ⟨cells, OA⟩ := OwnEls.below O7 (show Below w7.heap.size w7 (w7.alloc (.cells #[.int .u64 (x : Int), .slice a6 bk.length c6] 215)) from by (repeat (first | with_reducible exact Below.refl _ _ | with_reducible assumption | (with_reducible refine below_alloc ?_ _) | (with_reducible refine Below.setCell ?_ (by first | omega | (simp; done) | (simp; omega)) _) | (with_reducible refine Below.drew ?_) | (with_reducible refine below_drewN ?_ _) | (refine below_then (by with_reducible assumption) ?_))))
          have hk8 : ∀ b, w3.heap.size + 1 ≤ b → b < w6.heap.size → (w7.alloc (.cells #[.int .u64 (x : Int), .slice a6 bk.length c6] 215)).heap[b]? = w6.heap[b]? := fun b h1 h2 => (Below.heap_alloc w7 _ b (by have := hb67.size; omega)).trans ((hb7.block b (by simpa using h2)).trans (Below.heap_setCell _ _ _ _ (by dsimp only; omega)))
          have hv8 := rU64s.keep (w' := (w7.alloc (.cells #[.int .u64 (x : Int), .slice a6 bk.length c6] 215))) HV6.out (fun b (hb : (w3.alloc (.cells #[.int .u64 (x : Int), .slice none 0 0] 215)).heap.size ≤ b ∧ b < w6.heap.size) => hk8 b (by have := hb.1; simp at this; omega) hb.2)
          have hx8 : rLink.r (fun b => w.heap.size ≤ b ∧ b < (w7.alloc (.cells #[.int .u64 (x : Int), .slice a6 bk.length c6] 215)).heap.size ∧ (Value.slice av J.length cv).ownBlock ≠ some b) (w7.alloc (.cells #[.int .u64 (x : Int), .slice a6 bk.length c6] 215)) [.int .u64 (x : Int), .slice a6 bk.length c6] ⟨(x : Int), bk⟩ := by
            refine link_mk (x := ⟨(x : Int), bk⟩) hxb (rU64s.mono hv8 fun b hb => ?_)
            have h1 := hb.1
            have h2 := hb.2
            have h3 := hb67.size
            simp at h1
            refine ⟨by omega, by simp; omega, fun e => ?_⟩
            have := hlt0 b e
            omega
          have HX := hid hx8
          have HA := hid OA
          have HS9 : Hid (w.heap.size ≤ (w7.alloc (.cells #[.int .u64 (x : Int), .slice a6 bk.length c6] 215)).heap.size) := hid (by simp; omega)
          clear hx8 hv8 OA OA0 hlt0 hk8 O7 hk7 hb67 hb7 B7 y0 y1 f0 f1 HV6
          go_wp2_with (at_builtin; go_loud (refine wpList_append_src rfl _ _ _ rfl w.heap.size 215 i0 (.agg #[.int .u64 0, .slice none 0 0]) 2 32 Tryz.underlying38 hi hz0 hz1 hz2 rfl (by decide) (.slice av J.length cv) J.length _ rfl HA.out.1 (some ⟨w7.heap.size, 0, none⟩) 1 1 [.int .u64 (x : Int), .slice a6 bk.length c6] rfl (src_new1 w7 215 _ rfl rfl rfl) (by intro u hu; simp at hu; rcases hu with rfl | rfl <;> rfl) (by simp only [maxLen]; omega) (by omega) HS9.out ?_; intro v1 w9 hown1 hgrow1 hat1; have OP := hid (OwnEls.push HA.out rfl HX.out hown1 hgrow1 hat1 hgrow1.size); have hb9 : Below w.heap.size w7 w9 := (Below.grown ((by (repeat (first | with_reducible exact Below.refl _ _ | with_reducible assumption | (with_reducible refine below_alloc ?_ _) | (with_reducible refine Below.setCell ?_ (by first | omega | (simp; done) | (simp; omega)) _) | (with_reducible refine Below.drew ?_) | (with_reducible refine below_drewN ?_ _) | (refine below_then (by with_reducible assumption) ?_))) : Below w7.heap.size w7 _).mono hsz7) hgrow1 HS9.out (fun g e => (HA.out.1.lt g e).1)); clear hown1 hgrow1 hat1))
          have HIN9 := hid (HIN7.out.row hb9)
          have HJ9 : Hid (∀ y ∈ J ++ [(⟨(x : Int), bk⟩ : Link)], 0 ≤ y.stream ∧ y.stream ≤ 18446744073709551615) := hid (fun y hy => by
            rw [List.mem_append, List.mem_singleton] at hy
            rcases hy with hy | rfl
            · exact hJb.out y hy
            · exact hxb)
          go_roundw
          case rel => exact ⟨0 + 1, J ++ [⟨(x : Int), bk⟩], s6, by omega, by go_num, hid (by rw [List.length_append, hJl.out]; rfl), OP.out, HJ9, HIN9, hid (by rw [HSP.out]; simp)⟩
          case measure => simp [intOf]; omega
        · rw [if_neg hk6] at hstep
          have HSP := hid (hsp.out.trans hstep)
          have HG := hid (fun (W : World) (hW : RdAt W g B a s6) => (by have := rd_good W hW; rw [decide_eq_false hk6] at this; exact this : Calls Tryz.prog 112 #[.pointer (some ⟨g, 0, none⟩)] W fun r w' => r = .returned (.bool false) ∧ Below W.heap.size W w'))
          obtain ⟨y0, y1, f0, f1, hl6⟩ := f_blk BK6
          clear hsp hstep hk6 hv6
          go_wp2_with fail
          refine (HG.out _ (HIN6.out.row ((by (repeat (first | with_reducible exact Below.refl _ _ | with_reducible assumption | (with_reducible refine below_alloc ?_ _) | (with_reducible refine Below.setCell ?_ (by first | omega | (simp; done) | (simp; omega)) _) | (with_reducible refine Below.drew ?_) | (with_reducible refine below_drewN ?_ _) | (refine below_then (by with_reducible assumption) ?_))) : Below w3.heap.size w6 _).mono hsz3)).rd).mono ?_
          rintro r w7 ⟨rfl, hb7⟩
          have hb67 : Below w3.heap.size w6 w7 := (by (repeat (first | with_reducible exact Below.refl _ _ | with_reducible assumption | (with_reducible refine below_alloc ?_ _) | (with_reducible refine Below.setCell ?_ (by first | omega | (simp; done) | (simp; omega)) _) | (with_reducible refine Below.drew ?_) | (with_reducible refine below_drewN ?_ _) | (refine below_then (by with_reducible assumption) ?_))) : Below w3.heap.size w6 (w6.setCell ⟨w3.heap.size, 1, none⟩ (.slice a6 bk.length c6))).trans (hb7.mono (by simp; omega))
          have HE := hid (HIN6.out.row (hb67.mono hsz3)).to
          clear hb7
          go_wp2
          go_ret
          rw [HSP.out]
          exact ⟨.slice none 0 0, rfl, OwnEls.sliceW (e := 0) (Nat.le_refl _) OwnEls.nil, HE.out⟩
      · obtain ⟨m, rfl⟩ : ∃ m, k = m + 1 := ⟨k - 1, by
          have := hJl.out
          have : J.length ≠ 0 := fun e => hJe (List.eq_nil_of_length_eq_zero e)
          omega⟩
        have hmJ : m < J.length := by have := hJl.out; omega
        have hlast : J.getLast?.map Link.stream = some J[m].stream := by
          have := hJl.out
          rw [List.getLast?_eq_getElem?, this, Nat.add_sub_cancel, List.getElem?_eq_getElem hmJ]
          rfl
        have hzb := hJb.out J[m] (List.getElem_mem hmJ)
        obtain ⟨bq, o, hA, hbb, a1, c1, hc0, hc1, hst, hd⟩ := link_at (OwnEls.slice (Nat.le_refl _) HO.out) hmJ
        subst hA
        have hbg : bq ≠ g := by have := hbb.1; omega
        have hbr : bq < wr.heap.size := hbb.2
        have hstep : Rs.linksF B pos (N - (m + 1)) st (J.getLast?.map Link.stream) J = (if ((st.stream B (some J[m].stream)).1.delta B pos 4).1.k = 0 then Rs.linksF B pos (N - (m + 1 + 1)) ((st.stream B (some J[m].stream)).1.delta B pos 4).1 (some (st.stream B (some J[m].stream)).2) (J ++ [⟨(st.stream B (some J[m].stream)).2, ((st.stream B (some J[m].stream)).1.delta B pos 4).2⟩]) else (((st.stream B (some J[m].stream)).1.delta B pos 4).1, [])) := by
          rw [hlast, show N - (m + 1) = (N - (m + 1 + 1)) + 1 by omega]; rfl
        clear hlast hd hc1 hbb
        generalize J[m] = z at *
        have i1' : (m : Int) + 1 < (N : Int) := by omega
        have i2 : (m : Int) < (J.length : Int) := by omega
        have d2 : decide ((m : Int) + 1 < (N : Int)) = true := decide_eq_true i1'
        have e1 := not_u64 hzb
        have hsg : IntKind.u64.signed = false := rfl
        by_cases hf : 18446744073709551615 - z.stream ≤ ((st.num B).2 : Int)
        · have hS : (st.stream B (some z.stream)).1 = (st.num B).1.fail 13 st.p := by
            simp only [Rs.stream]
            rw [if_pos hf]
          have hbad : ((st.stream B (some z.stream)).1.delta B pos 4).1.k ≠ 0 := fun e => (Rs.fail_k (s := (st.num B).1) (c := 13) (at_ := (st.p : Int)) (by omega)) (by rw [← hS]; exact (Rs.delta_canon (Rs.stream_ok hin.out.rd.ok) hpos.2 e).2.2.2.2)
          rw [if_neg hbad, hS] at hstep
          rw [hS] at hbad
          clear hS
          generalize st.num B = R at *
          obtain ⟨st1, x⟩ := R
          dsimp only at *
          have d4 : decide (bits BinOp.xor IntKind.u64 IntKind.u64.max z.stream ≤ (x : Int)) = true := by rw [e1]; exact decide_eq_true hf
          clear hf e1
          have HD := hid (fun (W : World) (hW : RdAt W g B a (st1.fail 13 (st.p : Int))) => delta_read W hW hB pos hpos 4 (by omega))
          generalize (st1.fail 13 (st.p : Int)).delta B pos 4 = D at *
          obtain ⟨s6, bk⟩ := D
          dsimp only at *

          go_wp2_with fail
          refine HAT.out.mono ?_
          rintro r w2 ⟨rfl, rfl⟩
          go_wp2_with fail
          refine HVR.out.mono ?_
          rintro r w3 ⟨rfl, hst3⟩
          have HIN3 := hid (hin.out.step hst3)
          have HO3 := hid (OwnEls.tch3 HO.out (hst3.2.mono fun b hb e => .inl e) hlt)
          have hsz3 := HIN3.out.tch.size
          have X0 := (hst3.2.cell (p := ⟨bq, o + m * 2, none⟩) hbr hbg).trans hc0
          have hb3 : bq < w3.heap.size := Nat.lt_of_lt_of_le hbr hst3.2.size
          clear hst3 hc0
          go_wp2_with fail

          refine (rd_fail _ (HIN3.out.row ((by (repeat (first | with_reducible exact Below.refl _ _ | with_reducible assumption | (with_reducible refine below_alloc ?_ _) | (with_reducible refine Below.setCell ?_ (by first | omega | (simp; done) | (simp; omega)) _) | (with_reducible refine Below.drew ?_) | (with_reducible refine below_drewN ?_ _) | (refine below_then (by with_reducible assumption) ?_))) : Below w3.heap.size w3 _).mono hsz3)).rd 13 (st.p : Int) (by omega)).mono ?_
          rintro r w4 ⟨rfl, hst4⟩
          have B4 : Blk w4 w3.heap.size 215 #[.int .u64 (x : Int), .slice none 0 0] := Blk.tch (by (repeat (first | assumption | exact Blk.newAt _ _ _ (by first | (simp; done) | (simp; omega)) | refine Blk.alloc ?_ _ | refine Blk.drew ?_ | refine Blk.drewN ?_ _ | refine Blk.far ?_ (by first | (simp; done) | (simp; omega)) _))) hst4.2 (by omega)
          have HIN4 := hid ((HIN3.out.row ((by (repeat (first | with_reducible exact Below.refl _ _ | with_reducible assumption | (with_reducible refine below_alloc ?_ _) | (with_reducible refine Below.setCell ?_ (by first | omega | (simp; done) | (simp; omega)) _) | (with_reducible refine Below.drew ?_) | (with_reducible refine below_drewN ?_ _) | (refine below_then (by with_reducible assumption) ?_))) : Below w3.heap.size w3 _).mono hsz3)).step hst4)
          have hsz4 := hst4.2.size
          obtain ⟨q0, q1, e0, e1, l4⟩ := f_blk B4
          clear hst4
          go_wp2_with fail
          refine (HD.out _ (HIN4.out.row ((by (repeat (first | with_reducible exact Below.refl _ _ | with_reducible assumption | (with_reducible refine below_alloc ?_ _) | (with_reducible refine Below.setCell ?_ (by first | omega | (simp; done) | (simp; omega)) _) | (with_reducible refine Below.drew ?_) | (with_reducible refine below_drewN ?_ _) | (refine below_then (by with_reducible assumption) ?_))) : Below w3.heap.size w4 _).mono hsz3)).rd).mono ?_
          rintro r w6 ⟨v6, rfl, hv6, hst6⟩
          obtain ⟨a6, c6, hfv, _, _⟩ := sl_form hv6
          simp only [List.cons.injEq, and_true] at hfv
          subst hfv
          have BK6 : Blk w6 w3.heap.size 215 #[_, .slice none 0 0] := Blk.tch (B4.set 0 _) hst6.2 (by omega)
          have HIN6 := hid ((HIN4.out.row ((by (repeat (first | with_reducible exact Below.refl _ _ | with_reducible assumption | (with_reducible refine below_alloc ?_ _) | (with_reducible refine Below.setCell ?_ (by first | omega | (simp; done) | (simp; omega)) _) | (with_reducible refine Below.drew ?_) | (with_reducible refine below_drewN ?_ _) | (refine below_then (by with_reducible assumption) ?_))) : Below w3.heap.size w4 _).mono hsz3)).step hst6)
          have HSP := hid (hsp.out.trans hstep)
          have HG := hid (fun (W : World) (hW : RdAt W g B a s6) => (by have := rd_good W hW; rw [decide_eq_false hbad] at this; exact this : Calls Tryz.prog 112 #[.pointer (some ⟨g, 0, none⟩)] W fun r w' => r = .returned (.bool false) ∧ Below W.heap.size W w'))
          obtain ⟨y0, y1, f0, f1, hl6⟩ := f_blk BK6
          clear hsp hstep hbad hv6 B4 q0 q1 e0 e1 l4
          go_wp2_with fail
          refine (HG.out _ (HIN6.out.row ((by (repeat (first | with_reducible exact Below.refl _ _ | with_reducible assumption | (with_reducible refine below_alloc ?_ _) | (with_reducible refine Below.setCell ?_ (by first | omega | (simp; done) | (simp; omega)) _) | (with_reducible refine Below.drew ?_) | (with_reducible refine below_drewN ?_ _) | (refine below_then (by with_reducible assumption) ?_))) : Below w3.heap.size w6 _).mono hsz3)).rd).mono ?_
          rintro r w7 ⟨rfl, hb7⟩
          have hb67 : Below w3.heap.size w6 w7 := (by (repeat (first | with_reducible exact Below.refl _ _ | with_reducible assumption | (with_reducible refine below_alloc ?_ _) | (with_reducible refine Below.setCell ?_ (by first | omega | (simp; done) | (simp; omega)) _) | (with_reducible refine Below.drew ?_) | (with_reducible refine below_drewN ?_ _) | (refine below_then (by with_reducible assumption) ?_))) : Below w3.heap.size w6 (w6.setCell ⟨w3.heap.size, 1, none⟩ (.slice a6 bk.length c6))).trans (hb7.mono (by simp; omega))
          have HE := hid (HIN6.out.row (hb67.mono hsz3)).to
          clear hb7
          go_wp2
          go_ret
          rw [HSP.out]
          exact ⟨.slice none 0 0, rfl, OwnEls.sliceW (e := 0) (Nat.le_refl _) OwnEls.nil, HE.out⟩
        · have hS : st.stream B (some z.stream) = ((st.num B).1, ((st.num B).2 : Int) + (z.stream + 1)) := by
            simp only [Rs.stream]
            rw [if_neg hf, Int.add_assoc]
          rw [hS] at hstep
          clear hS
          generalize st.num B = R at *
          obtain ⟨st1, x⟩ := R
          dsimp only at *
          have hxb : (0 : Int) ≤ (x : Int) + (z.stream + 1) ∧ (x : Int) + (z.stream + 1) ≤ 18446744073709551615 := by omega
          have d4 : decide (bits BinOp.xor IntKind.u64 IntKind.u64.max z.stream ≤ (x : Int)) = false := by rw [e1]; exact decide_eq_false hf
          have v1 : 0 ≤ z.stream + 1 := by omega
          have v2 : z.stream + 1 ≤ 18446744073709551615 := by omega
          have v3 := hxb.1
          have v4 := hxb.2
          clear hf e1
          have HD := hid (fun (W : World) (hW : RdAt W g B a st1) => delta_read W hW hB pos hpos 4 (by omega))
          generalize st1.delta B pos 4 = D at *
          obtain ⟨s6, bk⟩ := D
          dsimp only at *

          go_wp2_with fail
          refine HAT.out.mono ?_
          rintro r w2 ⟨rfl, rfl⟩
          go_wp2_with fail
          refine HVR.out.mono ?_
          rintro r w3 ⟨rfl, hst3⟩
          have HIN3 := hid (hin.out.step hst3)
          have HO3 := hid (OwnEls.tch3 HO.out (hst3.2.mono fun b hb e => .inl e) hlt)
          have hsz3 := HIN3.out.tch.size
          have X0 := (hst3.2.cell (p := ⟨bq, o + m * 2, none⟩) hbr hbg).trans hc0
          have hb3 : bq < w3.heap.size := Nat.lt_of_lt_of_le hbr hst3.2.size
          clear hst3 hc0
          go_wp2_with fail

          refine (HD.out _ (HIN3.out.row ((by (repeat (first | with_reducible exact Below.refl _ _ | with_reducible assumption | (with_reducible refine below_alloc ?_ _) | (with_reducible refine Below.setCell ?_ (by first | omega | (simp; done) | (simp; omega)) _) | (with_reducible refine Below.drew ?_) | (with_reducible refine below_drewN ?_ _) | (refine below_then (by with_reducible assumption) ?_))) : Below w3.heap.size w3 _).mono hsz3)).rd).mono ?_
          rintro r w6 ⟨v6, rfl, hv6, hst6⟩
          obtain ⟨a6, c6, hfv, _, _⟩ := sl_form hv6
          simp only [List.cons.injEq, and_true] at hfv
          subst hfv
          have BK6 : Blk w6 w3.heap.size 215 #[.int .u64 ((x : Int) + (z.stream + 1)), .slice none 0 0] := Blk.tch (by (repeat (first | assumption | exact Blk.newAt _ _ _ (by first | (simp; done) | (simp; omega)) | refine Blk.alloc ?_ _ | refine Blk.drew ?_ | refine Blk.drewN ?_ _ | refine Blk.far ?_ (by first | (simp; done) | (simp; omega)) _))) hst6.2 (by omega)
          have HIN6 := hid ((HIN3.out.row ((by (repeat (first | with_reducible exact Below.refl _ _ | with_reducible assumption | (with_reducible refine below_alloc ?_ _) | (with_reducible refine Below.setCell ?_ (by first | omega | (simp; done) | (simp; omega)) _) | (with_reducible refine Below.drew ?_) | (with_reducible refine below_drewN ?_ _) | (refine below_then (by with_reducible assumption) ?_))) : Below w3.heap.size w3 _).mono hsz3)).step hst6)
          have HK6 : Hid (Tch (fun b => b = g ∨ w3.heap.size ≤ b) w3 w6) := hid ((Tch.of_below (by (repeat (first | with_reducible exact Below.refl _ _ | with_reducible assumption | (with_reducible refine below_alloc ?_ _) | (with_reducible refine Below.setCell ?_ (by first | omega | (simp; done) | (simp; omega)) _) | (with_reducible refine Below.drew ?_) | (with_reducible refine below_drewN ?_ _) | (refine below_then (by with_reducible assumption) ?_))) : Below w3.heap.size w3 _)).mono (fun b hb e => .inr e) |>.trans hst6.2 (fun b hb e => .inl e))
          by_cases hk6 : s6.k = 0
          · rw [if_pos hk6] at hstep
            have HSP := hid (hsp.out.trans hstep)
            have HG := hid (fun (W : World) (hW : RdAt W g B a s6) => (by have := rd_good W hW; rw [decide_eq_true hk6] at this; exact this : Calls Tryz.prog 112 #[.pointer (some ⟨g, 0, none⟩)] W fun r w' => r = .returned (.bool true) ∧ Below W.heap.size W w'))
            obtain ⟨y0, y1, f0, f1, hl6⟩ := f_blk BK6
            have HV6 := hid hv6
            have hq6 := hst6.2.size
            simp at hq6
            clear hsp hstep hk6 hv6 hst6
            go_wp2_with fail
            refine (HG.out _ (HIN6.out.row ((by (repeat (first | with_reducible exact Below.refl _ _ | with_reducible assumption | (with_reducible refine below_alloc ?_ _) | (with_reducible refine Below.setCell ?_ (by first | omega | (simp; done) | (simp; omega)) _) | (with_reducible refine Below.drew ?_) | (with_reducible refine below_drewN ?_ _) | (refine below_then (by with_reducible assumption) ?_))) : Below w3.heap.size w6 _).mono hsz3)).rd).mono ?_
            rintro r w7 ⟨rfl, hb7⟩
            have B7 : Blk w7 w3.heap.size 215 #[.int .u64 ((x : Int) + (z.stream + 1)), .slice a6 bk.length c6] := Blk.later (BK6.set 1 _) hb7
            obtain ⟨z0, z1, _, _, hl7⟩ := f_blk B7
            have hb67 : Below w3.heap.size w6 w7 := (by (repeat (first | with_reducible exact Below.refl _ _ | with_reducible assumption | (with_reducible refine below_alloc ?_ _) | (with_reducible refine Below.setCell ?_ (by first | omega | (simp; done) | (simp; omega)) _) | (with_reducible refine Below.drew ?_) | (with_reducible refine below_drewN ?_ _) | (refine below_then (by with_reducible assumption) ?_))) : Below w3.heap.size w6 (w6.setCell ⟨w3.heap.size, 1, none⟩ (.slice a6 bk.length c6))).trans (hb7.mono (by simp; omega))
            have HIN7 := hid (HIN6.out.row (hb67.mono hsz3))
            have hsz7 := HIN7.out.tch.size
            have hk7 : Tch (fun b => b = g ∨ w3.heap.size ≤ b) w3 w7 := HK6.out.trans (Tch.of_below hb67) (fun b hb hle => .inr hle)
            have O7 := OwnEls.tch3 HO3.out hk7 hlt
            obtain ⟨cells0, OA0⟩ := HO3.out
            have hlt0 : ∀ g', (Value.slice (some ⟨bq, o, none⟩) J.length cv).ownBlock = some g' → g' < w3.heap.size := fun g' e => (OA0.1.lt g' e).2
            obtain ⟨cells, OA⟩ := OwnEls.below O7 (show Below w7.heap.size w7 (w7.alloc (.cells #[.int .u64 ((x : Int) + (z.stream + 1)), .slice a6 bk.length c6] 215)) from by (repeat (first | with_reducible exact Below.refl _ _ | with_reducible assumption | (with_reducible refine below_alloc ?_ _) | (with_reducible refine Below.setCell ?_ (by first | omega | (simp; done) | (simp; omega)) _) | (with_reducible refine Below.drew ?_) | (with_reducible refine below_drewN ?_ _) | (refine below_then (by with_reducible assumption) ?_))))
            have hk8 : ∀ b, w3.heap.size + 1 ≤ b → b < w6.heap.size → (w7.alloc (.cells #[.int .u64 ((x : Int) + (z.stream + 1)), .slice a6 bk.length c6] 215)).heap[b]? = w6.heap[b]? := fun b h1 h2 => (Below.heap_alloc w7 _ b (by have := hb67.size; omega)).trans ((hb7.block b (by simpa using h2)).trans (Below.heap_setCell _ _ _ _ (by dsimp only; omega)))
            have hv8 := rU64s.keep (w' := (w7.alloc (.cells #[.int .u64 ((x : Int) + (z.stream + 1)), .slice a6 bk.length c6] 215))) HV6.out (fun b (hb : (w3.alloc (.cells #[.int .u64 ((x : Int) + (z.stream + 1)), .slice none 0 0] 215)).heap.size ≤ b ∧ b < w6.heap.size) => hk8 b (by have := hb.1; simp at this; omega) hb.2)
            have hx8 : rLink.r (fun b => w.heap.size ≤ b ∧ b < (w7.alloc (.cells #[.int .u64 ((x : Int) + (z.stream + 1)), .slice a6 bk.length c6] 215)).heap.size ∧ (Value.slice (some ⟨bq, o, none⟩) J.length cv).ownBlock ≠ some b) (w7.alloc (.cells #[.int .u64 ((x : Int) + (z.stream + 1)), .slice a6 bk.length c6] 215)) [.int .u64 ((x : Int) + (z.stream + 1)), .slice a6 bk.length c6] ⟨((x : Int) + (z.stream + 1)), bk⟩ := by
              refine link_mk (x := ⟨((x : Int) + (z.stream + 1)), bk⟩) hxb (rU64s.mono hv8 fun b hb => ?_)
              have h1 := hb.1
              have h2 := hb.2
              have h3 := hb67.size
              simp at h1
              refine ⟨by omega, by simp; omega, fun e => ?_⟩
              have := hlt0 b e
              omega
            have HX := hid hx8
            have HA := hid OA
            have HS9 : Hid (w.heap.size ≤ (w7.alloc (.cells #[.int .u64 ((x : Int) + (z.stream + 1)), .slice a6 bk.length c6] 215)).heap.size) := hid (by simp; omega)
            clear hx8 hv8 OA OA0 hlt0 hk8 O7 hk7 hb67 hb7 B7 y0 y1 f0 f1 HV6
            go_wp2_with (at_builtin; go_loud (refine wpList_append_src rfl _ _ _ rfl w.heap.size 215 i0 (.agg #[.int .u64 0, .slice none 0 0]) 2 32 Tryz.underlying38 hi hz0 hz1 hz2 rfl (by decide) (.slice (some ⟨bq, o, none⟩) J.length cv) J.length _ rfl HA.out.1 (some ⟨w7.heap.size, 0, none⟩) 1 1 [.int .u64 ((x : Int) + (z.stream + 1)), .slice a6 bk.length c6] rfl (src_new1 w7 215 _ rfl rfl rfl) (by intro u hu; simp at hu; rcases hu with rfl | rfl <;> rfl) (by simp only [maxLen]; omega) (by omega) HS9.out ?_; intro v1 w9 hown1 hgrow1 hat1; have OP := hid (OwnEls.push HA.out rfl HX.out hown1 hgrow1 hat1 hgrow1.size); have hb9 : Below w.heap.size w7 w9 := (Below.grown ((by (repeat (first | with_reducible exact Below.refl _ _ | with_reducible assumption | (with_reducible refine below_alloc ?_ _) | (with_reducible refine Below.setCell ?_ (by first | omega | (simp; done) | (simp; omega)) _) | (with_reducible refine Below.drew ?_) | (with_reducible refine below_drewN ?_ _) | (refine below_then (by with_reducible assumption) ?_))) : Below w7.heap.size w7 _).mono hsz7) hgrow1 HS9.out (fun g e => (HA.out.1.lt g e).1)); clear hown1 hgrow1 hat1))
            have HIN9 := hid (HIN7.out.row hb9)
            have HJ9 : Hid (∀ y ∈ J ++ [(⟨((x : Int) + (z.stream + 1)), bk⟩ : Link)], 0 ≤ y.stream ∧ y.stream ≤ 18446744073709551615) := hid (fun y hy => by
              rw [List.mem_append, List.mem_singleton] at hy
              rcases hy with hy | rfl
              · exact hJb.out y hy
              · exact hxb)
            go_roundw
            case rel => exact ⟨m + 1 + 1, J ++ [⟨((x : Int) + (z.stream + 1)), bk⟩], s6, by omega, by go_num, hid (by rw [List.length_append, hJl.out]; rfl), OP.out, HJ9, HIN9, hid (by rw [HSP.out]; simp)⟩
            case measure => simp [intOf]; omega
          · rw [if_neg hk6] at hstep
            have HSP := hid (hsp.out.trans hstep)
            have HG := hid (fun (W : World) (hW : RdAt W g B a s6) => (by have := rd_good W hW; rw [decide_eq_false hk6] at this; exact this : Calls Tryz.prog 112 #[.pointer (some ⟨g, 0, none⟩)] W fun r w' => r = .returned (.bool false) ∧ Below W.heap.size W w'))
            obtain ⟨y0, y1, f0, f1, hl6⟩ := f_blk BK6
            clear hsp hstep hk6 hv6
            go_wp2_with fail
            refine (HG.out _ (HIN6.out.row ((by (repeat (first | with_reducible exact Below.refl _ _ | with_reducible assumption | (with_reducible refine below_alloc ?_ _) | (with_reducible refine Below.setCell ?_ (by first | omega | (simp; done) | (simp; omega)) _) | (with_reducible refine Below.drew ?_) | (with_reducible refine below_drewN ?_ _) | (refine below_then (by with_reducible assumption) ?_))) : Below w3.heap.size w6 _).mono hsz3)).rd).mono ?_
            rintro r w7 ⟨rfl, hb7⟩
            have hb67 : Below w3.heap.size w6 w7 := (by (repeat (first | with_reducible exact Below.refl _ _ | with_reducible assumption | (with_reducible refine below_alloc ?_ _) | (with_reducible refine Below.setCell ?_ (by first | omega | (simp; done) | (simp; omega)) _) | (with_reducible refine Below.drew ?_) | (with_reducible refine below_drewN ?_ _) | (refine below_then (by with_reducible assumption) ?_))) : Below w3.heap.size w6 (w6.setCell ⟨w3.heap.size, 1, none⟩ (.slice a6 bk.length c6))).trans (hb7.mono (by simp; omega))
            have HE := hid (HIN6.out.row (hb67.mono hsz3)).to
            clear hb7
            go_wp2
            go_ret
            rw [HSP.out]
            exact ⟨.slice none 0 0, rfl, OwnEls.sliceW (e := 0) (Nat.le_refl _) OwnEls.nil, HE.out⟩
    · obtain rfl : k = N := by omega
      have hE := hsp.out
      rw [Nat.sub_self] at hE
      have HSP : Hid (Rs.linksF B pos k s1 none [] = (st, J)) := hid hE
      have hv := OwnEls.sliceW (Nat.le_refl _) hown
      have HV := hid hv
      have HE := hid hin.out.to
      clear hE hv hown
      go_wp2
      go_ret
      rw [HSP.out]
      exact ⟨_, rfl, HV.out, HE.out⟩

def headE (h : List Link × Nat) : Entry := ⟨h.1, []⟩
def sizeCells (l : List (List Link × Nat)) : List Value := l.map fun h => .int .i64 (h.2 : Int)
structure HeadsAt (lo : Nat) (W : World) (v u : Value) (J : List (List Link × Nat)) : Prop where
  els : ∃ cells, OwnElsF (fun b => lo ≤ b ∧ b < W.heap.size ∧ u.ownBlock ≠ some b) rEntryW lo 180 2 W v (J.map headE) cells
  szs : W.ownsRow lo 3 1 u J.length (sizeCells J)
theorem own_ne {W : World} {lo lo' : Nat} {e e' : TypeId} {sz sz' n m : Nat} {v u : Value} {xs ys : List Value} (h : W.ownsRow lo e sz v n xs) (h' : W.ownsRow lo' e' sz' u m ys) (hne : e ≠ e') : ∀ b, v.ownBlock = some b → u.ownBlock ≠ some b := by
  intro b hv hu
  rcases h.2 with ⟨rfl, _⟩ | ⟨g, cap, cur, rfl, _, hg, _⟩
  · cases hv
  · rcases h'.2 with ⟨rfl, _⟩ | ⟨g', cap', cur', rfl, _, hg', _⟩
    · cases hu
    · have e1 : g = b := by simpa [Value.ownBlock] using hv
      have e2 : g' = b := by simpa [Value.ownBlock] using hu
      subst e1 e2
      rw [hg] at hg'
      simp at hg'
      exact hne hg'.2
theorem own_stays {W W' : World} {lo : Nat} {e : TypeId} {sz n : Nat} {v : Value} {xs : List Value} (h : W.ownsRow lo e sz v n xs) (hk : ∀ b, v.ownBlock = some b → b < W.heap.size → W'.heap[b]? = W.heap[b]?) : W'.ownsRow lo e sz v n xs := by
  refine ⟨h.1, ?_⟩
  rcases h.2 with h0 | ⟨g', cap, cur, h1, h2, h3, h4⟩
  · exact .inl h0
  · exact .inr ⟨g', cap, cur, h1, h2, (hk g' (by rw [h1]; rfl) (Blk.lt h3)).trans h3, h4⟩
theorem own_lt {W : World} {lo : Nat} {e : TypeId} {sz n : Nat} {v : Value} {xs : List Value} (h : W.ownsRow lo e sz v n xs) : ∀ b, v.ownBlock = some b → lo ≤ b ∧ b < W.heap.size := by
  intro b hv
  rcases h.2 with ⟨rfl, _⟩ | ⟨g, cap, cur, rfl, hb, hg, _⟩
  · cases hv
  · have e1 : g = b := by simpa [Value.ownBlock] using hv
    subst e1
    exact ⟨hb, Blk.lt hg⟩
theorem HeadsAt.nil {lo : Nat} {W : World} : HeadsAt lo W (.slice none 0 0) (.slice none 0 0) [] := ⟨⟨[], OwnElsF.nil⟩, ⟨rfl, .inl ⟨rfl, rfl⟩⟩⟩
theorem HeadsAt.tch {lo g : Nat} {W W' : World} {v u : Value} {J : List (List Link × Nat)} (h : HeadsAt lo W v u J) (hb : Tch (fun b => b = g ∨ W.heap.size ≤ b) W W') (hg : g < lo) : HeadsAt lo W' v u J := by
  obtain ⟨⟨cells, OA⟩, hu⟩ := h
  have hk : ∀ b, lo ≤ b → b < W.heap.size → W'.heap[b]? = W.heap[b]? := fun b h1 h2 => hb.block b h2 (by omega)
  refine ⟨⟨cells, ?_⟩, own_stays hu fun b hv hl => hk b (own_lt hu b hv).1 hl⟩
  refine OwnElsF.mono (OwnElsF.keep OA (fun b h => hk b h.1 h.2.1) fun b hv => hk b (own_lt OA.1 b hv).1 (own_lt OA.1 b hv).2) fun b h => ⟨h.1, Nat.lt_of_lt_of_le h.2.1 hb.size, h.2.2⟩
/-- Behind the first append. -/
structure HeadsMid (lo : Nat) (B : Nat) (W : World) (v u : Value) (J J' : List (List Link × Nat)) : Prop where
  els : ∃ cells, OwnElsF (fun b => lo ≤ b ∧ b < B ∧ u.ownBlock ≠ some b) rEntryW lo 180 2 W v (J'.map headE) cells
  szs : W.ownsRow lo 3 1 u J.length (sizeCells J)
  le : B ≤ W.heap.size
theorem HeadsMid.of {lo : Nat} {W W' : World} {v v' u : Value} {J : List (List Link × Nat)} {x : List Link × Nat} {cells : List (List Value)} {news : List Value}
    (OA : OwnElsF (fun b => lo ≤ b ∧ b < W.heap.size ∧ u.ownBlock ≠ some b) rEntryW lo 180 2 W v (J.map headE) cells) (hu : W.ownsRow lo 3 1 u J.length (sizeCells J))
    (hn : news.length = 2) (hx : rEntryW.r (fun b => (lo ≤ b ∧ b < W.heap.size ∧ u.ownBlock ≠ some b) ∧ v.ownBlock ≠ some b) W news (headE x))
    (hown : W'.ownsRow lo 180 2 v' (J.length + 1) (cells.flatten ++ news)) (hg : W.grownBy W' v.ownBlock) (hat : v'.ownBlock = v.ownBlock ∨ v'.ownBlock = some W.heap.size) : HeadsMid lo W.heap.size W' v' u J (J ++ [x]) := by
  refine ⟨⟨cells ++ [news], ?_⟩, own_stays hu fun b hv hl => hg.block b hl (fun e => own_ne OA.1 hu (by decide) b e.symm hv), hg.size⟩
  rw [List.map_append, List.map_cons, List.map_nil]
  exact OwnElsF.push OA (fun b hb => hb.2.1) hn hx (by simpa using hown) hg hat
theorem HeadsMid.below {lo B : Nat} {W W' : World} {v u : Value} {J J' : List (List Link × Nat)} (h : HeadsMid lo B W v u J J') (hb : Below W.heap.size W W') : HeadsMid lo B W' v u J J' := by
  obtain ⟨⟨cells, OA⟩, hu, hB⟩ := h
  exact ⟨⟨cells, OwnElsF.keep OA (fun b h => hb.block b (by have := h.2.1; omega)) fun b hv => hb.block b (own_lt OA.1 b hv).2⟩, own_stays hu fun b hv hl => hb.block b hl, by have := hb.size; omega⟩
theorem HeadsMid.to {lo B : Nat} {W W' : World} {v u u' : Value} {J : List (List Link × Nat)} {x : List Link × Nat} (h : HeadsMid lo B W v u J (J ++ [x]))
    (hown : W'.ownsRow lo 3 1 u' (J.length + 1) (sizeCells J ++ [.int .i64 (x.2 : Int)])) (hg : W.grownBy W' u.ownBlock) (hat : u'.ownBlock = u.ownBlock ∨ u'.ownBlock = some W.heap.size) : HeadsAt lo W' v u' (J ++ [x]) := by
  obtain ⟨⟨cells, OA⟩, hu, hB⟩ := h
  refine ⟨⟨cells, ?_⟩, ?_⟩
  · refine OwnElsF.mono (OwnElsF.keep OA (fun b h => hg.block b (by have := h.2.1; omega) (fun e => h.2.2 e.symm)) fun b hv => hg.block b (own_lt OA.1 b hv).2 (fun e => own_ne OA.1 hu (by decide) b hv e.symm)) fun b h => ⟨h.1, ?_, fun e => ?_⟩
    · have := h.2.1; have := hg.size; omega
    · rcases hat with h' | h'
      · exact h.2.2 (h' ▸ e)
      · rw [h'] at e; have := Option.some.inj e; have := h.2.1; omega
  · have e : sizeCells (J ++ [x]) = sizeCells J ++ [.int .i64 (x.2 : Int)] := by simp [sizeCells]
    rw [e, List.length_append]
    exact hown
theorem HeadsAt.out {lo : Nat} {W : World} {v u : Value} {J : List (List Link × Nat)} (h : HeadsAt lo W v u J) : rEntriesW.r (fun b => lo ≤ b ∧ b < W.heap.size) W [v] (J.map headE) := by
  obtain ⟨⟨cells, OA⟩, hu⟩ := h
  exact OwnEls.sliceW (Nat.le_refl _) ⟨cells, OwnElsF.to OA fun b h => ⟨h.1, h.2.1⟩⟩
end Go.Proofs.YtfddhafbhceoaaaGreat
namespace Go.Bs
open Go.RowKit
set_option linter.unusedVariables false

structure Seal where
  epoch : Int
  node : Int
  tail : Int
  deriving DecidableEq
structure Stripe where
  lo : Int
  hi : Int
  sets : List (List Int)
  deriving DecidableEq
structure Projn where
  epoch : Int
  stripes : List Stripe
  deriving DecidableEq
structure Msg where
  kind : Int
  epoch : Int
  seq : Int
  pos : Int
  count : Int
  state : Int
  streams : List Int
  links : List Link
  data : List UInt8
  sea : Seal
  proj : Projn
  deriving DecidableEq

def rSeal : Rp Seal := rBy (fun s => (s.epoch, s.node, s.tail)) (rPair (rInt .u64) (rPair (rInt .u64) (rInt .u64)))
def rSets : Rp (List (List Int)) := rSl 1 rU64s
def rStripe : Rp Stripe := rBy (fun s => (s.lo, s.hi, s.sets)) (rPair (rInt .u64) (rPair (rInt .u64) rSets))
def rStripes : Rp (List Stripe) := rSl 3 rStripe
def rProjn : Rp Projn := rBy (fun p => (p.epoch, p.stripes)) (rPair (rInt .u64) rStripes)
def rMsg : Rp Msg := rBy (fun m => (m.kind, m.epoch, m.seq, m.pos, m.count, m.state, m.streams, m.links, m.data, m.sea, m.proj))
  (rPair (rInt .i64) (rPair (rInt .u64) (rPair (rInt .u64) (rPair (rInt .u64) (rPair (rInt .i64) (rPair (rInt .i64) (rPair rU64s (rPair rLinks (rPair rBytes (rPair rSeal rProjn))))))))))

def inU (x : Int) : Prop := 0 ≤ x ∧ x ≤ 18446744073709551615
def inI (x : Int) : Prop := -9223372036854775808 ≤ x ∧ x ≤ 9223372036854775807

section
variable {S : Nat → Prop} {w : World} {cs : List Value}
theorem seal_cells {x : Seal} (h : rSeal.r S w cs x) : cs = [.int .u64 x.epoch, .int .u64 x.node, .int .u64 x.tail] ∧ inU x.epoch ∧ inU x.node ∧ inU x.tail := by
  obtain ⟨c1, c2, rfl, ⟨rfl, h1⟩, c3, c4, rfl, ⟨rfl, h2⟩, rfl, h3⟩ := h
  exact ⟨rfl, bounds_u64 h1, bounds_u64 h2, bounds_u64 h3⟩
theorem stripe_cells {x : Stripe} (h : rStripe.r S w cs x) : ∃ a c, cs = [.int .u64 x.lo, .int .u64 x.hi, .slice a x.sets.length c] ∧ inU x.lo ∧ inU x.hi ∧ rSets.r S w [.slice a x.sets.length c] x.sets := by
  obtain ⟨c1, c2, rfl, ⟨rfl, h1⟩, c3, c4, rfl, ⟨rfl, h2⟩, h3⟩ := h
  obtain ⟨a, c, rfl, h4, _⟩ := sl_form h3
  exact ⟨a, c, rfl, bounds_u64 h1, bounds_u64 h2, h4⟩
theorem projn_cells {x : Projn} (h : rProjn.r S w cs x) : ∃ a c, cs = [.int .u64 x.epoch, .slice a x.stripes.length c] ∧ inU x.epoch ∧ rStripes.r S w [.slice a x.stripes.length c] x.stripes := by
  obtain ⟨c1, c2, rfl, ⟨rfl, h1⟩, h3⟩ := h
  obtain ⟨a, c, rfl, h4, _⟩ := sl_form h3
  exact ⟨a, c, rfl, bounds_u64 h1, h4⟩
/-- A message's cells, the slices' places told. -/
def msgCells (m : Msg) (a1 : Option Addr) (c1 : Nat) (a2 : Option Addr) (c2 : Nat) (a3 : Option Addr) (c3 : Nat) (a4 : Option Addr) (c4 : Nat) : List Value :=
  [.int .i64 m.kind, .int .u64 m.epoch, .int .u64 m.seq, .int .u64 m.pos, .int .i64 m.count, .int .i64 m.state, .slice a1 m.streams.length c1, .slice a2 m.links.length c2, .slice a3 m.data.length c3,
   .int .u64 m.sea.epoch, .int .u64 m.sea.node, .int .u64 m.sea.tail, .int .u64 m.proj.epoch, .slice a4 m.proj.stripes.length c4]
structure MsgIn (S : Nat → Prop) (w : World) (m : Msg) (a1 : Option Addr) (c1 : Nat) (a2 : Option Addr) (c2 : Nat) (a3 : Option Addr) (c3 : Nat) (a4 : Option Addr) (c4 : Nat) : Prop where
  kind : inI m.kind
  epoch : inU m.epoch
  seq : inU m.seq
  pos : inU m.pos
  count : inI m.count
  state : inI m.state
  sealE : inU m.sea.epoch
  sealN : inU m.sea.node
  sealT : inU m.sea.tail
  projE : inU m.proj.epoch
  streams : rU64s.r S w [.slice a1 m.streams.length c1] m.streams
  links : rLinks.r S w [.slice a2 m.links.length c2] m.links
  data : rBytes.r S w [.slice a3 m.data.length c3] m.data
  stripes : rStripes.r S w [.slice a4 m.proj.stripes.length c4] m.proj.stripes
theorem msg_cells {x : Msg} (h : rMsg.r S w cs x) : ∃ a1 c1 a2 c2 a3 c3 a4 c4, cs = msgCells x a1 c1 a2 c2 a3 c3 a4 c4 ∧ MsgIn S w x a1 c1 a2 c2 a3 c3 a4 c4 := by
  obtain ⟨_, _, rfl, ⟨rfl, h1⟩, _, _, rfl, ⟨rfl, h2⟩, _, _, rfl, ⟨rfl, h3⟩, _, _, rfl, ⟨rfl, h4⟩, _, _, rfl, ⟨rfl, h5⟩, _, _, rfl, ⟨rfl, h6⟩, _, _, rfl, h7, _, _, rfl, h8, _, _, rfl, h9, _, _, rfl, h10, h11⟩ := h
  obtain ⟨a1, c1, rfl, g1, _⟩ := sl_form h7
  obtain ⟨a2, c2, rfl, g2, _⟩ := sl_form h8
  obtain ⟨a3, c3, rfl, g3, _⟩ := sl_form h9
  obtain ⟨rfl, s1, s2, s3⟩ := seal_cells h10
  obtain ⟨a4, c4, rfl, p1, g4⟩ := projn_cells h11
  exact ⟨a1, c1, a2, c2, a3, c3, a4, c4, rfl, bounds_i64 h1, bounds_u64 h2, bounds_u64 h3, bounds_u64 h4, bounds_i64 h5, bounds_i64 h6, s1, s2, s3, p1, g1, g2, g3, g4⟩
theorem stripe_mk {x : Stripe} {v : Value} (h0 : inU x.lo) (h1 : inU x.hi) (h : rSets.r S w [v] x.sets) : rStripe.r S w [.int .u64 x.lo, .int .u64 x.hi, v] x :=
  ⟨[_], [_, _], rfl, ⟨rfl, u64_wf h0⟩, [_], [_], rfl, ⟨rfl, u64_wf h1⟩, h⟩
theorem set_at {xs : List (List Int)} {a : Option Addr} {n c : Nat} (h : rSets.r S w [.slice a n c] xs) {i : Nat} (hi : i < xs.length) : ∃ b off, a = some ⟨b, off, none⟩ ∧ S b ∧ ∃ a' c', w.cell? ⟨b, off + i, none⟩ = some (.slice a' xs[i].length c') ∧ rU64s.r S w [.slice a' xs[i].length c'] xs[i] := by
  obtain ⟨b, off, e, hS, cs, _, hc, hA⟩ := sl_at h hi
  obtain ⟨a', c', rfl, h1, _⟩ := sl_form hA
  have := hc 0 _ rfl
  rw [Nat.mul_one, Nat.add_zero] at this
  exact ⟨b, off, e, hS, a', c', this, h1⟩
theorem stripe_at {xs : List Stripe} {a : Option Addr} {n c : Nat} (h : rStripes.r S w [.slice a n c] xs) {i : Nat} (hi : i < xs.length) : ∃ b off, a = some ⟨b, off, none⟩ ∧ S b ∧ ∃ a' c', w.cell? ⟨b, off + i * 3, none⟩ = some (.int .u64 xs[i].lo) ∧ w.cell? ⟨b, off + i * 3 + 1, none⟩ = some (.int .u64 xs[i].hi) ∧ w.cell? ⟨b, off + i * 3 + 2, none⟩ = some (.slice a' xs[i].sets.length c') ∧
    inU xs[i].lo ∧ inU xs[i].hi ∧ rSets.r S w [.slice a' xs[i].sets.length c'] xs[i].sets := by
  obtain ⟨b, off, e, hS, cs, _, hc, hA⟩ := sl_at h hi
  obtain ⟨a', c', rfl, h1, h2, h3⟩ := stripe_cells hA
  exact ⟨b, off, e, hS, a', c', hc 0 _ rfl, hc 1 _ rfl, hc 2 _ rfl, h1, h2, h3⟩
end

/-! What is well-formed. -/
def sealR (s : Seal) : Bool := epR s.epoch && (decide (s.node ≤ 4294967295) && decide (s.tail ≤ 4611686018427387904))
def nodesR (l : List Int) : Bool := decide (1 ≤ l.length ∧ l.length ≤ 8) && (risesB l && decide (l.getLastD 0 ≤ 4294967295))
def apartR (l : List Int) (others : List (List Int)) : Bool := others.all fun o => l.all fun n => !o.contains n
/-- The sets from the i-th on. -/
def setR (L : List (List Int)) (i : Nat) : Bool := nodesR (L.getD i []) && apartR (L.getD i []) (L.take i)
def setsR (L : List (List Int)) : Nat → Bool
  | 0 => true
  | n + 1 => setsR L n && setR L n
def stripeR (s : Stripe) : Bool := decide (s.lo < s.hi ∧ s.hi ≤ 4611686018427387904 ∧ 1 ≤ s.sets.length ∧ s.sets.length ≤ 8) && setsR s.sets s.sets.length
/-- Stripes that follow one another from a place on. -/
def chainP : Int → List Stripe → Bool
  | p, [] => decide (p = 4611686018427387904)
  | p, s :: l => decide (s.lo = p) && (stripeR s && chainP s.hi l)
def projR (p : Projn) : Bool := epR p.epoch && (decide (1 ≤ p.stripes.length ∧ p.stripes.length ≤ 64) && chainP 0 p.stripes)

/-- The parts of a kind, as bits. -/
def partsK (k : Int) : Nat := if k < 1 ∨ 14 < k then 0 else [0, 1, 33, 0, 1, 1, 10, 0, 128, 36, 0, 64, 17, 128, 4].getD k.toNat 0
def hasK (k : Int) (p : Nat) : Bool := partsK k / p % 2 == 1
def mostK (k : Int) : Int := if k = 9 then 4 else 20
def blockK (k st : Int) : Bool := decide (k = 2) || (decide (k = 9) && decide (st = 1))
def withinR (h r z : Bool) : Bool := if h then r else z
def noSeal : Seal := ⟨0, 0, 0⟩
def msgR (m : Msg) : Bool :=
  decide (1 ≤ m.kind ∧ m.kind ≤ 14) && (withinR (hasK m.kind 1) (poR m.pos) (decide (m.pos = 0)) && (withinR (hasK m.kind 2) (decide (1 ≤ m.count ∧ m.count ≤ 65536)) (decide (m.count = 0)) &&
  (withinR (hasK m.kind 4) (decide (1 ≤ m.state ∧ m.state ≤ mostK m.kind)) (decide (m.state = 0)) && (withinR (hasK m.kind 8) (decide (m.streams.length ≤ 16) && risesB m.streams) (decide (m.streams.length = 0)) &&
  (withinR (hasK m.kind 16) (linksR m.pos m.links) (decide (m.links.length = 0)) && (withinR (hasK m.kind 64) (sealR m.sea) (decide (m.sea = noSeal)) &&
  (withinR (hasK m.kind 128) (projR m.proj) (decide (m.proj.epoch = 0) && decide (m.proj.stripes.length = 0)) && (decide (m.data.length = 0) || (blockK m.kind m.state && decide (m.data.length ≤ 1048576))))))))))
theorem partsK_mem (k : Int) : partsK k ∈ [0, 1, 33, 10, 128, 36, 64, 17, 4] := by
  unfold partsK
  split
  · simp
  · rename_i h
    have h' : k.toNat = 1 ∨ k.toNat = 2 ∨ k.toNat = 3 ∨ k.toNat = 4 ∨ k.toNat = 5 ∨ k.toNat = 6 ∨ k.toNat = 7 ∨ k.toNat = 8 ∨ k.toNat = 9 ∨ k.toNat = 10 ∨ k.toNat = 11 ∨ k.toNat = 12 ∨ k.toNat = 13 ∨ k.toNat = 14 := by omega
    rcases h' with h | h | h | h | h | h | h | h | h | h | h | h | h | h <;> rw [h] <;> decide
theorem hasK_data (k : Int) : hasK k 32 = (decide (k = 2) || decide (k = 9)) := by
  unfold hasK partsK
  split
  · have h1 : decide (k = 2) = false := decide_eq_false (by omega)
    have h2 : decide (k = 9) = false := decide_eq_false (by omega)
    rw [h1, h2]; decide
  · rename_i h
    have h' : k = 1 ∨ k = 2 ∨ k = 3 ∨ k = 4 ∨ k = 5 ∨ k = 6 ∨ k = 7 ∨ k = 8 ∨ k = 9 ∨ k = 10 ∨ k = 11 ∨ k = 12 ∨ k = 13 ∨ k = 14 := by omega
    rcases h' with h | h | h | h | h | h | h | h | h | h | h | h | h | h <;> subst h <;> decide
end Go.Bs
namespace Go.Proofs.YtfddhafbhceoaaaGreat
open Go.RowKit Go.Bs Go.Maps
set_option linter.unusedVariables false
set_option linter.unusedSimpArgs false

def tlR (x : Int) : Bool := decide (x ≤ 4611686018427387904)
def Rs.tl (B : List UInt8) (s : Rs) : Rs × Nat := if (s.num B).1.k = 0 then (if tlR ((s.num B).2 : Int) = true then s.num B else ((s.num B).1.fail 3 s.p, 0)) else ((s.num B).1, 0)
/-- A rising list, read. -/
def Rs.rise (B : List UInt8) : Nat → Rs → List Int → Rs × List Int
  | 0, s, out => (s, out)
  | n + 1, s, out =>
    if (s.num B).1.k = 0 then
      (if out ≠ [] ∧ 18446744073709551615 - out.getLastD 0 ≤ ((s.num B).2 : Int) then ((s.num B).1.fail 13 s.p, [])
       else Rs.rise B n (s.num B).1 (out ++ [if out = [] then ((s.num B).2 : Int) else ((s.num B).2 : Int) + (out.getLastD 0 + 1)]))
    else ((s.num B).1, [])
def noSealS : Seal := ⟨0, 0, 0⟩
def Rs.seal_ (B : List UInt8) (s : Rs) : Rs × Seal :=
  let e := s.ep B
  let n := e.1.most B 4294967295
  let t := n.1.tl B
  if t.1.k = 0 then (t.1, ⟨(e.2 : Int), (n.2 : Int), (t.2 : Int)⟩) else (t.1, noSealS)
/-- How many there are: one at least. -/
def Rs.many (B : List UInt8) (s : Rs) (m : Int) : Rs × Nat := (if (s.int B m).2 = 0 then (s.int B m).1.fail 3 s.p else (s.int B m).1, (s.int B m).2)
def Rs.set_ (B : List UInt8) (s : Rs) (others : List (List Int)) : Rs × List Int :=
  let e := s.many B 8
  let f := Rs.rise B e.2 e.1 []
  if f.1.k = 0 then
    (if 4294967295 < f.2.getLastD 0 then (f.1.fail 3 e.1.p, f.2) else if apartR f.2 others = true then f else (f.1.fail 13 e.1.p, f.2))
  else (f.1, [])
def Rs.sets_ (B : List UInt8) : Nat → Rs → List (List Int) → Rs × List (List Int)
  | 0, s, out => (s, out)
  | n + 1, s, out => if (s.set_ B out).1.k = 0 then Rs.sets_ B n (s.set_ B out).1 (out ++ [(s.set_ B out).2]) else ((s.set_ B out).1, [])
def noStripe : Stripe := ⟨0, 0, []⟩
/-- The reader behind a stripe's length, and that. -/
def Rs.span (B : List UInt8) (s : Rs) (lo : Int) : Rs × Nat :=
  let s0 := if 4611686018427387904 < lo then s.fail 3 s.p else s
  let d := s0.num B
  (if 4611686018427387904 - min lo 4611686018427387904 ≤ (d.2 : Int) then d.1.fail 3 s.p else d.1, d.2)
def Rs.stripe_ (B : List UInt8) (s : Rs) (lo : Int) : Rs × Stripe :=
  let d := s.span B lo
  let k := d.1.many B 8
  let u := Rs.sets_ B k.2 k.1 []
  if u.1.k = 0 then (u.1, ⟨lo, lo + d.2 + 1, u.2⟩) else (u.1, noStripe)
def Rs.stripes_ (B : List UInt8) : Nat → Rs → Int → List Stripe → Rs × Int × List Stripe
  | 0, s, lo, out => (s, lo, out)
  | n + 1, s, lo, out => if (s.stripe_ B lo).1.k = 0 then Rs.stripes_ B n (s.stripe_ B lo).1 (s.stripe_ B lo).2.hi (out ++ [(s.stripe_ B lo).2]) else ((s.stripe_ B lo).1, 0, [])
def noProj : Projn := ⟨0, []⟩
def Rs.proj_ (B : List UInt8) (s : Rs) : Rs × Projn :=
  let e := s.ep B
  let i := e.1.many B 64
  let u := Rs.stripes_ B i.2 i.1 0 []
  let v := if u.2.1 = 4611686018427387904 then u.1 else u.1.fail 3 u.1.p
  if v.k = 0 then (v, ⟨(e.2 : Int), u.2.2⟩) else (v, noProj)

theorem epoch_tail1 (x : Int) (w : World) : Calls Tryz.prog 363 #[.int .u64 x] w fun r w' => r = .returned (.bool (tlR x)) ∧ w = w' := by
  go_enter Tryz.func363, Tryz.ntmps363
  go_wp2_with fail
  go_ret
  exact ⟨rfl, rfl⟩

set_option maxRecDepth 100000 in
set_option maxHeartbeats 3200000 in
theorem epoch_read_tl (w : World) {g : Nat} {B : List UInt8} {a : Option Addr} {s : Rs} (h : RdAt w g B a s) (hB : B.length ≤ 1000000000) :
    Calls Tryz.prog 255 #[.pointer (some ⟨g, 0, none⟩), .func (Fn.func 363) #[] #[]] w fun r w' => r = .returned (.int .u64 ((s.tl B).2 : Int)) ∧ RdStep w g B a (s.tl B).1 w' := by
  have HAT := hid (rd_at w h)
  have HVR := hid (varint_read w h (by omega))
  have hxb := Rs.num_bad (B := B) (s := s)
  have HIN := hid (RdInv.refl h)
  unfold Rs.tl
  generalize s.num B = R at *
  obtain ⟨st1, x⟩ := R
  dsimp only at *
  have HRT := hid (fun (W : World) => epoch_tail1 (x : Int) W)
  have HBAD := hid hxb
  clear h hxb
  by_cases hk1 : st1.k = 0
  · rw [if_pos hk1]
    by_cases hr : tlR (x : Int) = true
    · rw [if_pos hr]
      rw [hr] at HRT
      have HK : Hid (decide (st1.k = 0) = true) := hid (decide_eq_true hk1)
      clear hk1 hr
      go_enter Tryz.func255, Tryz.ntmps255
      go_wp2_with fail
      refine HAT.out.mono ?_
      rintro r w2 ⟨rfl, rfl⟩
      go_wp2_with fail
      refine HVR.out.mono ?_
      rintro r w3 ⟨rfl, hst3⟩
      have HIN3 := hid (HIN.out.step hst3)
      clear hst3
      go_wp2_with fail
      refine (HRT.out w3).mono ?_
      rintro r w3' ⟨rfl, rfl⟩
      go_wp2_with fail

      refine ((by have := rd_good w3 HIN3.out.rd; rw [HK.out] at this; exact this : Calls Tryz.prog 112 #[.pointer (some ⟨g, 0, none⟩)] w3 fun r w' => r = .returned (.bool true) ∧ Below w3.heap.size w3 w')).mono ?_
      rintro r w5 ⟨rfl, hb5⟩
      have HE := hid (HIN3.out.to.then hb5)
      go_wp2
      go_ret
      exact ⟨rfl, HE.out⟩
    · rw [if_neg hr]
      rw [Bool.eq_false_iff.2 hr] at HRT
      have hfk : (st1.fail 3 s.p).k ≠ 0 := Rs.fail_k (by omega)
      clear hk1 hr
      go_enter Tryz.func255, Tryz.ntmps255
      go_wp2_with fail
      refine HAT.out.mono ?_
      rintro r w2 ⟨rfl, rfl⟩
      go_wp2_with fail
      refine HVR.out.mono ?_
      rintro r w3 ⟨rfl, hst3⟩
      have HIN3 := hid (HIN.out.step hst3)
      clear hst3
      go_wp2_with fail
      refine (HRT.out w3).mono ?_
      rintro r w3' ⟨rfl, rfl⟩
      go_wp2_with fail

      refine (rd_fail w3 HIN3.out.rd 3 (s.p : Int) (by omega)).mono ?_
      rintro r w4 ⟨rfl, hst4⟩
      have HIN4 := hid (HIN3.out.step hst4)
      have hg := rd_good w4 HIN4.out.rd
      rw [decide_eq_false hfk] at hg
      have HG := hid hg
      clear hst4 hg hfk
      go_wp2_with fail

      refine HG.out.mono ?_
      rintro r w5 ⟨rfl, hb5⟩
      have HE := hid (HIN4.out.to.then hb5)
      go_wp2
      go_ret
      exact ⟨rfl, HE.out⟩
  · rw [if_neg hk1]
    have hx0 := HBAD.out hk1
    subst hx0
    have hfk : st1.k ≠ 0 := hk1
    have hfid : st1.fail 3 s.p = st1 := Rs.fail_of_bad hk1
    rw [show tlR ((0 : Nat) : Int) = true from by decide] at HRT
    clear hk1
    go_enter Tryz.func255, Tryz.ntmps255
    go_wp2_with fail
    refine HAT.out.mono ?_
    rintro r w2 ⟨rfl, rfl⟩
    go_wp2_with fail
    refine HVR.out.mono ?_
    rintro r w3 ⟨rfl, hst3⟩
    have HIN3 := hid (HIN.out.step hst3)
    clear hst3
    go_wp2_with fail
    refine (HRT.out w3).mono ?_
    rintro r w3' ⟨rfl, rfl⟩
    go_wp2_with fail

    refine ((by have := rd_good w3 HIN3.out.rd; rw [decide_eq_false hfk] at this; exact this : Calls Tryz.prog 112 #[.pointer (some ⟨g, 0, none⟩)] w3 fun r w' => r = .returned (.bool false) ∧ Below w3.heap.size w3 w')).mono ?_
    rintro r w5 ⟨rfl, hb5⟩
    have HE := hid (HIN3.out.to.then hb5)
    clear hfk hfid
    go_wp2
    go_ret
    exact ⟨rfl, HE.out⟩

theorem epoch_readtail (w : World) {g : Nat} {B : List UInt8} {a : Option Addr} {s : Rs} (h : RdAt w g B a s) (hB : B.length ≤ 1000000000) :
    Calls Tryz.prog 350 #[.pointer (some ⟨g, 0, none⟩)] w fun r w' => r = .returned (.int .u64 ((s.tl B).2 : Int)) ∧ RdStep w g B a (s.tl B).1 w' := by
  have HR := hid (epoch_read_tl w h hB)
  generalize s.tl B = R at *
  clear h
  go_enter Tryz.func350, Tryz.ntmps350
  go_wp2_with fail
  refine HR.out.mono ?_
  rintro r w1 ⟨rfl, hst⟩
  have HST := hid hst
  clear hst
  go_wp2
  go_ret
  exact ⟨rfl, HST.out⟩

/-- By how much each number is above the one ahead. -/
def upsN : Option Int → List Int → List Int
  | _, [] => []
  | p, x :: l => (match p with | none => x | some q => x - q - 1) :: upsN (some x) l
def upsB (l : List Int) : List UInt8 := numsB (upsN none l)
def setB (l : List Int) : List UInt8 := varB l.length ++ upsB l
def setsB (l : List (List Int)) : List UInt8 := (l.map setB).flatten
def stripeB (s : Stripe) : List UInt8 := varB (s.hi - s.lo - 1).toNat ++ varB s.sets.length ++ setsB s.sets
def stripesB (l : List Stripe) : List UInt8 := (l.map stripeB).flatten
def projB (p : Projn) : List UInt8 := varB p.epoch.toNat ++ varB p.stripes.length ++ stripesB p.stripes
def sealB (s : Seal) : List UInt8 := varB s.epoch.toNat ++ varB s.node.toNat ++ varB s.tail.toNat
def partB (h : Bool) (b : List UInt8) : List UInt8 := if h then b else []
def msgB (m : Msg) : List UInt8 :=
  partB (hasK m.kind 1) (varB m.pos.toNat) ++ partB (hasK m.kind 2) (varB m.count.toNat) ++ partB (hasK m.kind 4) [UInt8.ofNat m.state.toNat] ++
  partB (hasK m.kind 8) (setB m.streams) ++ partB (hasK m.kind 16) (linksB m.pos m.links) ++ partB (blockK m.kind m.state) (blockB m.data) ++
  partB (hasK m.kind 64) (sealB m.sea) ++ partB (hasK m.kind 128) (projB m.proj)

theorem upsN_len : ∀ (p : Option Int) (l : List Int), (upsN p l).length = l.length
  | _, [] => rfl
  | p, x :: l => by simp only [upsN, List.length_cons, upsN_len _ l]
theorem upsB_len (l : List Int) : (upsB l).length ≤ 10 * l.length := by
  have := numsB_len (upsN none l)
  rw [upsN_len] at this
  exact this
theorem setB_len (l : List Int) : (setB l).length ≤ 10 + 10 * l.length := by
  unfold setB
  have := upsB_len l
  have := (varB_len l.length).1
  rw [List.length_append]; omega
theorem flatm_len {α : Type} (f : α → List UInt8) (l : List α) (b : Nat) (h : ∀ x ∈ l, (f x).length ≤ b) : (l.map f).flatten.length ≤ b * l.length := by
  induction l with
  | nil => simp
  | cons x l ih =>
    have h1 := h x (by simp)
    have h2 := ih fun y hy => h y (by simp [hy])
    simp only [List.map_cons, List.flatten_cons, List.length_append, List.length_cons, Nat.mul_add, Nat.mul_one]
    omega
theorem setsR_at (L : List (List Int)) : ∀ n i, setsR L n = true → i < n → setR L i = true
  | 0, i, _, h => by omega
  | n + 1, i, h, hi => by
    simp only [setsR, Bool.and_eq_true] at h
    by_cases hn : i = n
    · rw [hn]; exact h.2
    · exact setsR_at L n i h.1 (by omega)
theorem getD_at {α : Type} (l : List α) (i : Nat) (d : α) (h : i < l.length) : l.getD i d = l[i] := by
  rw [List.getD_eq_getElem?_getD, List.getElem?_eq_getElem h]; rfl
theorem set_nodes {L : List (List Int)} (h : setsR L L.length = true) (i : Nat) (hi : i < L.length) : nodesR L[i] = true := by
  have := setsR_at L _ i h hi
  simp only [setR, Bool.and_eq_true, getD_at L i [] hi] at this
  exact this.1
theorem stripe_len {s : Stripe} (h : stripeR s = true) : (stripeB s).length ≤ 740 := by
  simp only [stripeR, Bool.and_eq_true, decide_eq_true_eq] at h
  have h1 := (varB_len (s.hi - s.lo - 1).toNat).1
  have h2 := (varB_len s.sets.length).1
  have h3 := flatm_len setB s.sets 90 fun x hx => by
    obtain ⟨i, hi, rfl⟩ := List.getElem_of_mem hx
    have := set_nodes h.2 i hi
    simp only [nodesR, Bool.and_eq_true, decide_eq_true_eq] at this
    have := setB_len s.sets[i]
    omega
  unfold stripeB setsB
  simp only [List.length_append]
  omega
theorem chain_all : ∀ (l : List Stripe) (p : Int), chainP p l = true → ∀ s ∈ l, stripeR s = true
  | [], p, _, s, hs => by simp at hs
  | x :: l, p, h, s, hs => by
    simp only [chainP, Bool.and_eq_true] at h
    rcases List.mem_cons.1 hs with rfl | hs
    · exact h.2.1
    · exact chain_all l _ h.2.2 s hs
theorem proj_len {p : Projn} (h : projR p = true) : (projB p).length ≤ 47380 := by
  simp only [projR, Bool.and_eq_true, decide_eq_true_eq] at h
  have h1 := (varB_len p.epoch.toNat).1
  have h2 := (varB_len p.stripes.length).1
  have h3 := flatm_len stripeB p.stripes 740 fun x hx => stripe_len (chain_all _ _ h.2.2 x hx)
  unfold projB stripesB
  simp only [List.length_append]
  omega
theorem seal_len (s : Seal) : (sealB s).length ≤ 30 := by
  have h1 := (varB_len s.epoch.toNat).1
  have h2 := (varB_len s.node.toNat).1
  have h3 := (varB_len s.tail.toNat).1
  unfold sealB
  simp only [List.length_append]
  omega
theorem partB_le (h : Bool) (b : List UInt8) (n : Nat) (hb : h = true → b.length ≤ n) : (partB h b).length ≤ n := by
  cases h
  · exact Nat.zero_le _
  · exact hb rfl
theorem linksB_len' (pos : Int) (l : List Link) (hR : linksR pos l = true) : (linksB pos l).length ≤ 830 := by
  have h1 := linkZ_len_le pos l hR
  simp only [linksR, Bool.and_eq_true, decide_eq_true_eq] at hR
  have h2 := (varB_len l.length).1
  unfold linksB
  rw [List.length_append]; omega
theorem withinR_has {h r z : Bool} (hw : withinR h r z = true) (hh : h = true) : r = true := by subst hh; exact hw
structure MsgR (m : Msg) : Prop where
  kind : 1 ≤ m.kind ∧ m.kind ≤ 14
  pos : hasK m.kind 1 = true → poR m.pos = true
  count : hasK m.kind 2 = true → 1 ≤ m.count ∧ m.count ≤ 65536
  state : hasK m.kind 4 = true → 1 ≤ m.state ∧ m.state ≤ mostK m.kind
  streams : hasK m.kind 8 = true → m.streams.length ≤ 16 ∧ risesB m.streams = true
  links : hasK m.kind 16 = true → linksR m.pos m.links = true
  seal_ : hasK m.kind 64 = true → sealR m.sea = true
  proj : hasK m.kind 128 = true → projR m.proj = true
  data : m.data.length ≤ 1048576
theorem msgR_parts {m : Msg} (h : msgR m = true) : MsgR m := by
  simp only [msgR, Bool.and_eq_true, decide_eq_true_eq] at h
  obtain ⟨h1, h2, h3, h4, h5, h6, h7, h8, h9⟩ := h
  refine ⟨h1, fun e => withinR_has h2 e, fun e => of_decide_eq_true (withinR_has h3 e), fun e => of_decide_eq_true (withinR_has h4 e), fun e => ?_, fun e => withinR_has h6 e, fun e => withinR_has h7 e, fun e => withinR_has h8 e, ?_⟩
  · have := withinR_has h5 e
    simp only [Bool.and_eq_true, decide_eq_true_eq] at this
    exact this
  · simp only [Bool.or_eq_true, Bool.and_eq_true, decide_eq_true_eq] at h9
    omega
theorem msgB_len {m : Msg} (h : msgR m = true) : (msgB m).length ≤ 49000 + m.data.length := by
  have H := msgR_parts h
  have h1 := partB_le (hasK m.kind 1) (varB m.pos.toNat) 10 fun _ => (varB_len _).1
  have h2 := partB_le (hasK m.kind 2) (varB m.count.toNat) 10 fun _ => (varB_len _).1
  have h3 := partB_le (hasK m.kind 4) [UInt8.ofNat m.state.toNat] 1 fun _ => by simp
  have h4 := partB_le (hasK m.kind 8) (setB m.streams) 170 fun e => by have := setB_len m.streams; have := (H.streams e).1; omega
  have h5 := partB_le (hasK m.kind 16) (linksB m.pos m.links) 830 fun e => linksB_len' _ _ (H.links e)
  have h6 := partB_le (blockK m.kind m.state) (blockB m.data) (11 + m.data.length) fun e => by have := blockB_len m.data; have := (varB_len m.data.length).1; omega
  have h7 := partB_le (hasK m.kind 64) (sealB m.sea) 30 fun e => seal_len _
  have h8 := partB_le (hasK m.kind 128) (projB m.proj) 47380 fun e => proj_len (H.proj e)
  unfold msgB
  simp only [List.length_append]
  omega

set_option maxHeartbeats 1600000 in
theorem zig_rises (l : List Int) (a : Option Addr) (n c : Nat) (w : World) (hl : rU64s.r (· < w.heap.size) w [.slice a n c] l) :
    Calls Tryz.prog 340 #[.slice a n c] w fun r w' => r = .returned (.bool (risesB l)) ∧ Below w.heap.size w w' := by
  obtain ⟨rfl, hm, _, _⟩ := sl_len hl
  have HL := hid hl; clear hl
  go_enter Tryz.func340, Tryz.ntmps340
  go_wp2
  go_loopw [3] (fun i wr => ∃ m : Nat, (m ≤ l.length ∧ (m = 0 ∨ m < l.length)) ∧ i = .int .i64 ((m : Int) + 1) ∧ Hid (risesB l = risesAt l (m + 1)) ∧ Below w.heap.size w wr) (fun i _ => l.length + 1 - (intOf i).toNat)
  case atStart => exact ⟨0, ⟨Nat.zero_le _, .inl rfl⟩, rfl, hid (risesAt_one l).symm, Below.refl _ _⟩
  case round =>
    obtain ⟨m, hk, rfl, hf, hb⟩ := hrel
    by_cases hlt : m + 1 < l.length
    · obtain ⟨b, o, hA, hbb, x0, hx0, hx1⟩ := u64_at (lift HL.out hb) hlt
      obtain ⟨b', o', hA', hbb', y0, hy0, hy1⟩ := u64_at (lift HL.out hb) (show m < l.length by omega)
      subst hA
      simp only [Option.some.injEq, Addr.mk.injEq] at hA'
      obtain ⟨rfl, rfl, _⟩ := hA'
      have hst := hid (risesAt_step l m hlt)
      have k1 : (0 : Int) ≤ (m : Int) + 1 - 1 := by omega
      have k2 : (m : Int) + 1 < (l.length : Int) := by omega
      have k3 : (m : Int) < (l.length : Int) := by omega
      have X0 := fun s : Later wr => s.cell x0
      have Y0 := fun s : Later wr => s.cell y0
      clear x0 y0
      generalize l[m + 1] = x at *
      generalize l[m] = y at *
      by_cases hge : x ≤ y
      · have d1 : decide (x ≤ y) = true := decide_eq_true hge
        have hff : Hid (risesB l = false) := hid (by rw [hf.out, hst.out, decide_eq_false (by omega)]; rfl)
        clear hge
        go_wp2_with fail
        refine wp_region_later (by kernel_rfl) (by kernel_rfl) ?_
        repeat (go_big_quiet_step (fail))
        refine wpQuiet_nil ?_
        rintro W5 ⟨⟨W5', hb5⟩, rfl⟩
        go_wp2
        go_ret
        exact ⟨by rw [hff.out]; rfl, below_then hb5 hb⟩
      · have d1 : decide (x ≤ y) = false := decide_eq_false hge
        have hst' : Hid (risesAt l (m + 1) = risesAt l (m + 2)) := hid (by rw [hst.out, decide_eq_true (by omega)]; rfl)
        clear hge
        go_wp2_with fail
        refine wp_region_later (by kernel_rfl) (by kernel_rfl) ?_
        repeat (go_big_quiet_step (fail))
        refine wpQuiet_nil ?_
        rintro W5 ⟨⟨W5', hb5⟩, rfl⟩
        go_wp2
        go_roundw
        case rel => exact ⟨m + 1, ⟨by omega, by omega⟩, by go_num, hid (by rw [hf.out, hst'.out]), below_then hb5 hb⟩
        case measure => (simp [intOf]; try omega)
    · have k2 : ¬ ((m : Int) + 1 < (l.length : Int)) := by omega
      have d2 : decide ((m : Int) + 1 < (l.length : Int)) = false := decide_eq_false k2
      have hff : Hid (risesB l = true) := hid (by
        rcases Nat.eq_zero_or_pos l.length with h0 | h0
        · rw [List.eq_nil_of_length_eq_zero h0]; rfl
        · rw [hf.out, show m + 1 = l.length by omega]; exact risesAt_end l)
      go_wp2
      go_ret
      exact ⟨by rw [hff.out]; rfl, hb⟩


set_option maxRecDepth 100000 in
set_option maxHeartbeats 1600000 in
theorem seal_right (s : Seal) (h0 : inU s.epoch) (w : World) : Calls Tryz.prog 289 #[.agg #[.int .u64 s.epoch, .int .u64 s.node, .int .u64 s.tail]] w fun r w' => r = .returned (.bool (sealR s)) ∧ Below w.heap.size w w' := by
  have HE := hid (fun (W : World) => epoch_right s.epoch W)
  have hsr : sealR s = (epR s.epoch && (decide (s.node ≤ 4294967295) && decide (s.tail ≤ 4611686018427387904))) := rfl
  obtain ⟨e, n, t⟩ := s
  dsimp only at *
  generalize epR e = E at *
  have HS := hid hsr
  generalize sealR ⟨e, n, t⟩ = ss at *
  clear hsr h0
  cases E
  · have hf : Hid (ss = false) := hid (by rw [HS.out]; rfl)
    go_enter Tryz.func289, Tryz.ntmps289
    go_wp2_with fail
    refine (HE.out _).mono ?_
    rintro r w1 ⟨rfl, rfl⟩
    go_wp2_with fail
    go_ret
    exact ⟨by rw [hf.out]; rfl, by (repeat (first | exact Below.refl _ _ | assumption | (refine below_alloc ?_ _) | (refine Below.setCell ?_ (by first | omega | (simp; done) | (simp; omega)) _) | (refine Below.drew ?_) | (refine below_drewN ?_ _) | (refine below_then (by assumption) ?_)))⟩
  · by_cases hn : n ≤ 4294967295
    · have hf : Hid (ss = decide (t ≤ 4611686018427387904)) := hid (by rw [HS.out, decide_eq_true hn]; rfl)
      have d1 : decide (n ≤ 4294967295) = true := decide_eq_true hn
      clear hn
      go_enter Tryz.func289, Tryz.ntmps289
      go_wp2_with fail
      refine (HE.out _).mono ?_
      rintro r w1 ⟨rfl, rfl⟩
      go_wp2_with fail
      go_ret
      exact ⟨by rw [hf.out]; rfl, by (repeat (first | exact Below.refl _ _ | assumption | (refine below_alloc ?_ _) | (refine Below.setCell ?_ (by first | omega | (simp; done) | (simp; omega)) _) | (refine Below.drew ?_) | (refine below_drewN ?_ _) | (refine below_then (by assumption) ?_)))⟩
    · have hf : Hid (ss = false) := hid (by rw [HS.out, decide_eq_false hn]; rfl)
      have d1 : decide (n ≤ 4294967295) = false := decide_eq_false hn
      clear hn
      go_enter Tryz.func289, Tryz.ntmps289
      go_wp2_with fail
      refine (HE.out _).mono ?_
      rintro r w1 ⟨rfl, rfl⟩
      go_wp2_with fail
      go_ret
      exact ⟨by rw [hf.out]; rfl, by (repeat (first | exact Below.refl _ _ | assumption | (refine below_alloc ?_ _) | (refine Below.setCell ?_ (by first | omega | (simp; done) | (simp; omega)) _) | (refine Below.drew ?_) | (refine below_drewN ?_ _) | (refine below_then (by assumption) ?_)))⟩


theorem hasL_step (l : List Int) (x : Int) (k : Nat) (h : k < l.length) : (l.drop k).contains x = (decide (l[k] = x) || (l.drop (k + 1)).contains x) := by
  rw [List.drop_eq_getElem_cons h, List.contains_cons]
  congr 1
  rw [Bool.eq_iff_iff, beq_iff_eq, decide_eq_true_iff]
  exact eq_comm

set_option maxRecDepth 100000 in
set_option maxHeartbeats 1600000 in
theorem slices_index (l : List Int) (x : Int) (a : Option Addr) (n c : Nat) (w : World) (hl : rU64s.r (· < w.heap.size) w [.slice a n c] l) :
    Calls Tryz.prog 377 #[.slice a n c, .int .u64 x] w fun r w' => (∃ j : Int, r = .returned (.int .i64 j) ∧ decide (0 ≤ j) = l.contains x) ∧ Below w.heap.size w w' := by
  obtain ⟨rfl, hm, _, _⟩ := sl_len hl
  have HL := hid hl; clear hl
  go_enter Tryz.func377, Tryz.ntmps377
  go_wp2
  go_loopw [8] (fun i wr => ∃ k : Nat, k ≤ l.length ∧ i = .int .i64 k ∧ Hid (l.contains x = (l.drop k).contains x) ∧ Below w.heap.size w wr) (fun i _ => l.length - (intOf i).toNat)
  case atStart => exact ⟨0, Nat.zero_le _, rfl, hid rfl, Below.refl _ _⟩
  case round =>
    obtain ⟨k, hk, rfl, hf, hb⟩ := hrel
    by_cases hlt : k < l.length
    · obtain ⟨b, o, hA, hbb, x0, hx0, hx1⟩ := u64_at (lift HL.out hb) hlt
      subst hA
      have hst := hid (hasL_step l x k hlt)
      have i1 : (k : Int) < (l.length : Int) := by omega
      have d1 : decide ((k : Int) < (l.length : Int)) = true := decide_eq_true i1
      generalize l[k] = y at *
      by_cases he : y = x
      · have d2 : (x == y) = true := beq_iff_eq.2 he.symm
        have hff : Hid (l.contains x = true) := hid (by rw [hf.out, hst.out, decide_eq_true he]; rfl)
        clear he
        go_wp2_with fail
        go_ret
        exact ⟨⟨(k : Int), rfl, by rw [hff.out]; exact decide_eq_true (by omega)⟩, hb⟩
      · have d2 : (x == y) = false := beq_eq_false_iff_ne.2 (fun e => he e.symm)
        have hff : Hid (l.contains x = (l.drop (k + 1)).contains x) := hid (by rw [hf.out, hst.out, decide_eq_false he]; rfl)
        clear he
        go_wp2_with fail
        go_roundw
        case rel => exact ⟨k + 1, by omega, by go_num, hff, hb⟩
        case measure => (simp [intOf]; try omega)
    · obtain rfl : k = l.length := by omega
      have d1 : decide ((l.length : Int) < (l.length : Int)) = false := decide_eq_false (by omega)
      have hff : Hid (l.contains x = false) := hid (by rw [hf.out, List.drop_length]; rfl)
      go_wp2_with fail
      go_ret
      exact ⟨⟨-1, rfl, by rw [hff.out]; rfl⟩, hb⟩

set_option maxRecDepth 100000 in
set_option maxHeartbeats 1600000 in
theorem slices_contains (l : List Int) (x : Int) (a : Option Addr) (n c : Nat) (w : World) (hl : rU64s.r (· < w.heap.size) w [.slice a n c] l) :
    Calls Tryz.prog 369 #[.slice a n c, .int .u64 x] w fun r w' => r = .returned (.bool (l.contains x)) ∧ Below w.heap.size w w' := by
  have HI := hid (slices_index l x a n c w hl)
  obtain ⟨rfl, hm, _, _⟩ := sl_len hl
  generalize l.contains x = hh at *
  clear hl
  go_enter Tryz.func369, Tryz.ntmps369
  go_wp2_with fail
  refine HI.out.mono ?_
  rintro r w1 ⟨⟨j, rfl, hj⟩, hb1⟩
  have HJ := hid hj
  go_wp2_with fail
  go_ret
  exact ⟨by rw [← HJ.out]; rfl, hb1⟩

theorem all_step (l : List Int) (f : Int → Bool) (k : Nat) (h : k < l.length) : (l.drop k).all f = (f l[k] && (l.drop (k + 1)).all f) := by
  rw [List.drop_eq_getElem_cons h, List.all_cons]
theorem apart_step (l : List Int) (o : List (List Int)) (k : Nat) (h : k < o.length) : apartR l (o.drop k) = ((l.all fun n => !o[k].contains n) && apartR l (o.drop (k + 1))) := by
  unfold apartR; rw [List.drop_eq_getElem_cons h, List.all_cons]

set_option maxRecDepth 100000 in
set_option maxHeartbeats 3200000 in
theorem stripe_apart (l : List Int) (O : List (List Int)) (a : Option Addr) (n c : Nat) (a' : Option Addr) (n' c' : Nat) (w : World) (hl : rU64s.r (· < w.heap.size) w [.slice a n c] l) (ho : rSets.r (· < w.heap.size) w [.slice a' n' c'] O) :
    Calls Tryz.prog 360 #[.slice a n c, .slice a' n' c'] w fun r w' => r = .returned (.bool (apartR l O)) ∧ Below w.heap.size w w' := by
  obtain ⟨rfl, hm, _, _⟩ := sl_len hl
  obtain ⟨rfl, hm', _, _⟩ := sl_len ho
  have HL := hid hl
  have HO := hid ho
  clear hl ho
  go_enter Tryz.func360, Tryz.ntmps360
  go_wp2_with fail
  go_loopw [11] (fun i wr => ∃ k : Nat, k ≤ O.length ∧ i = .int .i64 k ∧ Hid (apartR l O = apartR l (O.drop k)) ∧ Below w.heap.size w wr) (fun i _ => O.length - (intOf i).toNat)
  case atStart => exact ⟨0, Nat.zero_le _, rfl, hid rfl, Below.refl _ _⟩
  case round =>
    obtain ⟨k, hk, rfl, hf, hb⟩ := hrel
    by_cases hlt : k < O.length
    · obtain ⟨b, o, hA, hbb, ak, ck, x0, xl⟩ := set_at (lift HO.out hb) hlt
      subst hA
      have hst := hid (apart_step l O k hlt)
      have HX := hid xl
      have HB := hid hb
      have i1 : (k : Int) < (O.length : Int) := by omega
      have d1 : decide ((k : Int) < (O.length : Int)) = true := decide_eq_true i1
      generalize O[k] = X at *
      clear xl hb
      obtain ⟨wo, hwo⟩ : ∃ wo : World, wo = wr := ⟨_, rfl⟩
      subst hwo
      go_wp2_with fail
      go_loopw [17] (fun i wr => ∃ j : Nat, j ≤ l.length ∧ i = .int .i64 j ∧ Hid ((l.all fun n => !X.contains n) = (l.drop j).all fun n => !X.contains n) ∧ Below wo.heap.size wo wr) (fun i _ => l.length - (intOf i).toNat)
      case atStart => exact ⟨0, Nat.zero_le _, rfl, hid rfl, Below.refl _ _⟩
      case round =>
        obtain ⟨j, hj, rfl, hg, hbj⟩ := hrel
        have hbw := HB.out.trans (hbj.mono HB.out.size)
        have HBW := hid hbw
        by_cases hjl : j < l.length
        · obtain ⟨b2, o2, hA2, hbb2, y0, hy0, hy1⟩ := u64_at (lift HL.out hbw) hjl
          subst hA2
          have hsj := hid (all_step l (fun n => !X.contains n) j hjl)
          have HCT := hid (fun y => slices_contains X y ak _ ck wr (lift HX.out hbj))
          have j1 : (j : Int) < (l.length : Int) := by omega
          have e1 : decide ((j : Int) < (l.length : Int)) = true := decide_eq_true j1
          generalize l[j] = y at *
          have hct := HCT.out y
          by_cases hc : X.contains y = true
          · rw [hc] at hct
            have HC := hid hct
            have hff : Hid (apartR l O = false) := hid (by rw [hf.out, hst.out, hg.out, hsj.out]; simp only [hc, Bool.not_true, Bool.false_and])
            clear hc hct hbw hbj HCT
            go_wp2_with fail
            refine HC.out.mono ?_
            rintro r w3 ⟨rfl, hb3⟩
            have hbe := below_then hb3 HBW.out
            go_wp2_with fail
            go_ret
            exact ⟨by rw [hff.out]; rfl, hbe⟩
          · have hc' := eq_false_of_ne_true hc
            rw [hc'] at hct
            have HC := hid hct
            have hgg : Hid ((l.all fun n => !X.contains n) = (l.drop (j + 1)).all fun n => !X.contains n) := hid (by rw [hg.out, hsj.out]; simp only [hc', Bool.not_false, Bool.true_and])
            have HBJ := hid hbj
            clear hc hc' hct hbw hbj HCT
            go_wp2_with fail
            refine HC.out.mono ?_
            rintro r w3 ⟨rfl, hb3⟩
            have hbe := below_then hb3 HBJ.out
            go_wp2_with fail
            go_roundw
            case rel => exact ⟨j + 1, by omega, by go_num, hgg, hbe⟩
            case measure => (simp [intOf]; try omega)
        · obtain rfl : j = l.length := by omega
          have e1 : decide ((l.length : Int) < (l.length : Int)) = false := decide_eq_false (by omega)
          have hff : Hid (apartR l O = apartR l (O.drop (k + 1))) := hid (by rw [hf.out, hst.out, hg.out, List.drop_length]; rfl)
          clear hbj hbw
          go_wp2_with fail
          go_roundw
          case rel => exact ⟨k + 1, by omega, by go_num, hff, HBW.out⟩
          case measure => (simp [intOf]; try omega)
    · obtain rfl : k = O.length := by omega
      have d1 : decide ((O.length : Int) < (O.length : Int)) = false := decide_eq_false (by omega)
      have hff : Hid (apartR l O = true) := hid (by rw [hf.out, List.drop_length]; rfl)
      go_wp2_with fail
      go_ret
      exact ⟨by rw [hff.out]; rfl, hb⟩

theorem last_at (l : List Int) (h : 1 ≤ l.length) : l.getLastD 0 = l[l.length - 1] := by
  rw [List.getLastD_eq_getLast?, List.getLast?_eq_getElem?, List.getElem?_eq_getElem (by omega)]; rfl

set_option maxRecDepth 100000 in
set_option maxHeartbeats 1600000 in
theorem stripe_nodes (l : List Int) (a : Option Addr) (n c : Nat) (w : World) (hl : rU64s.r (· < w.heap.size) w [.slice a n c] l) :
    Calls Tryz.prog 359 #[.slice a n c] w fun r w' => r = .returned (.bool (nodesR l)) ∧ Below w.heap.size w w' := by
  obtain ⟨rfl, hm, _, _⟩ := sl_len hl
  have HR := zig_rises l a _ c w hl
  have hnr : nodesR l = (decide (1 ≤ l.length ∧ l.length ≤ 8) && (risesB l && decide (l.getLastD 0 ≤ 4294967295))) := rfl
  by_cases h1 : 1 ≤ l.length
  · have d1 : decide ((1 : Int) ≤ (l.length : Int)) = true := decide_eq_true (by omega)
    by_cases h2 : l.length ≤ 8
    · have d2 : decide ((l.length : Int) ≤ 8) = true := decide_eq_true (by omega)
      rw [decide_eq_true (⟨h1, h2⟩ : 1 ≤ l.length ∧ l.length ≤ 8), Bool.true_and, last_at l h1] at hnr
      obtain ⟨b, o, hA, hbb, x0, hx0, hx1⟩ := u64_at hl (i := l.length - 1) (by omega)
      subst hA
      obtain ⟨m, hm⟩ : ∃ m, l.length = m + 1 := ⟨l.length - 1, by omega⟩
      simp only [hm, Nat.add_sub_cancel] at hnr x0 hx0 hx1 HR d1 d2 ⊢
      have HNR := hid hnr
      generalize l[m]'(by omega) = y at *
      generalize risesB l = R at *
      generalize nodesR l = NR at *
      have q1 : (0 : Int) ≤ (m : Int) + 1 - 1 := by omega
      have HRR := hid HR
      have hmm : m ≤ 7 := by omega
      clear hl HR hnr h1 h2 hm
      cases R
      · have hff : Hid (NR = false) := hid (by rw [HNR.out]; rfl)
        go_enter Tryz.func359, Tryz.ntmps359
        go_wp2_with fail
        refine HRR.out.mono ?_
        rintro r w1 ⟨rfl, hb1⟩
        go_wp2_with fail
        go_ret
        exact ⟨by rw [hff.out]; rfl, hb1⟩
      · have hff : Hid (NR = decide (y ≤ 4294967295)) := hid (by rw [HNR.out]; rfl)
        go_enter Tryz.func359, Tryz.ntmps359
        go_wp2_with fail
        refine HRR.out.mono ?_
        rintro r w1 ⟨rfl, hb1⟩
        have X0 := (hb1.cell (p := ⟨b, o + m, none⟩) hbb).trans x0
        clear x0
        go_wp2_with fail
        go_ret
        exact ⟨by rw [hff.out]; rfl, hb1⟩
    · have d2 : decide ((l.length : Int) ≤ 8) = false := decide_eq_false (by omega)
      have hff : Hid (nodesR l = false) := hid (by rw [hnr, decide_eq_false (fun h => h2 h.2 : ¬ (1 ≤ l.length ∧ l.length ≤ 8))]; rfl)
      clear hl HR hnr h1 h2
      go_enter Tryz.func359, Tryz.ntmps359
      go_wp2_with fail
      go_ret
      exact ⟨by rw [hff.out]; rfl, Below.refl _ _⟩
  · have d1 : decide ((1 : Int) ≤ (l.length : Int)) = false := decide_eq_false (by omega)
    have hff : Hid (nodesR l = false) := hid (by rw [hnr, decide_eq_false (fun h => h1 h.1 : ¬ (1 ≤ l.length ∧ l.length ≤ 8))]; rfl)
    clear hl HR hnr h1
    go_enter Tryz.func359, Tryz.ntmps359
    go_wp2_with fail
    go_ret
    exact ⟨by rw [hff.out]; rfl, Below.refl _ _⟩


theorem u64_lastc {W : World} {base : Nat} {av : Option Addr} {cv m : Nat} {J : List Int} (h : W.ownsRow base 36 1 (.slice av J.length cv) J.length (u64Cells J)) (hx : ∀ x ∈ J, 0 ≤ x ∧ x ≤ 18446744073709551615) (hm : J.length = m + 1) : ∃ b o, av = some ⟨b, o, none⟩ ∧ W.cell? ⟨b, o + m, none⟩ = some (.int .u64 (J.getLastD 0)) := by
  obtain ⟨b, o, e, _, hc, _⟩ := u64_at (own_ints64 hx rfl h) (i := m) (by omega)
  refine ⟨b, o, e, ?_⟩
  rw [hc, last_at J (by omega)]
  simp only [hm, Nat.add_sub_cancel]
theorem last_bound {J : List Int} (hx : ∀ x ∈ J, 0 ≤ x ∧ x ≤ 18446744073709551615) (h : J ≠ []) : 0 ≤ J.getLastD 0 ∧ J.getLastD 0 ≤ 18446744073709551615 := by
  have hl : 1 ≤ J.length := by cases J <;> simp_all
  rw [last_at J hl]
  exact hx _ (List.getElem_mem _)

set_option maxRecDepth 100000 in
set_option maxHeartbeats 6400000 in
theorem zig_read (w : World) {g : Nat} {B : List UInt8} {a : Option Addr} {s : Rs} (h : RdAt w g B a s) (hB : B.length ≤ 1000000000) (N : Nat) (hN : N ≤ 1000) :
    Calls Tryz.prog 313 #[.pointer (some ⟨g, 0, none⟩), .int .i64 (N : Int)] w fun r w' => ∃ v, r = .returned v ∧ rU64s.r (fun q => w.heap.size ≤ q ∧ q < w'.heap.size) w' [v] (Rs.rise B N s []).2 ∧ RdStep w g B a (Rs.rise B N s []).1 w' := by
  obtain ⟨i0, hi, hz0, hz1, hz2⟩ := info_parts infoU
  have hlt := h.blk.lt
  have HIN := hid (RdInv.refl h)
  have hmx : max (N : Int) 0 = (N : Int) := by omega
  have hmx2 : (if (N : Int) < 0 then (0 : Int) else (N : Int)) = (N : Int) := by rw [if_neg (by omega)]
  clear h
  go_enter Tryz.func313, Tryz.ntmps313
  go_wp2_with fail
  go_loopw [5, 12] (fun v i wr => ∃ (J : List Int) (st : Rs), J.length ≤ N ∧ i = .int .i64 (J.length : Int) ∧ wr.ownsRow w.heap.size 36 1 v J.length (u64Cells J) ∧ Hid (∀ x ∈ J, 0 ≤ x ∧ x ≤ 18446744073709551615) ∧ Hid (RdInv w wr g B a st) ∧ Hid (Rs.rise B N s [] = Rs.rise B (N - J.length) st J)) (fun _ i _ => N - (intOf i).toNat)
  case atStart => exact ⟨[], s, Nat.zero_le _, rfl, ⟨rfl, .inl ⟨rfl, rfl⟩⟩, hid (by simp), HIN, hid rfl⟩
  case round =>
    obtain ⟨J, st, hk, rfl, hown, hJb, hin, hsp⟩ := hrel
    obtain ⟨av, cv, rfl⟩ := own_form hown
    have hJ9 : J.length ≤ 1000 := by omega
    have HJB := hid hJb.out
    rcases Nat.lt_or_ge J.length N with hlt2 | hge
    · have HAT := hid (rd_at wr hin.out.rd)
      have HVR := hid (varint_read wr hin.out.rd (by omega))
      have hx := Rs.num_small (B := B) (s := st)
      have hxb := Rs.num_bad (B := B) (s := st)
      have hstep : Rs.rise B (N - J.length) st J = (if (st.num B).1.k = 0 then (if J ≠ [] ∧ 18446744073709551615 - J.getLastD 0 ≤ ((st.num B).2 : Int) then ((st.num B).1.fail 13 st.p, []) else Rs.rise B (N - (J.length + 1)) (st.num B).1 (J ++ [if J = [] then ((st.num B).2 : Int) else ((st.num B).2 : Int) + (J.getLastD 0 + 1)])) else ((st.num B).1, [])) := by
        rw [show N - J.length = (N - (J.length + 1)) + 1 by omega]; rfl
      have HO := hid hown
      have i1 : (J.length : Int) < (N : Int) := by omega
      have d1 : decide ((J.length : Int) < (N : Int)) = true := decide_eq_true i1
      have d1' : decide (J.length < N) = true := decide_eq_true hlt2
      generalize st.num B = R at *
      obtain ⟨st1, x⟩ := R
      dsimp only at *
      have HBAD := hid hxb
      have hx0' : (0 : Int) ≤ (x : Int) := by omega
      have hx1' : (x : Int) ≤ 18446744073709551615 := by omega
      clear hown hxb
      by_cases hnil : J = []
      · have dz : decide ((0 : Int) < (J.length : Int)) = false := by rw [hnil]; rfl
        have dz2 : decide (0 < J.length) = false := by rw [hnil]; rfl
        by_cases hk1 : st1.k = 0
        · rw [if_pos hk1] at hstep
          have hk1' : decide (st1.k = 0) = true := decide_eq_true hk1
          have HSP : Hid (Rs.rise B N s [] = Rs.rise B (N - (J.length + 1)) st1 (J ++ [(x : Int)])) := hid (hsp.out.trans (by rw [hstep, if_neg (fun h => h.1 hnil), if_pos hnil]))
          clear hstep hsp hk1 hnil
          go_wp2_with fail
          refine HAT.out.mono ?_
          rintro r w2 ⟨rfl, rfl⟩
          go_wp2_with fail
          refine HVR.out.mono ?_
          rintro r w3 ⟨rfl, hst3⟩
          have HIN3 := hid (hin.out.step hst3)
          have HO3 := hid (own_tch2 HO.out hlt hst3.2)
          have hg := rd_good w3 HIN3.out.rd
          rw [hk1'] at hg
          have HG := hid hg
          clear hst3 hg
          go_wp2_with fail
          refine HG.out.mono ?_
          rintro r w4 ⟨rfl, hb4⟩
          have HIN4 := hid (HIN3.out.step (RdStep.later HIN3.out.rd hb4))
          have HO4 := hid (own_below HO3.out hb4)
          have hsz4 := HIN4.out.tch.size
          clear hb4
          go_wp2_with (at_builtin; go_loud (refine wpList_append_src rfl _ _ _ rfl w.heap.size 36 i0 (.int .u64 0) 1 8 Tryz.underlying37 hi hz0 hz1 hz2 rfl (by decide) (.slice av J.length cv) J.length _ rfl (own_below HO4.out (by (repeat (first | with_reducible exact Below.refl _ _ | with_reducible assumption | (with_reducible refine below_alloc ?_ _) | (with_reducible refine Below.setCell ?_ (by first | omega | (simp; done) | (simp; omega)) _) | (with_reducible refine Below.drew ?_) | (with_reducible refine below_drewN ?_ _) | (refine below_then (by with_reducible assumption) ?_))))) (some ⟨w4.heap.size, 0, none⟩) 1 1 [.int .u64 ((x : Int))] rfl (src_new1 _ 36 _ rfl (by simp) rfl) (by simp [Value.oneCell']) (by simp only [maxLen]; omega) (by omega) (by simp; omega) ?_; intro v' w5 hown5 hgrow5 hat5; obtain ⟨a5, c5, rfl⟩ := own_form hown5; have HO5 := hid hown5; have hb5 : Below w.heap.size w4 w5 := (Below.grown ((by (repeat (first | with_reducible exact Below.refl _ _ | with_reducible assumption | (with_reducible refine below_alloc ?_ _) | (with_reducible refine Below.setCell ?_ (by first | omega | (simp; done) | (simp; omega)) _) | (with_reducible refine Below.drew ?_) | (with_reducible refine below_drewN ?_ _) | (refine below_then (by with_reducible assumption) ?_))) : Below w4.heap.size w4 _).mono hsz4) hgrow5 (by simp; omega) (fun g e => (HO4.out.lt g e).1)); clear hown5 hgrow5 hat5))
          have HIN5 := hid (HIN4.out.row hb5)
          have ho5 : w5.ownsRow w.heap.size 36 1 (.slice a5 (J.length + 1) c5) (J ++ [(x : Int)]).length (u64Cells (J ++ [(x : Int)])) := by
            have e : u64Cells (J ++ [(x : Int)]) = u64Cells J ++ [.int .u64 ((x : Int))] := by simp [u64Cells]
            rw [e, List.length_append]
            exact HO5.out
          have HO6 := hid ho5
          have HB6 : Hid (∀ y ∈ J ++ [(x : Int)], 0 ≤ y ∧ y ≤ 18446744073709551615) := hid (fun y hy => by
            rw [List.mem_append, List.mem_singleton] at hy
            rcases hy with hy | rfl
            · exact HJB.out y hy
            · omega)
          clear ho5
          go_roundw
          case rel => exact ⟨J ++ [(x : Int)], st1, by rw [List.length_append]; simp; omega, by rw [List.length_append]; go_num, HO6.out, HB6, HIN5, hid (by rw [List.length_append]; exact HSP.out)⟩
          case measure => (simp [intOf]; try omega)
        · rw [if_neg hk1] at hstep
          have hk1' : decide (st1.k = 0) = false := decide_eq_false hk1
          have HSP := hid (hsp.out.trans hstep)
          clear hstep hsp
          clear hk1 hnil
          go_wp2_with fail
          refine HAT.out.mono ?_
          rintro r w2 ⟨rfl, rfl⟩
          go_wp2_with fail
          refine HVR.out.mono ?_
          rintro r w3 ⟨rfl, hst3⟩
          have HIN3 := hid (hin.out.step hst3)
          have HO3 := hid (own_tch2 HO.out hlt hst3.2)
          have hg := rd_good w3 HIN3.out.rd
          rw [hk1'] at hg
          have HG := hid hg
          clear hst3 hg
          go_wp2_with fail
          refine HG.out.mono ?_
          rintro r w5 ⟨rfl, hb5⟩
          have HE := hid (HIN3.out.to.then hb5)
          go_wp2_with fail
          go_ret
          rw [HSP.out]
          exact ⟨_, rfl, rSl_mk (xs := []) rfl (Nat.le_refl _) (Nat.zero_le _) (.inl rfl), HE.out⟩
      · obtain ⟨hq0, hq1⟩ := last_bound HJB.out hnil
        obtain ⟨m, hm⟩ : ∃ m, J.length = m + 1 := ⟨J.length - 1, by have : J.length ≠ 0 := fun e => hnil (List.length_eq_zero_iff.1 e); omega⟩
        have HM := hid hm
        have dz : decide ((0 : Int) < (J.length : Int)) = true := decide_eq_true (by omega)
        have dz2 : decide (0 < J.length) = true := decide_eq_true (by omega)
        have j1 : (J.length : Int) - 1 = (m : Int) := by omega
        have j2 : (0 : Int) ≤ (J.length : Int) - 1 := by omega
        have j3 : (m : Int) < (J.length : Int) := by omega
        have HUL := hid (fun (W : World) (h : W.ownsRow w.heap.size 36 1 (.slice av J.length cv) J.length (u64Cells J)) => u64_lastc h HJB.out hm)
        generalize J.getLastD 0 = q at *
        by_cases hk1 : st1.k = 0
        · rw [if_pos hk1] at hstep
          have hk1' : decide (st1.k = 0) = true := decide_eq_true hk1
          by_cases hov : 18446744073709551615 - q ≤ (x : Int)
          · rw [if_pos ⟨hnil, hov⟩] at hstep
            have hfk : (st1.fail 13 st.p).k ≠ 0 := Rs.fail_k (by omega)
            have HSP := hid (hsp.out.trans hstep)
            clear hstep hsp
            clear hk1 hk1' hnil hm
            by_cases hqm : q = 18446744073709551615
            · subst hqm
              go_wp2_with fail
              refine HAT.out.mono ?_
              rintro r w2 ⟨rfl, rfl⟩
              go_wp2_with fail
              refine HVR.out.mono ?_
              rintro r w3 ⟨rfl, hst3⟩
              have HIN3 := hid (hin.out.step hst3)
              have HO3 := hid (own_tch2 HO.out hlt hst3.2)
              obtain ⟨b, o, rfl, hc3⟩ := HUL.out _ HO3.out
              clear HUL hst3
              go_wp2_with fail
              refine (rd_fail w3 HIN3.out.rd 13 (st.p : Int) (by omega)).mono ?_
              rintro r w4 ⟨rfl, hst4⟩
              have HIN4 := hid (HIN3.out.step hst4)
              have hg := rd_good w4 HIN4.out.rd
              rw [decide_eq_false hfk] at hg
              have HG := hid hg
              clear hst4 hg
              go_wp2_with fail
              refine HG.out.mono ?_
              rintro r w5 ⟨rfl, hb5⟩
              have HE := hid (HIN4.out.to.then hb5)
              go_wp2_with fail
              go_ret
              rw [HSP.out]
              exact ⟨_, rfl, rSl_mk (xs := []) rfl (Nat.le_refl _) (Nat.zero_le _) (.inl rfl), HE.out⟩
            · have w1' : q + 1 ≤ 18446744073709551615 := by omega
              have w0' : 0 ≤ q + 1 := by omega
              have e0 : (q + 1 == 0) = false := beq_eq_false_iff_ne.2 (by omega)
              obtain ⟨Y, hY⟩ : ∃ Y, ((x : Int) + (q + 1)) % 18446744073709551616 = Y := ⟨_, rfl⟩
              have hY2 : IntKind.u64.wrap ((x : Int) + (q + 1)) = Y := by rw [IntKind.wrap_u64]; exact hY
              have dY : decide (Y < (x : Int)) = true := decide_eq_true (by omega)
              go_wp2_with fail
              refine HAT.out.mono ?_
              rintro r w2 ⟨rfl, rfl⟩
              go_wp2_with fail
              refine HVR.out.mono ?_
              rintro r w3 ⟨rfl, hst3⟩
              have HIN3 := hid (hin.out.step hst3)
              have HO3 := hid (own_tch2 HO.out hlt hst3.2)
              obtain ⟨b, o, rfl, hc3⟩ := HUL.out _ HO3.out
              clear HUL hst3
              go_wp2_with fail
              refine (rd_fail w3 HIN3.out.rd 13 (st.p : Int) (by omega)).mono ?_
              rintro r w4 ⟨rfl, hst4⟩
              have HIN4 := hid (HIN3.out.step hst4)
              have hg := rd_good w4 HIN4.out.rd
              rw [decide_eq_false hfk] at hg
              have HG := hid hg
              clear hst4 hg
              go_wp2_with fail
              refine HG.out.mono ?_
              rintro r w5 ⟨rfl, hb5⟩
              have HE := hid (HIN4.out.to.then hb5)
              go_wp2_with fail
              go_ret
              rw [HSP.out]
              exact ⟨_, rfl, rSl_mk (xs := []) rfl (Nat.le_refl _) (Nat.zero_le _) (.inl rfl), HE.out⟩
          · rw [if_neg (fun h => hov h.2), if_neg hnil] at hstep
            have w1' : q + 1 ≤ 18446744073709551615 := by omega
            have w0' : 0 ≤ q + 1 := by omega
            have w2' : (x : Int) + (q + 1) ≤ 18446744073709551615 := by omega
            have w3' : 0 ≤ (x : Int) + (q + 1) := by omega
            have e0 : (q + 1 == 0) = false := beq_eq_false_iff_ne.2 (by omega)
            have dY : decide ((x : Int) + (q + 1) < (x : Int)) = false := decide_eq_false (by omega)
            have HSP := hid (hsp.out.trans hstep)
            clear hstep hsp
            clear hk1 hnil hm
            go_wp2_with fail
            refine HAT.out.mono ?_
            rintro r w2 ⟨rfl, rfl⟩
            go_wp2_with fail
            refine HVR.out.mono ?_
            rintro r w3 ⟨rfl, hst3⟩
            have HIN3 := hid (hin.out.step hst3)
            have HO3 := hid (own_tch2 HO.out hlt hst3.2)
            obtain ⟨b, o, rfl, hc3⟩ := HUL.out _ HO3.out
            have hg := rd_good w3 HIN3.out.rd
            rw [hk1'] at hg
            have HG := hid hg
            clear hst3 hg
            go_wp2_with fail
            clear hc3 HUL
            refine HG.out.mono ?_
            rintro r w4 ⟨rfl, hb4⟩
            have HIN4 := hid (HIN3.out.step (RdStep.later HIN3.out.rd hb4))
            have HO4 := hid (own_below HO3.out hb4)
            have hsz4 := HIN4.out.tch.size
            clear hb4
            go_wp2_with (at_builtin; go_loud (refine wpList_append_src rfl _ _ _ rfl w.heap.size 36 i0 (.int .u64 0) 1 8 Tryz.underlying37 hi hz0 hz1 hz2 rfl (by decide) (.slice (some ⟨b, o, none⟩) J.length cv) J.length _ rfl (own_below HO4.out (by (repeat (first | with_reducible exact Below.refl _ _ | with_reducible assumption | (with_reducible refine below_alloc ?_ _) | (with_reducible refine Below.setCell ?_ (by first | omega | (simp; done) | (simp; omega)) _) | (with_reducible refine Below.drew ?_) | (with_reducible refine below_drewN ?_ _) | (refine below_then (by with_reducible assumption) ?_))))) (some ⟨w4.heap.size, 0, none⟩) 1 1 [.int .u64 ((x : Int) + (q + 1))] rfl (src_new1 _ 36 _ rfl (by simp) rfl) (by simp [Value.oneCell']) (by simp only [maxLen]; omega) (by omega) (by simp; omega) ?_; intro v' w5 hown5 hgrow5 hat5; obtain ⟨a5, c5, rfl⟩ := own_form hown5; have HO5 := hid hown5; have hb5 : Below w.heap.size w4 w5 := (Below.grown ((by (repeat (first | with_reducible exact Below.refl _ _ | with_reducible assumption | (with_reducible refine below_alloc ?_ _) | (with_reducible refine Below.setCell ?_ (by first | omega | (simp; done) | (simp; omega)) _) | (with_reducible refine Below.drew ?_) | (with_reducible refine below_drewN ?_ _) | (refine below_then (by with_reducible assumption) ?_))) : Below w4.heap.size w4 _).mono hsz4) hgrow5 (by simp; omega) (fun g e => (HO4.out.lt g e).1)); clear hown5 hgrow5 hat5))
            have HIN5 := hid (HIN4.out.row hb5)
            have ho5 : w5.ownsRow w.heap.size 36 1 (.slice a5 (J.length + 1) c5) (J ++ [(x : Int) + (q + 1)]).length (u64Cells (J ++ [(x : Int) + (q + 1)])) := by
              have e : u64Cells (J ++ [(x : Int) + (q + 1)]) = u64Cells J ++ [.int .u64 ((x : Int) + (q + 1))] := by simp [u64Cells]
              rw [e, List.length_append]
              exact HO5.out
            have HO6 := hid ho5
            have HB6 : Hid (∀ y ∈ J ++ [(x : Int) + (q + 1)], 0 ≤ y ∧ y ≤ 18446744073709551615) := hid (fun y hy => by
              rw [List.mem_append, List.mem_singleton] at hy
              rcases hy with hy | rfl
              · exact HJB.out y hy
              · omega)
            clear ho5
            go_roundw
            case rel => exact ⟨J ++ [(x : Int) + (q + 1)], st1, by rw [List.length_append]; simp; omega, by rw [List.length_append]; go_num, HO6.out, HB6, HIN5, hid (by rw [List.length_append]; exact HSP.out)⟩
            case measure => (simp [intOf]; try omega)
        · rw [if_neg hk1] at hstep
          have hk1' : decide (st1.k = 0) = false := decide_eq_false hk1
          have hx0 := HBAD.out hk1
          subst hx0
          have hfid : st1.fail 13 st.p = st1 := Rs.fail_of_bad hk1
          have HSP := hid (hsp.out.trans hstep)
          clear hstep hsp
          clear hk1 hnil hm
          by_cases hqm : q = 18446744073709551615
          · subst hqm
            go_wp2_with fail
            refine HAT.out.mono ?_
            rintro r w2 ⟨rfl, rfl⟩
            go_wp2_with fail
            refine HVR.out.mono ?_
            rintro r w3 ⟨rfl, hst3⟩
            have HIN3 := hid (hin.out.step hst3)
            have HO3 := hid (own_tch2 HO.out hlt hst3.2)
            obtain ⟨b, o, rfl, hc3⟩ := HUL.out _ HO3.out
            clear HUL hst3
            go_wp2_with fail
            refine (rd_fail w3 HIN3.out.rd 13 (st.p : Int) (by omega)).mono ?_
            rintro r w4 ⟨rfl, hst4⟩
            rw [hfid] at hst4
            have HIN4 := hid (HIN3.out.step hst4)
            have hg := rd_good w4 HIN4.out.rd
            rw [hk1'] at hg
            have HG := hid hg
            clear hst4 hg
            go_wp2_with fail
            refine HG.out.mono ?_
            rintro r w5 ⟨rfl, hb5⟩
            have HE := hid (HIN4.out.to.then hb5)
            go_wp2_with fail
            go_ret
            rw [HSP.out]
            exact ⟨_, rfl, rSl_mk (xs := []) rfl (Nat.le_refl _) (Nat.zero_le _) (.inl rfl), HE.out⟩
          · have w1' : q + 1 ≤ 18446744073709551615 := by omega
            have w0' : 0 ≤ q + 1 := by omega
            have e0 : (q + 1 == 0) = false := beq_eq_false_iff_ne.2 (by omega)
            have dY : decide (q + 1 < 0) = false := decide_eq_false (by omega)
            have dY2 : decide (((0 : Nat) : Int) + (q + 1) < ((0 : Nat) : Int)) = false := decide_eq_false (by omega)
            have dY3 : decide ((0 : Int) + (q + 1) < 0) = false := decide_eq_false (by omega)
            go_wp2_with fail
            refine HAT.out.mono ?_
            rintro r w2 ⟨rfl, rfl⟩
            go_wp2_with fail
            refine HVR.out.mono ?_
            rintro r w3 ⟨rfl, hst3⟩
            have HIN3 := hid (hin.out.step hst3)
            have HO3 := hid (own_tch2 HO.out hlt hst3.2)
            obtain ⟨b, o, rfl, hc3⟩ := HUL.out _ HO3.out
            clear HUL
            have hg := rd_good w3 HIN3.out.rd
            rw [hk1'] at hg
            have HG := hid hg
            clear hst3 hg
            go_wp2_with fail
            refine HG.out.mono ?_
            rintro r w5 ⟨rfl, hb5⟩
            have HE := hid (HIN3.out.to.then hb5)
            go_wp2_with fail
            go_ret
            rw [HSP.out]
            exact ⟨_, rfl, rSl_mk (xs := []) rfl (Nat.le_refl _) (Nat.zero_le _) (.inl rfl), HE.out⟩
    · have hJN : J.length = N := by omega
      have d1 : decide ((J.length : Int) < (N : Int)) = false := decide_eq_false (by omega)
      have d1' : decide (J.length < N) = false := decide_eq_false (by omega)
      have HSP : Hid (Rs.rise B N s [] = (st, J)) := hid (by rw [hsp.out, hJN, Nat.sub_self]; rfl)
      have HV := hid (own_ints64 hJb.out rfl hown)
      have HE := hid hin.out.to
      clear hown hsp hJN hk hge
      go_wp2_with fail
      go_ret
      rw [HSP.out]
      exact ⟨_, rfl, HV.out, HE.out⟩

abbrev sealV (s : Seal) : Value := .agg #[.int .u64 s.epoch, .int .u64 s.node, .int .u64 s.tail]

set_option maxRecDepth 100000 in
set_option maxHeartbeats 1600000 in
theorem seal_read (w : World) {g : Nat} {B : List UInt8} {a : Option Addr} {s : Rs} (h : RdAt w g B a s) (hB : B.length ≤ 1000000000) :
    Calls Tryz.prog 317 #[.pointer (some ⟨g, 0, none⟩)] w fun r w' => r = .returned (sealV (s.seal_ B).2) ∧ RdStep w g B a (s.seal_ B).1 w' := by
  have hlt := h.blk.lt
  have HIN := hid (RdInv.refl h)
  have HEP := hid (fun (W : World) (t : Rs) (hW : RdAt W g B a t) => epoch_read W hW hB)
  have HMO := hid (fun (W : World) (t : Rs) (hW : RdAt W g B a t) => varint_most W hW (by omega) 4294967295)
  have HTL := hid (fun (W : World) (t : Rs) (hW : RdAt W g B a t) => epoch_readtail W hW hB)
  have HGD := hid (fun (W : World) (t : Rs) (hW : RdAt W g B a t) => rd_good W hW)
  clear h
  unfold Rs.seal_ sealV
  dsimp only
  have HEP := hid (fun (W : World) (hW : RdAt W g B a s) => HEP.out W s hW)
  generalize s.ep B = R at *
  obtain ⟨s1, e⟩ := R
  dsimp only at *
  have HMO := hid (fun (W : World) (hW : RdAt W g B a s1) => HMO.out W s1 hW)
  generalize s1.most B 4294967295 = R at *
  obtain ⟨s2, n⟩ := R
  dsimp only at *
  have HTL := hid (fun (W : World) (hW : RdAt W g B a s2) => HTL.out W s2 hW)
  generalize s2.tl B = R at *
  obtain ⟨s3, t⟩ := R
  dsimp only at *
  have HGD := hid (fun (W : World) (hW : RdAt W g B a s3) => HGD.out W s3 hW)
  by_cases hk : s3.k = 0
  · rw [if_pos hk]
    rw [decide_eq_true hk] at HGD
    clear hk
    go_enter Tryz.func317, Tryz.ntmps317
    go_wp2_with fail
    have hb0 := hid (by (repeat (first | with_reducible exact Below.refl _ _ | with_reducible assumption | (with_reducible refine below_alloc ?_ _) | (with_reducible refine Below.setCell ?_ (by first | omega | (simp; done) | (simp; omega)) _) | (with_reducible refine Below.drew ?_) | (with_reducible refine below_drewN ?_ _) | (refine below_then (by with_reducible assumption) ?_))) : Below w.heap.size w ((w.alloc (.cells #[.int .u64 0, .int .u64 0, .int .u64 0] 40)).alloc (.cells #[.int .u64 0, .int .u64 0, .int .u64 0] 40)))
    have HIN0 := hid (HIN.out.row hb0.out)
    have R0 : Blk ((w.alloc (.cells #[.int .u64 0, .int .u64 0, .int .u64 0] 40)).alloc (.cells #[.int .u64 0, .int .u64 0, .int .u64 0] 40)) w.heap.size 40 #[.int .u64 0, .int .u64 0, .int .u64 0] := by (repeat (first | assumption | exact Blk.newAt _ _ _ (by first | (simp; done) | (simp; omega)) | refine Blk.alloc ?_ _ | refine Blk.drew ?_ | refine Blk.drewN ?_ _ | refine Blk.far ?_ (by first | (simp; done) | (simp; omega)) _))
    have M0 : Blk ((w.alloc (.cells #[.int .u64 0, .int .u64 0, .int .u64 0] 40)).alloc (.cells #[.int .u64 0, .int .u64 0, .int .u64 0] 40)) (w.heap.size + 1) 40 #[.int .u64 0, .int .u64 0, .int .u64 0] := by (repeat (first | assumption | exact Blk.newAt _ _ _ (by first | (simp; done) | (simp; omega)) | refine Blk.alloc ?_ _ | refine Blk.drew ?_ | refine Blk.drewN ?_ _ | refine Blk.far ?_ (by first | (simp; done) | (simp; omega)) _))
    refine (HEP.out _ HIN0.out.rd).mono ?_
    rintro r w1 ⟨rfl, hst⟩
    have HIN1 := hid (HIN0.out.step hst)
    have R1 := R0.tch hst.2 (by omega)
    have M1 := M0.tch hst.2 (by omega)
    obtain ⟨x0, x1, x2, f0, f1, f2, l0⟩ := b_blk R1
    obtain ⟨y0, y1, y2, g0, g1, g2, l1⟩ := b_blk M1
    have HR := hid R1
    have HM := hid M1
    clear hst R0 M0 R1 M1
    go_wp2_with fail
    have HIN1 := hid (HIN1.out.row ((Below.refl w.heap.size w1).setCell (p := ⟨w.heap.size + 1, 0, none⟩) (by dsimp only; omega) (.int .u64 (e : Int))))
    have R1 := (HR.out).far (p := ⟨w.heap.size + 1, 0, none⟩) (by dsimp only; omega) (.int .u64 (e : Int))
    have M1 := (HM.out).set 0 (.int .u64 (e : Int))
    have HR := hid R1
    have HM := hid M1
    clear x0 x1 x2 f0 f1 f2 l0 y0 y1 y2 g0 g1 g2 l1 R1 M1
    refine (HMO.out _ HIN1.out.rd).mono ?_
    rintro r w2 ⟨rfl, hst⟩
    have HIN1 := hid (HIN1.out.step hst)
    have R1 := HR.out.tch hst.2 (by omega)
    have M1 := HM.out.tch hst.2 (by omega)
    simp only [List.setIfInBounds_toArray, List.set_cons_zero, List.set_cons_succ] at M1
    obtain ⟨x0, x1, x2, f0, f1, f2, l0⟩ := b_blk R1
    obtain ⟨y0, y1, y2, g0, g1, g2, l1⟩ := b_blk M1
    have HR := hid R1
    have HM := hid M1
    clear hst R1 M1
    go_wp2_with fail
    have HIN1 := hid (HIN1.out.row ((Below.refl w.heap.size w2).setCell (p := ⟨w.heap.size + 1, 1, none⟩) (by dsimp only; omega) (.int .u64 (n : Int))))
    have R1 := (HR.out).far (p := ⟨w.heap.size + 1, 1, none⟩) (by dsimp only; omega) (.int .u64 (n : Int))
    have M1 := (HM.out).set 1 (.int .u64 (n : Int))
    have HR := hid R1
    have HM := hid M1
    clear x0 x1 x2 f0 f1 f2 l0 y0 y1 y2 g0 g1 g2 l1 R1 M1
    refine (HTL.out _ HIN1.out.rd).mono ?_
    rintro r w3 ⟨rfl, hst⟩
    have HIN1 := hid (HIN1.out.step hst)
    have R1 := HR.out.tch hst.2 (by omega)
    have M1 := HM.out.tch hst.2 (by omega)
    simp only [List.setIfInBounds_toArray, List.set_cons_zero, List.set_cons_succ] at M1
    obtain ⟨x0, x1, x2, f0, f1, f2, l0⟩ := b_blk R1
    obtain ⟨y0, y1, y2, g0, g1, g2, l1⟩ := b_blk M1
    have HR := hid R1
    have HM := hid M1
    clear hst R1 M1
    go_wp2_with fail
    have HIN1 := hid (HIN1.out.row ((Below.refl w.heap.size w3).setCell (p := ⟨w.heap.size + 1, 2, none⟩) (by dsimp only; omega) (.int .u64 (t : Int))))
    have R1 := (HR.out).far (p := ⟨w.heap.size + 1, 2, none⟩) (by dsimp only; omega) (.int .u64 (t : Int))
    have M1 := (HM.out).set 2 (.int .u64 (t : Int))
    have HR := hid R1
    have HM := hid M1
    clear x0 x1 x2 f0 f1 f2 l0 y0 y1 y2 g0 g1 g2 l1 R1 M1
    refine (HGD.out _ HIN1.out.rd).mono ?_
    rintro r w4 ⟨rfl, hb4⟩
    have HIN2 := hid (HIN1.out.row (hb4.mono HIN1.out.tch.size))
    have R1 := HR.out.later hb4
    have M1 := HM.out.later hb4
    simp only [List.setIfInBounds_toArray, List.set_cons_zero, List.set_cons_succ] at M1
    obtain ⟨x0, x1, x2, f0, f1, f2, l0⟩ := b_blk R1
    obtain ⟨y0, y1, y2, g0, g1, g2, l1⟩ := b_blk M1
    clear hb4 R1 M1
    go_wp2
    exact bodyPost_ret (v := .agg #[.int .u64 (e : Int), .int .u64 (n : Int), .int .u64 (t : Int)]) (by simp [results, Tryz.results317, go_sem, x0, x1, x2, f0, f1, f2, l0]) rfl ⟨rfl, (HIN2.out.row ((((Below.refl w.heap.size w4).setCell (p := ⟨w.heap.size, 0, none⟩) (by dsimp only; omega) (.int .u64 (e : Int))).setCell (p := ⟨w.heap.size, 1, none⟩) (by dsimp only; omega) (.int .u64 (n : Int))).setCell (p := ⟨w.heap.size, 2, none⟩) (by dsimp only; omega) (.int .u64 (t : Int)))).to⟩
  · rw [if_neg hk]
    rw [decide_eq_false hk] at HGD
    clear hk
    go_enter Tryz.func317, Tryz.ntmps317
    go_wp2_with fail
    have hb0 := hid (by (repeat (first | with_reducible exact Below.refl _ _ | with_reducible assumption | (with_reducible refine below_alloc ?_ _) | (with_reducible refine Below.setCell ?_ (by first | omega | (simp; done) | (simp; omega)) _) | (with_reducible refine Below.drew ?_) | (with_reducible refine below_drewN ?_ _) | (refine below_then (by with_reducible assumption) ?_))) : Below w.heap.size w ((w.alloc (.cells #[.int .u64 0, .int .u64 0, .int .u64 0] 40)).alloc (.cells #[.int .u64 0, .int .u64 0, .int .u64 0] 40)))
    have HIN0 := hid (HIN.out.row hb0.out)
    have R0 : Blk ((w.alloc (.cells #[.int .u64 0, .int .u64 0, .int .u64 0] 40)).alloc (.cells #[.int .u64 0, .int .u64 0, .int .u64 0] 40)) w.heap.size 40 #[.int .u64 0, .int .u64 0, .int .u64 0] := by (repeat (first | assumption | exact Blk.newAt _ _ _ (by first | (simp; done) | (simp; omega)) | refine Blk.alloc ?_ _ | refine Blk.drew ?_ | refine Blk.drewN ?_ _ | refine Blk.far ?_ (by first | (simp; done) | (simp; omega)) _))
    have M0 : Blk ((w.alloc (.cells #[.int .u64 0, .int .u64 0, .int .u64 0] 40)).alloc (.cells #[.int .u64 0, .int .u64 0, .int .u64 0] 40)) (w.heap.size + 1) 40 #[.int .u64 0, .int .u64 0, .int .u64 0] := by (repeat (first | assumption | exact Blk.newAt _ _ _ (by first | (simp; done) | (simp; omega)) | refine Blk.alloc ?_ _ | refine Blk.drew ?_ | refine Blk.drewN ?_ _ | refine Blk.far ?_ (by first | (simp; done) | (simp; omega)) _))
    refine (HEP.out _ HIN0.out.rd).mono ?_
    rintro r w1 ⟨rfl, hst⟩
    have HIN1 := hid (HIN0.out.step hst)
    have R1 := R0.tch hst.2 (by omega)
    have M1 := M0.tch hst.2 (by omega)
    obtain ⟨x0, x1, x2, f0, f1, f2, l0⟩ := b_blk R1
    obtain ⟨y0, y1, y2, g0, g1, g2, l1⟩ := b_blk M1
    have HR := hid R1
    have HM := hid M1
    clear hst R0 M0 R1 M1
    go_wp2_with fail
    have HIN1 := hid (HIN1.out.row ((Below.refl w.heap.size w1).setCell (p := ⟨w.heap.size + 1, 0, none⟩) (by dsimp only; omega) (.int .u64 (e : Int))))
    have R1 := (HR.out).far (p := ⟨w.heap.size + 1, 0, none⟩) (by dsimp only; omega) (.int .u64 (e : Int))
    have M1 := (HM.out).set 0 (.int .u64 (e : Int))
    have HR := hid R1
    have HM := hid M1
    clear x0 x1 x2 f0 f1 f2 l0 y0 y1 y2 g0 g1 g2 l1 R1 M1
    refine (HMO.out _ HIN1.out.rd).mono ?_
    rintro r w2 ⟨rfl, hst⟩
    have HIN1 := hid (HIN1.out.step hst)
    have R1 := HR.out.tch hst.2 (by omega)
    have M1 := HM.out.tch hst.2 (by omega)
    simp only [List.setIfInBounds_toArray, List.set_cons_zero, List.set_cons_succ] at M1
    obtain ⟨x0, x1, x2, f0, f1, f2, l0⟩ := b_blk R1
    obtain ⟨y0, y1, y2, g0, g1, g2, l1⟩ := b_blk M1
    have HR := hid R1
    have HM := hid M1
    clear hst R1 M1
    go_wp2_with fail
    have HIN1 := hid (HIN1.out.row ((Below.refl w.heap.size w2).setCell (p := ⟨w.heap.size + 1, 1, none⟩) (by dsimp only; omega) (.int .u64 (n : Int))))
    have R1 := (HR.out).far (p := ⟨w.heap.size + 1, 1, none⟩) (by dsimp only; omega) (.int .u64 (n : Int))
    have M1 := (HM.out).set 1 (.int .u64 (n : Int))
    have HR := hid R1
    have HM := hid M1
    clear x0 x1 x2 f0 f1 f2 l0 y0 y1 y2 g0 g1 g2 l1 R1 M1
    refine (HTL.out _ HIN1.out.rd).mono ?_
    rintro r w3 ⟨rfl, hst⟩
    have HIN1 := hid (HIN1.out.step hst)
    have R1 := HR.out.tch hst.2 (by omega)
    have M1 := HM.out.tch hst.2 (by omega)
    simp only [List.setIfInBounds_toArray, List.set_cons_zero, List.set_cons_succ] at M1
    obtain ⟨x0, x1, x2, f0, f1, f2, l0⟩ := b_blk R1
    obtain ⟨y0, y1, y2, g0, g1, g2, l1⟩ := b_blk M1
    have HR := hid R1
    have HM := hid M1
    clear hst R1 M1
    go_wp2_with fail
    have HIN1 := hid (HIN1.out.row ((Below.refl w.heap.size w3).setCell (p := ⟨w.heap.size + 1, 2, none⟩) (by dsimp only; omega) (.int .u64 (t : Int))))
    have R1 := (HR.out).far (p := ⟨w.heap.size + 1, 2, none⟩) (by dsimp only; omega) (.int .u64 (t : Int))
    have M1 := (HM.out).set 2 (.int .u64 (t : Int))
    have HR := hid R1
    have HM := hid M1
    clear x0 x1 x2 f0 f1 f2 l0 y0 y1 y2 g0 g1 g2 l1 R1 M1
    refine (HGD.out _ HIN1.out.rd).mono ?_
    rintro r w4 ⟨rfl, hb4⟩
    have HIN2 := hid (HIN1.out.row (hb4.mono HIN1.out.tch.size))
    have R1 := HR.out.later hb4
    have M1 := HM.out.later hb4
    simp only [List.setIfInBounds_toArray, List.set_cons_zero, List.set_cons_succ] at M1
    obtain ⟨x0, x1, x2, f0, f1, f2, l0⟩ := b_blk R1
    obtain ⟨y0, y1, y2, g0, g1, g2, l1⟩ := b_blk M1
    clear hb4 R1 M1
    go_wp2
    exact bodyPost_ret (v := .agg #[.int .u64 0, .int .u64 0, .int .u64 0]) (by simp [results, Tryz.results317, go_sem, x0, x1, x2, f0, f1, f2, l0]) rfl ⟨rfl, (HIN2.out.row ((((Below.refl w.heap.size w4).setCell (p := ⟨w.heap.size, 0, none⟩) (by dsimp only; omega) (.int .u64 0)).setCell (p := ⟨w.heap.size, 1, none⟩) (by dsimp only; omega) (.int .u64 0)).setCell (p := ⟨w.heap.size, 2, none⟩) (by dsimp only; omega) (.int .u64 0))).to⟩

theorem Rs.many_le {B : List UInt8} {s : Rs} {m : Int} : (s.many B m).2 ≤ m.toNat := Rs.int_le

set_option maxRecDepth 100000 in
set_option maxHeartbeats 1600000 in
theorem stripe_many (w : World) {g : Nat} {B : List UInt8} {a : Option Addr} {s : Rs} (h : RdAt w g B a s) (hB : B.length ≤ 1000000000) (m : Int) (hm : -9223372036854775808 ≤ m ∧ m ≤ 9223372036854775807) :
    Calls Tryz.prog 364 #[.pointer (some ⟨g, 0, none⟩), .int .i64 m] w fun r w' => r = .returned (.int .i64 ((s.many B m).2 : Int)) ∧ RdStep w g B a (s.many B m).1 w' := by
  have HAT := hid (rd_at w h)
  have HVI := hid (varint_int w h (by omega) m hm)
  have HIN := hid (RdInv.refl h)
  clear h
  unfold Rs.many
  generalize s.int B m = R at *
  obtain ⟨s1, n⟩ := R
  dsimp only at *
  by_cases hn : n = 0
  · rw [if_pos hn]
    subst hn
    go_enter Tryz.func364, Tryz.ntmps364
    go_wp2_with fail
    refine HAT.out.mono ?_
    rintro r w1 ⟨rfl, rfl⟩
    go_wp2_with fail
    refine HVI.out.mono ?_
    rintro r w2 ⟨rfl, hst⟩
    have HIN2 := hid (HIN.out.step hst)
    clear hst
    go_wp2_with fail
    refine (rd_fail w2 HIN2.out.rd 3 (s.p : Int) (by omega)).mono ?_
    rintro r w3 ⟨rfl, hst⟩
    have HE := hid (HIN2.out.step hst).to
    clear hst
    go_wp2
    go_ret
    exact ⟨rfl, HE.out⟩
  · rw [if_neg hn]
    have d0 : ((n : Int) == 0) = false := beq_eq_false_iff_ne.2 (by omega)
    go_enter Tryz.func364, Tryz.ntmps364
    go_wp2_with fail
    refine HAT.out.mono ?_
    rintro r w1 ⟨rfl, rfl⟩
    go_wp2_with fail
    refine HVI.out.mono ?_
    rintro r w2 ⟨rfl, hst⟩
    have HIN2 := hid (HIN.out.step hst)
    clear hst
    have HE := hid HIN2.out.to
    go_wp2
    go_ret
    exact ⟨rfl, HE.out⟩


theorem Rs.many_pos {B : List UInt8} {s : Rs} {m : Int} (h : (s.many B m).1.k = 0) : 1 ≤ (s.many B m).2 := by
  unfold Rs.many at *
  dsimp only at *
  split at h
  · exact absurd h (Rs.fail_k (by omega))
  · omega
theorem Rs.rise_of_bad {B : List UInt8} {s : Rs} {out : List Int} (h : s.k ≠ 0) : ∀ n, (Rs.rise B n s out).1.k ≠ 0
  | 0 => h
  | n + 1 => by
    unfold Rs.rise
    rw [Rs.num_of_bad h, if_neg h]
    exact h
theorem Rs.rise_len {B : List UInt8} : ∀ (n : Nat) (s : Rs) (out : List Int), (Rs.rise B n s out).1.k = 0 → (Rs.rise B n s out).2.length = n + out.length
  | 0, s, out, _ => by simp [Rs.rise]
  | n + 1, s, out, h => by
    unfold Rs.rise at h ⊢
    split at h
    · rename_i h1
      rw [if_pos h1]
      split at h
      · exact absurd h (Rs.fail_k (by omega))
      · rename_i h2
        rw [if_neg h2]
        rw [Rs.rise_len n _ _ h]
        simp
        omega
    · rename_i h1
      exact absurd h h1

set_option maxRecDepth 100000 in
set_option maxHeartbeats 1600000 in
theorem stripe_readset (w : World) {g : Nat} {B : List UInt8} {a : Option Addr} {s : Rs} (h : RdAt w g B a s) (hB : B.length ≤ 1000000000) (O : List (List Int)) (ao : Option Addr) (no co : Nat) (ho : rSets.r (fun q => q < w.heap.size ∧ q ≠ g) w [.slice ao no co] O) :
    Calls Tryz.prog 365 #[.pointer (some ⟨g, 0, none⟩), .slice ao no co] w fun r w' => ∃ v, r = .returned v ∧ rU64s.r (fun q => w.heap.size ≤ q ∧ q < w'.heap.size) w' [v] (s.set_ B O).2 ∧ RdStep w g B a (s.set_ B O).1 w' := by
  have hlt := h.blk.lt
  have HIN := hid (RdInv.refl h)
  have HMN := hid (stripe_many w h hB 8 (by omega))
  have hnl := Rs.many_le (B := B) (s := s) (m := 8)
  have hnp := Rs.many_pos (B := B) (s := s) (m := 8)
  have HO := hid ho
  clear h ho
  unfold Rs.set_
  dsimp only
  generalize s.many B 8 = R at *
  obtain ⟨s1, n⟩ := R
  dsimp only at *
  have HZR := hid (fun (W : World) (hW : RdAt W g B a s1) => zig_read W hW hB n (by omega))
  have hbd := fun hk => Rs.rise_of_bad (B := B) (s := s1) (out := []) hk n
  have hrl := Rs.rise_len (B := B) n s1 []
  generalize Rs.rise B n s1 [] = R at *
  obtain ⟨s2, L⟩ := R
  dsimp only at *
  by_cases hk : s2.k = 0
  · rw [if_pos hk]
    have HK : decide (s2.k = 0) = true := decide_eq_true hk
    have hk1 : s1.k = 0 := Decidable.byContradiction fun hh => hbd hh hk
    have hL := hrl hk
    simp only [List.length_nil, Nat.add_zero] at hL
    have hL1 : 1 ≤ L.length := by have := hnp hk1; omega
    obtain ⟨m, hm⟩ : ∃ m, L.length = m + 1 := ⟨L.length - 1, by omega⟩
    have hla := last_at L hL1
    have HLAST : Hid (∀ hh : m < L.length, L[m] = L.getLastD 0) := hid (fun hh => by rw [hla]; congr 1; omega)
    have j1 : (L.length : Int) - 1 = (m : Int) := by omega
    have j2 : (0 : Int) ≤ (L.length : Int) - 1 := by omega
    have j3 : (m : Int) < (L.length : Int) := by omega
    generalize L.getLastD 0 = q at *
    have HM := hid hm
    clear hbd hrl hnp hk hk1 hla hL hm
    by_cases hq : 4294967295 < q
    · rw [if_pos hq]
      have d1 : decide (4294967295 < q) = true := decide_eq_true hq
      go_enter Tryz.func365, Tryz.ntmps365
      go_wp2_with fail
      refine HMN.out.mono ?_
      rintro r w1 ⟨rfl, hst⟩
      have HIN1 := hid (HIN.out.step hst)
      clear hst
      go_wp2_with fail
      refine (rd_at w1 HIN1.out.rd).mono ?_
      rintro r w2 ⟨rfl, rfl⟩
      go_wp2_with fail
      refine (HZR.out _ HIN1.out.rd).mono ?_
      rintro r w3 ⟨v, rfl, hv, hst⟩
      obtain ⟨av, cv, e, hv2, hlen⟩ := sl_form hv
      cases e
      have HIN3 := hid (HIN1.out.step hst)
      have HV := hid (rU64s.mono hv fun q hq => (⟨Nat.le_trans HIN1.out.tch.size hq.1, hq.2⟩ : w.heap.size ≤ q ∧ q < w3.heap.size))
      have hg := rd_good w3 HIN3.out.rd
      rw [HK] at hg
      have HG := hid hg
      clear hst hv hv2 hg
      go_wp2_with fail
      refine HG.out.mono ?_
      rintro r w4 ⟨rfl, hb4⟩
      have HIN4 := hid (HIN3.out.step (RdStep.later HIN3.out.rd hb4))
      have HV4 := hid (rU64s.mono (rU64s.keep HV.out fun q hq => hb4.block q hq.2) fun q hq => (⟨hq.1, Nat.lt_of_lt_of_le hq.2 hb4.size⟩ : w.heap.size ≤ q ∧ q < w4.heap.size))
      clear hb4
      obtain ⟨b, o, rfl, _, hc, _⟩ := u64_at HV4.out (i := m) (by have := HM.out; omega)
      rw [HLAST.out] at hc
      go_wp2_with fail
      refine (rd_fail w4 HIN4.out.rd 3 (s1.p : Int) (by omega)).mono ?_
      rintro r w5 ⟨rfl, hst⟩
      have HV5 := hid (rU64s.mono (rU64s.keep HV4.out fun q hq => hst.2.block q hq.2 (by have := hq.1; omega)) fun q hq => (⟨hq.1, Nat.lt_of_lt_of_le hq.2 hst.2.size⟩ : w.heap.size ≤ q ∧ q < w5.heap.size))
      have HIN5 := hid (HIN4.out.step hst)
      clear hst
      go_wp2
      go_ret
      exact ⟨_, rfl, HV5.out, HIN5.out.to⟩
    · rw [if_neg hq]
      have d1 : decide (4294967295 < q) = false := decide_eq_false hq
      by_cases hap : apartR L O = true
      · rw [if_pos hap]
        have HAP := hap
        clear hap
        go_enter Tryz.func365, Tryz.ntmps365
        go_wp2_with fail
        refine HMN.out.mono ?_
        rintro r w1 ⟨rfl, hst⟩
        have HIN1 := hid (HIN.out.step hst)
        clear hst
        go_wp2_with fail
        refine (rd_at w1 HIN1.out.rd).mono ?_
        rintro r w2 ⟨rfl, rfl⟩
        go_wp2_with fail
        refine (HZR.out _ HIN1.out.rd).mono ?_
        rintro r w3 ⟨v, rfl, hv, hst⟩
        obtain ⟨av, cv, e, hv2, hlen⟩ := sl_form hv
        cases e
        have HIN3 := hid (HIN1.out.step hst)
        have HV := hid (rU64s.mono hv fun q hq => (⟨Nat.le_trans HIN1.out.tch.size hq.1, hq.2⟩ : w.heap.size ≤ q ∧ q < w3.heap.size))
        have hg := rd_good w3 HIN3.out.rd
        rw [HK] at hg
        have HG := hid hg
        clear hst hv hv2 hg
        go_wp2_with fail
        refine HG.out.mono ?_
        rintro r w4 ⟨rfl, hb4⟩
        have HIN4 := hid (HIN3.out.step (RdStep.later HIN3.out.rd hb4))
        have HV4 := hid (rU64s.mono (rU64s.keep HV.out fun q hq => hb4.block q hq.2) fun q hq => (⟨hq.1, Nat.lt_of_lt_of_le hq.2 hb4.size⟩ : w.heap.size ≤ q ∧ q < w4.heap.size))
        clear hb4
        obtain ⟨b, o, rfl, _, hc, _⟩ := u64_at HV4.out (i := m) (by have := HM.out; omega)
        rw [HLAST.out] at hc
        go_wp2_with fail
        refine (stripe_apart L O (some ⟨b, o, none⟩) L.length cv ao no co w4 (rU64s.mono HV4.out fun q hq => hq.2) (rSets.mono (rSets.keep HO.out fun q hq => HIN4.out.tch.block q hq.1 hq.2) fun q hq => Nat.lt_of_lt_of_le hq.1 HIN4.out.tch.size)).mono ?_
        rw [HAP]
        rintro r w5 ⟨rfl, hb5⟩
        have hst := RdStep.later HIN4.out.rd hb5
        have HV5 := hid (rU64s.mono (rU64s.keep HV4.out fun q hq => hst.2.block q hq.2 (by have := hq.1; omega)) fun q hq => (⟨hq.1, Nat.lt_of_lt_of_le hq.2 hst.2.size⟩ : w.heap.size ≤ q ∧ q < w5.heap.size))
        have HIN5 := hid (HIN4.out.step hst)
        clear hst
        go_wp2
        go_ret
        exact ⟨_, rfl, HV5.out, HIN5.out.to⟩
      · rw [if_neg hap]
        have HAP := Bool.eq_false_iff.2 hap
        clear hap
        go_enter Tryz.func365, Tryz.ntmps365
        go_wp2_with fail
        refine HMN.out.mono ?_
        rintro r w1 ⟨rfl, hst⟩
        have HIN1 := hid (HIN.out.step hst)
        clear hst
        go_wp2_with fail
        refine (rd_at w1 HIN1.out.rd).mono ?_
        rintro r w2 ⟨rfl, rfl⟩
        go_wp2_with fail
        refine (HZR.out _ HIN1.out.rd).mono ?_
        rintro r w3 ⟨v, rfl, hv, hst⟩
        obtain ⟨av, cv, e, hv2, hlen⟩ := sl_form hv
        cases e
        have HIN3 := hid (HIN1.out.step hst)
        have HV := hid (rU64s.mono hv fun q hq => (⟨Nat.le_trans HIN1.out.tch.size hq.1, hq.2⟩ : w.heap.size ≤ q ∧ q < w3.heap.size))
        have hg := rd_good w3 HIN3.out.rd
        rw [HK] at hg
        have HG := hid hg
        clear hst hv hv2 hg
        go_wp2_with fail
        refine HG.out.mono ?_
        rintro r w4 ⟨rfl, hb4⟩
        have HIN4 := hid (HIN3.out.step (RdStep.later HIN3.out.rd hb4))
        have HV4 := hid (rU64s.mono (rU64s.keep HV.out fun q hq => hb4.block q hq.2) fun q hq => (⟨hq.1, Nat.lt_of_lt_of_le hq.2 hb4.size⟩ : w.heap.size ≤ q ∧ q < w4.heap.size))
        clear hb4
        obtain ⟨b, o, rfl, _, hc, _⟩ := u64_at HV4.out (i := m) (by have := HM.out; omega)
        rw [HLAST.out] at hc
        go_wp2_with fail
        refine (stripe_apart L O (some ⟨b, o, none⟩) L.length cv ao no co w4 (rU64s.mono HV4.out fun q hq => hq.2) (rSets.mono (rSets.keep HO.out fun q hq => HIN4.out.tch.block q hq.1 hq.2) fun q hq => Nat.lt_of_lt_of_le hq.1 HIN4.out.tch.size)).mono ?_
        rw [HAP]
        rintro r w5 ⟨rfl, hb5⟩
        have hst := RdStep.later HIN4.out.rd hb5
        have HV5 := hid (rU64s.mono (rU64s.keep HV4.out fun q hq => hst.2.block q hq.2 (by have := hq.1; omega)) fun q hq => (⟨hq.1, Nat.lt_of_lt_of_le hq.2 hst.2.size⟩ : w.heap.size ≤ q ∧ q < w5.heap.size))
        have HIN5 := hid (HIN4.out.step hst)
        clear hst
        go_wp2_with fail
        refine (rd_fail w5 HIN5.out.rd 13 (s1.p : Int) (by omega)).mono ?_
        rintro r w6 ⟨rfl, hst⟩
        have HV6 := hid (rU64s.mono (rU64s.keep HV5.out fun q hq => hst.2.block q hq.2 (by have := hq.1; omega)) fun q hq => (⟨hq.1, Nat.lt_of_lt_of_le hq.2 hst.2.size⟩ : w.heap.size ≤ q ∧ q < w6.heap.size))
        have HIN6 := hid (HIN5.out.step hst)
        clear hst
        go_wp2
        go_ret
        exact ⟨_, rfl, HV6.out, HIN6.out.to⟩
  · rw [if_neg hk]
    have HK : decide (s2.k = 0) = false := decide_eq_false hk
    clear hbd hrl hnp hk
    go_enter Tryz.func365, Tryz.ntmps365
    go_wp2_with fail
    refine HMN.out.mono ?_
    rintro r w1 ⟨rfl, hst⟩
    have HIN1 := hid (HIN.out.step hst)
    clear hst
    go_wp2_with fail
    refine (rd_at w1 HIN1.out.rd).mono ?_
    rintro r w2 ⟨rfl, rfl⟩
    go_wp2_with fail
    refine (HZR.out _ HIN1.out.rd).mono ?_
    rintro r w3 ⟨v, rfl, hv, hst⟩
    obtain ⟨av, cv, e, hv2, hlen⟩ := sl_form hv
    cases e
    have HIN3 := hid (HIN1.out.step hst)
    have HV := hid (rU64s.mono hv fun q hq => (⟨Nat.le_trans HIN1.out.tch.size hq.1, hq.2⟩ : w.heap.size ≤ q ∧ q < w3.heap.size))
    have hg := rd_good w3 HIN3.out.rd
    rw [HK] at hg
    have HG := hid hg
    clear hst hv hv2 hg
    go_wp2_with fail
    refine HG.out.mono ?_
    rintro r w4 ⟨rfl, hb4⟩
    have HIN4 := hid (HIN3.out.step (RdStep.later HIN3.out.rd hb4))
    have HV4 := hid (rU64s.mono (rU64s.keep HV.out fun q hq => hb4.block q hq.2) fun q hq => (⟨hq.1, Nat.lt_of_lt_of_le hq.2 hb4.size⟩ : w.heap.size ≤ q ∧ q < w4.heap.size))
    clear hb4
    go_wp2
    go_ret
    exact ⟨_, rfl, rSl_mk (xs := []) rfl (Nat.le_refl _) (Nat.zero_le _) (.inl rfl), HIN4.out.to⟩
end Go.Proofs.YtfddhafbhceoaaaGreat
