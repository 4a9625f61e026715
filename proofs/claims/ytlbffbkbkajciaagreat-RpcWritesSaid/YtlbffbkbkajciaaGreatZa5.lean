/- Needed by bodyWrites_walk, part 5: texts put together by shake.py; no condition. -/
import Derived.Test.YtlbffbkbkajciaaGreatZa4
import Derived.Deep.AppendLies
import Derived.Deep.RegionLaw
import Derived.Test.YtlbffbkbkajciaaGreatZa1
import Derived.Laws.MakeOwn
import Derived.Deep.RegionHeld3
import Derived.Test.YtlbffbkbkajciaaGreatZa3
namespace Go.Proofs.YtlbffbkbkajciaaGreat
open Go.RowKit Go.Bs
set_option linter.unusedVariables false
set_option linter.unusedSimpArgs false
theorem infoLink : (Tryz.prog.info? 151).map (fun i => (i.zero, i.size, i.bytes)) = some (some (.agg #[.int .u64 0, .slice none 0 0]), 2, 32) := by kernel_rfl

theorem src_new1 {w : World} (W : World) (e : TypeId) (cs : List Value) (hB : w = W.alloc (.cells cs.toArray e)) {g : Nat} (hg : g = W.heap.size) {sz : Nat} (hs : cs.length = sz) : Src w (some ⟨g, 0, none⟩) 1 sz cs := by
  subst hB hg
  refine ⟨by omega, .inr ⟨_, 0, rfl, fun j u hu => ?_⟩⟩
  rw [Nat.zero_add, Blk.cell (Blk.new W e cs.toArray)]
  simpa using hu

set_option maxHeartbeats 800000 in
theorem link_copyW (l : List Link) (a : Option Addr) (n c : Nat) (w : World) (hl : rLinks.r (· < w.heap.size) w [.slice a n c] l) (hlen : l.length ≤ 1000000000000) (hb : ∀ x ∈ l, x.backs.length ≤ 1000000000000) :
    Calls Tryz.prog 102 #[.slice a n c] w fun r w' => ∃ v, r = .returned v ∧ rLinksW.r (Fresh w w') w' [v] l ∧ Below w.heap.size w w' := by
  obtain ⟨rfl, hm, _, _⟩ := sl_len hl
  obtain ⟨i0, hi, hz0, hz1, hz2⟩ := info_parts infoLink
  have HL := hid hl; clear hl
  have HB := hid hb; clear hb
  go_enter Tryz.func102, Tryz.ntmps102
  go_wp2
  go_loopw [3, 8] (fun v i wr => ∃ k : Nat, k ≤ l.length ∧ i = .int .i64 k ∧ OwnEls w.heap.size rLink w.heap.size 151 2 wr v (l.take k) ∧ Below w.heap.size w wr) (fun _ i _ => l.length - (intOf i).toNat)
  case atStart => exact ⟨0, Nat.zero_le _, rfl, OwnEls.nil, Below.refl _ _⟩
  case round =>
    obtain ⟨k, hk, rfl, hown, hb⟩ := hrel
    by_cases hlt : k < l.length
    · obtain ⟨b, o, hA, hbb, a1, c1, hc0, hc1, hst, hd⟩ := link_at HL.out hlt
      subst hA
      have X0 := (hb.cell (p := ⟨b, o + k * 2, none⟩) hbb).trans hc0
      have X1 := (hb.cell (p := ⟨b, o + k * 2 + 1, none⟩) hbb).trans hc1
      clear hc0 hc1
      have htk := hid (List.take_succ_eq_append_getElem hlt)
      have hbk := HB.out _ (List.getElem_mem hlt)
      have R := hid (lift hd hb)
      clear hd
      generalize l[k] = z at *
      have htl : (l.take k).length = k := by simp; omega
      generalize hT : l.take k = T at *
      clear hT
      subst htl
      have OW := hid hown; clear hown
      have i1 : (T.length : Int) < (l.length : Int) := by omega
      go_wp2_with fail
      refine (link_copied z _ _ _ _ (lift R.out (by (repeat (first | exact Below.refl _ _ | assumption | (refine below_alloc ?_ _) | (refine Below.setCell ?_ (by first | omega | (simp; done) | (simp; omega)) _) | (refine Below.drew ?_) | (refine below_drewN ?_ _) | (refine below_then (by assumption) ?_))))) hbk).mono ?_
      rintro e w4 ⟨v4, rfl, hr4, hb4⟩
      obtain ⟨a4, c4, hv4, _, _⟩ := sl_form hr4
      simp only [List.cons.injEq, and_true] at hv4
      subst hv4
      have hbw4 : Below wr.heap.size wr w4 := by (repeat (first | exact Below.refl _ _ | assumption | (refine below_alloc ?_ _) | (refine Below.setCell ?_ (by first | omega | (simp; done) | (simp; omega)) _) | (refine Below.drew ?_) | (refine below_drewN ?_ _) | (refine below_then (by assumption) ?_)))
      have hz4 : wr.heap.size + 1 ≤ w4.heap.size := by have := hb4.size; simpa using this
      have O4 := OW.out.below hbw4
      have HR4 := hid (rU64s.mono hr4 (S' := fun b => wr.heap.size + 1 ≤ b ∧ b < w4.heap.size) fun b h => by simpa [Fresh] using h)
      clear hr4
      obtain ⟨cells0, OA0⟩ := OW.out
      have hlt0 : ∀ g, u3.ownBlock = some g → g < wr.heap.size := fun g e => (OA0.1.lt g e).2
      have O5 := O4.below (show Below w4.heap.size w4 (w4.alloc (.cells #[.int .u64 z.stream, .slice a4 z.backs.length c4] 151)) from by (repeat (first | exact Below.refl _ _ | assumption | (refine below_alloc ?_ _) | (refine Below.setCell ?_ (by first | omega | (simp; done) | (simp; omega)) _) | (refine Below.drew ?_) | (refine below_drewN ?_ _) | (refine below_then (by assumption) ?_))))
      obtain ⟨cells, OA⟩ := O5
      have hx : rLink.r (fun b => w.heap.size ≤ b ∧ b < (w4.alloc (.cells #[.int .u64 z.stream, .slice a4 z.backs.length c4] 151)).heap.size ∧ u3.ownBlock ≠ some b) (w4.alloc (.cells #[.int .u64 z.stream, .slice a4 z.backs.length c4] 151)) [.int .u64 z.stream, .slice a4 z.backs.length c4] z := by
        refine link_mk hst (rU64s.mono (rU64s.keep HR4.out fun b hb => Below.heap_alloc w4 _ b hb.2) fun b hb' => ⟨?_, ?_, fun e => ?_⟩)
        · have := hb.size; omega
        · simp; omega
        · have := hlt0 b e; omega
      have hbs := hb.size
      have hb9 : Below w.heap.size w (w4.alloc (.cells #[.int .u64 z.stream, .slice a4 z.backs.length c4] 151)) := below_alloc (below_then hbw4 hb) _
      have hs9 : w.heap.size ≤ (w4.alloc (.cells #[.int .u64 z.stream, .slice a4 z.backs.length c4] 151)).heap.size := hb9.size
      have HX := hid hx; clear hx
      have HA := hid OA; clear OA OA0 O4 hlt0
      have HB9 := hid hb9; clear hb9
      have HS9 := hid hs9; clear hs9
      go_wp2_with (at_builtin; go_loud (refine wpList_append_src rfl _ _ _ rfl w.heap.size 151 i0 (.agg #[.int .u64 0, .slice none 0 0]) 2 32 Tryz.underlying24 hi hz0 hz1 hz2 rfl (by decide) u3 T.length _ rfl HA.out.1 (some ⟨w4.heap.size, 0, none⟩) 1 1 [.int .u64 z.stream, .slice a4 z.backs.length c4] rfl (src_new1 w4 151 _ rfl rfl rfl) (by intro u hu; simp at hu; rcases hu with rfl | rfl <;> rfl) (by simp only [maxLen]; omega) (by omega) HS9.out ?_; intro v1 w5 hown1 hgrow1 hat1; have OP := hid (OwnEls.push HA.out rfl HX.out hown1 hgrow1 hat1 hgrow1.size); have B5 := hid (HB9.out.grown hgrow1 HS9.out (fun g e => (HA.out.1.lt g e).1)); clear hown1 hgrow1 hat1))
      go_roundw
      case rel => exact ⟨T.length + 1, by omega, by go_num, by rw [htk.out]; exact OP.out, B5.out⟩
      case measure => simp [intOf]; omega
    · obtain rfl : k = l.length := by omega
      rw [List.take_length] at hown
      have hv := OwnEls.sliceW (Nat.le_refl _) hown
      have HV := hid hv; clear hv
      go_wp2
      go_ret
      exact ⟨_, rfl, HV.out, hb⟩

theorem link_copy (l : List Link) (a : Option Addr) (n c : Nat) (w : World) (hl : rLinks.r (· < w.heap.size) w [.slice a n c] l) (hlen : l.length ≤ 1000000000000) (hb : ∀ x ∈ l, x.backs.length ≤ 1000000000000) :
    Calls Tryz.prog 102 #[.slice a n c] w fun r w' => ∃ v, r = .returned v ∧ rLinks.r (Fresh w w') w' [v] l ∧ Below w.heap.size w w' :=
  (link_copyW l a n c w hl hlen hb).mono fun r w' ⟨v, h1, h2, h3⟩ => ⟨v, h1, linksW_links h2, h3⟩
end Go.Proofs.YtlbffbkbkajciaaGreat
namespace Go.Proofs.YtlbffbkbkajciaaGreat
open Go.RowKit Go.Bs Go.Maps
set_option linter.unusedVariables false
set_option linter.unusedSimpArgs false

def StepsOwn (below : Int) (l : List Int) (w : World) (e : Ending) (w' : World) : Prop :=
  ∃ v, e = .returned (.tuple #[v, .bool (fallsB below l)]) ∧ rU64s.r (fun q => w.heap.size ≤ q ∧ q < w'.heap.size) w' [v] (if fallsB below l then stepsL below l else []) ∧ Below w.heap.size w w'
set_option maxHeartbeats 1600000 in
theorem steps_own (below : Int) (l : List Int) (a : Option Addr) (n c : Nat) (w : World) (hb0 : 0 ≤ below ∧ below ≤ 18446744073709551615) (hl : rU64s.r (· < w.heap.size) w [.slice a n c] l) (hlen : l.length ≤ 1000000000000) :
    Calls Tryz.prog 215 #[.int .u64 below, .slice a n c] w (StepsOwn below l w) := by
  obtain ⟨rfl, hm, _, _⟩ := sl_len hl
  obtain ⟨i0, hi, hz0, hz1, hz2⟩ := info_parts infoU
  have HL := hid hl; clear hl
  go_enter Tryz.func215, Tryz.ntmps215
  go_wp2
  go_loopw [0, 6, 11] (fun b v i wr => ∃ k : Nat, k ≤ l.length ∧ i = .int .i64 k ∧ b = .int .u64 (ahead below l k) ∧ 0 ≤ ahead below l k ∧ ahead below l k ≤ 18446744073709551615 ∧ Hid (fallsB below l = fallsB (ahead below l k) (l.drop k)) ∧
      (∃ xs : List Int, Hid (xs.length = k ∧ (∀ x ∈ xs, 0 ≤ x ∧ x ≤ 18446744073709551615) ∧ stepsL below l = xs ++ stepsL (ahead below l k) (l.drop k)) ∧ wr.ownsRow w.heap.size 22 1 v k (xs.map (Value.int .u64))) ∧ Below w.heap.size w wr) (fun _ _ i _ => l.length - (intOf i).toNat)
  case atStart => exact ⟨0, Nat.zero_le _, rfl, rfl, hb0.1, hb0.2, hid rfl, ⟨[], hid ⟨rfl, by simp, rfl⟩, ⟨rfl, .inl ⟨rfl, rfl⟩⟩⟩, Below.refl _ _⟩
  case round =>
    obtain ⟨k, hk, rfl, rfl, ha0, ha1, hf, ⟨xs, hxs, hown⟩, hb⟩ := hrel
    by_cases hlt : k < l.length
    · obtain ⟨b, o, hA, hbb, hc, hx0, hx1⟩ := u64_at HL.out hlt
      subst hA
      have q := (hb.cell (p := ⟨b, o + k, none⟩) hbb).trans hc
      clear hc
      have hd := hid (List.drop_eq_getElem_cons hlt)
      have hsu := hid (ahead_succ below l k hlt)
      generalize hlk : l[k] = x at *
      clear hlk
      generalize ahead below l k = p at *
      by_cases hge : p ≤ x
      · have hff : Hid (fallsB below l = false) := by
          rw [hf.out, hd.out]; exact hid (by simp [fallsB]; omega)
        go_wp2
        go_ret2
        exact ⟨.slice none 0 0, by rw [hff.out]; rfl, by rw [hff.out]; exact rSl_mk rfl (Nat.le_refl _) (Nat.zero_le _) (.inl rfl), hb⟩
      · have hbs := hb.size
        have w1 : 0 ≤ p - x := by omega
        have w2 : 0 ≤ p - x - 1 := by omega
        go_wp2_with (at_builtin; refine wpList_append_lies _ rfl _ _ _ rfl w.heap.size 22 i0 (.int .u64 0) 1 8 Tryz.underlying23 hi hz0 hz1 hz2 rfl (by decide) _ k _ rfl (hown.alloc _) ⟨wr.heap.size, 0, none⟩ 1 1 [.int .u64 (p - x - 1)] rfl rfl (World.news_of_block (Blk.new _ _ _)) (by simp [Value.oneCell']) (by decide) (by simp only [maxLen]; omega) (by omega) (by simp; omega) _ rfl ?_; intro g1 cap1 w1' hown1 hgrow1 hat1 hlt1)
        go_roundw
        case rel =>
          refine ⟨k + 1, by omega, by go_num, by rw [hsu.out], by rw [hsu.out]; exact hx0, by rw [hsu.out]; exact hx1, ?_, ⟨xs ++ [p - x - 1], ?_, ?_⟩, ?_⟩
          · rw [hf.out, hd.out, hsu.out]
            exact hid (by simp only [fallsB]; rw [decide_eq_true (by omega)]; rfl)
          · refine hid ⟨by simp [hxs.out.1], ?_, ?_⟩
            · intro y hy
              rw [List.mem_append, List.mem_singleton] at hy
              rcases hy with hy | rfl
              · exact hxs.out.2.1 y hy
              · omega
            · rw [hsu.out, hxs.out.2.2, hd.out]
              simp [stepsL]
          · rw [List.map_append]; exact hown1
          · refine Below.grown ?_ hgrow1 (by simp; omega) (fun g e => (hown.lt g e).1)
            exact hb.alloc hbs _
        case measure => simp [intOf]; omega
    · obtain rfl : k = l.length := by omega
      have hff : Hid (fallsB below l = true) := by
        rw [hf.out, List.drop_length]; exact hid rfl
      have hxl := hxs.out.1
      have hst : Hid (stepsL below l = xs) := hid (by rw [hxs.out.2.2, List.drop_length]; simp [stepsL])
      have hv : rU64s.r (fun q => w.heap.size ≤ q ∧ q < wr.heap.size) wr [u6] xs := own_ints64 hxs.out.2.1 hxl.symm hown
      have HV := hid hv; clear hv hxl
      go_wp2
      go_ret2
      exact ⟨u6, by rw [hff.out]; rfl, by rw [hff.out, if_pos rfl, hst.out]; exact HV.out, hb⟩


theorem stepsL_bounds : ∀ (l : List Int) (p : Int), fallsB p l = true → p ≤ 18446744073709551615 → (∀ x ∈ l, 0 ≤ x) → ∀ y ∈ stepsL p l, 0 ≤ y ∧ y ≤ 18446744073709551615
  | [], p, _, _, _, y, hy => by simp [stepsL] at hy
  | x :: l, p, hf, hp, hx, y, hy => by
    simp only [fallsB, Bool.and_eq_true, decide_eq_true_eq] at hf
    have h0 := hx x (by simp)
    simp only [stepsL, List.mem_cons] at hy
    rcases hy with rfl | hy
    · omega
    · exact stepsL_bounds l x hf.2 (by omega) (fun z hz => hx z (by simp [hz])) y hy

set_option maxRecDepth 100000 in
set_option maxHeartbeats 3200000 in
theorem delta_put (w : World) {g base most : Nat} {J : List UInt8} {a : Option Addr} {c : Nat} (h : PenAt w g base most J a c) (pos : Int) (hpos : 0 ≤ pos ∧ pos ≤ 18446744073709551615) (l : List Int) (al : Option Addr) (nl cl : Nat)
    (hl : rU64s.r (· < w.heap.size) w [.slice al nl cl] l) (hf : fallsB pos l = true) (hlen : l.length ≤ 1000000) (hfit : J.length + (deltaB pos l).length ≤ most) (hln2 : J.length + (deltaB pos l).length ≤ 100000000000000) :
    Calls Tryz.prog 152 #[.pointer (some ⟨g, 0, none⟩), .int .u64 pos, .slice al nl cl] w fun r w' => r = .returned (.tuple #[]) ∧ PenStep w g base most (J ++ deltaB pos l) a w' := by
  obtain ⟨rfl, hm, _, _⟩ := sl_len hl
  have HS := hid (steps_own pos l al _ cl w hpos hl (by omega))
  have hlt := h.len
  have hsl := stepsL_len pos l
  have hnb := numsB_len (stepsL pos l)
  have hxs := u64s_bounds hl
  have hsb := hid (stepsL_bounds l pos hf hpos.2 (fun x hx => (hxs x hx).1))
  have hvl := varB_len l.length
  have hdl : (deltaB pos l).length = (varB l.length).length + (numsB (stepsL pos l)).length := by unfold deltaB; rw [List.length_append]
  rw [hdl] at hfit hln2
  unfold StepsOwn at HS
  rw [hf] at HS
  simp only [if_true] at HS
  unfold deltaB
  have HP := hid h
  have HMO := hid (fun k => numsB_take_le (stepsL pos l) k)
  have HNS := hid (fun (k : Nat) (h : k < (stepsL pos l).length) => numsB_step (stepsL pos l) k h)
  generalize stepsL pos l = T at *
  generalize hL : l.length = L at *
  have hLL := hid hL
  clear h hl hf hxs hdl hL
  go_enter Tryz.func152, Tryz.ntmps152
  go_wp2_with fail
  refine HS.out.mono ?_
  rintro r w1 ⟨v, rfl, hr, hb1⟩
  obtain ⟨a1, c1, hv, hr2, _⟩ := sl_form hr
  simp only [List.cons.injEq, and_true] at hv
  subst hv
  rw [hsl] at hr2 ⊢
  have HR := hid (pen_new_data HP.out hr2)
  have HP1 := hid (HP.out.later hb1)
  have HV := hid (varint_put w1 HP1.out L (by omega) (by omega) (by omega))
  clear hr hr2
  go_wp2_with fail
  refine HV.out.mono ?_
  rintro r w2 ⟨rfl, hst⟩
  have HST := hid hst
  clear hst
  have hz1 := hb1.size
  go_wp2_with fail
  go_loopw [27] (fun i wr => ∃ k : Nat, k ≤ L ∧ i = .int .i64 k ∧ Hid (PenStep w1 g base most (J ++ varB L ++ numsB (T.take k)) a wr)) (fun i _ => L - (intOf i).toNat)
  case atStart => exact ⟨0, Nat.zero_le _, rfl, hid (by simpa [numsB] using HST.out)⟩
  case round =>
    obtain ⟨k, hk, rfl, hp⟩ := hrel
    obtain ⟨a3, c3, hp3, ht3, ha3⟩ := hp.out
    rcases Nat.lt_or_ge k L with hlt | hge
    · have hd3 := pen_data ht3 ha3 HR.out
      have hkT : k < T.length := by omega
      obtain ⟨b, o, hA, hbb, hc, hx0, hx1⟩ := u64_at hd3 hkT
      subst hA
      have hst := HNS.out k hkT
      have hfk := HMO.out (k + 1)
      rw [hst, List.length_append] at hfk
      have HSK := hid hst
      have hvk := (varB_len T[k].toNat).1
      have hJ3 := hp3.len
      simp only [List.length_append] at hJ3
      have hV := varint_put wr hp3 T[k].toNat (by omega) (by simp only [List.length_append]; omega) (by simp only [List.length_append]; omega)
      rw [toNat_cast hx0, List.append_assoc (J ++ varB L), ← hst] at hV
      have HV3 := hid hV
      have HT3 := hid (And.intro ht3 ha3)
      have i1 : (k : Int) < (L : Int) := by omega
      have d1 : decide ((k : Int) < (L : Int)) = true := decide_eq_true i1
      clear hV hd3 hst hp3 ht3 ha3 hp hfk hvk hJ3
      generalize T[k] = y at *
      go_wp2_with fail
      refine HV3.out.mono ?_
      rintro r w5 ⟨rfl, hst5⟩
      have HN := hid (PenStep.trans (J := J) HT3.out.1 HT3.out.2 hst5)
      clear hst5
      go_wp2
      go_roundw
      case rel => exact ⟨k + 1, by omega, by go_num, HN⟩
      case measure => simp [intOf]; omega
    · obtain rfl : k = L := by omega
      have d1 : decide ((k : Int) < (k : Int)) = false := decide_eq_false (by omega)
      rw [List.take_of_length_le (by omega)] at hp
      have HN := hid (PenStep.later hb1 hp.out)
      rw [List.append_assoc] at HN
      clear hp hp3 ht3 ha3
      go_wp2
      first | go_end0 | refine bodyPost_ret (results_none rfl _ _ _) rfl ?_
      exact ⟨rfl, HN.out⟩

theorem rises_at : ∀ (l : List Int) (k : Nat) (h : k + 1 < l.length), risesB l = true → l[k] < l[k + 1]
  | [], k, h, _ => by simp at h
  | [x], k, h, _ => by simp at h
  | x :: y :: l, k, h, hr => by
    simp only [risesB, Bool.and_eq_true, decide_eq_true_eq] at hr
    cases k with
    | zero => exact hr.1
    | succ k => exact rises_at (y :: l) k (by simpa using h) hr.2
theorem upsL_get : ∀ (l : List Link) (p : Option Int) (k : Nat) (h : k < l.length), (upsL p l)[k]'(by rw [upsL_len]; exact h) = if hk : k = 0 then (match p with | none => l[k].stream | some q => l[k].stream - q - 1) else l[k].stream - (l[k - 1]'(by omega)).stream - 1
  | [], p, k, h => by simp at h
  | x :: l, p, 0, h => by cases p <;> simp [upsL]
  | x :: l, p, k + 1, h => by
    simp only [upsL, List.getElem_cons_succ]
    rw [upsL_get l (some x.stream) k (by simpa using h)]
    cases k with
    | zero => simp
    | succ k => simp
/-- The parts of links, one behind the other. -/
def linkZ (pos : Int) (p : Option Int) (l : List Link) : List (List UInt8) := List.zipWith (fun (y : Int) (x : Link) => varB y.toNat ++ deltaB pos x.backs) (upsL p l) l
theorem linksF_zip (pos : Int) : ∀ (l : List Link) (p : Option Int), lnkF pos p l = (linkZ pos p l).flatten
  | [], p => rfl
  | x :: l, p => by
    simp only [lnkF, linkZ, upsL, List.zipWith_cons_cons, List.flatten_cons]
    rw [linksF_zip pos l (some x.stream)]
    rfl
theorem linkZ_len (pos : Int) (p : Option Int) (l : List Link) : (linkZ pos p l).length = l.length := by simp [linkZ, upsL_len]
theorem flat_step {α : Type} (Z : List (List α)) (k : Nat) (h : k < Z.length) : (Z.take (k + 1)).flatten = (Z.take k).flatten ++ Z[k] := by
  rw [List.take_succ_eq_append_getElem h, List.flatten_append]; simp
theorem flat_take_le {α : Type} (Z : List (List α)) (k : Nat) : (Z.take k).flatten.length ≤ Z.flatten.length := by
  have : Z.flatten = (Z.take k).flatten ++ (Z.drop k).flatten := by rw [← List.flatten_append, List.take_append_drop]
  rw [this, List.length_append]; omega
theorem linkZ_get (pos : Int) (l : List Link) (k : Nat) (h : k < l.length) : (linkZ pos none l)[k]'(by rw [linkZ_len]; exact h) = varB ((upsL none l)[k]'(by rw [upsL_len]; exact h)).toNat ++ deltaB pos l[k].backs := by
  simp [linkZ]

set_option maxRecDepth 100000 in
set_option maxHeartbeats 3200000 in
theorem link_steps (w : World) (l : List Link) (al : Option Addr) (nl cl : Nat) (hl : rLinks.r (· < w.heap.size) w [.slice al nl cl] l) (hri : risesB (l.map Link.stream) = true) (hlen : l.length ≤ 1000000) :
    Calls Tryz.prog 151 #[.slice al nl cl] w fun r w' => ∃ v, r = .returned v ∧ rU64s.r (fun q => w.heap.size ≤ q ∧ q < w'.heap.size) w' [v] (upsL none l) ∧ Below w.heap.size w w' := by
  obtain ⟨rfl, hm, _, _⟩ := sl_len hl
  obtain ⟨i0, hi, hz0, hz1, hz2⟩ := info_parts infoU
  have HL := hid hl
  have hul := upsL_len none l
  have HU := hid (fun (k : Nat) (h : k < l.length) => upsL_get l none k h)
  have HRI := hid (fun (k : Nat) (h : k + 1 < l.length) => (by have := rises_at (l.map Link.stream) k (by simpa using h) hri; simpa using this : l[k].stream < l[k + 1].stream))
  clear hl hri
  go_enter Tryz.func151, Tryz.ntmps151
  go_wp2_with fail
  go_loopw [3, 9] (fun v i wr => ∃ k : Nat, k ≤ l.length ∧ i = .int .i64 k ∧ wr.ownsRow w.heap.size 22 1 v k (u64Cells ((upsL none l).take k)) ∧ Hid (∀ x ∈ (upsL none l).take k, 0 ≤ x ∧ x ≤ 18446744073709551615) ∧ Below w.heap.size w wr) (fun _ i _ => l.length - (intOf i).toNat)
  case atStart => exact ⟨0, Nat.zero_le _, rfl, ⟨rfl, .inl ⟨rfl, rfl⟩⟩, hid (by simp), Below.refl _ _⟩
  case round =>
    obtain ⟨k, hk, rfl, hown, hbd, hb⟩ := hrel
    obtain ⟨av, cv, rfl⟩ := own_form hown
    rcases Nat.lt_or_ge k l.length with hlt | hge
    · obtain ⟨b, o, hA, hbb, a2, c2, x0, x1, hx, xl⟩ := link_at (lift HL.out hb) hlt
      subst hA
      have hu := HU.out k hlt
      have i1 : (k : Int) < (l.length : Int) := by omega
      have d1 : decide ((k : Int) < (l.length : Int)) = true := decide_eq_true i1
      have hbl : b < wr.heap.size := World.block_lt_of_cell? _ _ x0
      have htk : u64Cells ((upsL none l).take (k + 1)) = u64Cells ((upsL none l).take k) ++ [.int .u64 ((upsL none l)[k]'(by omega))] := by
        rw [List.take_succ_eq_append_getElem (by omega)]; unfold u64Cells; rw [List.map_append]; rfl
      have hnb : ∀ y : Int, (upsL none l)[k]'(by omega) = y → (0 ≤ y ∧ y ≤ 18446744073709551615) → ∀ x ∈ (upsL none l).take (k + 1), 0 ≤ x ∧ x ≤ 18446744073709551615 := fun y e hy x hx => by
        rw [List.take_succ_eq_append_getElem (by omega), List.mem_append, List.mem_singleton] at hx
        rcases hx with hx | rfl
        · exact hbd.out x hx
        · rw [e]; exact hy
      have HTK := hid htk
      have HNB := hid hnb
      have HO := hid hown
      have hz := hb.size
      rcases Nat.eq_zero_or_pos k with rfl | hk0
      · rw [dif_pos rfl] at hu
        (try dsimp only at hu)
        rw [hu] at HTK
        have HBD := hid (HNB.out _ hu hx)
        simp only [Nat.zero_mul, Nat.add_zero, Nat.zero_add] at x0 x1
        have d2 : decide ((0 : Int) < ((0 : Nat) : Int)) = false := by decide
        generalize l[0] = y at *
        clear hu htk hnb hbd hown xl hx
        go_wp2_with (at_builtin; go_loud (refine wpList_append_src rfl _ _ _ rfl w.heap.size 22 i0 (.int .u64 0) 1 8 Tryz.underlying23 hi hz0 hz1 hz2 rfl (by decide) (.slice av 0 cv) 0 _ rfl (own_below HO.out (by (repeat (first | with_reducible exact Below.refl _ _ | with_reducible assumption | (with_reducible refine below_alloc ?_ _) | (with_reducible refine Below.setCell ?_ (by first | omega | (simp; done) | (simp; omega)) _) | (with_reducible refine Below.drew ?_) | (with_reducible refine below_drewN ?_ _) | (refine below_then (by with_reducible assumption) ?_))))) (some ⟨wr.heap.size + 1, 0, none⟩) 1 1 [.int .u64 y.stream] rfl (src_new1 _ 22 _ rfl (by simp) rfl) (by simp [Value.oneCell']) (by simp only [maxLen]; omega) (by omega) (by simp; omega) ?_; intro v' w3 hown3 hgrow3 hat3; obtain ⟨a3, c3, rfl⟩ := own_form hown3; have HO3 := hid hown3; have hb3 : Below w.heap.size wr w3 := (Below.grown ((by (repeat (first | with_reducible exact Below.refl _ _ | with_reducible assumption | (with_reducible refine below_alloc ?_ _) | (with_reducible refine Below.setCell ?_ (by first | omega | (simp; done) | (simp; omega)) _) | (with_reducible refine Below.drew ?_) | (with_reducible refine below_drewN ?_ _) | (refine below_then (by with_reducible assumption) ?_))) : Below wr.heap.size wr _).mono hz) hgrow3 (by simp; omega) (fun g e => (HO.out.lt g e).1)); clear hown3 hgrow3 hat3))
        have ho3 := HO3.out
        rw [← HTK.out] at ho3
        have HO4 := hid ho3
        clear ho3 x0 x1
        go_roundw
        case rel => exact ⟨1, by omega, by go_num, by simpa using HO4.out, HBD, hb.trans hb3⟩
        case measure => simp [intOf]; omega
      · obtain ⟨m, rfl⟩ : ∃ m, k = m + 1 := ⟨k - 1, by omega⟩
        obtain ⟨b', o', hA', hbb', a3, c3, y0, y1, hy, yl⟩ := link_at (lift HL.out hb) (show m < l.length by omega)
        simp only [Option.some.injEq, Addr.mk.injEq] at hA'
        obtain ⟨rfl, rfl, _⟩ := hA'
        have hri := HRI.out m hlt
        rw [dif_neg (by omega)] at hu
        simp only [Nat.add_sub_cancel] at hu
        rw [hu] at HTK
        have HBD := hid (HNB.out _ hu (by omega))
        have i1' : (m : Int) + 1 < (l.length : Int) := by omega
        have i2 : (m : Int) < (l.length : Int) := by omega
        have d2 : decide ((m : Int) + 1 < (l.length : Int)) = true := decide_eq_true i1'
        have d3 : decide (m + 1 < l.length) = true := decide_eq_true hlt
        generalize l[m + 1] = y at *
        generalize l[m]'(by omega) = z at *
        have w1 : 0 ≤ y.stream - (z.stream + 1) := by omega
        have w2 : z.stream + 1 ≤ 18446744073709551615 := by omega
        rw [show y.stream - z.stream - 1 = y.stream - (z.stream + 1) by omega] at HTK
        clear hu htk hnb hbd hown xl yl
        go_wp2_with (at_builtin; go_loud (refine wpList_append_src rfl _ _ _ rfl w.heap.size 22 i0 (.int .u64 0) 1 8 Tryz.underlying23 hi hz0 hz1 hz2 rfl (by decide) (.slice av (m + 1) cv) (m + 1) _ rfl (own_below HO.out (by (repeat (first | with_reducible exact Below.refl _ _ | with_reducible assumption | (with_reducible refine below_alloc ?_ _) | (with_reducible refine Below.setCell ?_ (by first | omega | (simp; done) | (simp; omega)) _) | (with_reducible refine Below.drew ?_) | (with_reducible refine below_drewN ?_ _) | (refine below_then (by with_reducible assumption) ?_))))) (some ⟨wr.heap.size + 1, 0, none⟩) 1 1 [.int .u64 (y.stream - (z.stream + 1))] rfl (src_new1 _ 22 _ rfl (by simp) rfl) (by simp [Value.oneCell']) (by simp only [maxLen]; omega) (by omega) (by simp; omega) ?_; intro v' w3 hown3 hgrow3 hat3; obtain ⟨a3, c3, rfl⟩ := own_form hown3; have HO3 := hid hown3; have hb3 : Below w.heap.size wr w3 := (Below.grown ((by (repeat (first | with_reducible exact Below.refl _ _ | with_reducible assumption | (with_reducible refine below_alloc ?_ _) | (with_reducible refine Below.setCell ?_ (by first | omega | (simp; done) | (simp; omega)) _) | (with_reducible refine Below.drew ?_) | (with_reducible refine below_drewN ?_ _) | (refine below_then (by with_reducible assumption) ?_))) : Below wr.heap.size wr _).mono hz) hgrow3 (by simp; omega) (fun g e => (HO.out.lt g e).1)); clear hown3 hgrow3 hat3))
        have ho3 := HO3.out
        rw [← HTK.out] at ho3
        have HO4 := hid ho3
        clear ho3 x0 x1 y0 y1
        go_roundw
        case rel => exact ⟨m + 1 + 1, by omega, by go_num, HO4.out, HBD, hb.trans hb3⟩
        case measure => simp [intOf]; omega
    · obtain rfl : k = l.length := by omega
      have d1 : decide ((l.length : Int) < (l.length : Int)) = false := decide_eq_false (by omega)
      have hv := hown
      rw [List.take_of_length_le (by omega)] at hv hbd
      have HV := hid (own_ints64 hbd.out (by omega) hv)
      clear hv hown
      go_wp2
      go_ret
      exact ⟨_, rfl, HV.out, hb⟩
end Go.Proofs.YtlbffbkbkajciaaGreat
namespace Go.Proofs.YtlbffbkbkajciaaGreat
open Go.RowKit Go.Bs Go.Maps
set_option linter.unusedVariables false
set_option linter.unusedSimpArgs false

theorem upsL_bounds (l : List Link) (hri : risesB (l.map Link.stream) = true) (hx : ∀ x ∈ l, 0 ≤ x.stream ∧ x.stream ≤ 18446744073709551615) : ∀ k, (h : k < l.length) → 0 ≤ (upsL none l)[k]'(by rw [upsL_len]; exact h) ∧ (upsL none l)[k]'(by rw [upsL_len]; exact h) ≤ 18446744073709551615 := by
  intro k h
  rw [upsL_get l none k h]
  have hk := hx l[k] (List.getElem_mem h)
  split
  · exact hk
  · rename_i h0
    have h1 := hx (l[k - 1]'(by omega)) (List.getElem_mem _)
    have h2 := rises_at (l.map Link.stream) (k - 1) (by simp; omega) hri
    simp only [List.getElem_map, Nat.sub_add_cancel (show 1 ≤ k by omega)] at h2
    omega
theorem links_bounds {S : Nat → Prop} {w : World} {a : Option Addr} {n c : Nat} {l : List Link} (h : rLinks.r S w [.slice a n c] l) : ∀ x ∈ l, linkN x := by
  intro x hx
  obtain ⟨i, hi, rfl⟩ := List.getElem_of_mem hx
  obtain ⟨b, o, _, _, a2, c2, _, _, hs, xl⟩ := link_at h hi
  exact ⟨hs, fun y hy => (u64s_bounds xl y hy).1⟩
theorem linkZ_len_le (pos : Int) (l : List Link) (hR : linksR pos l = true) : (lnkF pos none l).length ≤ 51 * l.length := by
  have key : ∀ (l : List Link) (p : Option Int), (∀ x ∈ l, linkR pos x = true) → (lnkF pos p l).length ≤ 51 * l.length := by
    intro l
    induction l with
    | nil => intro p _; simp [lnkF]
    | cons x l ih =>
      intro p hx
      have h1 := hx x (by simp)
      simp only [linkR, Bool.and_eq_true, decide_eq_true_eq] at h1
      have h2 := ih (some x.stream) (fun y hy => hx y (by simp [hy]))
      have h3 := deltaB_len pos x.backs (by omega)
      cases p with
      | none =>
        have h4 := (varB_len x.stream.toNat).1
        simp only [lnkF, List.length_append, List.length_cons]
        omega
      | some q =>
        have h4 := (varB_len (x.stream - q - 1).toNat).1
        simp only [lnkF, List.length_append, List.length_cons]
        omega
  simp only [linksR, Bool.and_eq_true, decide_eq_true_eq, List.all_eq_true] at hR
  exact key l none hR.2.2

set_option maxRecDepth 100000 in
set_option maxHeartbeats 3200000 in
theorem link_put (w : World) {g base most : Nat} {J : List UInt8} {a : Option Addr} {c : Nat} (h : PenAt w g base most J a c) (pos : Int) (hpos : 0 ≤ pos ∧ pos ≤ 18446744073709551615) (l : List Link) (al : Option Addr) (nl cl : Nat)
    (hl : rLinks.r (fun q => q < w.heap.size ∧ ¬ PenF g a q) w [.slice al nl cl] l) (hR : linksR pos l = true) (hbk : ∀ x ∈ l, x.backs.length ≤ 1000000) (hfit : J.length + (linksB pos l).length ≤ most) (hln2 : J.length + (linksB pos l).length ≤ 100000000000000) :
    Calls Tryz.prog 72 #[.pointer (some ⟨g, 0, none⟩), .int .u64 pos, .slice al nl cl] w fun r w' => r = .returned (.tuple #[]) ∧ PenStep w g base most (J ++ linksB pos l) a w' := by
  obtain ⟨rfl, hm, _, _⟩ := sl_len hl
  have hN := links_bounds hl
  have HRT := hid (link_right pos l al _ cl w hpos (pen_low hl) (fun x hx => by have := hbk x hx; omega))
  have hR' := hR
  simp only [linksR, Bool.and_eq_true, decide_eq_true_eq, List.all_eq_true] at hR'
  rw [hR] at HRT
  have hlk : ∀ x ∈ l, fallsB pos x.backs = true := fun x hx => by have := hR'.2.2 x hx; simp only [linkR, Bool.and_eq_true] at this; exact this.2
  have HLK := hid hlk
  have HBK := hid hbk
  have hup := hid (upsL_bounds l hR'.2.1 (fun x hx => (hN x hx).1))
  have hul := upsL_len none l
  have hzl := linkZ_len pos none l
  have HSP := hid (fun (W : World) (hW : rLinks.r (· < W.heap.size) W [.slice al l.length cl] l) => link_steps W l al _ cl hW hR'.2.1 (by omega))
  have hdl : (linksB pos l).length = (varB l.length).length + ((linkZ pos none l).flatten).length := by unfold linksB; rw [List.length_append, linksF_zip]
  rw [hdl] at hfit hln2
  unfold linksB
  rw [linksF_zip]
  have HP := hid h
  have HL := hid hl
  have hvl := varB_len l.length
  have HV := hid (fun (W : World) (hW : Below w.heap.size w W) => varint_put W (h.later hW) l.length (by omega) (by omega) (by omega))
  have HMO := hid (fun k => flat_take_le (linkZ pos none l) k)
  have HNS := hid (fun (k : Nat) (h : k < l.length) => (by have := flat_step (linkZ pos none l) k (by omega); rw [linkZ_get pos l k h] at this; exact this : ((linkZ pos none l).take (k + 1)).flatten = ((linkZ pos none l).take k).flatten ++ (varB ((upsL none l)[k]'(by rw [upsL_len]; exact h)).toNat ++ deltaB pos l[k].backs)))
  generalize linkZ pos none l = Z at *
  have hll : l.length ≤ 16 := hR'.1
  clear h hl hR hR' hlk hbk hN hdl
  go_enter Tryz.func72, Tryz.ntmps72
  go_wp2_with fail
  refine HRT.out.mono ?_
  rintro r w1 ⟨rfl, hb1⟩
  go_wp2_with fail
  refine (HV.out _ hb1).mono ?_
  rintro r w2 ⟨rfl, a2, c2, hp2, ht2, ha2⟩
  have hd2 := pen_data ht2 ha2 (pen_later hb1 HL.out)
  have HP2 := hid hp2
  have HD2 := hid hd2
  have HT2 := hid (And.intro ht2 ha2)
  clear hp2 hd2 ht2 ha2
  go_wp2_with fail
  refine (HSP.out w2 (pen_low HD2.out)).mono ?_
  rintro r w3 ⟨v3, rfl, hr3, hb3⟩
  obtain ⟨a3, c3, hv3, hr3', _⟩ := sl_form hr3
  simp only [List.cons.injEq, and_true] at hv3
  subst hv3
  have HR3 := hid (pen_new_data HP2.out hr3')
  have HD3 := hid (pen_later hb3 HD2.out)
  have HP3 := hid (HP2.out.later hb3)
  rw [hul] at HR3 ⊢
  clear hr3 hr3'
  go_wp2_with fail
  go_loopw [22] (fun i wr => ∃ k : Nat, k ≤ l.length ∧ i = .int .i64 k ∧ Hid (PenStep w3 g base most (J ++ varB l.length ++ (Z.take k).flatten) a2 wr)) (fun i _ => l.length - (intOf i).toNat)
  case atStart => exact ⟨0, Nat.zero_le _, rfl, hid (by simpa using PenStep.refl HP3.out)⟩
  case round =>
    obtain ⟨k, hk, rfl, hp⟩ := hrel
    obtain ⟨a4, c4, hp4, ht4, ha4⟩ := hp.out
    rcases Nat.lt_or_ge k l.length with hlt | hge
    · have hr4 := pen_data ht4 ha4 HR3.out
      have hd4 := pen_data ht4 ha4 HD3.out
      obtain ⟨b, o, hA, hbb, hc, hx0, hx1⟩ := u64_at hr4 (show k < (upsL none l).length by omega)
      obtain ⟨b', o', hA', hbb', a5, c5, y0, y1, hs, yl⟩ := link_at hd4 hlt
      subst hA hA'
      have hst := HNS.out k hlt
      have hfk := HMO.out (k + 1)
      rw [hst, List.length_append, List.length_append] at hfk
      have hvk := (varB_len ((upsL none l)[k]'(by omega)).toNat).1
      have hJ4 := hp4.len
      simp only [List.length_append] at hJ4
      have hV := varint_put wr hp4 ((upsL none l)[k]'(by omega)).toNat (by omega) (by simp only [List.length_append]; omega) (by simp only [List.length_append]; omega)
      rw [toNat_cast hx0] at hV
      have HV4 := hid hV
      have HT4 := hid (And.intro ht4 ha4)
      have HYL := hid yl
      have HST := hid hst
      have HFK := hid hfk
      have hfl := HLK.out l[k] (List.getElem_mem hlt)
      have hbl := HBK.out l[k] (List.getElem_mem hlt)
      have HFL := hid hfl
      have HDY := hid (And.intro hbb' y1)
      have i1 : (k : Int) < (l.length : Int) := by omega
      have d1 : decide ((k : Int) < (l.length : Int)) = true := decide_eq_true i1
      clear hV hr4 hd4 hst hp4 ht4 ha4 hp hfk hvk hJ4 hfl y0 yl y1 hbb'
      generalize (upsL none l)[k]'(by omega) = u at *
      generalize l[k] = y at *
      go_wp2_with fail
      refine HV4.out.mono ?_
      rintro r w5 ⟨rfl, a6, c6, hp5, ht5, ha5⟩
      have Y1 : w5.cell? ⟨b', o' + k * 2 + 1, none⟩ = some (.slice a5 y.backs.length c5) := (ht5.cell (p := ⟨b', o' + k * 2 + 1, none⟩) HDY.out.1.1 HDY.out.1.2).trans HDY.out.2
      have hy5 := pen_low (pen_data ht5 ha5 HYL.out)
      have HD5 := hid (delta_put w5 hp5 pos hpos y.backs a5 _ c5 hy5 HFL.out hbl (by have := HFK.out; simp only [List.length_append]; omega) (by have := HFK.out; simp only [List.length_append]; omega))
      have HT5 := hid (And.intro ht5 ha5)
      clear hy5 hp5 ht5 ha5 hc
      go_wp2_with fail
      refine HD5.out.mono ?_
      rintro r w6 ⟨rfl, hst6⟩
      have hn := PenStep.trans (J := J) HT4.out.1 HT4.out.2 (PenStep.trans (J := J) HT5.out.1 HT5.out.2 hst6)
      rw [List.append_assoc, List.append_assoc (J ++ varB l.length), ← HST.out] at hn
      have HN := hid hn
      clear hst6 hn Y1
      go_wp2
      go_roundw
      case rel => exact ⟨k + 1, by omega, by go_num, HN⟩
      case measure => simp [intOf]; omega
    · obtain rfl : k = l.length := by omega
      have d1 : decide ((l.length : Int) < (l.length : Int)) = false := decide_eq_false (by omega)
      rw [List.take_of_length_le (by omega)] at hp
      have hn := PenStep.later hb1 (PenStep.trans (J := J) HT2.out.1 HT2.out.2 (PenStep.later hb3 hp.out))
      rw [List.append_assoc] at hn
      have HN := hid hn
      clear hp hp4 ht4 ha4 hn
      go_wp2
      first | go_end0 | refine bodyPost_ret (results_none rfl _ _ _) rfl ?_
      exact ⟨rfl, HN.out⟩
end Go.Proofs.YtlbffbkbkajciaaGreat
namespace Go.Proofs.YtlbffbkbkajciaaGreat
open Go.RowKit Go.Bs Go.Maps
set_option linter.unusedVariables false
set_option linter.unusedSimpArgs false

theorem epoch_put0 (w : World) {g base most : Nat} {J : List UInt8} {a : Option Addr} {c : Nat} (h : PenAt w g base most J a c) (x : Nat) (hx : x < 18446744073709551616) (hfit : J.length + (varB x).length ≤ most) (hlen : J.length + (varB x).length ≤ 100000000000000) :
    Calls Tryz.prog 146 #[.pointer (some ⟨g, 0, none⟩), .int .u64 x, .bool true] w fun r w' => r = .returned (.tuple #[]) ∧ PenStep w g base most (J ++ varB x) a w' := by
  have HV := hid (varint_put w h x hx hfit hlen)
  clear h
  go_enter Tryz.func146, Tryz.ntmps146
  go_wp2_with fail
  refine HV.out.mono ?_
  rintro r w1 ⟨rfl, hst⟩
  have HST := hid hst
  clear hst
  go_wp2
  first | go_end0 | refine bodyPost_ret (results_none rfl _ _ _) rfl ?_
  exact ⟨rfl, HST.out⟩
theorem epoch_put (w : World) {g base most : Nat} {J : List UInt8} {a : Option Addr} {c : Nat} (h : PenAt w g base most J a c) (x : Nat) (hx : epR (x : Int) = true) (hfit : J.length + (varB x).length ≤ most) (hlen : J.length + (varB x).length ≤ 100000000000000) :
    Calls Tryz.prog 111 #[.pointer (some ⟨g, 0, none⟩), .int .u64 x] w fun r w' => r = .returned (.tuple #[]) ∧ PenStep w g base most (J ++ varB x) a w' := by
  have hx' := hx
  simp only [epR, decide_eq_true_eq] at hx'
  have HR := hid (epoch_right (x : Int) w)
  rw [hx] at HR
  have HV := hid (epoch_put0 w h x (by omega) hfit hlen)
  clear h hx hx'
  go_enter Tryz.func111, Tryz.ntmps111
  go_wp2_with fail
  refine HR.out.mono ?_
  rintro r w1 ⟨rfl, rfl⟩
  go_wp2_with fail
  refine HV.out.mono ?_
  rintro r w1 ⟨rfl, hst⟩
  have HST := hid hst
  clear hst
  go_wp2
  first | go_end0 | refine bodyPost_ret (results_none rfl _ _ _) rfl ?_
  exact ⟨rfl, HST.out⟩
theorem epoch_putpos (w : World) {g base most : Nat} {J : List UInt8} {a : Option Addr} {c : Nat} (h : PenAt w g base most J a c) (x : Nat) (hx : poR (x : Int) = true) (hfit : J.length + (varB x).length ≤ most) (hlen : J.length + (varB x).length ≤ 100000000000000) :
    Calls Tryz.prog 64 #[.pointer (some ⟨g, 0, none⟩), .int .u64 x] w fun r w' => r = .returned (.tuple #[]) ∧ PenStep w g base most (J ++ varB x) a w' := by
  have hx' := hx
  simp only [poR, decide_eq_true_eq] at hx'
  have HR := hid (epoch_pos (x : Int) w)
  rw [hx] at HR
  have HV := hid (epoch_put0 w h x (by omega) hfit hlen)
  clear h hx hx'
  go_enter Tryz.func64, Tryz.ntmps64
  go_wp2_with fail
  refine HR.out.mono ?_
  rintro r w1 ⟨rfl, rfl⟩
  go_wp2_with fail
  refine HV.out.mono ?_
  rintro r w1 ⟨rfl, hst⟩
  have HST := hid hst
  clear hst
  go_wp2
  first | go_end0 | refine bodyPost_ret (results_none rfl _ _ _) rfl ?_
  exact ⟨rfl, HST.out⟩
end Go.Proofs.YtlbffbkbkajciaaGreat
namespace Go.Proofs.YtlbffbkbkajciaaGreat
open Go.RowKit Go.Bs Go.Maps
set_option linter.unusedVariables false
set_option linter.unusedSimpArgs false

theorem blockB_len (p : List UInt8) : (blockB p).length ≤ (varB p.length).length + p.length + 1 := by
  unfold blockB
  by_cases h : packR p = true
  · have h2 := h
    unfold packR at h2
    have h3 := of_decide_eq_true h2
    rw [if_pos h]
    simp; omega
  · rw [if_neg h]
    simp; omega

end Go.Proofs.YtlbffbkbkajciaaGreat
namespace Go.Proofs.YtlbffbkbkajciaaGreat
open Go.RowKit Go.Bs Go.Maps
set_option linter.unusedVariables false
set_option linter.unusedSimpArgs false

/-- By how much each number is above the one ahead. -/
def upsN : Option Int → List Int → List Int
  | _, [] => []
  | p, x :: l => (match p with | none => x | some q => x - q - 1) :: upsN (some x) l
def upsB (l : List Int) : List UInt8 := numsB (upsN none l)
def setB (l : List Int) : List UInt8 := varB l.length ++ upsB l
def setsB (l : List (List Int)) : List UInt8 := (l.map setB).flatten
def stripeB (s : Stripe) : List UInt8 := varB (s.hi - s.lo - 1).toNat ++ varB s.sets.length ++ setsB s.sets
def stripesB (l : List Stripe) : List UInt8 := (l.map stripeB).flatten
def projB (p : Projn) : List UInt8 := varB p.epoch.toNat ++ varB p.stripes.length ++ stripesB p.stripes
def sealB (s : Seal) : List UInt8 := varB s.epoch.toNat ++ varB s.node.toNat ++ varB s.tail.toNat
def partB (h : Bool) (b : List UInt8) : List UInt8 := if h then b else []
def msgB (m : Msg) : List UInt8 :=
  partB (hasK m.kind 1) (varB m.pos.toNat) ++ partB (hasK m.kind 2) (varB m.count.toNat) ++ partB (hasK m.kind 4) [UInt8.ofNat m.state.toNat] ++
  partB (hasK m.kind 8) (setB m.streams) ++ partB (hasK m.kind 16) (linksB m.pos m.links) ++ partB (blockK m.kind m.state) (blockB m.data) ++
  partB (hasK m.kind 64) (sealB m.sea) ++ partB (hasK m.kind 128) (projB m.proj)

theorem upsN_len : ∀ (p : Option Int) (l : List Int), (upsN p l).length = l.length
  | _, [] => rfl
  | p, x :: l => by simp only [upsN, List.length_cons, upsN_len _ l]
theorem upsN_get : ∀ (l : List Int) (p : Option Int) (k : Nat) (h : k < l.length), (upsN p l)[k]'(by rw [upsN_len]; exact h) = if hk : k = 0 then (match p with | none => l[k] | some q => l[k] - q - 1) else l[k] - l[k - 1] - 1
  | [], p, k, h => by simp at h
  | x :: l, p, 0, h => by cases p <;> simp [upsN]
  | x :: l, p, k + 1, h => by
    have hk : k < l.length := by simp at h; omega
    have := upsN_get l (some x) k hk
    rw [dif_neg (by omega)]
    simp only [upsN, List.getElem_cons_succ, Nat.add_sub_cancel]
    rw [this]
    by_cases h0 : k = 0
    · subst h0; simp
    · rw [dif_neg h0]
      obtain ⟨j, rfl⟩ : ∃ j, k = j + 1 := ⟨k - 1, by omega⟩
      simp
theorem upsB_len (l : List Int) : (upsB l).length ≤ 10 * l.length := by
  have := numsB_len (upsN none l)
  rw [upsN_len] at this
  exact this
theorem setB_len (l : List Int) : (setB l).length ≤ 10 + 10 * l.length := by
  unfold setB
  have := upsB_len l
  have := (varB_len l.length).1
  rw [List.length_append]; omega
theorem setsB_step (l : List (List Int)) (k : Nat) (h : k < l.length) : setsB (l.take (k + 1)) = setsB (l.take k) ++ setB l[k] := by
  unfold setsB
  rw [List.take_succ_eq_append_getElem h, List.map_append, List.flatten_append]; simp only [List.map_cons, List.map_nil, List.flatten_cons, List.flatten_nil, List.append_nil]
theorem stripesB_step (l : List Stripe) (k : Nat) (h : k < l.length) : stripesB (l.take (k + 1)) = stripesB (l.take k) ++ stripeB l[k] := by
  unfold stripesB
  rw [List.take_succ_eq_append_getElem h, List.map_append, List.flatten_append]; simp only [List.map_cons, List.map_nil, List.flatten_cons, List.flatten_nil, List.append_nil]
theorem flatm_take_le {α : Type} (f : α → List UInt8) (l : List α) (k : Nat) : ((l.take k).map f).flatten.length ≤ (l.map f).flatten.length := by
  have : (l.map f).flatten = ((l.take k).map f).flatten ++ ((l.drop k).map f).flatten := by rw [← List.flatten_append, ← List.map_append, List.take_append_drop]
  rw [this, List.length_append]; omega
theorem flatm_len {α : Type} (f : α → List UInt8) (l : List α) (b : Nat) (h : ∀ x ∈ l, (f x).length ≤ b) : (l.map f).flatten.length ≤ b * l.length := by
  induction l with
  | nil => simp
  | cons x l ih =>
    have h1 := h x (by simp)
    have h2 := ih fun y hy => h y (by simp [hy])
    simp only [List.map_cons, List.flatten_cons, List.length_append, List.length_cons, Nat.mul_add, Nat.mul_one]
    omega
theorem setsR_at (L : List (List Int)) : ∀ n i, setsR L n = true → i < n → setR L i = true
  | 0, i, _, h => by omega
  | n + 1, i, h, hi => by
    simp only [setsR, Bool.and_eq_true] at h
    by_cases hn : i = n
    · rw [hn]; exact h.2
    · exact setsR_at L n i h.1 (by omega)
theorem getD_at {α : Type} (l : List α) (i : Nat) (d : α) (h : i < l.length) : l.getD i d = l[i] := by
  rw [List.getD_eq_getElem?_getD, List.getElem?_eq_getElem h]; rfl
theorem set_nodes {L : List (List Int)} (h : setsR L L.length = true) (i : Nat) (hi : i < L.length) : nodesR L[i] = true := by
  have := setsR_at L _ i h hi
  simp only [setR, Bool.and_eq_true, getD_at L i [] hi] at this
  exact this.1
theorem stripe_len {s : Stripe} (h : stripeR s = true) : (stripeB s).length ≤ 740 := by
  simp only [stripeR, Bool.and_eq_true, decide_eq_true_eq] at h
  have h1 := (varB_len (s.hi - s.lo - 1).toNat).1
  have h2 := (varB_len s.sets.length).1
  have h3 := flatm_len setB s.sets 90 fun x hx => by
    obtain ⟨i, hi, rfl⟩ := List.getElem_of_mem hx
    have := set_nodes h.2 i hi
    simp only [nodesR, Bool.and_eq_true, decide_eq_true_eq] at this
    have := setB_len s.sets[i]
    omega
  unfold stripeB setsB
  simp only [List.length_append]
  omega
theorem chain_all : ∀ (l : List Stripe) (p : Int), chainP p l = true → ∀ s ∈ l, stripeR s = true
  | [], p, _, s, hs => by simp at hs
  | x :: l, p, h, s, hs => by
    simp only [chainP, Bool.and_eq_true] at h
    rcases List.mem_cons.1 hs with rfl | hs
    · exact h.2.1
    · exact chain_all l _ h.2.2 s hs
theorem proj_len {p : Projn} (h : projR p = true) : (projB p).length ≤ 47380 := by
  simp only [projR, Bool.and_eq_true, decide_eq_true_eq] at h
  have h1 := (varB_len p.epoch.toNat).1
  have h2 := (varB_len p.stripes.length).1
  have h3 := flatm_len stripeB p.stripes 740 fun x hx => stripe_len (chain_all _ _ h.2.2 x hx)
  unfold projB stripesB
  simp only [List.length_append]
  omega
theorem seal_len (s : Seal) : (sealB s).length ≤ 30 := by
  have h1 := (varB_len s.epoch.toNat).1
  have h2 := (varB_len s.node.toNat).1
  have h3 := (varB_len s.tail.toNat).1
  unfold sealB
  simp only [List.length_append]
  omega
theorem partB_le (h : Bool) (b : List UInt8) (n : Nat) (hb : h = true → b.length ≤ n) : (partB h b).length ≤ n := by
  cases h
  · exact Nat.zero_le _
  · exact hb rfl
theorem linksB_len' (pos : Int) (l : List Link) (hR : linksR pos l = true) : (linksB pos l).length ≤ 830 := by
  have h1 := linkZ_len_le pos l hR
  simp only [linksR, Bool.and_eq_true, decide_eq_true_eq] at hR
  have h2 := (varB_len l.length).1
  unfold linksB
  rw [List.length_append]; omega
theorem withinR_has {h r z : Bool} (hw : withinR h r z = true) (hh : h = true) : r = true := by subst hh; exact hw
structure MsgR (m : Msg) : Prop where
  kind : 1 ≤ m.kind ∧ m.kind ≤ 14
  pos : hasK m.kind 1 = true → poR m.pos = true
  count : hasK m.kind 2 = true → 1 ≤ m.count ∧ m.count ≤ 65536
  state : hasK m.kind 4 = true → 1 ≤ m.state ∧ m.state ≤ mostK m.kind
  streams : hasK m.kind 8 = true → m.streams.length ≤ 16 ∧ risesB m.streams = true
  links : hasK m.kind 16 = true → linksR m.pos m.links = true
  seal_ : hasK m.kind 64 = true → sealR m.sea = true
  proj : hasK m.kind 128 = true → projR m.proj = true
  data : m.data.length ≤ 1048576
theorem msgR_parts {m : Msg} (h : msgR m = true) : MsgR m := by
  simp only [msgR, Bool.and_eq_true, decide_eq_true_eq] at h
  obtain ⟨h1, h2, h3, h4, h5, h6, h7, h8, h9⟩ := h
  refine ⟨h1, fun e => withinR_has h2 e, fun e => of_decide_eq_true (withinR_has h3 e), fun e => of_decide_eq_true (withinR_has h4 e), fun e => ?_, fun e => withinR_has h6 e, fun e => withinR_has h7 e, fun e => withinR_has h8 e, ?_⟩
  · have := withinR_has h5 e
    simp only [Bool.and_eq_true, decide_eq_true_eq] at this
    exact this
  · simp only [Bool.or_eq_true, Bool.and_eq_true, decide_eq_true_eq] at h9
    omega
theorem msgB_len {m : Msg} (h : msgR m = true) : (msgB m).length ≤ 49000 + m.data.length := by
  have H := msgR_parts h
  have h1 := partB_le (hasK m.kind 1) (varB m.pos.toNat) 10 fun _ => (varB_len _).1
  have h2 := partB_le (hasK m.kind 2) (varB m.count.toNat) 10 fun _ => (varB_len _).1
  have h3 := partB_le (hasK m.kind 4) [UInt8.ofNat m.state.toNat] 1 fun _ => by simp
  have h4 := partB_le (hasK m.kind 8) (setB m.streams) 170 fun e => by have := setB_len m.streams; have := (H.streams e).1; omega
  have h5 := partB_le (hasK m.kind 16) (linksB m.pos m.links) 830 fun e => linksB_len' _ _ (H.links e)
  have h6 := partB_le (blockK m.kind m.state) (blockB m.data) (11 + m.data.length) fun e => by have := blockB_len m.data; have := (varB_len m.data.length).1; omega
  have h7 := partB_le (hasK m.kind 64) (sealB m.sea) 30 fun e => seal_len _
  have h8 := partB_le (hasK m.kind 128) (projB m.proj) 47380 fun e => proj_len (H.proj e)
  unfold msgB
  simp only [List.length_append]
  omega
end Go.Proofs.YtlbffbkbkajciaaGreat
namespace Go.Proofs.YtlbffbkbkajciaaGreat
open Go.RowKit Go.Bs Go.Maps
set_option linter.unusedVariables false
set_option linter.unusedSimpArgs false

theorem b_blk {w : World} {g : Nat} {t : TypeId} {v0 v1 v2 : Value} (h : Blk w g t #[v0, v1, v2]) : w.cell? ⟨g, 0, none⟩ = some v0 ∧ w.cell? ⟨g, 1, none⟩ = some v1 ∧ w.cell? ⟨g, 2, none⟩ = some v2 ∧ w.frozen? ⟨g, 0, none⟩ = false ∧ w.frozen? ⟨g, 1, none⟩ = false ∧ w.frozen? ⟨g, 2, none⟩ = false ∧ g < w.heap.size :=
  ⟨h.cell 0, h.cell 1, h.cell 2, h.free 0, h.free 1, h.free 2, h.lt⟩
theorem empty_bytes2 {S : Nat → Prop} {w : World} {a : Option Addr} {m c : Nat} {l : List UInt8} (hl : l = []) (hm : m = 0) (hc : c ≤ 9223372036854775807) : rBytes.r S w [.slice a m c] l := by
  subst hl hm
  exact rSl_mk (xs := []) rfl (Nat.zero_le _) hc (.inl rfl)
theorem pen_fail (w : World) {g base most : Nat} {J : List UInt8} {a : Option Addr} {c : Nat} (h : PenAt w g base most J a c) (k : Int) :
    Calls Tryz.prog 60 #[.pointer (some ⟨g, 0, none⟩), .int .i64 k] w fun r w' => r = .returned (.tuple #[]) ∧ Blk w' g 87 #[.int .i64 most, .slice a J.length c, .int .i64 k] ∧ Tch (· = g) w w' := by
  have HC := hid (pen_code w h)
  have HB := hid h.blk
  have c2 : w.cell? ⟨g, 2, none⟩ = some (.int .i64 0) := h.blk.cell 2
  have f2 := h.blk.free 2
  have hgl := h.blk.lt
  clear h
  go_enter Tryz.func60, Tryz.ntmps60
  go_wp2_with fail
  refine HC.out.mono ?_
  rintro r w1 ⟨rfl, rfl⟩
  go_wp2
  first | go_end0 | refine bodyPost_ret (results_none rfl _ _ _) rfl ?_
  exact ⟨rfl, HB.out.set 2 _, Tch.setCell (F := (· = g)) (p := ⟨g, 2, none⟩) (Tch.refl _ _) (fun _ => rfl) _⟩
theorem pen_bytes_bad (w : World) {g : Nat} {v0 v1 : Value} {k : Int} (hk : k ≠ 0) (h : Blk w g 87 #[v0, v1, .int .i64 k]) :
    Calls Tryz.prog 17 #[.pointer (some ⟨g, 0, none⟩)] w fun r w' => r = .returned (.tuple #[.slice none 0 0, .int .i64 k]) ∧ w = w' := by
  have HC : Hid (Calls Tryz.prog 79 #[.pointer (some ⟨g, 0, none⟩)] w fun r w' => r = .returned (.int .i64 k) ∧ w = w') := hid (by
    have c2 : w.cell? ⟨g, 2, none⟩ = some (.int .i64 k) := h.cell 2
    clear h
    go_enter Tryz.func79, Tryz.ntmps79
    go_wp2
    go_ret
    exact ⟨rfl, rfl⟩)
  have d1 : (k == (0 : Int)) = false := by simp [hk]
  have d2 : (k != (0 : Int)) = true := by simp [hk]
  clear h hk
  go_enter Tryz.func17, Tryz.ntmps17
  go_wp2_with fail
  refine HC.out.mono ?_
  rintro r w1 ⟨rfl, rfl⟩
  go_wp2
  go_ret2
  exact ⟨rfl, rfl⟩

end Go.Proofs.YtlbffbkbkajciaaGreat
namespace Go.Proofs.YtlbffbkbkajciaaGreat
open Go.RowKit Go.Bs Go.Maps
set_option linter.unusedVariables false
set_option linter.unusedSimpArgs false

theorem stepsL_get : ∀ (l : List Int) (p : Int) (k : Nat) (h : k < l.length), (stepsL p l)[k]'(by rw [stepsL_len]; exact h) = ahead p l k - l[k] - 1
  | [], p, k, h => by simp at h
  | x :: l, p, 0, h => by simp [stepsL, ahead]
  | x :: l, p, k + 1, h => by
    simp only [stepsL, List.getElem_cons_succ]
    rw [stepsL_get l x k (by simpa using h)]
    congr 2
    unfold ahead
    cases k with
    | zero => simp
    | succ k => simp
theorem falls_at : ∀ (l : List Int) (p : Int) (k : Nat) (h : k < l.length), fallsB p l = true → l[k] < ahead p l k
  | [], p, k, h, _ => by simp at h
  | x :: l, p, 0, h, hf => by simp only [fallsB, Bool.and_eq_true, decide_eq_true_eq] at hf; simpa [ahead] using hf.1
  | x :: l, p, k + 1, h, hf => by
    simp only [fallsB, Bool.and_eq_true, decide_eq_true_eq] at hf
    have := falls_at l x k (by simpa using h) hf.2
    rw [List.getElem_cons_succ]
    unfold ahead at this ⊢
    cases k with
    | zero => simpa using this
    | succ k => simpa using this

set_option maxRecDepth 100000 in
set_option maxHeartbeats 3200000 in
theorem ref22_steps (w : World) (pos : Int) (hpos : 0 ≤ pos ∧ pos ≤ 18446744073709551615) (l : List Int) (al : Option Addr) (nl cl : Nat) (hl : rU64s.r (· < w.heap.size) w [.slice al nl cl] l) (hf : fallsB pos l = true) (hlen : l.length ≤ 1000000) :
    Calls Tryz.prog 224 #[.int .u64 pos, .slice al nl cl] w fun r w' => ∃ v, r = .returned v ∧ rU64s.r (fun q => w.heap.size ≤ q ∧ q < w'.heap.size) w' [v] (stepsL pos l) ∧ Below w.heap.size w w' := by
  obtain ⟨rfl, hm, _, _⟩ := sl_len hl
  obtain ⟨i0, hi, hz0, hz1, hz2⟩ := info_parts infoU
  have HL := hid hl
  have hxs := u64s_bounds hl
  have hul := stepsL_len pos l
  have HU := hid (fun (k : Nat) (h : k < l.length) => stepsL_get l pos k h)
  have HF := hid (fun (k : Nat) (h : k < l.length) => falls_at l pos k h hf)
  have HXB := hid (fun (k : Nat) (h : k < l.length) => hxs l[k] (List.getElem_mem h))
  clear hl hf hxs
  go_enter Tryz.func224, Tryz.ntmps224
  go_wp2_with fail
  go_loopw [5, 6] (fun v i wr => ∃ k : Nat, k ≤ l.length ∧ i = .int .i64 k ∧ wr.ownsRow w.heap.size 22 1 v k (u64Cells ((stepsL pos l).take k)) ∧ Hid (∀ x ∈ (stepsL pos l).take k, 0 ≤ x ∧ x ≤ 18446744073709551615) ∧ Below w.heap.size w wr) (fun _ i _ => l.length - (intOf i).toNat)
  case atStart => exact ⟨0, Nat.zero_le _, rfl, ⟨rfl, .inl ⟨rfl, rfl⟩⟩, hid (by simp), Below.refl _ _⟩
  case round =>
    obtain ⟨k, hk, rfl, hown, hbd, hb⟩ := hrel
    obtain ⟨av, cv, rfl⟩ := own_form hown
    rcases Nat.lt_or_ge k l.length with hlt | hge
    · obtain ⟨b, o, hA, hbb, x0, hx⟩ := u64_at (lift HL.out hb) hlt
      subst hA
      have hu := HU.out k hlt
      have hfa := HF.out k hlt
      have i1 : (k : Int) < (l.length : Int) := by omega
      have d1 : decide ((k : Int) < (l.length : Int)) = true := decide_eq_true i1
      have htk : u64Cells ((stepsL pos l).take (k + 1)) = u64Cells ((stepsL pos l).take k) ++ [.int .u64 ((stepsL pos l)[k]'(by omega))] := by
        rw [List.take_succ_eq_append_getElem (by omega)]; unfold u64Cells; rw [List.map_append]; rfl
      have hnb : ∀ y : Int, (stepsL pos l)[k]'(by omega) = y → (0 ≤ y ∧ y ≤ 18446744073709551615) → ∀ x ∈ (stepsL pos l).take (k + 1), 0 ≤ x ∧ x ≤ 18446744073709551615 := fun y e hy x hx => by
        rw [List.take_succ_eq_append_getElem (by omega), List.mem_append, List.mem_singleton] at hx
        rcases hx with hx | rfl
        · exact hbd.out x hx
        · rw [e]; exact hy
      have HTK := hid htk
      have HNB := hid hnb
      have HO := hid hown
      have hz := hb.size
      rw [hu] at HTK
      rcases Nat.eq_zero_or_pos k with rfl | hk0
      · rw [ahead_zero] at hu hfa HTK
        have HBD := hid (HNB.out _ hu (by omega))
        simp only [Nat.zero_mul, Nat.add_zero, Nat.zero_add] at x0
        generalize l[0] = y at *
        have w1 : 0 ≤ pos - 1 - y := by omega
        have w2 : 0 ≤ pos - 1 := by omega
        rw [show pos - y - 1 = pos - 1 - y by omega] at HTK
        clear hu htk hnb hbd hown
        go_wp2_with (at_builtin; go_loud (refine wpList_append_src rfl _ _ _ rfl w.heap.size 22 i0 (.int .u64 0) 1 8 Tryz.underlying23 hi hz0 hz1 hz2 rfl (by decide) (.slice av 0 cv) 0 _ rfl (own_below HO.out (by (repeat (first | with_reducible exact Below.refl _ _ | with_reducible assumption | (with_reducible refine below_alloc ?_ _) | (with_reducible refine Below.setCell ?_ (by first | omega | (simp; done) | (simp; omega)) _) | (with_reducible refine Below.drew ?_) | (with_reducible refine below_drewN ?_ _) | (refine below_then (by with_reducible assumption) ?_))))) (some ⟨wr.heap.size, 0, none⟩) 1 1 [.int .u64 (pos - 1 - y)] rfl (src_new1 _ 22 _ rfl (by simp) rfl) (by simp [Value.oneCell']) (by simp only [maxLen]; omega) (by omega) (by simp; omega) ?_; intro v' w3 hown3 hgrow3 hat3; obtain ⟨a3, c3, rfl⟩ := own_form hown3; have HO3 := hid hown3; have hb3 : Below w.heap.size wr w3 := (Below.grown ((by (repeat (first | with_reducible exact Below.refl _ _ | with_reducible assumption | (with_reducible refine below_alloc ?_ _) | (with_reducible refine Below.setCell ?_ (by first | omega | (simp; done) | (simp; omega)) _) | (with_reducible refine Below.drew ?_) | (with_reducible refine below_drewN ?_ _) | (refine below_then (by with_reducible assumption) ?_))) : Below wr.heap.size wr _).mono hz) hgrow3 (by simp; omega) (fun g e => (HO.out.lt g e).1)); clear hown3 hgrow3 hat3))
        have ho3 := HO3.out
        rw [← HTK.out] at ho3
        have HO4 := hid ho3
        clear ho3 x0
        go_roundw
        case rel => exact ⟨1, by omega, by go_num, by simpa using HO4.out, HBD, hb.trans hb3⟩
        case measure => simp [intOf]; omega
      · obtain ⟨m, rfl⟩ : ∃ m, k = m + 1 := ⟨k - 1, by omega⟩
        obtain ⟨b', o', hA', hbb', y0, hy⟩ := u64_at (lift HL.out hb) (show m < l.length by omega)
        simp only [Option.some.injEq, Addr.mk.injEq] at hA'
        obtain ⟨rfl, rfl, _⟩ := hA'
        rw [ahead_succ pos l m (by omega)] at hu hfa HTK
        have hm0 := HXB.out m (by omega)
        have hm1 := HXB.out (m + 1) hlt
        have HBD := hid (HNB.out _ hu (by omega))
        have i1' : (m : Int) + 1 < (l.length : Int) := by omega
        have i2 : (m : Int) < (l.length : Int) := by omega
        have d2 : decide ((m : Int) + 1 < (l.length : Int)) = true := decide_eq_true i1'
        have d3 : decide (m + 1 < l.length) = true := decide_eq_true hlt
        generalize l[m + 1] = y at *
        generalize l[m]'(by omega) = z at *
        have w1 : 0 ≤ z - 1 - y := by omega
        have w2 : 0 ≤ z - 1 := by omega
        rw [show z - y - 1 = z - 1 - y by omega] at HTK
        clear hu htk hnb hbd hown
        go_wp2_with (at_builtin; go_loud (refine wpList_append_src rfl _ _ _ rfl w.heap.size 22 i0 (.int .u64 0) 1 8 Tryz.underlying23 hi hz0 hz1 hz2 rfl (by decide) (.slice av (m + 1) cv) (m + 1) _ rfl (own_below HO.out (by (repeat (first | with_reducible exact Below.refl _ _ | with_reducible assumption | (with_reducible refine below_alloc ?_ _) | (with_reducible refine Below.setCell ?_ (by first | omega | (simp; done) | (simp; omega)) _) | (with_reducible refine Below.drew ?_) | (with_reducible refine below_drewN ?_ _) | (refine below_then (by with_reducible assumption) ?_))))) (some ⟨wr.heap.size, 0, none⟩) 1 1 [.int .u64 (z - 1 - y)] rfl (src_new1 _ 22 _ rfl (by simp) rfl) (by simp [Value.oneCell']) (by simp only [maxLen]; omega) (by omega) (by simp; omega) ?_; intro v' w3 hown3 hgrow3 hat3; obtain ⟨a3, c3, rfl⟩ := own_form hown3; have HO3 := hid hown3; have hb3 : Below w.heap.size wr w3 := (Below.grown ((by (repeat (first | with_reducible exact Below.refl _ _ | with_reducible assumption | (with_reducible refine below_alloc ?_ _) | (with_reducible refine Below.setCell ?_ (by first | omega | (simp; done) | (simp; omega)) _) | (with_reducible refine Below.drew ?_) | (with_reducible refine below_drewN ?_ _) | (refine below_then (by with_reducible assumption) ?_))) : Below wr.heap.size wr _).mono hz) hgrow3 (by simp; omega) (fun g e => (HO.out.lt g e).1)); clear hown3 hgrow3 hat3))
        have ho3 := HO3.out
        rw [← HTK.out] at ho3
        have HO4 := hid ho3
        clear ho3 x0 y0
        go_roundw
        case rel => exact ⟨m + 1 + 1, by omega, by go_num, HO4.out, HBD, hb.trans hb3⟩
        case measure => simp [intOf]; omega
    · obtain rfl : k = l.length := by omega
      have d1 : decide ((l.length : Int) < (l.length : Int)) = false := decide_eq_false (by omega)
      have hv := hown
      rw [List.take_of_length_le (by omega)] at hv hbd
      have HV := hid (own_ints64 hbd.out (by omega) hv)
      clear hv hown
      go_wp2
      go_ret
      exact ⟨_, rfl, HV.out, hb⟩

/-- A row that is its own, of bytes. -/
def OwnB (w : World) (base : Nat) (v : Value) (L : List UInt8) : Prop := w.ownsRow base 5 1 v L.length (byteCells L)
theorem byteCells_app3 (l l' : List UInt8) : byteCells l ++ byteCells l' = byteCells (l ++ l') := by simp [byteCells]
theorem OwnB.app {w : World} {base : Nat} {v : Value} {L D : List UInt8} (h : w.ownsRow base 5 1 v (L.length + D.length) (byteCells L ++ byteCells D)) : OwnB w base v (L ++ D) := by
  unfold OwnB
  rw [List.length_append, ← byteCells_app3]
  exact h

set_option maxRecDepth 100000 in
set_option maxHeartbeats 3200000 in
theorem ref22_bytes (w : World) (pos : Int) (hpos : 0 ≤ pos ∧ pos ≤ 18446744073709551615) (l : List Int) (al : Option Addr) (nl cl : Nat) (hl : rU64s.r (· < w.heap.size) w [.slice al nl cl] l) (hf : fallsB pos l = true) (hlen : l.length ≤ 1000000) :
    Calls Tryz.prog 173 #[.int .u64 pos, .slice al nl cl] w fun r w' => ∃ v, r = .returned v ∧ OwnB w' w.heap.size v (deltaB pos l) ∧ Below w.heap.size w w' := by
  obtain ⟨rfl, hm, _, _⟩ := sl_len hl
  obtain ⟨i0, hi, hz0, hz1, hz2⟩ := info_parts info8
  have HS := hid (fun (W : World) (hW : Below w.heap.size w W) => ref22_steps W pos hpos l al _ cl (lift hl hW) hf hlen)
  have HV := hid (ref04_own l.length (by omega) w)
  have hsl := stepsL_len pos l
  have hnb := numsB_len (stepsL pos l)
  have hvl := (varB_len l.length).1
  unfold deltaB
  have HMO := hid (fun k => numsB_take_le (stepsL pos l) k)
  have HNS := hid (fun (k : Nat) (h : k < (stepsL pos l).length) => numsB_step (stepsL pos l) k h)
  generalize stepsL pos l = T at *
  generalize varB l.length = V at *
  clear hl hf
  go_enter Tryz.func173, Tryz.ntmps173
  go_wp2_with fail
  refine HV.out.mono ?_
  rintro r w1 ⟨v1, rfl, hv1, hb1⟩
  obtain ⟨a1, c1, rfl⟩ := own_form hv1
  have HO1 := hid hv1
  clear hv1
  go_wp2_with fail
  refine (HS.out _ hb1).mono ?_
  rintro r w2 ⟨v2, rfl, hr2, hb2⟩
  obtain ⟨a2, c2, hv2, hr2', _⟩ := sl_form hr2
  simp only [List.cons.injEq, and_true] at hv2
  subst hv2
  have HT := hid (rU64s.mono (S' := fun q => w1.heap.size ≤ q ∧ q < w2.heap.size) hr2' fun q hq => hq)
  have HO2 := hid (own_below HO1.out hb2)
  have hbw2 := below_then hb2 hb1
  have hsz2 := hb2.size
  clear hr2 hr2'
  go_wp2_with fail
  go_loopw [5, 7] (fun v i wr => ∃ (k : Nat) (J : List UInt8), k ≤ T.length ∧ i = .int .i64 k ∧ OwnB wr w.heap.size v J ∧ Hid (J = V ++ numsB (T.take k)) ∧ (∃ aJ cJ, v = .slice aJ J.length cJ) ∧ Below w.heap.size w wr ∧ w2.heap.size ≤ wr.heap.size ∧ rU64s.r (fun q => w1.heap.size ≤ q ∧ q < w2.heap.size) wr [.slice a2 T.length c2] T ∧ Hid (∀ q, v.ownBlock = some q → ¬ (w1.heap.size ≤ q ∧ q < w2.heap.size))) (fun _ i _ => T.length - (intOf i).toNat)
  case atStart => exact ⟨0, V, Nat.zero_le _, rfl, HO2.out, hid (by simp [numsB]), ⟨_, _, rfl⟩, hbw2, Nat.le_refl _, HT.out, hid (fun q e h => by have := (HO1.out.lt q e).2; omega)⟩
  case round =>
    obtain ⟨k, J, hk, rfl, hown, hJ, ⟨aJ, cJ, rfl⟩, hb, hsz, hT, hav⟩ := hrel
    rcases Nat.lt_or_ge k T.length with hlt | hge
    · obtain ⟨b, o, hA, hbb, x0, hx0, hx1⟩ := u64_at hT hlt
      subst hA
      have hst := HNS.out k hlt
      have hmo := HMO.out (k + 1)
      rw [hst, List.length_append] at hmo
      have hJl : J.length + (varB T[k].toNat).length ≤ 20000000 := by have := congrArg List.length hJ.out; rw [List.length_append] at this; omega
      have HN := hid (fun (W : World) => (by have := ref04_own T[k].toNat (by omega) W; rw [toNat_cast hx0] at this; exact this : Calls Tryz.prog 104 #[.int .u64 T[k]] W fun r w' => ∃ v, r = .returned v ∧ w'.ownsRow W.heap.size 5 1 v (varB T[k].toNat).length (byteCells (varB T[k].toNat)) ∧ Below W.heap.size W w'))
      have HJ1 : Hid (J ++ varB T[k].toNat = V ++ numsB (T.take (k + 1))) := hid (by rw [hst, hJ.out, List.append_assoc])
      have HO := hid hown
      have HTT := hid hT
      have i1 : (k : Int) < (T.length : Int) := by omega
      have d1 : decide ((k : Int) < (T.length : Int)) = true := decide_eq_true i1
      generalize varB T[k].toNat = VK at *
      have HONE := hid (byteCells_one VK)
      generalize T[k] = y at *
      clear hst hmo hJ hown hT
      go_wp2_with fail
      refine (HN.out _).mono ?_
      rintro r w3 ⟨v3, rfl, hv3, hb3⟩
      obtain ⟨a3, c3, rfl⟩ := own_form hv3
      have HS3 := hid (src_bytes (own_bytes rfl hv3))
      have HO3 := hid (own_below HO.out hb3)
      have hz := hb.size
      have hz3 := hb3.size
      clear hv3
      go_wp2_with (at_builtin; go_loud (refine wpList_append_src rfl _ _ _ rfl w.heap.size 5 i0 (.int .u8 0) 1 1 Tryz.underlying25 hi hz0 hz1 hz2 rfl (by decide) (.slice aJ J.length cJ) J.length (byteCells J) rfl HO3.out a3 VK.length c3 (byteCells VK) rfl HS3.out HONE.out (by simp only [maxLen]; omega) (by omega) (by omega) ?_; intro v' w4 hown4 hgrow4 hat4; obtain ⟨a4, c4, rfl⟩ := own_form hown4; have HO4 := hid hown4; have HGR4 := hid hgrow4; have HA4 := hid hat4; clear hown4 hgrow4 hat4))
      have ho4 := OwnB.app HO4.out
      have hb4 : Below w.heap.size w3 w4 := (Below.grown (Below.refl _ _) HGR4.out (by omega) (fun g e => (HO3.out.lt g e).1))
      have hg4 : rU64s.r (fun q => w1.heap.size ≤ q ∧ q < w2.heap.size) w4 [.slice (some ⟨b, o, none⟩) T.length c2] T := rU64s.keep HTT.out fun q hq => by
        have hq' : w1.heap.size ≤ q ∧ q < w2.heap.size := hq
        exact (HGR4.out.block q (by omega) (fun e => hav.out q e.symm hq')).trans (hb3.block q (by omega))
      have HO5 := hid ho4
      have HG4 := hid hg4
      clear ho4 hg4
      go_roundw
      case rel => exact ⟨k + 1, J ++ VK, by omega, by go_num, HO5.out, HJ1, ⟨_, _, by rw [List.length_append]⟩, hb.trans ((hb3.mono hb.size).trans hb4), by have := hb4.size; omega, HG4.out, hid (fun q e h => by
        rcases HA4.out with h1 | h1
        · exact hav.out q (h1 ▸ e) h
        · rw [h1] at e; simp at e; omega)⟩
      case measure => simp [intOf]; omega
    · obtain rfl : k = T.length := by omega
      have d1 : decide ((T.length : Int) < (T.length : Int)) = false := decide_eq_false (by omega)
      have hfin : Hid (J = V ++ numsB T) := hid (by have := hJ.out; rwa [List.take_length] at this)
      have HO := hid hown
      clear hown hJ
      go_wp2
      go_ret
      rw [← hfin.out]
      exact ⟨_, rfl, HO.out, hb⟩
end Go.Proofs.YtlbffbkbkajciaaGreat
namespace Go.Proofs.YtlbffbkbkajciaaGreat
open Go.RowKit Go.Bs Go.Maps
set_option linter.unusedVariables false
set_option linter.unusedSimpArgs false

theorem varB_cells {n : Nat} (h : n < 128) : byteCells (varB n) = [.int .u8 (n : Int)] := by
  rw [varB_small h]
  simp [byteCells]
  omega
theorem link_parts (pos : Int) (l : List Link) : ∃ Z : List (List UInt8), lnkF pos none l = Z.flatten ∧ Z.length = l.length ∧ (∀ k, (Z.take k).flatten.length ≤ Z.flatten.length) ∧ ∀ (k : Nat) (h : k < l.length), (Z.take (k + 1)).flatten = (Z.take k).flatten ++ (varB ((upsL none l)[k]'(by rw [upsL_len]; exact h)).toNat ++ deltaB pos l[k].backs) := by
  refine ⟨linkZ pos none l, linksF_zip pos l none, linkZ_len pos none l, fun k => flat_take_le _ k, fun k h => ?_⟩
  have := flat_step (linkZ pos none l) k (by rw [linkZ_len]; exact h)
  rw [linkZ_get pos l k h] at this
  exact this
set_option maxRecDepth 100000 in
set_option maxHeartbeats 6400000 in
theorem ref23_bytes (w : World) (pos : Int) (hpos : 0 ≤ pos ∧ pos ≤ 18446744073709551615) (l : List Link) (al : Option Addr) (nl cl : Nat) (hl : rLinks.r (· < w.heap.size) w [.slice al nl cl] l) (hR : linksR pos l = true) (hbk : ∀ x ∈ l, x.backs.length ≤ 1000000) :
    Calls Tryz.prog 106 #[.int .u64 pos, .slice al nl cl] w fun r w' => ∃ v, r = .returned v ∧ OwnB w' w.heap.size v (linksB pos l) ∧ Below w.heap.size w w' := by
  obtain ⟨rfl, hm, _, _⟩ := sl_len hl
  obtain ⟨i0, hi, hz0, hz1, hz2⟩ := info_parts info8
  have hN := links_bounds hl
  have hR' := hR
  simp only [linksR, Bool.and_eq_true, decide_eq_true_eq, List.all_eq_true] at hR'
  have hlk : ∀ x ∈ l, fallsB pos x.backs = true := fun x hx => by have := hR'.2.2 x hx; simp only [linkR, Bool.and_eq_true] at this; exact this.2
  have HLK := hid hlk
  have HBK := hid hbk
  have hup := hid (upsL_bounds l hR'.2.1 (fun x hx => (hN x hx).1))
  have hul := upsL_len none l
  have hle := linkZ_len_le pos l hR
  have HL := hid hl
  have hvl := varB_len_small (x := l.length) (by omega)
  have HVC := hid (varB_cells (n := l.length) (by omega))
  have HU := hid (fun (k : Nat) (h : k < l.length) => upsL_get l none k h)
  have HRI := hid (fun (k : Nat) (h : k + 1 < l.length) => (by have := rises_at (l.map Link.stream) k (by simpa using h) hR'.2.1; simpa using this : l[k].stream < l[k + 1].stream))
  obtain ⟨Z, hZ, hzl, hmo0, hns0⟩ := link_parts pos l
  have HMO := hid hmo0
  have HNS := hid hns0
  rw [hZ] at hle
  unfold linksB
  rw [hZ]
  have hll : l.length ≤ 16 := hR'.1
  generalize varB l.length = VL at *
  clear hl hR hR' hlk hbk hN hZ hmo0 hns0
  go_enter Tryz.func106, Tryz.ntmps106
  go_wp2_with fail
  have HOS : Hid ((w.alloc (.cells #[.int .u8 (l.length : Int)] 5)).ownsRow w.heap.size 5 1 (.slice (some ⟨w.heap.size, 0, none⟩) VL.length 1) VL.length (byteCells VL)) := hid (by rw [HVC.out, hvl]; exact own_new1 (Nat.le_refl _) (World.alloc_heap_new w _))
  have hb0 : Below w.heap.size w (w.alloc (.cells #[.int .u8 (l.length : Int)] 5)) := by (repeat (first | with_reducible exact Below.refl _ _ | with_reducible assumption | (with_reducible refine below_alloc ?_ _) | (with_reducible refine Below.setCell ?_ (by first | omega | (simp; done) | (simp; omega)) _) | (with_reducible refine Below.drew ?_) | (with_reducible refine below_drewN ?_ _) | (refine below_then (by with_reducible assumption) ?_)))
  go_loopw [5, 6] (fun v i wr => ∃ (k : Nat) (J : List UInt8), k ≤ l.length ∧ i = .int .i64 k ∧ OwnB wr w.heap.size v J ∧ Hid (J = VL ++ (Z.take k).flatten) ∧ (∃ aJ cJ, v = .slice aJ J.length cJ) ∧ Below w.heap.size w wr) (fun _ i _ => l.length - (intOf i).toNat)
  case atStart => exact ⟨0, VL, Nat.zero_le _, rfl, by rw [hvl] at HOS; exact (by unfold OwnB; rw [hvl]; exact HOS.out), hid (by simp), ⟨_, _, by rw [hvl]⟩, hb0⟩
  case round =>
    obtain ⟨k, J, hk, rfl, hown, hJ, ⟨aJ, cJ, rfl⟩, hb⟩ := hrel
    rcases Nat.lt_or_ge k l.length with hlt | hge
    · obtain ⟨b, o, hA, hbb, a2, c2, u0, u1, hx, xl⟩ := link_at HL.out hlt
      subst hA
      have hst := HNS.out k hlt
      have hmo := HMO.out (k + 1)
      have hub := hup.out k hlt
      have hu := HU.out k hlt
      rw [hst, List.length_append, List.length_append] at hmo
      have hJl : J.length + (varB ((upsL none l)[k]'(by omega)).toNat).length + (deltaB pos l[k].backs).length ≤ 20000000 := by have := congrArg List.length hJ.out; rw [List.length_append] at this; omega
      have hN0 : ∀ W : World, Calls Tryz.prog 104 #[.int .u64 ((upsL none l)[k]'(by omega))] W fun r w' => ∃ v, r = .returned v ∧ w'.ownsRow W.heap.size 5 1 v (varB ((upsL none l)[k]'(by omega)).toNat).length (byteCells (varB ((upsL none l)[k]'(by omega)).toNat)) ∧ Below W.heap.size W w' := fun W => by
        have := ref04_own ((upsL none l)[k]'(by omega)).toNat (by omega) W
        rw [toNat_cast hub.1] at this
        exact this
      have hJ1 : (J ++ varB ((upsL none l)[k]'(by omega)).toNat) ++ deltaB pos l[k].backs = VL ++ (Z.take (k + 1)).flatten := by rw [hst, hJ.out]; simp only [List.append_assoc]
      have HBY := hid (fun (W : World) (hW : Below w.heap.size w W) => ref22_bytes W pos hpos l[k].backs a2 _ c2 (lift xl hW) (HLK.out l[k] (List.getElem_mem hlt)) (HBK.out l[k] (List.getElem_mem hlt)))
      have HO := hid hown
      have i1 : (k : Int) < (l.length : Int) := by omega
      have d1 : decide ((k : Int) < (l.length : Int)) = true := decide_eq_true i1
      have X0 := (hb.cell (p := ⟨b, o + k * 2, none⟩) hbb).trans u0
      have X1 := (hb.cell (p := ⟨b, o + k * 2 + 1, none⟩) hbb).trans u1
      rcases Nat.eq_zero_or_pos k with rfl | hk0
      · rw [dif_pos rfl] at hu
        (try dsimp only at hu)
        rw [hu] at hJl hJ1
        have hN1 := fun W => hu ▸ hN0 W
        simp only [Nat.zero_mul, Nat.add_zero, Nat.zero_add] at X0 X1 u1
        have HN := hid hN1
        have HJ1 := hid hJ1
        generalize varB l[0].stream.toNat = VK at *
        generalize deltaB pos l[0].backs = DK at *
        have HONE := hid (byteCells_one VK)
        have HOND := hid (byteCells_one DK)
        generalize l[0] = y at *
        clear hst hmo hub hu hJ1 hN0 hN1 hown hJ u0 xl
        go_wp2_with fail
        refine (HN.out _).mono ?_
        rintro r w3 ⟨v3, rfl, hv3, hb3⟩
        obtain ⟨a3, c3, rfl⟩ := own_form hv3
        have HS3 := hid (src_bytes (own_bytes rfl hv3))
        have HO3 := hid (own_below HO.out hb3)
        have hz := hb.size
        have hz3 := hb3.size
        clear hv3
        go_wp2_with (at_builtin; go_loud (refine wpList_append_src rfl _ _ _ rfl w.heap.size 5 i0 (.int .u8 0) 1 1 Tryz.underlying25 hi hz0 hz1 hz2 rfl (by decide) (.slice aJ J.length cJ) J.length (byteCells J) rfl HO3.out a3 VK.length c3 (byteCells VK) rfl HS3.out HONE.out (by simp only [maxLen]; omega) (by omega) (by omega) ?_; intro v' w4 hown4 hgrow4 hat4; obtain ⟨a4, c4, rfl⟩ := own_form hown4; have HO4 := hid (OwnB.app hown4); have hbg4 : Below w.heap.size w3 w4 := (Below.grown (Below.refl _ _) hgrow4 (by omega) (fun g e => (HO3.out.lt g e).1)); have hb4 : Below w.heap.size w w4 := hb.trans ((hb3.mono hb.size).trans hbg4); have Y1 : w4.cell? ⟨b, o + 1, none⟩ = some (.slice a2 y.backs.length c2) := (hb4.cell (p := ⟨b, o + 1, none⟩) hbb).trans u1; clear hown4 hgrow4 hat4))
        have hz4 := hbg4.size
        have HB4 := hid (HBY.out w4 hb4)
        have hlJ : (J ++ VK).length = J.length + VK.length := List.length_append
        generalize J ++ VK = J4 at *
        have HOB4 := hid HO4.out
        rw [← hlJ] at HOB4 ⊢
        have hJ4l : J4.length + DK.length ≤ 20000000 := by omega
        clear hlJ
        clear X0 X1
        refine HB4.out.mono ?_
        rintro r w5 ⟨v5, rfl, hv5, hb5⟩
        obtain ⟨a5, c5, rfl⟩ := own_form hv5
        have HS5 := hid (src_bytes (own_bytes rfl hv5))
        have HO5 := hid (own_below HOB4.out hb5)
        have hz5 := hb5.size
        clear hv5 Y1
        go_wp2_with (at_builtin; go_loud (refine wpList_append_src rfl _ _ _ rfl w.heap.size 5 i0 (.int .u8 0) 1 1 Tryz.underlying25 hi hz0 hz1 hz2 rfl (by decide) (.slice a4 J4.length c4) J4.length (byteCells J4) rfl HO5.out a5 DK.length c5 (byteCells DK) rfl HS5.out HOND.out (by simp only [maxLen]; omega) (by omega) (by omega) ?_; intro v' w6 hown6 hgrow6 hat6; obtain ⟨a6, c6, rfl⟩ := own_form hown6; have HO6 := hid (OwnB.app hown6); have hbg6 : Below w.heap.size w5 w6 := (Below.grown (Below.refl _ _) hgrow6 (by omega) (fun g e => (HO5.out.lt g e).1)); clear hown6 hgrow6 hat6))
        have hbe : Below w.heap.size w w6 := hb4.trans ((hb5.mono hb4.size).trans hbg6)
        go_roundw
        case rel => exact ⟨1, J4 ++ DK, by omega, by go_num, HO6.out, HJ1, ⟨_, _, by rw [List.length_append]⟩, hbe⟩
        case measure => simp [intOf]; omega
      · obtain ⟨m, rfl⟩ : ∃ m, k = m + 1 := ⟨k - 1, by omega⟩
        obtain ⟨b', o', hA', hbb', a3', c3', t0, t1, hty, tl⟩ := link_at HL.out (show m < l.length by omega)
        simp only [Option.some.injEq, Addr.mk.injEq] at hA'
        obtain ⟨rfl, rfl, _⟩ := hA'
        have T0 := (hb.cell (p := ⟨b, o + m * 2, none⟩) hbb).trans t0
        have hri := HRI.out m hlt
        rw [dif_neg (by omega)] at hu
        simp only [Nat.add_sub_cancel] at hu
        rw [hu] at hJl hJ1
        have hN1 := fun W => hu ▸ hN0 W
        have HN := hid hN1
        have HJ1 := hid hJ1
        have i1' : (m : Int) + 1 < (l.length : Int) := by omega
        have i2 : (m : Int) < (l.length : Int) := by omega
        have d2 : decide ((m : Int) + 1 < (l.length : Int)) = true := decide_eq_true i1'
        have d3 : decide (m + 1 < l.length) = true := decide_eq_true hlt
        generalize varB (l[m + 1].stream - (l[m]'(by omega)).stream - 1).toNat = VK at *
        generalize deltaB pos l[m + 1].backs = DK at *
        have HONE := hid (byteCells_one VK)
        have HOND := hid (byteCells_one DK)
        generalize l[m + 1] = y at *
        generalize l[m]'(by omega) = z at *
        have w1 : 0 ≤ y.stream - z.stream := by omega
        have w2 : 0 ≤ y.stream - z.stream - 1 := by omega
        clear hst hmo hub hu hJ1 hN0 hN1 hown hJ u0 xl t0 t1 tl
        go_wp2_with fail
        refine (HN.out _).mono ?_
        rintro r w3 ⟨v3, rfl, hv3, hb3⟩
        obtain ⟨a3, c3, rfl⟩ := own_form hv3
        have HS3 := hid (src_bytes (own_bytes rfl hv3))
        have HO3 := hid (own_below HO.out hb3)
        have hz := hb.size
        have hz3 := hb3.size
        clear hv3
        go_wp2_with (at_builtin; go_loud (refine wpList_append_src rfl _ _ _ rfl w.heap.size 5 i0 (.int .u8 0) 1 1 Tryz.underlying25 hi hz0 hz1 hz2 rfl (by decide) (.slice aJ J.length cJ) J.length (byteCells J) rfl HO3.out a3 VK.length c3 (byteCells VK) rfl HS3.out HONE.out (by simp only [maxLen]; omega) (by omega) (by omega) ?_; intro v' w4 hown4 hgrow4 hat4; obtain ⟨a4, c4, rfl⟩ := own_form hown4; have HO4 := hid (OwnB.app hown4); have hbg4 : Below w.heap.size w3 w4 := (Below.grown (Below.refl _ _) hgrow4 (by omega) (fun g e => (HO3.out.lt g e).1)); have hb4 : Below w.heap.size w w4 := hb.trans ((hb3.mono hb.size).trans hbg4); have Y1 : w4.cell? ⟨b, o + (m + 1) * 2 + 1, none⟩ = some (.slice a2 y.backs.length c2) := (hb4.cell (p := ⟨b, o + (m + 1) * 2 + 1, none⟩) hbb).trans u1; clear hown4 hgrow4 hat4))
        have hz4 := hbg4.size
        have HB4 := hid (HBY.out w4 hb4)
        have hlJ : (J ++ VK).length = J.length + VK.length := List.length_append
        generalize J ++ VK = J4 at *
        have HOB4 := hid HO4.out
        rw [← hlJ] at HOB4 ⊢
        have hJ4l : J4.length + DK.length ≤ 20000000 := by omega
        clear hlJ
        clear X0 X1 T0
        refine HB4.out.mono ?_
        rintro r w5 ⟨v5, rfl, hv5, hb5⟩
        obtain ⟨a5, c5, rfl⟩ := own_form hv5
        have HS5 := hid (src_bytes (own_bytes rfl hv5))
        have HO5 := hid (own_below HOB4.out hb5)
        have hz5 := hb5.size
        clear hv5 Y1
        go_wp2_with (at_builtin; go_loud (refine wpList_append_src rfl _ _ _ rfl w.heap.size 5 i0 (.int .u8 0) 1 1 Tryz.underlying25 hi hz0 hz1 hz2 rfl (by decide) (.slice a4 J4.length c4) J4.length (byteCells J4) rfl HO5.out a5 DK.length c5 (byteCells DK) rfl HS5.out HOND.out (by simp only [maxLen]; omega) (by omega) (by omega) ?_; intro v' w6 hown6 hgrow6 hat6; obtain ⟨a6, c6, rfl⟩ := own_form hown6; have HO6 := hid (OwnB.app hown6); have hbg6 : Below w.heap.size w5 w6 := (Below.grown (Below.refl _ _) hgrow6 (by omega) (fun g e => (HO5.out.lt g e).1)); clear hown6 hgrow6 hat6))
        have hbe : Below w.heap.size w w6 := hb4.trans ((hb5.mono hb4.size).trans hbg6)
        go_roundw
        case rel => exact ⟨m + 1 + 1, J4 ++ DK, by omega, by go_num, HO6.out, HJ1, ⟨_, _, by rw [List.length_append]⟩, hbe⟩
        case measure => simp [intOf]; omega
    · obtain rfl : k = l.length := by omega
      have d1 : decide ((l.length : Int) < (l.length : Int)) = false := decide_eq_false (by omega)
      have hfin : Hid (J = VL ++ Z.flatten) := hid (by have := hJ.out; rwa [List.take_of_length_le (by omega)] at this)
      have HO := hid hown
      clear hown hJ
      go_wp2
      go_ret
      rw [← hfin.out]
      exact ⟨_, rfl, HO.out, hb⟩
end Go.Proofs.YtlbffbkbkajciaaGreat
namespace Go.Proofs.YtlbffbkbkajciaaGreat
open Go.RowKit Go.Bs Go.Maps
set_option linter.unusedVariables false
set_option linter.unusedSimpArgs false

set_option maxHeartbeats 1600000 in
theorem zig_rises (l : List Int) (a : Option Addr) (n c : Nat) (w : World) (hl : rU64s.r (· < w.heap.size) w [.slice a n c] l) :
    Calls Tryz.prog 149 #[.slice a n c] w fun r w' => r = .returned (.bool (risesB l)) ∧ Below w.heap.size w w' := by
  obtain ⟨rfl, hm, _, _⟩ := sl_len hl
  have HL := hid hl; clear hl
  go_enter Tryz.func149, Tryz.ntmps149
  go_wp2
  go_loopw [3] (fun i wr => ∃ m : Nat, (m ≤ l.length ∧ (m = 0 ∨ m < l.length)) ∧ i = .int .i64 ((m : Int) + 1) ∧ Hid (risesB l = risesAt l (m + 1)) ∧ Below w.heap.size w wr) (fun i _ => l.length + 1 - (intOf i).toNat)
  case atStart => exact ⟨0, ⟨Nat.zero_le _, .inl rfl⟩, rfl, hid (risesAt_one l).symm, Below.refl _ _⟩
  case round =>
    obtain ⟨m, hk, rfl, hf, hb⟩ := hrel
    by_cases hlt : m + 1 < l.length
    · obtain ⟨b, o, hA, hbb, x0, hx0, hx1⟩ := u64_at (lift HL.out hb) hlt
      obtain ⟨b', o', hA', hbb', y0, hy0, hy1⟩ := u64_at (lift HL.out hb) (show m < l.length by omega)
      subst hA
      simp only [Option.some.injEq, Addr.mk.injEq] at hA'
      obtain ⟨rfl, rfl, _⟩ := hA'
      have hst := hid (risesAt_step l m hlt)
      have k1 : (0 : Int) ≤ (m : Int) + 1 - 1 := by omega
      have k2 : (m : Int) + 1 < (l.length : Int) := by omega
      have k3 : (m : Int) < (l.length : Int) := by omega
      have X0 := fun s : Later wr => s.cell x0
      have Y0 := fun s : Later wr => s.cell y0
      clear x0 y0
      generalize l[m + 1] = x at *
      generalize l[m] = y at *
      by_cases hge : x ≤ y
      · have d1 : decide (x ≤ y) = true := decide_eq_true hge
        have hff : Hid (risesB l = false) := hid (by rw [hf.out, hst.out, decide_eq_false (by omega)]; rfl)
        clear hge
        go_wp2_with fail
        refine wp_region_later (by kernel_rfl) (by kernel_rfl) ?_
        repeat (go_big_quiet_step (fail))
        refine wpQuiet_nil ?_
        rintro W5 ⟨⟨W5', hb5⟩, rfl⟩
        go_wp2
        go_ret
        exact ⟨by rw [hff.out]; rfl, below_then hb5 hb⟩
      · have d1 : decide (x ≤ y) = false := decide_eq_false hge
        have hst' : Hid (risesAt l (m + 1) = risesAt l (m + 2)) := hid (by rw [hst.out, decide_eq_true (by omega)]; rfl)
        clear hge
        go_wp2_with fail
        refine wp_region_later (by kernel_rfl) (by kernel_rfl) ?_
        repeat (go_big_quiet_step (fail))
        refine wpQuiet_nil ?_
        rintro W5 ⟨⟨W5', hb5⟩, rfl⟩
        go_wp2
        go_roundw
        case rel => exact ⟨m + 1, ⟨by omega, by omega⟩, by go_num, hid (by rw [hf.out, hst'.out]), below_then hb5 hb⟩
        case measure => (simp [intOf]; try omega)
    · have k2 : ¬ ((m : Int) + 1 < (l.length : Int)) := by omega
      have d2 : decide ((m : Int) + 1 < (l.length : Int)) = false := decide_eq_false k2
      have hff : Hid (risesB l = true) := hid (by
        rcases Nat.eq_zero_or_pos l.length with h0 | h0
        · rw [List.eq_nil_of_length_eq_zero h0]; rfl
        · rw [hf.out, show m + 1 = l.length by omega]; exact risesAt_end l)
      go_wp2
      go_ret
      exact ⟨by rw [hff.out]; rfl, hb⟩

set_option maxHeartbeats 1600000 in
theorem ref05_rises (l : List Int) (a : Option Addr) (n c : Nat) (w : World) (hl : rU64s.r (· < w.heap.size) w [.slice a n c] l) :
    Calls Tryz.prog 91 #[.slice a n c] w fun r w' => r = .returned (.bool (risesB l)) ∧ Below w.heap.size w w' := by
  obtain ⟨rfl, hm, _, _⟩ := sl_len hl
  have HL := hid hl; clear hl
  go_enter Tryz.func91, Tryz.ntmps91
  go_wp2
  go_loopw [3] (fun i wr => ∃ m : Nat, (m ≤ l.length ∧ (m = 0 ∨ m < l.length)) ∧ i = .int .i64 ((m : Int)) ∧ Hid (risesB l = risesAt l (m + 1)) ∧ Below w.heap.size w wr) (fun i _ => l.length + 1 - (intOf i).toNat)
  case atStart => exact ⟨0, ⟨Nat.zero_le _, .inl rfl⟩, rfl, hid (risesAt_one l).symm, Below.refl _ _⟩
  case round =>
    obtain ⟨m, hk, rfl, hf, hb⟩ := hrel
    by_cases hlt : m + 1 < l.length
    · obtain ⟨b, o, hA, hbb, x0, hx0, hx1⟩ := u64_at (lift HL.out hb) hlt
      obtain ⟨b', o', hA', hbb', y0, hy0, hy1⟩ := u64_at (lift HL.out hb) (show m < l.length by omega)
      subst hA
      simp only [Option.some.injEq, Addr.mk.injEq] at hA'
      obtain ⟨rfl, rfl, _⟩ := hA'
      have hst := hid (risesAt_step l m hlt)
      have k1 : (0 : Int) ≤ (m : Int) + 1 - 1 := by omega
      have k2 : (m : Int) + 1 < (l.length : Int) := by omega
      have k3 : (m : Int) < (l.length : Int) := by omega
      have X0 := fun s : Later wr => s.cell x0
      have Y0 := fun s : Later wr => s.cell y0
      clear x0 y0
      generalize l[m + 1] = x at *
      generalize l[m] = y at *
      by_cases hge : x ≤ y
      · have d1 : decide (x ≤ y) = true := decide_eq_true hge
        have hff : Hid (risesB l = false) := hid (by rw [hf.out, hst.out, decide_eq_false (by omega)]; rfl)
        clear hge
        go_wp2_with fail
        refine wp_region_later (by kernel_rfl) (by kernel_rfl) ?_
        repeat (go_big_quiet_step (fail))
        refine wpQuiet_nil ?_
        rintro W5 ⟨⟨W5', hb5⟩, rfl⟩
        go_wp2
        go_ret
        exact ⟨by rw [hff.out]; rfl, below_then hb5 hb⟩
      · have d1 : decide (x ≤ y) = false := decide_eq_false hge
        have hst' : Hid (risesAt l (m + 1) = risesAt l (m + 2)) := hid (by rw [hst.out, decide_eq_true (by omega)]; rfl)
        clear hge
        go_wp2_with fail
        refine wp_region_later (by kernel_rfl) (by kernel_rfl) ?_
        repeat (go_big_quiet_step (fail))
        refine wpQuiet_nil ?_
        rintro W5 ⟨⟨W5', hb5⟩, rfl⟩
        go_wp2
        go_roundw
        case rel => exact ⟨m + 1, ⟨by omega, by omega⟩, by go_num, hid (by rw [hf.out, hst'.out]), below_then hb5 hb⟩
        case measure => (simp [intOf]; try omega)
    · have k2 : ¬ ((m : Int) + 1 < (l.length : Int)) := by omega
      have d2 : decide ((m : Int) + 1 < (l.length : Int)) = false := decide_eq_false k2
      have hff : Hid (risesB l = true) := hid (by
        rcases Nat.eq_zero_or_pos l.length with h0 | h0
        · rw [List.eq_nil_of_length_eq_zero h0]; rfl
        · rw [hf.out, show m + 1 = l.length by omega]; exact risesAt_end l)
      go_wp2
      go_ret
      exact ⟨by rw [hff.out]; rfl, hb⟩

set_option maxRecDepth 100000 in
set_option maxHeartbeats 3200000 in
theorem zig_steps (w : World) (l : List Int) (al : Option Addr) (nl cl : Nat) (hl : rU64s.r (· < w.heap.size) w [.slice al nl cl] l) (hri : risesB l = true) (hlen : l.length ≤ 1000000) :
    Calls Tryz.prog 150 #[.slice al nl cl] w fun r w' => ∃ v, r = .returned v ∧ rU64s.r (fun q => w.heap.size ≤ q ∧ q < w'.heap.size) w' [v] (upsN none l) ∧ Below w.heap.size w w' := by
  obtain ⟨rfl, hm, _, _⟩ := sl_len hl
  obtain ⟨i0, hi, hz0, hz1, hz2⟩ := info_parts infoU
  have HL := hid hl
  have hul := upsN_len none l
  have HU := hid (fun (k : Nat) (h : k < l.length) => upsN_get l none k h)
  have HRI := hid (fun (k : Nat) (h : k + 1 < l.length) => rises_at l k h hri)
  clear hl hri
  go_enter Tryz.func150, Tryz.ntmps150
  go_wp2_with fail
  go_loopw [3, 8] (fun v i wr => ∃ k : Nat, k ≤ l.length ∧ i = .int .i64 k ∧ wr.ownsRow w.heap.size 22 1 v k (u64Cells ((upsN none l).take k)) ∧ Hid (∀ x ∈ (upsN none l).take k, 0 ≤ x ∧ x ≤ 18446744073709551615) ∧ Below w.heap.size w wr) (fun _ i _ => l.length - (intOf i).toNat)
  case atStart => exact ⟨0, Nat.zero_le _, rfl, ⟨rfl, .inl ⟨rfl, rfl⟩⟩, hid (by simp), Below.refl _ _⟩
  case round =>
    obtain ⟨k, hk, rfl, hown, hbd, hb⟩ := hrel
    obtain ⟨av, cv, rfl⟩ := own_form hown
    rcases Nat.lt_or_ge k l.length with hlt | hge
    · obtain ⟨b, o, hA, hbb, x0, hx⟩ := u64_at (lift HL.out hb) hlt
      subst hA
      have hu := HU.out k hlt
      have i1 : (k : Int) < (l.length : Int) := by omega
      have d1 : decide ((k : Int) < (l.length : Int)) = true := decide_eq_true i1
      have hbl : b < wr.heap.size := World.block_lt_of_cell? _ _ x0
      have htk : u64Cells ((upsN none l).take (k + 1)) = u64Cells ((upsN none l).take k) ++ [.int .u64 ((upsN none l)[k]'(by omega))] := by
        rw [List.take_succ_eq_append_getElem (by omega)]; unfold u64Cells; rw [List.map_append]; rfl
      have hnb : ∀ y : Int, (upsN none l)[k]'(by omega) = y → (0 ≤ y ∧ y ≤ 18446744073709551615) → ∀ x ∈ (upsN none l).take (k + 1), 0 ≤ x ∧ x ≤ 18446744073709551615 := fun y e hy x hx => by
        rw [List.take_succ_eq_append_getElem (by omega), List.mem_append, List.mem_singleton] at hx
        rcases hx with hx | rfl
        · exact hbd.out x hx
        · rw [e]; exact hy
      have HTK := hid htk
      have HNB := hid hnb
      have HO := hid hown
      have hz := hb.size
      rcases Nat.eq_zero_or_pos k with rfl | hk0
      · rw [dif_pos rfl] at hu
        (try dsimp only at hu)
        rw [hu] at HTK
        have HBD := hid (HNB.out _ hu hx)
        simp only [Nat.zero_mul, Nat.add_zero, Nat.zero_add] at x0
        have d2 : decide ((0 : Int) < ((0 : Nat) : Int)) = false := by decide
        generalize l[0] = y at *
        clear hu htk hnb hbd hown hx
        go_wp2_with (at_builtin; go_loud (refine wpList_append_src rfl _ _ _ rfl w.heap.size 22 i0 (.int .u64 0) 1 8 Tryz.underlying23 hi hz0 hz1 hz2 rfl (by decide) (.slice av 0 cv) 0 _ rfl (own_below HO.out (by (repeat (first | with_reducible exact Below.refl _ _ | with_reducible assumption | (with_reducible refine below_alloc ?_ _) | (with_reducible refine Below.setCell ?_ (by first | omega | (simp; done) | (simp; omega)) _) | (with_reducible refine Below.drew ?_) | (with_reducible refine below_drewN ?_ _) | (refine below_then (by with_reducible assumption) ?_))))) (some ⟨wr.heap.size, 0, none⟩) 1 1 [.int .u64 y] rfl (src_new1 _ 22 _ rfl (by simp) rfl) (by simp [Value.oneCell']) (by simp only [maxLen]; omega) (by omega) (by simp; omega) ?_; intro v' w3 hown3 hgrow3 hat3; obtain ⟨a3, c3, rfl⟩ := own_form hown3; have HO3 := hid hown3; have hb3 : Below w.heap.size wr w3 := (Below.grown ((by (repeat (first | with_reducible exact Below.refl _ _ | with_reducible assumption | (with_reducible refine below_alloc ?_ _) | (with_reducible refine Below.setCell ?_ (by first | omega | (simp; done) | (simp; omega)) _) | (with_reducible refine Below.drew ?_) | (with_reducible refine below_drewN ?_ _) | (refine below_then (by with_reducible assumption) ?_))) : Below wr.heap.size wr _).mono hz) hgrow3 (by simp; omega) (fun g e => (HO.out.lt g e).1)); clear hown3 hgrow3 hat3))
        have ho3 := HO3.out
        rw [← HTK.out] at ho3
        have HO4 := hid ho3
        clear ho3 x0
        go_roundw
        case rel => exact ⟨1, by omega, by go_num, by simpa using HO4.out, HBD, hb.trans hb3⟩
        case measure => (simp [intOf]; try omega)
      · obtain ⟨m, rfl⟩ : ∃ m, k = m + 1 := ⟨k - 1, by omega⟩
        obtain ⟨b', o', hA', hbb', y0, hy⟩ := u64_at (lift HL.out hb) (show m < l.length by omega)
        simp only [Option.some.injEq, Addr.mk.injEq] at hA'
        obtain ⟨rfl, rfl, _⟩ := hA'
        have hri := HRI.out m hlt
        rw [dif_neg (by omega)] at hu
        simp only [Nat.add_sub_cancel] at hu
        rw [hu] at HTK
        have HBD := hid (HNB.out _ hu (by omega))
        have i1' : (m : Int) + 1 < (l.length : Int) := by omega
        have i2 : (m : Int) < (l.length : Int) := by omega
        have d2 : decide ((m : Int) + 1 < (l.length : Int)) = true := decide_eq_true i1'
        have d3 : decide (m + 1 < l.length) = true := decide_eq_true hlt
        have d4 : decide ((0 : Int) < (m : Int) + 1) = true := decide_eq_true (by omega)
        generalize l[m + 1] = y at *
        generalize l[m]'(by omega) = z at *
        have w1 : 0 ≤ y - (z + 1) := by omega
        have w2 : z + 1 ≤ 18446744073709551615 := by omega
        rw [show y - z - 1 = y - (z + 1) by omega] at HTK
        clear hu htk hnb hbd hown
        go_wp2_with (at_builtin; go_loud (refine wpList_append_src rfl _ _ _ rfl w.heap.size 22 i0 (.int .u64 0) 1 8 Tryz.underlying23 hi hz0 hz1 hz2 rfl (by decide) (.slice av (m + 1) cv) (m + 1) _ rfl (own_below HO.out (by (repeat (first | with_reducible exact Below.refl _ _ | with_reducible assumption | (with_reducible refine below_alloc ?_ _) | (with_reducible refine Below.setCell ?_ (by first | omega | (simp; done) | (simp; omega)) _) | (with_reducible refine Below.drew ?_) | (with_reducible refine below_drewN ?_ _) | (refine below_then (by with_reducible assumption) ?_))))) (some ⟨wr.heap.size, 0, none⟩) 1 1 [.int .u64 (y - (z + 1))] rfl (src_new1 _ 22 _ rfl (by simp) rfl) (by simp [Value.oneCell']) (by simp only [maxLen]; omega) (by omega) (by simp; omega) ?_; intro v' w3 hown3 hgrow3 hat3; obtain ⟨a3, c3, rfl⟩ := own_form hown3; have HO3 := hid hown3; have hb3 : Below w.heap.size wr w3 := (Below.grown ((by (repeat (first | with_reducible exact Below.refl _ _ | with_reducible assumption | (with_reducible refine below_alloc ?_ _) | (with_reducible refine Below.setCell ?_ (by first | omega | (simp; done) | (simp; omega)) _) | (with_reducible refine Below.drew ?_) | (with_reducible refine below_drewN ?_ _) | (refine below_then (by with_reducible assumption) ?_))) : Below wr.heap.size wr _).mono hz) hgrow3 (by simp; omega) (fun g e => (HO.out.lt g e).1)); clear hown3 hgrow3 hat3))
        have ho3 := HO3.out
        rw [← HTK.out] at ho3
        have HO4 := hid ho3
        clear ho3 x0 y0
        go_roundw
        case rel => exact ⟨m + 1 + 1, by omega, by go_num, HO4.out, HBD, hb.trans hb3⟩
        case measure => (simp [intOf]; try omega)
    · obtain rfl : k = l.length := by omega
      have d1 : decide ((l.length : Int) < (l.length : Int)) = false := decide_eq_false (by omega)
      have hv := hown
      rw [List.take_of_length_le (by omega)] at hv hbd
      have HV := hid (own_ints64 hbd.out (by omega) hv)
      clear hv hown
      go_wp2
      go_ret
      exact ⟨_, rfl, HV.out, hb⟩
end Go.Proofs.YtlbffbkbkajciaaGreat
namespace Go.Proofs.YtlbffbkbkajciaaGreat
open Go.RowKit Go.Bs Go.Maps
set_option linter.unusedVariables false
set_option linter.unusedSimpArgs false

theorem upsN_bounds (l : List Int) (hri : risesB l = true) (hx : ∀ x ∈ l, 0 ≤ x ∧ x ≤ 18446744073709551615) : ∀ k, (h : k < l.length) → 0 ≤ (upsN none l)[k]'(by rw [upsN_len]; exact h) ∧ (upsN none l)[k]'(by rw [upsN_len]; exact h) ≤ 18446744073709551615 := by
  intro k h
  rw [upsN_get l none k h]
  have hk := hx l[k] (List.getElem_mem h)
  split
  · exact hk
  · rename_i h0
    have h1 := hx (l[k - 1]'(by omega)) (List.getElem_mem _)
    have h2 := rises_at l (k - 1) (by omega) hri
    simp only [Nat.sub_add_cancel (show 1 ≤ k by omega)] at h2
    omega

set_option maxRecDepth 100000 in
set_option maxHeartbeats 3200000 in
theorem zig_putrising (w : World) {g base most : Nat} {J : List UInt8} {a : Option Addr} {c : Nat} (h : PenAt w g base most J a c) (l : List Int) (al : Option Addr) (nl cl : Nat)
    (hl : rU64s.r (· < w.heap.size) w [.slice al nl cl] l) (hri : risesB l = true) (hlen : l.length ≤ 1000000) (hfit : J.length + (upsB l).length ≤ most) (hln2 : J.length + (upsB l).length ≤ 100000000000000) :
    Calls Tryz.prog 70 #[.pointer (some ⟨g, 0, none⟩), .slice al nl cl] w fun r w' => r = .returned (.tuple #[]) ∧ PenStep w g base most (J ++ upsB l) a w' := by
  obtain ⟨rfl, hm, _, _⟩ := sl_len hl
  have HRI := zig_rises l al _ cl w hl
  rw [hri] at HRI
  have HRI := hid HRI
  have HS := hid (fun (W : World) (hW : Below w.heap.size w W) => zig_steps W l al _ cl (lift hl hW) hri hlen)
  have hlt := h.len
  have hsl := upsN_len none l
  have hnb := numsB_len (upsN none l)
  have hxs := u64s_bounds hl
  unfold upsB at *
  have HP := hid h
  have HMO := hid (fun k => numsB_take_le (upsN none l) k)
  have HNS := hid (fun (k : Nat) (h : k < (upsN none l).length) => numsB_step (upsN none l) k h)
  generalize upsN none l = T at *
  generalize hL : l.length = L at *
  have hLL := hid hL
  clear h hl hri hxs hL
  go_enter Tryz.func70, Tryz.ntmps70
  go_wp2_with fail
  refine HRI.out.mono ?_
  rintro r w0 ⟨rfl, hb0⟩
  go_wp2_with fail
  refine (HS.out _ hb0).mono ?_
  rintro r w1 ⟨v, rfl, hr, hb1'⟩
  obtain ⟨a1, c1, hv, hr2, _⟩ := sl_form hr
  simp only [List.cons.injEq, and_true] at hv
  subst hv
  have hb1 := below_then hb1' hb0
  have hz0 := hb0.size
  rw [hsl] at hr2 ⊢
  have HR := hid (pen_new_data HP.out (rU64s.mono hr2 fun q hq => ⟨by omega, hq.2⟩))
  have HP1 := hid (HP.out.later hb1)
  clear hr hr2
  have hz1 := hb1.size
  go_wp2_with fail
  go_loopw [14] (fun i wr => ∃ k : Nat, k ≤ L ∧ i = .int .i64 k ∧ Hid (PenStep w1 g base most (J ++ numsB (T.take k)) a wr)) (fun i _ => L - (intOf i).toNat)
  case atStart => exact ⟨0, Nat.zero_le _, rfl, hid (by simpa [numsB] using PenStep.refl HP1.out)⟩
  case round =>
    obtain ⟨k, hk, rfl, hp⟩ := hrel
    obtain ⟨a3, c3, hp3, ht3, ha3⟩ := hp.out
    rcases Nat.lt_or_ge k L with hlt | hge
    · have hd3 := pen_data ht3 ha3 HR.out
      have hkT : k < T.length := by omega
      obtain ⟨b, o, hA, hbb, hc, hx0, hx1⟩ := u64_at hd3 hkT
      subst hA
      have hst := HNS.out k hkT
      have hfk := HMO.out (k + 1)
      rw [hst, List.length_append] at hfk
      have HSK := hid hst
      have hvk := (varB_len T[k].toNat).1
      have hJ3 := hp3.len
      simp only [List.length_append] at hJ3
      have hV := varint_put wr hp3 T[k].toNat (by omega) (by simp only [List.length_append]; omega) (by simp only [List.length_append]; omega)
      rw [toNat_cast hx0, List.append_assoc J, ← hst] at hV
      have HV3 := hid hV
      have HT3 := hid (And.intro ht3 ha3)
      have i1 : (k : Int) < (L : Int) := by omega
      have d1 : decide ((k : Int) < (L : Int)) = true := decide_eq_true i1
      clear hV hd3 hst hp3 ht3 ha3 hp hfk hvk hJ3
      generalize T[k] = y at *
      go_wp2_with fail
      refine HV3.out.mono ?_
      rintro r w5 ⟨rfl, hst5⟩
      have HN := hid (PenStep.trans (J := J) HT3.out.1 HT3.out.2 hst5)
      clear hst5
      go_wp2
      go_roundw
      case rel => exact ⟨k + 1, by omega, by go_num, HN⟩
      case measure => simp [intOf]; omega
    · obtain rfl : k = L := by omega
      have d1 : decide ((k : Int) < (k : Int)) = false := decide_eq_false (by omega)
      rw [List.take_of_length_le (by omega)] at hp
      have HN := hid (PenStep.later hb1 hp.out)
      clear hp hp3 ht3 ha3
      go_wp2
      first | go_end0 | refine bodyPost_ret (results_none rfl _ _ _) rfl ?_
      exact ⟨rfl, HN.out⟩

set_option maxRecDepth 100000 in
set_option maxHeartbeats 1600000 in
theorem seal_right (s : Seal) (h0 : inU s.epoch) (w : World) : Calls Tryz.prog 86 #[.agg #[.int .u64 s.epoch, .int .u64 s.node, .int .u64 s.tail]] w fun r w' => r = .returned (.bool (sealR s)) ∧ Below w.heap.size w w' := by
  have HE := hid (fun (W : World) => epoch_right s.epoch W)
  have hsr : sealR s = (epR s.epoch && (decide (s.node ≤ 4294967295) && decide (s.tail ≤ 4611686018427387904))) := rfl
  obtain ⟨e, n, t⟩ := s
  dsimp only at *
  generalize epR e = E at *
  have HS := hid hsr
  generalize sealR ⟨e, n, t⟩ = ss at *
  clear hsr h0
  cases E
  · have hf : Hid (ss = false) := hid (by rw [HS.out]; rfl)
    go_enter Tryz.func86, Tryz.ntmps86
    go_wp2_with fail
    refine (HE.out _).mono ?_
    rintro r w1 ⟨rfl, rfl⟩
    go_wp2_with fail
    go_ret
    exact ⟨by rw [hf.out]; rfl, by (repeat (first | exact Below.refl _ _ | assumption | (refine below_alloc ?_ _) | (refine Below.setCell ?_ (by first | omega | (simp; done) | (simp; omega)) _) | (refine Below.drew ?_) | (refine below_drewN ?_ _) | (refine below_then (by assumption) ?_)))⟩
  · by_cases hn : n ≤ 4294967295
    · have hf : Hid (ss = decide (t ≤ 4611686018427387904)) := hid (by rw [HS.out, decide_eq_true hn]; rfl)
      have d1 : decide (n ≤ 4294967295) = true := decide_eq_true hn
      clear hn
      go_enter Tryz.func86, Tryz.ntmps86
      go_wp2_with fail
      refine (HE.out _).mono ?_
      rintro r w1 ⟨rfl, rfl⟩
      go_wp2_with fail
      go_ret
      exact ⟨by rw [hf.out]; rfl, by (repeat (first | exact Below.refl _ _ | assumption | (refine below_alloc ?_ _) | (refine Below.setCell ?_ (by first | omega | (simp; done) | (simp; omega)) _) | (refine Below.drew ?_) | (refine below_drewN ?_ _) | (refine below_then (by assumption) ?_)))⟩
    · have hf : Hid (ss = false) := hid (by rw [HS.out, decide_eq_false hn]; rfl)
      have d1 : decide (n ≤ 4294967295) = false := decide_eq_false hn
      clear hn
      go_enter Tryz.func86, Tryz.ntmps86
      go_wp2_with fail
      refine (HE.out _).mono ?_
      rintro r w1 ⟨rfl, rfl⟩
      go_wp2_with fail
      go_ret
      exact ⟨by rw [hf.out]; rfl, by (repeat (first | exact Below.refl _ _ | assumption | (refine below_alloc ?_ _) | (refine Below.setCell ?_ (by first | omega | (simp; done) | (simp; omega)) _) | (refine Below.drew ?_) | (refine below_drewN ?_ _) | (refine below_then (by assumption) ?_)))⟩

set_option maxRecDepth 100000 in
set_option maxHeartbeats 1600000 in
theorem ref18_right (s : Seal) (h0 : inU s.epoch) (w : World) : Calls Tryz.prog 93 #[.agg #[.int .u64 s.epoch, .int .u64 s.node, .int .u64 s.tail]] w fun r w' => r = .returned (.bool (sealR s)) ∧ Below w.heap.size w w' := by
  have HE := hid (fun (W : World) => ref17_right s.epoch h0.1 W)
  have hsr : sealR s = (epR s.epoch && (decide (s.node ≤ 4294967295) && decide (s.tail ≤ 4611686018427387904))) := rfl
  obtain ⟨e, n, t⟩ := s
  dsimp only at *
  generalize epR e = E at *
  have HS := hid hsr
  generalize sealR ⟨e, n, t⟩ = ss at *
  clear hsr h0
  cases E
  · have hf : Hid (ss = false) := hid (by rw [HS.out]; rfl)
    go_enter Tryz.func93, Tryz.ntmps93
    go_wp2_with fail
    refine (HE.out _).mono ?_
    rintro r w1 ⟨rfl, rfl⟩
    go_wp2_with fail
    go_ret
    exact ⟨by rw [hf.out]; rfl, by (repeat (first | exact Below.refl _ _ | assumption | (refine below_alloc ?_ _) | (refine Below.setCell ?_ (by first | omega | (simp; done) | (simp; omega)) _) | (refine Below.drew ?_) | (refine below_drewN ?_ _) | (refine below_then (by assumption) ?_)))⟩
  · by_cases hn : n ≤ 4294967295
    · have hf : Hid (ss = decide (t ≤ 4611686018427387904)) := hid (by rw [HS.out, decide_eq_true hn]; rfl)
      have d1 : decide (n ≤ 4294967295) = true := decide_eq_true hn
      clear hn
      go_enter Tryz.func93, Tryz.ntmps93
      go_wp2_with fail
      refine (HE.out _).mono ?_
      rintro r w1 ⟨rfl, rfl⟩
      go_wp2_with fail
      go_ret
      exact ⟨by rw [hf.out]; rfl, by (repeat (first | exact Below.refl _ _ | assumption | (refine below_alloc ?_ _) | (refine Below.setCell ?_ (by first | omega | (simp; done) | (simp; omega)) _) | (refine Below.drew ?_) | (refine below_drewN ?_ _) | (refine below_then (by assumption) ?_)))⟩
    · have hf : Hid (ss = false) := hid (by rw [HS.out, decide_eq_false hn]; rfl)
      have d1 : decide (n ≤ 4294967295) = false := decide_eq_false hn
      clear hn
      go_enter Tryz.func93, Tryz.ntmps93
      go_wp2_with fail
      refine (HE.out _).mono ?_
      rintro r w1 ⟨rfl, rfl⟩
      go_wp2_with fail
      go_ret
      exact ⟨by rw [hf.out]; rfl, by (repeat (first | exact Below.refl _ _ | assumption | (refine below_alloc ?_ _) | (refine Below.setCell ?_ (by first | omega | (simp; done) | (simp; omega)) _) | (refine Below.drew ?_) | (refine below_drewN ?_ _) | (refine below_then (by assumption) ?_)))⟩
end Go.Proofs.YtlbffbkbkajciaaGreat
namespace Go.Proofs.YtlbffbkbkajciaaGreat
open Go.RowKit Go.Bs Go.Maps
set_option linter.unusedVariables false
set_option linter.unusedSimpArgs false

theorem lit_u64s {S : Nat → Prop} {w : World} {g : Nat} {t : TypeId} {l : List Int} {cs : Array Value} (hcs : cs = (u64Cells l).toArray) (hS : S g) (hl : l.length ≤ 1000000) (hx : ∀ x ∈ l, inU x) (hb : Blk w g t cs) : rU64s.r S w [.slice (some ⟨g, 0, none⟩) l.length l.length] l := by
  subst hcs
  refine rSl_mk (xs := l) rfl (Nat.le_refl _) (by simp [maxLen]; omega) (.inr ⟨g, 0, rfl, hS, fun i x hi => ⟨[.int .u64 x], rfl, fun j v hj => ?_, rfl, u64_wf (hx x (List.mem_of_getElem? hi))⟩⟩)
  have hj0 : j = 0 := by
    rcases j with _ | j
    · rfl
    · simp at hj
  subst hj0
  simp at hj
  subst hj
  rw [Nat.zero_add, Nat.mul_one, Nat.add_zero]
  rw [hb.cell i]
  simp [u64Cells, hi]
theorem sealB_nums (s : Seal) : sealB s = numsB [s.epoch, s.node, s.tail] := by simp [sealB, numsB]

set_option maxRecDepth 100000 in
set_option maxHeartbeats 3200000 in
theorem seal_put (w : World) {g base most : Nat} {J : List UInt8} {a : Option Addr} {c : Nat} (h : PenAt w g base most J a c) (s : Seal) (h0 : inU s.epoch) (h1 : inU s.node) (h2 : inU s.tail) (hR : sealR s = true)
    (hfit : J.length + (sealB s).length ≤ most) (hln2 : J.length + (sealB s).length ≤ 100000000000000) :
    Calls Tryz.prog 76 #[.pointer (some ⟨g, 0, none⟩), .agg #[.int .u64 s.epoch, .int .u64 s.node, .int .u64 s.tail]] w fun r w' => r = .returned (.tuple #[]) ∧ PenStep w g base most (J ++ sealB s) a w' := by
  have HSR := hid (fun (W : World) => seal_right s h0 W)
  rw [hR] at HSR
  rw [sealB_nums] at hfit hln2 ⊢
  have hlt := h.len
  have HP := hid h
  have hLI : ∀ (W : World) (b : Nat) (hb : Blk W b 22 #[.int .u64 s.epoch, .int .u64 s.node, .int .u64 s.tail]) (S : Nat → Prop) (hS : S b), rU64s.r S W [.slice (some ⟨b, 0, none⟩) 3 3] [s.epoch, s.node, s.tail] := fun W b hb S hS =>
    lit_u64s (l := [s.epoch, s.node, s.tail]) rfl hS (by simp) (by simp [h0, h1, h2]) hb
  have HLI := hid hLI
  have hT3 : [s.epoch, s.node, s.tail].length = 3 := rfl
  generalize hTT : [s.epoch, s.node, s.tail] = T at *
  have HMO := hid (fun k => numsB_take_le T k)
  have HNS := hid (fun (k : Nat) (h : k < T.length) => numsB_step T k h)
  obtain ⟨e, n, t⟩ := s
  dsimp only at *
  clear h hR hLI hTT h0 h1 h2
  go_enter Tryz.func76, Tryz.ntmps76
  go_wp2_with fail
  refine (HSR.out _).mono ?_
  rintro r w1 ⟨rfl, hb1⟩
  have x0 := hb1.cell (p := ⟨w.heap.size, 0, none⟩) (by simp)
  have x1 := hb1.cell (p := ⟨w.heap.size, 1, none⟩) (by simp)
  have x2 := hb1.cell (p := ⟨w.heap.size, 2, none⟩) (by simp)
  simp at x0 x1 x2
  have hbw1 : Hid (Below w.heap.size w w1) := hid (below_then hb1 (by (repeat (first | exact Below.refl _ _ | assumption | (refine below_alloc ?_ _) | (refine Below.setCell ?_ (by first | omega | (simp; done) | (simp; omega)) _) | (refine Below.drew ?_) | (refine below_drewN ?_ _) | (refine below_then (by assumption) ?_)))))
  clear hb1
  go_wp2_with fail
  have HB2 := hid (hbw1.out.alloc hbw1.out.size (.cells #[.int .u64 e, .int .u64 n, .int .u64 t] 22))
  have HBL : Hid (Blk (w1.alloc (.cells #[.int .u64 e, .int .u64 n, .int .u64 t] 22)) w1.heap.size 22 #[.int .u64 e, .int .u64 n, .int .u64 t]) := hid (Blk.new _ _ _)
  have hs2 : w1.heap.size < (w1.alloc (.cells #[.int .u64 e, .int .u64 n, .int .u64 t] 22)).heap.size := by simp
  generalize w1.alloc (.cells #[.int .u64 e, .int .u64 n, .int .u64 t] 22) = w2 at *
  have hsw := hbw1.out.size
  have HR := hid (HLI.out w2 w1.heap.size HBL.out (fun q => q < w2.heap.size ∧ ¬ PenF g a q) ⟨hs2, fun hf => by have := (HP.out.own_lt hf).2; omega⟩)
  have HP1 := hid (HP.out.later HB2.out)
  have HLW := hid HB2.out
  clear x0 x1 x2
  go_loopw [19] (fun i wr => ∃ k : Nat, k ≤ 3 ∧ i = .int .i64 k ∧ Hid (PenStep w2 g base most (J ++ numsB (T.take k)) a wr)) (fun i _ => 3 - (intOf i).toNat)
  case atStart => exact ⟨0, Nat.zero_le _, rfl, hid (by simpa [numsB] using PenStep.refl HP1.out)⟩
  case round =>
    obtain ⟨k, hk, rfl, hp⟩ := hrel
    obtain ⟨a3, c3, hp3, ht3, ha3⟩ := hp.out
    rcases Nat.lt_or_ge k 3 with hlt | hge
    · have hd3 := pen_data ht3 ha3 HR.out
      have hkT : k < T.length := by omega
      rw [show (3 : Nat) = T.length from hT3.symm] at hd3
      obtain ⟨b, o, hA, hbb, hc, hx0, hx1⟩ := u64_at hd3 hkT
      simp only [Option.some.injEq, Addr.mk.injEq, and_true] at hA
      obtain ⟨hA1, hA2⟩ := hA
      subst hA1 hA2
      have hst := HNS.out k hkT
      have hfk := HMO.out (k + 1)
      rw [hst, List.length_append] at hfk
      have HSK := hid hst
      have hvk := (varB_len T[k].toNat).1
      have hJ3 := hp3.len
      simp only [List.length_append] at hJ3
      have hV := varint_put wr hp3 T[k].toNat (by omega) (by simp only [List.length_append]; omega) (by simp only [List.length_append]; omega)
      rw [toNat_cast hx0, List.append_assoc J, ← hst] at hV
      have HV3 := hid hV
      have HT3 := hid (And.intro ht3 ha3)
      have i1 : (k : Int) < 3 := by omega
      have d1 : decide ((k : Int) < 3) = true := decide_eq_true i1
      clear hV hd3 hst hp3 ht3 ha3 hp hfk hvk hJ3
      generalize T[k] = y at *
      simp only [Nat.zero_add] at hc
      go_wp2_with fail
      refine HV3.out.mono ?_
      rintro r w5 ⟨rfl, hst5⟩
      have HN := hid (PenStep.trans (J := J) HT3.out.1 HT3.out.2 hst5)
      clear hst5
      go_wp2
      go_roundw
      case rel => exact ⟨k + 1, by omega, by go_num, HN⟩
      case measure => (simp [intOf]; try omega)
    · obtain rfl : k = 3 := by omega
      rw [List.take_of_length_le (by omega)] at hp
      have HN := hid (PenStep.later HLW.out hp.out)
      clear hp hp3 ht3 ha3
      go_wp2
      first | go_end0 | refine bodyPost_ret (results_none rfl _ _ _) rfl ?_
      exact ⟨rfl, HN.out⟩
end Go.Proofs.YtlbffbkbkajciaaGreat
namespace Go.Proofs.YtlbffbkbkajciaaGreat
open Go.RowKit Go.Bs Go.Maps
set_option linter.unusedVariables false
set_option linter.unusedSimpArgs false

theorem ownB_low {w : World} {b b' : Nat} {v : Value} {L : List UInt8} (h : OwnB w b v L) (hb : b' ≤ b) : OwnB w b' v L := by
  obtain ⟨h1, h2⟩ := h
  refine ⟨h1, ?_⟩
  rcases h2 with h2 | ⟨g, cap, cur, e1, e2, e3⟩
  · exact .inl h2
  · exact .inr ⟨g, cap, cur, e1, Nat.le_trans hb e2, e3⟩

set_option maxRecDepth 100000 in
set_option maxHeartbeats 3200000 in
theorem ref18_bytes (w : World) (s : Seal) (h0 : inU s.epoch) (h1 : inU s.node) (h2 : inU s.tail) :
    Calls Tryz.prog 108 #[.agg #[.int .u64 s.epoch, .int .u64 s.node, .int .u64 s.tail]] w fun r w' => ∃ v, r = .returned v ∧ OwnB w' w.heap.size v (sealB s) ∧ Below w.heap.size w w' := by
  obtain ⟨i0, hi, hz0, hz1, hz2⟩ := info_parts info8
  have HV : ∀ x : Int, inU x → ∀ W : World, Calls Tryz.prog 104 #[.int .u64 x] W fun r w' => ∃ v, r = .returned v ∧ w'.ownsRow W.heap.size 5 1 v (varB x.toNat).length (byteCells (varB x.toNat)) ∧ Below W.heap.size W w' := fun x hx W => by
    have := ref04_own x.toNat (by have := hx.2; omega) W; rw [toNat_cast hx.1] at this; exact this
  have HE := hid (HV s.epoch h0)
  have HN := hid (HV s.node h1)
  have HT := hid (HV s.tail h2)
  have le := (varB_len s.epoch.toNat).1
  have ln := (varB_len s.node.toNat).1
  have lt := (varB_len s.tail.toNat).1
  unfold sealB
  generalize varB s.epoch.toNat = E at *
  generalize varB s.node.toNat = N at *
  generalize varB s.tail.toNat = T at *
  have HOE := hid (byteCells_one E)
  have HON := hid (byteCells_one N)
  have HOT := hid (byteCells_one T)
  obtain ⟨e, n, t⟩ := s
  dsimp only at *
  clear HV h0 h1 h2
  go_enter Tryz.func108, Tryz.ntmps108
  go_wp2_with fail
  refine (HE.out _).mono ?_
  rintro r w1 ⟨v1, rfl, hv1, hb1⟩
  obtain ⟨a1, c1, rfl⟩ := own_form hv1
  have x1 := hb1.cell (p := ⟨w.heap.size, 1, none⟩) (by simp)
  have x2 := hb1.cell (p := ⟨w.heap.size, 2, none⟩) (by simp)
  simp at x1 x2
  have hz1' : w.heap.size < w1.heap.size := by have := hb1.size; simp at this; omega
  have hO1 : OwnB w1 w.heap.size (.slice a1 E.length c1) E := ownB_low hv1 (by simp)
  have hO1b := hv1
  have HO1 := hid hv1
  have hbw1 : Hid (Below w.heap.size w w1) := hid (below_then hb1 (by (repeat (first | exact Below.refl _ _ | assumption | (refine below_alloc ?_ _) | (refine Below.setCell ?_ (by first | omega | (simp; done) | (simp; omega)) _) | (refine Below.drew ?_) | (refine below_drewN ?_ _) | (refine below_then (by assumption) ?_)))))
  clear hv1 hO1 hO1b hb1
  go_wp2_with fail
  refine (HN.out _).mono ?_
  rintro r w2 ⟨v2, rfl, hv2, hb2⟩
  obtain ⟨a2, c2, rfl⟩ := own_form hv2
  have HS2 := hid (src_bytes (own_bytes rfl hv2))
  have HO2 := hid (own_below HO1.out hb2)
  have y2 := (hb2.cell (p := ⟨w.heap.size, 2, none⟩) hz1').trans x2
  have hz2' := hb2.size
  have hbw2 := hid (below_then hb2 hbw1.out)
  clear hv2 hb2 x1 x2
  go_wp2_with (at_builtin; go_loud (refine wpList_append_src rfl _ _ _ rfl (w.heap.size + 1) 5 i0 (.int .u8 0) 1 1 Tryz.underlying25 hi hz0 hz1 hz2 rfl (by decide) (.slice a1 E.length c1) E.length (byteCells E) rfl (by simpa using HO2.out) a2 N.length c2 (byteCells N) rfl HS2.out HON.out (by simp only [maxLen]; omega) (by omega) (by omega) ?_; intro v' w3 hown3 hgrow3 hat3; obtain ⟨a3, c3, rfl⟩ := own_form hown3; have HO3 := hid hown3; have HGR3 := hid hgrow3; have HA3 := hid hat3; have hb23 : Below (w.heap.size + 1) w2 w3 := Below.grown (Below.refl _ _) HGR3.out (by omega) (fun g e => (by have := (HO2.out.lt g e).1; simpa using this)); have z2 := (hb23.cell (p := ⟨w.heap.size, 2, none⟩) (by simp)).trans y2; clear hown3 hgrow3 hat3))
  have o3 := OwnB.app HO3.out
  have HP3 := hid o3
  have hz3' := hb23.size
  have hbw3 := hid (hbw2.out.trans (hb23.mono (by omega)))
  clear o3 hb23 y2
  go_wp2_with fail
  refine (HT.out _).mono ?_
  rintro r w4 ⟨v4, rfl, hv4, hb4⟩
  obtain ⟨a4, c4, rfl⟩ := own_form hv4
  have HS4 := hid (src_bytes (own_bytes rfl hv4))
  have HO4 := hid (own_below HP3.out hb4)
  have hbw4 := hid (below_then hb4 hbw3.out)
  have hz4' := hb4.size
  clear hv4 hb4 z2
  have hl3 : (E ++ N).length = E.length + N.length := by rw [List.length_append]
  have HO4' : Hid (w4.ownsRow (w.heap.size + 1) 5 1 (.slice a3 (E.length + N.length) c3) (E.length + N.length) (byteCells (E ++ N))) := hid (by have h := HO4.out; unfold OwnB at h; rw [hl3] at h; exact h)
  clear HO4
  go_wp2_with (at_builtin; go_loud (refine wpList_append_src rfl _ _ _ rfl (w.heap.size + 1) 5 i0 (.int .u8 0) 1 1 Tryz.underlying25 hi hz0 hz1 hz2 rfl (by decide) (.slice a3 (E.length + N.length) c3) (E.length + N.length) (byteCells (E ++ N)) rfl HO4'.out a4 T.length c4 (byteCells T) rfl HS4.out HOT.out (by simp only [maxLen]; omega) (by omega) (by omega) ?_; intro v' w5 hown5 hgrow5 hat5; obtain ⟨a5, c5, rfl⟩ := own_form hown5; have HO5 := hid hown5; have HGR5 := hid hgrow5; have HA5 := hid hat5; clear hown5 hgrow5 hat5))
  have o5 : OwnB w5 (w.heap.size + 1) (.slice a5 (E.length + N.length + T.length) c5) (E ++ N ++ T) := by
    unfold OwnB
    have h := HO5.out
    rw [byteCells_app3] at h
    rw [List.length_append, List.length_append]
    exact h
  have hb45 : Below (w.heap.size + 1) w4 w5 := Below.grown (Below.refl _ _) HGR5.out (by omega) (fun g e => (HO4'.out.lt g e).1)
  have HF := hid (ownB_low o5 (show w.heap.size ≤ w.heap.size + 1 by omega))
  have HB := hid (hbw4.out.trans (hb45.mono (by omega)))
  clear o5 hb45
  go_wp2_with fail
  go_ret
  exact ⟨_, rfl, HF.out, HB.out⟩
end Go.Proofs.YtlbffbkbkajciaaGreat
