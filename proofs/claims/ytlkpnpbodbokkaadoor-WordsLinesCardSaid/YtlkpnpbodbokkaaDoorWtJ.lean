/- words.ReadList, the fixed calls of the words' laws, WordsTells (written by gen_wtj.py). -/
import Derived.Test.YtlkpnpbodbokkaaDoorProg
import Derived.WalkKit
import Derived.Deep.Cut
import Derived.BigQuiet
import Derived.Test.YtlkpnpbodbokkaaDoorWtD
import Derived.Test.YtlkpnpbodbokkaaDoorWtI
namespace Go.Bs
open Go.RowKit
set_option linter.unusedVariables false
theorem nums_len (A : List (List UInt8)) (o : List Nat) (h : nums A = some o) : o.length = A.length := by
  have := (map_nums A o h).1
  rw [this, List.length_map]
def BytesAt (w : World) (v : Value) (l : List UInt8) : Prop := ∃ a c, v = .slice a l.length c ∧ (l = [] ∨ ∃ b o, a = some ⟨b, o, none⟩ ∧ b < w.heap.size ∧ ∀ i, i < l.length → w.cell? ⟨b, o + i, none⟩ = some (.int .u8 (((l.getD i 0).toNat : Nat) : Int)))
theorem BytesAt.below {w w' : World} {v : Value} {l : List UInt8} (h : BytesAt w v l) (hb : Below w.heap.size w w') : BytesAt w' v l := by
  obtain ⟨a, c, h1, h2⟩ := h
  refine ⟨a, c, h1, h2.imp id fun ⟨b, o, e, hlt, hc⟩ => ⟨b, o, e, Nat.lt_of_lt_of_le hlt hb.size, fun i hi => (hb.cell (p := ⟨b, o + i, none⟩) hlt).trans (hc i hi)⟩⟩
theorem bytes_at {S : Nat → Prop} {w : World} {v : Value} {l : List UInt8} (h : rBytes.r S w [v] l) (hS : ∀ b, S b → b < w.heap.size) : BytesAt w v l := by
  obtain ⟨a, c, hv, h1, h2, h3⟩ := h
  have hk : rBytes.r S w [.slice a l.length c] l := ⟨a, c, rfl, h1, h2, h3⟩
  simp at hv
  subst hv
  refine ⟨a, c, rfl, ?_⟩
  rcases l with _ | ⟨x, l⟩
  · exact .inl rfl
  · right
    obtain ⟨b, o, e, hb, _⟩ := byte_at hk (i := 0) (by simp)
    subst e
    refine ⟨b, o, rfl, hS b hb, fun i hi => ?_⟩
    obtain ⟨b', o', e', _, hc⟩ := byte_at hk (i := i) hi
    simp at e'
    obtain ⟨rfl, rfl⟩ := e'
    rw [List.getD_eq_getElem?_getD, List.getElem?_eq_getElem hi]
    simpa using hc
end Go.Bs
namespace Go.Proofs.YtlkpnpbodbokkaaDoor
open Go.RowKit Go.Bs
set_option linter.unusedVariables false
set_option linter.unusedSimpArgs false

theorem hex_any (v : Value) (l : List UInt8) (hn : l.length ≤ 100000) (w : World) (h : BytesAt w v l) : Calls Tryd.prog 25 #[v] w fun r w' => r = .returned (.string ⟨(hexW l).toArray⟩) ∧ Below w.heap.size w w' := by
  obtain ⟨a, c, rfl, h⟩ := h
  rcases h with rfl | ⟨b, o, rfl, _, hc⟩
  · exact words_hex0 a c w
  · by_cases hl : l = []
    · subst hl; exact words_hex0 _ c w
    · exact words_hex l hn b o c w hc (List.length_pos_iff.2 hl)
theorem rhex_any (v : Value) (l : List UInt8) (hn : l.length ≤ 100000) (w : World) (h : BytesAt w v l) : Calls Tryd.prog 22 #[v] w fun r w' => r = .returned (.string ⟨(hexW l).toArray⟩) ∧ Below w.heap.size w w' := by
  obtain ⟨a, c, rfl, h⟩ := h
  rcases h with rfl | ⟨b, o, rfl, _, hc⟩
  · exact ref10_hex0 a c w
  · by_cases hl : l = []
    · subst hl; exact ref10_hex0 _ c w
    · exact ref10_hex l hn b o c w hc (List.length_pos_iff.2 hl)
theorem list_any (v : Value) (l : List Nat) (hl : ∀ i, l.getD i 0 < 18446744073709551616) (hn : l.length ≤ 100000) (w : World) (h : NatsAt w v l) (E : Env w) : Calls Tryd.prog 26 #[v] w fun r w' => r = .returned (.string ⟨(listW l).toArray⟩) ∧ Below w.heap.size w w' := by
  obtain ⟨a, c, rfl, h⟩ := h
  rcases h with rfl | ⟨b, o, rfl, _, hc⟩
  · exact words_list0 a c w
  · by_cases hn0 : l = []
    · subst hn0; exact words_list0 _ c w
    · exact words_list l hl hn b o c w hc (List.length_pos_iff.2 hn0) E
theorem rlist_any (v : Value) (l : List Nat) (hl : ∀ i, l.getD i 0 < 18446744073709551616) (hn : l.length ≤ 100000) (w : World) (h : NatsAt w v l) : Calls Tryd.prog 23 #[v] w fun r w' => r = .returned (.string ⟨(listW l).toArray⟩) ∧ Below w.heap.size w w' := by
  obtain ⟨a, c, rfl, h⟩ := h
  rcases h with rfl | ⟨b, o, rfl, _, hc⟩
  · exact ref10_list0 a c w
  · by_cases hn0 : l = []
    · subst hn0; exact ref10_list0 _ c w
    · exact ref10_list l hl hn b o c w hc (List.length_pos_iff.2 hn0)

def RlRet (s : List UInt8) (r : Ending) (w' : World) : Prop := (∃ (o : List Nat) (v : Value), lstOf s = some o ∧ r = .returned (.tuple #[v, .bool true]) ∧ NatsAt w' v o) ∨ (lstOf s = none ∧ r = .returned (.tuple #[.slice none 0 0, .bool false]))

set_option maxRecDepth 100000 in
set_option maxHeartbeats 3200000 in
theorem words_readlist (s : ByteArray) (hs : s.size ≤ 100000) (w : World) (E : Env w) : Calls Tryd.prog 19 #[.string s] w fun r w' => RlRet s.data.toList r w' ∧ Below w.heap.size w w' := by
  by_cases h45 : s.data.toList = [45]
  · have hd : (s.toList == [45]) = true := by rw [data_str]; exact beq_iff_eq.2 h45
    have HR : Hid (RlRet s.data.toList (.returned (.tuple #[.slice none 0 0, .bool true])) w) := hid (.inl ⟨[], _, by unfold lstOf; rw [if_pos h45], rfl, ⟨none, 0, rfl, .inl rfl⟩⟩)
    clear h45
    go_enter Tryd.func19, Tryd.ntmps19
    go_wp2_with fail
    go_ret2
    exact ⟨HR.out, Below.refl _ _⟩
  · have hd : (s.toList == [45]) = false := by rw [data_str]; exact beq_eq_false_iff_ne.2 h45
    obtain ⟨i0, hi, hz0, hz1, hz2⟩ := info_parts wInfoU
    obtain ⟨m, hm⟩ := E.mx
    have HE := hid E
    have HSp := hid (Tryd.strings_Split s ⟨#[44]⟩ m w (by omega) hm (by decide))
    have HLs : Hid (lstOf s.data.toList = nums (spl 44 s.data.toList)) := hid (by unfold lstOf; rw [if_neg h45])
    have hP1 := splitB_spl 44 s
    have hP2 : (Lib.splitB ⟨#[44]⟩ 0 (Lib.countB s ⟨#[44]⟩) s).length = Lib.countB s ⟨#[44]⟩ + 1 := Lib.splitB_all ⟨#[44]⟩ (by decide) 0 _ s rfl
    have hcnt : Lib.countB s ⟨#[44]⟩ ≤ s.size := Lib.countB_le ⟨#[44]⟩ (by decide) _ s (Nat.le_refl _)
    generalize Lib.countB s ⟨#[44]⟩ = cnt at *
    generalize Lib.splitB ⟨#[44]⟩ 0 cnt s = P at *
    have hlen : ∀ (k : Nat) (x : ByteArray), P[k]? = some x → x.size ≤ 100000 := fun k x hk => by
      have h1 := spl_len 44 s.data.toList x.data.toList (by rw [← hP1]; exact List.mem_map_of_mem (List.mem_of_getElem? hk))
      rw [str_len, str_len] at h1
      omega
    have HP1 := hid hP1
    have HLen := hid hlen
    obtain ⟨n, hn⟩ : ∃ n, n = cnt + 1 := ⟨_, rfl⟩
    rw [← hn] at HSp hP2
    have en : ((cnt : Int) + 1) = (n : Int) := by omega
    have hn1 : n ≤ 100001 := by omega
    have HP2 := hid hP2
    clear E h45 hP1 hlen hP2 hm hn
    go_enter Tryd.func19, Tryd.ntmps19
    go_wp2_with fail
    refine HSp.out.mono ?_
    rintro r W ⟨rfl, hW⟩
    have hblk : Blk W w.heap.size 9 (P.map Value.string).toArray := by rw [hW]; exact Blk.new w _ _
    have hbW : Below w.heap.size w W := by rw [hW]; (repeat (first | exact Below.refl _ _ | assumption | (refine below_alloc ?_ _) | (refine Below.setCell ?_ (by first | omega | (simp; done) | (simp; omega)) _) | (refine Below.drew ?_) | (refine below_drewN ?_ _) | (refine below_then (by assumption) ?_)))
    have HBlk := hid hblk
    have HBW := hid hbW
    clear hblk hbW hW
    go_wp2_with fail
    go_loopw [4, 14] (fun v i wr => ∃ (k : Nat) (o : List Nat), k ≤ n ∧ i = .int .i64 k ∧ nums ((P.take k).map (·.data.toList)) = some o ∧ wr.ownsRow W.heap.size 34 1 v k (natCells o) ∧ Below W.heap.size W wr) (fun _ i _ => n - (intOf i).toNat)
    case atStart => exact ⟨0, [], by omega, rfl, rfl, ⟨by simp [natCells], .inl ⟨rfl, rfl⟩⟩, Below.refl _ _⟩
    case round =>
      obtain ⟨k, o, hk, rfl, ho, hown, hb⟩ := hrel
      by_cases hlt : k < n
      · have i1 : (k : Int) < (n : Int) := by omega
        have hPk : k < P.length := by rw [HP2.out]; exact hlt
        have hx : P[k]? = some P[k] := List.getElem?_eq_getElem hPk
        have hx' : wr.cell? ⟨w.heap.size, k, none⟩ = some (.string P[k]) := by
          rw [(HBlk.out.later hb).cell]; simp [hx]
        have HNk := hid (words_readnum P[k] (HLen.out k _ hx) wr ((HE.out.below HBW.out).below hb))
        have hst : Hid ((P.take (k + 1)).map (·.data.toList) = (P.take k).map (·.data.toList) ++ [P[k].data.toList]) := hid (by
          rw [List.take_add_one, hx, List.map_append]; rfl)
        have hall : Hid (spl 44 s.data.toList = (P.take k).map (·.data.toList) ++ P[k].data.toList :: (P.drop (k + 1)).map (·.data.toList)) := hid (by
          rw [← HP1.out]
          conv => lhs; rw [← List.take_append_drop k P, List.map_append, List.drop_eq_getElem_cons hPk, List.map_cons])
        have hol := nums_len _ _ ho
        rw [List.length_map, List.length_take, Nat.min_eq_left (by omega)] at hol
        have HO := hid hown
        have HB := hid hb
        have HNo := hid ho
        have HOL := hid hol
        obtain ⟨a5, c5, rfl⟩ := own_form hown
        clear hx hown hb ho hol
        generalize P[k] = x at *
        go_wp2_with fail
        refine HNk.out.mono ?_
        rintro r w1 ⟨hr, hb1⟩
        have HB1 := hid hb1
        have hbz := HB.out.size
        have hbz1 := hb1.size
        clear hb1
        rcases hr with ⟨u, hu, hu1, rfl⟩ | ⟨hu, rfl⟩
        · have HU := hid hu
          clear hu
          go_wp2_with (at_builtin; go_loud (refine wpList_append_src rfl _ _ _ rfl W.heap.size 34 i0 (.int .u64 0) 1 8 Tryd.underlying40 hi hz0 hz1 hz2 rfl (by decide) (.slice a5 k c5) k (natCells o) rfl (own_below (own_below HO.out HB1.out) (by (repeat (first | exact Below.refl _ _ | assumption | (refine below_alloc ?_ _) | (refine Below.setCell ?_ (by first | omega | (simp; done) | (simp; omega)) _) | (refine Below.drew ?_) | (refine below_drewN ?_ _) | (refine below_then (by assumption) ?_))))) _ 1 1 [.int .u64 (u : Int)] rfl (src_row (by (repeat (first | assumption | exact Blk.newAt _ _ _ (by first | (simp; done) | (simp; omega)) | refine Blk.alloc ?_ _ | refine Blk.drew ?_ | refine Blk.drewN ?_ _ | refine Blk.far ?_ (by first | (simp; done) | (simp; omega)) _)))) (by simp [Value.oneCell']) (by simp only [maxLen]; omega) (by omega) (by first | omega | (simp; done) | (simp; omega)) ?_; intro v6 w6 hown6 hgrow6 hat6; have hb6 : Below W.heap.size W w6 := (Below.grown (by have := HB.out.trans (HB1.out.mono HB.out.size); (repeat (first | exact Below.refl _ _ | assumption | (refine below_alloc ?_ _) | (refine Below.setCell ?_ (by first | omega | (simp; done) | (simp; omega)) _) | (refine Below.drew ?_) | (refine below_drewN ?_ _) | (refine below_then (by assumption) ?_)))) hgrow6 (by first | omega | (simp; done) | (simp; omega)) (fun g e => (HO.out.lt g e).1)); have HO6 := hid hown6; obtain ⟨a6, c6, rfl⟩ := own_form hown6; clear hown6 hgrow6 hat6))
          go_wp2_with fail
          go_roundw
          case rel => exact ⟨k + 1, o ++ [u], by omega, by go_num, (by rw [hst.out]; exact nums_snoc _ _ _ _ HNo.out HU.out), (by simpa [natCells] using HO6.out), hb6⟩
          case measure => simp [intOf]; omega
        · have HR : Hid (RlRet s.data.toList (.returned (.tuple #[.slice none 0 0, .bool false])) w1) := hid (.inr ⟨by rw [HLs.out, hall.out]; exact nums_none _ _ _ hu, rfl⟩)
          have HBf := hid (HBW.out.trans ((HB.out.trans (HB1.out.mono HB.out.size)).mono HBW.out.size))
          clear hu
          go_wp2_with fail
          go_ret2
          exact ⟨HR.out, HBf.out⟩
      · obtain rfl : k = n := by omega
        rw [List.take_of_length_le (by rw [HP2.out]; exact Nat.le_refl _), HP1.out] at ho
        have hol := nums_len _ _ ho
        rw [← HP1.out, List.length_map, HP2.out] at hol
        have HNa := hid (own_nats hol.symm hown)
        obtain ⟨a5, c5, rfl⟩ := own_form hown
        have HR : Hid (RlRet s.data.toList (.returned (.tuple #[.slice a5 k c5, .bool true])) wr) := hid (.inl ⟨o, _, by rw [HLs.out]; exact ho, rfl, HNa.out⟩)
        have HBf := hid (HBW.out.trans (hb.mono HBW.out.size))
        clear hol hown ho hb
        go_wp2_with fail
        go_ret2
        exact ⟨HR.out, HBf.out⟩

theorem unL_live : unL [48, 65, 66] = none := by decide
theorem lst_live : lstOf [49, 44, 44, 50] = none := by
  have e1 : numOf [49] = some 1 := by
    have h := numOf_dec 1 (by decide)
    rw [Lib.decDigits_one (by decide)] at h
    exact h
  have e2 : numOf [] = none := by decide
  have e3 : spl 44 [49, 44, 44, 50] = [[49], [], [50]] := by decide
  unfold lstOf
  rw [if_neg (by decide), e3]
  simp only [nums, e1, e2]
  rfl

set_option maxRecDepth 100000 in
set_option maxHeartbeats 3200000 in
theorem live10 (w : World) (E : Env w) : Calls Tryd.prog 16 #[] w fun r w' => r = .returned (.bool true) ∧ Below w.heap.size w w' := by
  have HU := hid (words_unhex ⟨#[48, 65, 66]⟩ (by decide) w)
  have HL := hid (words_readlist ⟨#[49, 44, 44, 50]⟩ (by decide))
  have HH := hid hex_any
  have HE := hid E
  have hx : hexW [0, 171] = [48, 48, 97, 98] := by decide
  clear E
  go_enter Tryd.func16, Tryd.ntmps16
  go_wp2_with fail
  refine HU.out.mono ?_
  rintro r w1 ⟨hr, hb1⟩
  have HB1 := hid hb1
  have hr' : r = .returned (.tuple #[.slice none 0 0, .bool false]) := by
    rcases hr with ⟨b, v, h, _⟩ | ⟨_, h⟩
    · rw [unL_live] at h; cases h
    · exact h
  subst hr'
  clear hr hb1
  go_wp2_with fail
  refine (HL.out w1 (HE.out.below HB1.out)).mono ?_
  rintro r w2 ⟨hr, hb2⟩
  have HB2 := hid (HB1.out.trans (hb2.mono HB1.out.size))
  have hr' : r = .returned (.tuple #[.slice none 0 0, .bool false]) := by
    rcases hr with ⟨b, v, h, _⟩ | ⟨_, h⟩
    · rw [lst_live] at h; cases h
    · exact h
  subst hr'
  clear hr hb2
  have hB0 := HB2.out.size
  go_wp2_with fail
  have hat : BytesAt (w2.alloc (.cells #[.int .u8 0, .int .u8 171] 5)) (.slice (some ⟨w2.heap.size, 0, none⟩) 2 2) [0, 171] := ⟨_, 2, rfl, .inr ⟨w2.heap.size, 0, rfl, by simp, fun i hi => by
    rw [(Blk.new w2 5 #[.int .u8 0, .int .u8 171]).cell]
    have hi2 : i < 2 := hi
    obtain rfl | rfl : i = 0 ∨ i = 1 := by omega
    · rfl
    · rfl⟩⟩
  refine (HH.out _ [0, 171] (by decide) _ hat).mono ?_
  rintro r w3 ⟨rfl, hb3⟩
  have HB3 := hid ((HB2.out.alloc HB2.out.size (.cells #[.int .u8 0, .int .u8 171] 5)).trans (hb3.mono (by simp; omega)))
  rw [hx]
  go_wp2_with fail
  go_ret
  exact ⟨rfl, HB3.out⟩

set_option maxRecDepth 100000 in
set_option maxHeartbeats 3200000 in
theorem wordsTells_c (x : Nat) (hx : x < 18446744073709551616) (b : List UInt8) (l : List Nat) (hl : ∀ i, l.getD i 0 < 18446744073709551616) (v1 v2 : Value) (w : World) (h1 : BytesAt w v1 b) (h2 : NatsAt w v2 l) (E : Env w) :
    Calls Tryd.prog 6 #[.int .u64 (x : Int), v1, v2] w fun r w' => r = .returned (.bool true) ∧ Below w.heap.size w w' := by
  have HLv := hid live10
  have HE := hid E
  have H1 := hid h1
  have H2 := hid h2
  by_cases hg : b.length ≤ 300 ∧ l.length ≤ 200
  · have d1 : decide ((300 : Int) < (b.length : Int)) = false := decide_eq_false (by omega)
    have d2 : decide ((200 : Int) < (l.length : Int)) = false := decide_eq_false (by omega)
    have HN := hid (num_c x hx w E.tab)
    have HRN := hid (ref10_num x hx)
    have HX := hid (hex_any v1 b (by omega))
    have HRX := hid (rhex_any v1 b (by omega))
    have HL := hid (list_any v2 l hl (by omega))
    have HRL := hid (rlist_any v2 l hl (by omega))
    unfold NumSpec at HRN
    obtain ⟨a1, c1, rfl, _⟩ := h1
    obtain ⟨a2, c2, rfl, _⟩ := h2
    clear hg E hl
    generalize Lib.decDigits x = D at *
    generalize hexW b = HX1 at *
    generalize listW l = L1 at *
    go_enter Tryd.func6, Tryd.ntmps6
    go_wp2_with fail
    refine HN.out.mono ?_
    rintro r w1 ⟨rfl, hb1⟩
    have HB1 := hid hb1
    go_wp2_with fail
    refine (HRN.out w1).mono ?_
    rintro r w2 ⟨rfl, hb2⟩
    have HB2 := hid (HB1.out.trans (hb2.mono HB1.out.size))
    go_wp2_with fail
    refine (HX.out w2 (H1.out.below HB2.out)).mono ?_
    rintro r w3 ⟨rfl, hb3⟩
    have HB3 := hid (HB2.out.trans (hb3.mono HB2.out.size))
    go_wp2_with fail
    refine (HRX.out w3 (H1.out.below HB3.out)).mono ?_
    rintro r w4 ⟨rfl, hb4⟩
    have HB4 := hid (HB3.out.trans (hb4.mono HB3.out.size))
    go_wp2_with fail
    refine (HL.out w4 (H2.out.below HB4.out) (HE.out.below HB4.out)).mono ?_
    rintro r w5 ⟨rfl, hb5⟩
    have HB5 := hid (HB4.out.trans (hb5.mono HB4.out.size))
    go_wp2_with fail
    refine (HRL.out w5 (H2.out.below HB5.out)).mono ?_
    rintro r w6 ⟨rfl, hb6⟩
    have HB6 := hid (HB5.out.trans (hb6.mono HB5.out.size))
    go_wp2_with fail
    refine (HLv.out w6 (HE.out.below HB6.out)).mono ?_
    rintro r w7 ⟨rfl, hb7⟩
    have HB7 := hid (HB6.out.trans (hb7.mono HB6.out.size))
    go_wp2_with fail
    go_ret
    exact ⟨rfl, HB7.out⟩
  · obtain ⟨a1, c1, rfl, _⟩ := h1
    obtain ⟨a2, c2, rfl, _⟩ := h2
    by_cases hb : b.length ≤ 300
    · have d1 : decide ((300 : Int) < (b.length : Int)) = false := decide_eq_false (by omega)
      have d2 : decide ((200 : Int) < (l.length : Int)) = true := decide_eq_true (by omega)
      clear hg
      go_enter Tryd.func6, Tryd.ntmps6
      go_wp2_with fail
      refine (HLv.out w HE.out).mono ?_
      rintro r w7 ⟨rfl, hb7⟩
      go_wp2_with fail
      go_ret
      exact ⟨rfl, hb7⟩
    · have d1 : decide ((300 : Int) < (b.length : Int)) = true := decide_eq_true (by omega)
      clear hg
      go_enter Tryd.func6, Tryd.ntmps6
      go_wp2_with fail
      refine (HLv.out w HE.out).mono ?_
      rintro r w7 ⟨rfl, hb7⟩
      go_wp2_with fail
      go_ret
      exact ⟨rfl, hb7⟩
end Go.Proofs.YtlkpnpbodbokkaaDoor
