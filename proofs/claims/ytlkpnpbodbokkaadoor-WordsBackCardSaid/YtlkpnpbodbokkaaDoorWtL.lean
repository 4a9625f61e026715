/- words.ReadInt, WordsReads (written by gen_wtl.py). -/
import Derived.Test.YtlkpnpbodbokkaaDoorProg
import Derived.WalkKit
import Derived.Deep.Cut
import Derived.BigQuiet
import Derived.Test.YtlkpnpbodbokkaaDoorWtJ
namespace Go.Proofs.YtlkpnpbodbokkaaDoor
open Go.RowKit Go.Bs
set_option linter.unusedVariables false
set_option linter.unusedSimpArgs false

theorem rn_yes (s : ByteArray) (hs : s.size ≤ 100000) (u : Nat) (h : numOf s.data.toList = some u) (w : World) (E : Env w) : Calls Tryd.prog 17 #[.string s] w fun r w' => r = .returned (.tuple #[.int .u64 (u : Int), .bool true]) ∧ Below w.heap.size w w' :=
  (words_readnum s hs w E).mono fun r w' ⟨hr, hb⟩ => ⟨(by
    rcases hr with ⟨v, hv, _, e⟩ | ⟨hv, _⟩
    · rw [h] at hv; injection hv with hv; subst hv; exact e
    · rw [h] at hv; cases hv), hb⟩
theorem rn_no (s : ByteArray) (hs : s.size ≤ 100000) (h : numOf s.data.toList = none) (w : World) (E : Env w) : Calls Tryd.prog 17 #[.string s] w fun r w' => r = .returned (.tuple #[.int .u64 0, .bool false]) ∧ Below w.heap.size w w' :=
  (words_readnum s hs w E).mono fun r w' ⟨hr, hb⟩ => ⟨(by
    rcases hr with ⟨v, hv, _, e⟩ | ⟨_, e⟩
    · rw [h] at hv; cases hv
    · exact e), hb⟩
theorem un_yes (s : ByteArray) (hs : s.size ≤ 1000) (b : List UInt8) (h : unL s.data.toList = some b) (w : World) : Calls Tryd.prog 18 #[.string s] w fun r w' => (∃ v, r = .returned (.tuple #[v, .bool true]) ∧ BytesAt w' v b) ∧ Below w.heap.size w w' :=
  (words_unhex s hs w).mono fun r w' ⟨hr, hb⟩ => ⟨(by
    rcases hr with ⟨b', v, hv, e, hr⟩ | ⟨hv, _⟩
    · rw [h] at hv; injection hv with hv; subst hv; exact ⟨v, e, bytes_at hr fun q hq => hq.2⟩
    · rw [h] at hv; cases hv), hb⟩
theorem un_no (s : ByteArray) (hs : s.size ≤ 1000) (h : unL s.data.toList = none) (w : World) : Calls Tryd.prog 18 #[.string s] w fun r w' => r = .returned (.tuple #[.slice none 0 0, .bool false]) ∧ Below w.heap.size w w' :=
  (words_unhex s hs w).mono fun r w' ⟨hr, hb⟩ => ⟨(by
    rcases hr with ⟨b', v, hv, e, hr⟩ | ⟨_, e⟩
    · rw [h] at hv; cases hv
    · exact e), hb⟩
theorem rl_yes (s : ByteArray) (hs : s.size ≤ 100000) (o : List Nat) (h : lstOf s.data.toList = some o) (w : World) (E : Env w) : Calls Tryd.prog 19 #[.string s] w fun r w' => (∃ v, r = .returned (.tuple #[v, .bool true]) ∧ NatsAt w' v o) ∧ Below w.heap.size w w' :=
  (words_readlist s hs w E).mono fun r w' ⟨hr, hb⟩ => ⟨(by
    rcases hr with ⟨o', v, hv, e, hr⟩ | ⟨hv, _⟩
    · rw [h] at hv; injection hv with hv; subst hv; exact ⟨v, e, hr⟩
    · rw [h] at hv; cases hv), hb⟩
theorem rl_no (s : ByteArray) (hs : s.size ≤ 100000) (h : lstOf s.data.toList = none) (w : World) (E : Env w) : Calls Tryd.prog 19 #[.string s] w fun r w' => r = .returned (.tuple #[.slice none 0 0, .bool false]) ∧ Below w.heap.size w w' :=
  (words_readlist s hs w E).mono fun r w' ⟨hr, hb⟩ => ⟨(by
    rcases hr with ⟨b', v, hv, e, hr⟩ | ⟨_, e⟩
    · rw [h] at hv; cases hv
    · exact e), hb⟩

theorem cv_u64 (u : Nat) (h : u < 9223372036854775808) (W : World) : (convert 34 3 (.int .u64 (u : Int))).run Tryd.prog W = .ok (.int .i64 (u : Int)) W := by
  have hk : Tryd.prog.intKind 3 = .i64 := by kernel_rfl
  rw [run_convert_int _ _ _ _ _ (by rw [Tryd.underlying34]; rfl) (by rw [hk]; exact Tryd.underlying3), hk, wrap_small _ (by omega) (by omega)]
theorem cv_i64 (m : Int) (h0 : 0 ≤ m) (h1 : m ≤ 9223372036854775807) (W : World) : (convert 3 34 (.int .i64 m)).run Tryd.prog W = .ok (.int .u64 m) W := by
  have hk : Tryd.prog.intKind 34 = .u64 := by kernel_rfl
  rw [run_convert_int _ _ _ _ _ (by rw [Tryd.underlying3]; rfl) (by rw [hk]; exact Tryd.underlying34), hk]
  have e : IntKind.u64.wrap m = m % 18446744073709551616 := by simp [IntKind.wrap, IntKind.bits, IntKind.signed]
  rw [e, Int.emod_eq_of_lt h0 (by omega)]

set_option maxRecDepth 100000 in
set_option maxHeartbeats 3200000 in
theorem ri_yes (s : ByteArray) (hs : s.size ≤ 100000) (u : Nat) (h : numOf s.data.toList = some u) (m : Int) (h0 : 0 ≤ m) (h1 : m ≤ 9223372036854775807) (hm : (u : Int) ≤ m) (w : World) (E : Env w) : Calls Tryd.prog 20 #[.string s, .int .i64 m] w fun r w' => r = .returned (.tuple #[.int .i64 (u : Int), .bool true]) ∧ Below w.heap.size w w' := by
  have HN := hid (rn_yes s hs u h w E)
  have c1 := cv_i64 m h0 h1
  have c2 := cv_u64 u (by omega)
  have d1 : decide (m < 0) = false := decide_eq_false (by omega)
  have d2 : decide (m < (u : Int)) = false := decide_eq_false (by omega)
  clear h0 h1 hm h
  go_enter Tryd.func20, Tryd.ntmps20
  go_wp2_with fail
  refine HN.out.mono ?_
  rintro r w1 ⟨rfl, hb1⟩
  go_wp2_with fail
  go_ret2
  exact ⟨rfl, hb1⟩

set_option maxRecDepth 100000 in
set_option maxHeartbeats 3200000 in
theorem ri_no (s : ByteArray) (hs : s.size ≤ 100000) (m : Int) (h1 : m ≤ 9223372036854775807) (h : ∀ u : Nat, numOf s.data.toList = some u → 0 ≤ m → m < (u : Int)) (w : World) (E : Env w) : Calls Tryd.prog 20 #[.string s, .int .i64 m] w fun r w' => r = .returned (.tuple #[.int .i64 0, .bool false]) ∧ Below w.heap.size w w' := by
  cases hN : numOf s.data.toList with
  | none =>
    have HN := hid (rn_no s hs hN w E)
    clear h hN
    go_enter Tryd.func20, Tryd.ntmps20
    go_wp2_with fail
    refine HN.out.mono ?_
    rintro r w1 ⟨rfl, hb1⟩
    go_wp2_with fail
    go_ret2
    exact ⟨rfl, hb1⟩
  | some u =>
    have HN := hid (rn_yes s hs u hN w E)
    have hu := h u hN
    by_cases h0 : 0 ≤ m
    · have c1 := cv_i64 m h0 h1
      have d1 : decide (m < 0) = false := decide_eq_false (by omega)
      have d2 : decide (m < (u : Int)) = true := decide_eq_true (hu h0)
      clear h hN hu h0 h1
      go_enter Tryd.func20, Tryd.ntmps20
      go_wp2_with fail
      refine HN.out.mono ?_
      rintro r w1 ⟨rfl, hb1⟩
      go_wp2_with fail
      go_ret2
      exact ⟨rfl, hb1⟩
    · have d1 : decide (m < 0) = true := decide_eq_true (by omega)
      clear h hN hu h0 h1
      go_enter Tryd.func20, Tryd.ntmps20
      go_wp2_with fail
      refine HN.out.mono ?_
      rintro r w1 ⟨rfl, hb1⟩
      go_wp2_with fail
      go_ret2
      exact ⟨rfl, hb1⟩

theorem getD_lt (o : List Nat) (h : ∀ x ∈ o, x < 18446744073709551616) (i : Nat) : o.getD i 0 < 18446744073709551616 := by
  by_cases hi : i < o.length
  · rw [List.getD_eq_getElem?_getD, List.getElem?_eq_getElem hi]; exact h _ (List.getElem_mem hi)
  · rw [List.getD_eq_getElem?_getD, List.getElem?_eq_none (by omega)]; decide
theorem spl_count (c : UInt8) (l : List UInt8) : (spl c l).length ≤ l.length + 1 := by
  induction l with
  | nil => simp [spl]
  | cons b l ih =>
    unfold spl
    split
    · simp only [List.length_cons]; omega
    · have := List.length_pos_iff.2 (spl_ne c l)
      simp only [List.length_cons, List.length_tail]; omega
theorem lst_len (s : ByteArray) (hs : s.size ≤ 1000) (o : List Nat) (h : lstOf s.data.toList = some o) : o.length ≤ 1001 := by
  unfold lstOf at h
  split at h
  · injection h with h; subst h; simp
  · have h1 := nums_len _ _ h
    have h2 := spl_count 44 s.data.toList
    rw [str_len] at h2
    omega

set_option maxRecDepth 100000 in
set_option maxHeartbeats 3200000 in
theorem wr_yes_11 (s : ByteArray) (hs : s.size ≤ 1000) (m : Int) (h2 : m ≤ 9223372036854775807) (u : Nat) (hu : numOf s.data.toList = some u) (h0 : 0 ≤ m) (hm : (u : Int) ≤ m) (b : List UInt8) (hc : unL s.data.toList = some b) (o : List Nat) (hd : lstOf s.data.toList = some o) (w : World) (E : Env w) : Calls Tryd.prog 5 #[.string s, .int .i64 m] w fun r w' => r = .returned (.bool true) ∧ Below w.heap.size w w' := by
  have HLv := hid live10
  have HE := hid E
  have d0 : decide ((1000 : Int) < (s.size : Int)) = false := decide_eq_false (by omega)
  have HN := hid (rn_yes s (by omega) u hu w E)
  have hds := numOf_some _ u hu
  have HR := hid (ref10_num u hds.2)
  unfold NumSpec at HR
  rw [hds.1] at HR
  have HI := hid (ri_yes s (by omega) u hu m h0 h2 hm)
  have c1 := cv_i64 m h0 h2
  have c2 := cv_i64 (u : Int) (by omega) (by omega)
  have d1 : decide (0 ≤ m) = true := decide_eq_true h0
  have d2 : decide ((u : Int) ≤ m) = true := decide_eq_true hm
  have HU := hid (un_yes s hs b hc)
  have hbl : b.length ≤ 1000 := by
    have h := congrArg List.length (hexW_unL _ b hc)
    rw [str_len] at h
    unfold hexW at h
    split at h
    · rename_i e; subst e; simp
    · rw [hx_len] at h; omega
  have HX := hid (rhex_any · b (by omega))
  rw [hexW_unL _ b hc] at HX
  have HL := hid (rl_yes s (by omega) o hd)
  have hdl := listW_lst _ o hd
  have hol : o.length ≤ 1001 := lst_len s hs o hd
  have HRL := hid (rlist_any · o (getD_lt o hdl.2) (by omega))
  rw [hdl.1] at HRL
  have es : (⟨s.data.toList.toArray⟩ : ByteArray) = s := by simp
  rw [es] at HR
  rw [es] at HX
  rw [es] at HRL
  have dS : (s.toList == s.toList) = true := by simp
  have du : ((u : Int) == (u : Int)) = true := by simp
  clear hu hc hd es E hs hds h0 hm h2 hbl hdl hol
  go_enter Tryd.func5, Tryd.ntmps5
  go_wp2_with fail
  refine HN.out.mono ?_
  rintro r w1 ⟨rfl, hb1⟩
  have HB1 := hid hb1
  clear hb1
  go_wp2_with fail
  refine (HU.out w1).mono ?_
  rintro r w2 ⟨⟨vb, rfl, hvb⟩, hb2⟩
  obtain ⟨ab, cb, rfl, hvb2⟩ := hvb
  have HV := hid (show BytesAt w2 (.slice ab b.length cb) b from ⟨ab, cb, rfl, hvb2⟩)
  clear hvb2
  have HB2 := hid (HB1.out.trans (hb2.mono HB1.out.size))
  clear hb2
  go_wp2_with fail
  refine (HL.out w2 (HE.out.below HB2.out)).mono ?_
  rintro r w3 ⟨⟨vl, rfl, hvl⟩, hb3⟩
  obtain ⟨al, cl, rfl, hvl2⟩ := hvl
  have HVL := hid (show NatsAt w3 (.slice al o.length cl) o from ⟨al, cl, rfl, hvl2⟩)
  clear hvl2
  have HB3 := hid (HB2.out.trans (hb3.mono HB2.out.size))
  have HC3 := hid hb3
  clear hb3
  go_wp2_with fail
  refine (HI.out w3 (HE.out.below HB3.out)).mono ?_
  rintro r w4 ⟨rfl, hb4⟩
  have HB4 := hid (HB3.out.trans (hb4.mono HB3.out.size))
  have HC4 := hid (HC3.out.trans (hb4.mono HC3.out.size))
  have HD4 := hid hb4
  clear hb4
  go_wp2_with fail
  refine (HR.out w4).mono ?_
  rintro r w5 ⟨rfl, hb5⟩
  have HB5 := hid (HB4.out.trans (hb5.mono HB4.out.size))
  have HC5 := hid (HC4.out.trans (hb5.mono HC4.out.size))
  have HD5 := hid (HD4.out.trans (hb5.mono HD4.out.size))
  clear hb5
  go_wp2_with fail
  refine (HX.out _ w5 (HV.out.below HC5.out)).mono ?_
  rintro r w6 ⟨rfl, hb6⟩
  have HB6 := hid (HB5.out.trans (hb6.mono HB5.out.size))
  have HD6 := hid (HD5.out.trans (hb6.mono HD5.out.size))
  clear hb6
  go_wp2_with fail
  refine (HRL.out _ w6 (HVL.out.below HD6.out)).mono ?_
  rintro r w7 ⟨rfl, hb7⟩
  have HB7 := hid (HB6.out.trans (hb7.mono HB6.out.size))
  clear hb7
  go_wp2_with fail
  refine (HLv.out w7 (HE.out.below HB7.out)).mono ?_
  rintro r w8 ⟨rfl, hb8⟩
  have HB8 := hid (HB7.out.trans (hb8.mono HB7.out.size))
  clear hb8
  go_wp2_with fail
  go_ret
  exact ⟨rfl, HB8.out⟩

set_option maxRecDepth 100000 in
set_option maxHeartbeats 3200000 in
theorem wr_yes_10 (s : ByteArray) (hs : s.size ≤ 1000) (m : Int) (h2 : m ≤ 9223372036854775807) (u : Nat) (hu : numOf s.data.toList = some u) (h0 : 0 ≤ m) (hm : (u : Int) ≤ m) (b : List UInt8) (hc : unL s.data.toList = some b) (hd : lstOf s.data.toList = none) (w : World) (E : Env w) : Calls Tryd.prog 5 #[.string s, .int .i64 m] w fun r w' => r = .returned (.bool true) ∧ Below w.heap.size w w' := by
  have HLv := hid live10
  have HE := hid E
  have d0 : decide ((1000 : Int) < (s.size : Int)) = false := decide_eq_false (by omega)
  have HN := hid (rn_yes s (by omega) u hu w E)
  have hds := numOf_some _ u hu
  have HR := hid (ref10_num u hds.2)
  unfold NumSpec at HR
  rw [hds.1] at HR
  have HI := hid (ri_yes s (by omega) u hu m h0 h2 hm)
  have c1 := cv_i64 m h0 h2
  have c2 := cv_i64 (u : Int) (by omega) (by omega)
  have d1 : decide (0 ≤ m) = true := decide_eq_true h0
  have d2 : decide ((u : Int) ≤ m) = true := decide_eq_true hm
  have HU := hid (un_yes s hs b hc)
  have hbl : b.length ≤ 1000 := by
    have h := congrArg List.length (hexW_unL _ b hc)
    rw [str_len] at h
    unfold hexW at h
    split at h
    · rename_i e; subst e; simp
    · rw [hx_len] at h; omega
  have HX := hid (rhex_any · b (by omega))
  rw [hexW_unL _ b hc] at HX
  have HL := hid (rl_no s (by omega) hd)
  have es : (⟨s.data.toList.toArray⟩ : ByteArray) = s := by simp
  rw [es] at HR
  rw [es] at HX
  have dS : (s.toList == s.toList) = true := by simp
  have du : ((u : Int) == (u : Int)) = true := by simp
  clear hu hc hd es E hs hds h0 hm h2 hbl
  go_enter Tryd.func5, Tryd.ntmps5
  go_wp2_with fail
  refine HN.out.mono ?_
  rintro r w1 ⟨rfl, hb1⟩
  have HB1 := hid hb1
  clear hb1
  go_wp2_with fail
  refine (HU.out w1).mono ?_
  rintro r w2 ⟨⟨vb, rfl, hvb⟩, hb2⟩
  obtain ⟨ab, cb, rfl, hvb2⟩ := hvb
  have HV := hid (show BytesAt w2 (.slice ab b.length cb) b from ⟨ab, cb, rfl, hvb2⟩)
  clear hvb2
  have HB2 := hid (HB1.out.trans (hb2.mono HB1.out.size))
  clear hb2
  go_wp2_with fail
  refine (HL.out w2 (HE.out.below HB2.out)).mono ?_
  rintro r w3 ⟨rfl, hb3⟩
  have HB3 := hid (HB2.out.trans (hb3.mono HB2.out.size))
  have HC3 := hid hb3
  clear hb3
  go_wp2_with fail
  refine (HI.out w3 (HE.out.below HB3.out)).mono ?_
  rintro r w4 ⟨rfl, hb4⟩
  have HB4 := hid (HB3.out.trans (hb4.mono HB3.out.size))
  have HC4 := hid (HC3.out.trans (hb4.mono HC3.out.size))
  have HD4 := hid hb4
  clear hb4
  go_wp2_with fail
  refine (HR.out w4).mono ?_
  rintro r w5 ⟨rfl, hb5⟩
  have HB5 := hid (HB4.out.trans (hb5.mono HB4.out.size))
  have HC5 := hid (HC4.out.trans (hb5.mono HC4.out.size))
  have HD5 := hid (HD4.out.trans (hb5.mono HD4.out.size))
  clear hb5
  go_wp2_with fail
  refine (HX.out _ w5 (HV.out.below HC5.out)).mono ?_
  rintro r w6 ⟨rfl, hb6⟩
  have HB6 := hid (HB5.out.trans (hb6.mono HB5.out.size))
  have HD6 := hid (HD5.out.trans (hb6.mono HD5.out.size))
  clear hb6
  go_wp2_with fail
  refine (HLv.out w6 (HE.out.below HB6.out)).mono ?_
  rintro r w7 ⟨rfl, hb7⟩
  have HB7 := hid (HB6.out.trans (hb7.mono HB6.out.size))
  clear hb7
  go_wp2_with fail
  go_ret
  exact ⟨rfl, HB7.out⟩

set_option maxRecDepth 100000 in
set_option maxHeartbeats 3200000 in
theorem wr_yes_01 (s : ByteArray) (hs : s.size ≤ 1000) (m : Int) (h2 : m ≤ 9223372036854775807) (u : Nat) (hu : numOf s.data.toList = some u) (h0 : 0 ≤ m) (hm : (u : Int) ≤ m) (hc : unL s.data.toList = none) (o : List Nat) (hd : lstOf s.data.toList = some o) (w : World) (E : Env w) : Calls Tryd.prog 5 #[.string s, .int .i64 m] w fun r w' => r = .returned (.bool true) ∧ Below w.heap.size w w' := by
  have HLv := hid live10
  have HE := hid E
  have d0 : decide ((1000 : Int) < (s.size : Int)) = false := decide_eq_false (by omega)
  have HN := hid (rn_yes s (by omega) u hu w E)
  have hds := numOf_some _ u hu
  have HR := hid (ref10_num u hds.2)
  unfold NumSpec at HR
  rw [hds.1] at HR
  have HI := hid (ri_yes s (by omega) u hu m h0 h2 hm)
  have c1 := cv_i64 m h0 h2
  have c2 := cv_i64 (u : Int) (by omega) (by omega)
  have d1 : decide (0 ≤ m) = true := decide_eq_true h0
  have d2 : decide ((u : Int) ≤ m) = true := decide_eq_true hm
  have HU := hid (un_no s hs hc)
  have HL := hid (rl_yes s (by omega) o hd)
  have hdl := listW_lst _ o hd
  have hol : o.length ≤ 1001 := lst_len s hs o hd
  have HRL := hid (rlist_any · o (getD_lt o hdl.2) (by omega))
  rw [hdl.1] at HRL
  have es : (⟨s.data.toList.toArray⟩ : ByteArray) = s := by simp
  rw [es] at HR
  rw [es] at HRL
  have dS : (s.toList == s.toList) = true := by simp
  have du : ((u : Int) == (u : Int)) = true := by simp
  clear hu hc hd es E hs hds h0 hm h2 hdl hol
  go_enter Tryd.func5, Tryd.ntmps5
  go_wp2_with fail
  refine HN.out.mono ?_
  rintro r w1 ⟨rfl, hb1⟩
  have HB1 := hid hb1
  clear hb1
  go_wp2_with fail
  refine (HU.out w1).mono ?_
  rintro r w2 ⟨rfl, hb2⟩
  have HB2 := hid (HB1.out.trans (hb2.mono HB1.out.size))
  clear hb2
  go_wp2_with fail
  refine (HL.out w2 (HE.out.below HB2.out)).mono ?_
  rintro r w3 ⟨⟨vl, rfl, hvl⟩, hb3⟩
  obtain ⟨al, cl, rfl, hvl2⟩ := hvl
  have HVL := hid (show NatsAt w3 (.slice al o.length cl) o from ⟨al, cl, rfl, hvl2⟩)
  clear hvl2
  have HB3 := hid (HB2.out.trans (hb3.mono HB2.out.size))
  have HC3 := hid hb3
  clear hb3
  go_wp2_with fail
  refine (HI.out w3 (HE.out.below HB3.out)).mono ?_
  rintro r w4 ⟨rfl, hb4⟩
  have HB4 := hid (HB3.out.trans (hb4.mono HB3.out.size))
  have HC4 := hid (HC3.out.trans (hb4.mono HC3.out.size))
  have HD4 := hid hb4
  clear hb4
  go_wp2_with fail
  refine (HR.out w4).mono ?_
  rintro r w5 ⟨rfl, hb5⟩
  have HB5 := hid (HB4.out.trans (hb5.mono HB4.out.size))
  have HC5 := hid (HC4.out.trans (hb5.mono HC4.out.size))
  have HD5 := hid (HD4.out.trans (hb5.mono HD4.out.size))
  clear hb5
  go_wp2_with fail
  refine (HRL.out _ w5 (HVL.out.below HD5.out)).mono ?_
  rintro r w6 ⟨rfl, hb6⟩
  have HB6 := hid (HB5.out.trans (hb6.mono HB5.out.size))
  clear hb6
  go_wp2_with fail
  refine (HLv.out w6 (HE.out.below HB6.out)).mono ?_
  rintro r w7 ⟨rfl, hb7⟩
  have HB7 := hid (HB6.out.trans (hb7.mono HB6.out.size))
  clear hb7
  go_wp2_with fail
  go_ret
  exact ⟨rfl, HB7.out⟩

set_option maxRecDepth 100000 in
set_option maxHeartbeats 3200000 in
theorem wr_yes_00 (s : ByteArray) (hs : s.size ≤ 1000) (m : Int) (h2 : m ≤ 9223372036854775807) (u : Nat) (hu : numOf s.data.toList = some u) (h0 : 0 ≤ m) (hm : (u : Int) ≤ m) (hc : unL s.data.toList = none) (hd : lstOf s.data.toList = none) (w : World) (E : Env w) : Calls Tryd.prog 5 #[.string s, .int .i64 m] w fun r w' => r = .returned (.bool true) ∧ Below w.heap.size w w' := by
  have HLv := hid live10
  have HE := hid E
  have d0 : decide ((1000 : Int) < (s.size : Int)) = false := decide_eq_false (by omega)
  have HN := hid (rn_yes s (by omega) u hu w E)
  have hds := numOf_some _ u hu
  have HR := hid (ref10_num u hds.2)
  unfold NumSpec at HR
  rw [hds.1] at HR
  have HI := hid (ri_yes s (by omega) u hu m h0 h2 hm)
  have c1 := cv_i64 m h0 h2
  have c2 := cv_i64 (u : Int) (by omega) (by omega)
  have d1 : decide (0 ≤ m) = true := decide_eq_true h0
  have d2 : decide ((u : Int) ≤ m) = true := decide_eq_true hm
  have HU := hid (un_no s hs hc)
  have HL := hid (rl_no s (by omega) hd)
  have es : (⟨s.data.toList.toArray⟩ : ByteArray) = s := by simp
  rw [es] at HR
  have dS : (s.toList == s.toList) = true := by simp
  have du : ((u : Int) == (u : Int)) = true := by simp
  clear hu hc hd es E hs hds h0 hm h2
  go_enter Tryd.func5, Tryd.ntmps5
  go_wp2_with fail
  refine HN.out.mono ?_
  rintro r w1 ⟨rfl, hb1⟩
  have HB1 := hid hb1
  clear hb1
  go_wp2_with fail
  refine (HU.out w1).mono ?_
  rintro r w2 ⟨rfl, hb2⟩
  have HB2 := hid (HB1.out.trans (hb2.mono HB1.out.size))
  clear hb2
  go_wp2_with fail
  refine (HL.out w2 (HE.out.below HB2.out)).mono ?_
  rintro r w3 ⟨rfl, hb3⟩
  have HB3 := hid (HB2.out.trans (hb3.mono HB2.out.size))
  have HC3 := hid hb3
  clear hb3
  go_wp2_with fail
  refine (HI.out w3 (HE.out.below HB3.out)).mono ?_
  rintro r w4 ⟨rfl, hb4⟩
  have HB4 := hid (HB3.out.trans (hb4.mono HB3.out.size))
  have HC4 := hid (HC3.out.trans (hb4.mono HC3.out.size))
  have HD4 := hid hb4
  clear hb4
  go_wp2_with fail
  refine (HR.out w4).mono ?_
  rintro r w5 ⟨rfl, hb5⟩
  have HB5 := hid (HB4.out.trans (hb5.mono HB4.out.size))
  have HC5 := hid (HC4.out.trans (hb5.mono HC4.out.size))
  have HD5 := hid (HD4.out.trans (hb5.mono HD4.out.size))
  clear hb5
  go_wp2_with fail
  refine (HLv.out w5 (HE.out.below HB5.out)).mono ?_
  rintro r w6 ⟨rfl, hb6⟩
  have HB6 := hid (HB5.out.trans (hb6.mono HB5.out.size))
  clear hb6
  go_wp2_with fail
  go_ret
  exact ⟨rfl, HB6.out⟩

set_option maxRecDepth 100000 in
set_option maxHeartbeats 3200000 in
theorem wr_big_11 (s : ByteArray) (hs : s.size ≤ 1000) (m : Int) (h2 : m ≤ 9223372036854775807) (u : Nat) (hu : numOf s.data.toList = some u) (hm : 0 ≤ m → m < (u : Int)) (b : List UInt8) (hc : unL s.data.toList = some b) (o : List Nat) (hd : lstOf s.data.toList = some o) (w : World) (E : Env w) : Calls Tryd.prog 5 #[.string s, .int .i64 m] w fun r w' => r = .returned (.bool true) ∧ Below w.heap.size w w' := by
  have HLv := hid live10
  have HE := hid E
  have d0 : decide ((1000 : Int) < (s.size : Int)) = false := decide_eq_false (by omega)
  have HN := hid (rn_yes s (by omega) u hu w E)
  have hds := numOf_some _ u hu
  have HR := hid (ref10_num u hds.2)
  unfold NumSpec at HR
  rw [hds.1] at HR
  have HI := hid (ri_no s (by omega) m h2 (fun v hv => by rw [hu] at hv; injection hv with hv; subst hv; exact hm))
  have HU := hid (un_yes s hs b hc)
  have hbl : b.length ≤ 1000 := by
    have h := congrArg List.length (hexW_unL _ b hc)
    rw [str_len] at h
    unfold hexW at h
    split at h
    · rename_i e; subst e; simp
    · rw [hx_len] at h; omega
  have HX := hid (rhex_any · b (by omega))
  rw [hexW_unL _ b hc] at HX
  have HL := hid (rl_yes s (by omega) o hd)
  have hdl := listW_lst _ o hd
  have hol : o.length ≤ 1001 := lst_len s hs o hd
  have HRL := hid (rlist_any · o (getD_lt o hdl.2) (by omega))
  rw [hdl.1] at HRL
  have es : (⟨s.data.toList.toArray⟩ : ByteArray) = s := by simp
  rw [es] at HR
  rw [es] at HX
  rw [es] at HRL
  have dS : (s.toList == s.toList) = true := by simp
  have h3 := h2
  clear hu hc hd es E hs hds h2 hbl hdl hol
  by_cases h0 : 0 ≤ m
  · have d1 : decide (0 ≤ m) = true := decide_eq_true h0
    have c1 := cv_i64 m h0 h3
    have d2 : decide ((u : Int) ≤ m) = false := decide_eq_false (by have := hm h0; omega)
    clear hm h0 h3
    go_enter Tryd.func5, Tryd.ntmps5
    go_wp2_with fail
    refine HN.out.mono ?_
    rintro r w1 ⟨rfl, hb1⟩
    have HB1 := hid hb1
    clear hb1
    go_wp2_with fail
    refine (HU.out w1).mono ?_
    rintro r w2 ⟨⟨vb, rfl, hvb⟩, hb2⟩
    obtain ⟨ab, cb, rfl, hvb2⟩ := hvb
    have HV := hid (show BytesAt w2 (.slice ab b.length cb) b from ⟨ab, cb, rfl, hvb2⟩)
    clear hvb2
    have HB2 := hid (HB1.out.trans (hb2.mono HB1.out.size))
    clear hb2
    go_wp2_with fail
    refine (HL.out w2 (HE.out.below HB2.out)).mono ?_
    rintro r w3 ⟨⟨vl, rfl, hvl⟩, hb3⟩
    obtain ⟨al, cl, rfl, hvl2⟩ := hvl
    have HVL := hid (show NatsAt w3 (.slice al o.length cl) o from ⟨al, cl, rfl, hvl2⟩)
    clear hvl2
    have HB3 := hid (HB2.out.trans (hb3.mono HB2.out.size))
    have HC3 := hid hb3
    clear hb3
    go_wp2_with fail
    refine (HI.out w3 (HE.out.below HB3.out)).mono ?_
    rintro r w4 ⟨rfl, hb4⟩
    have HB4 := hid (HB3.out.trans (hb4.mono HB3.out.size))
    have HC4 := hid (HC3.out.trans (hb4.mono HC3.out.size))
    have HD4 := hid hb4
    clear hb4
    go_wp2_with fail
    refine (HR.out w4).mono ?_
    rintro r w5 ⟨rfl, hb5⟩
    have HB5 := hid (HB4.out.trans (hb5.mono HB4.out.size))
    have HC5 := hid (HC4.out.trans (hb5.mono HC4.out.size))
    have HD5 := hid (HD4.out.trans (hb5.mono HD4.out.size))
    clear hb5
    go_wp2_with fail
    refine (HX.out _ w5 (HV.out.below HC5.out)).mono ?_
    rintro r w6 ⟨rfl, hb6⟩
    have HB6 := hid (HB5.out.trans (hb6.mono HB5.out.size))
    have HD6 := hid (HD5.out.trans (hb6.mono HD5.out.size))
    clear hb6
    go_wp2_with fail
    refine (HRL.out _ w6 (HVL.out.below HD6.out)).mono ?_
    rintro r w7 ⟨rfl, hb7⟩
    have HB7 := hid (HB6.out.trans (hb7.mono HB6.out.size))
    clear hb7
    go_wp2_with fail
    refine (HLv.out w7 (HE.out.below HB7.out)).mono ?_
    rintro r w8 ⟨rfl, hb8⟩
    have HB8 := hid (HB7.out.trans (hb8.mono HB7.out.size))
    clear hb8
    go_wp2_with fail
    go_ret
    exact ⟨rfl, HB8.out⟩
  · have d1 : decide (0 ≤ m) = false := decide_eq_false h0
    clear hm h0 h3
    go_enter Tryd.func5, Tryd.ntmps5
    go_wp2_with fail
    refine HN.out.mono ?_
    rintro r w1 ⟨rfl, hb1⟩
    have HB1 := hid hb1
    clear hb1
    go_wp2_with fail
    refine (HU.out w1).mono ?_
    rintro r w2 ⟨⟨vb, rfl, hvb⟩, hb2⟩
    obtain ⟨ab, cb, rfl, hvb2⟩ := hvb
    have HV := hid (show BytesAt w2 (.slice ab b.length cb) b from ⟨ab, cb, rfl, hvb2⟩)
    clear hvb2
    have HB2 := hid (HB1.out.trans (hb2.mono HB1.out.size))
    clear hb2
    go_wp2_with fail
    refine (HL.out w2 (HE.out.below HB2.out)).mono ?_
    rintro r w3 ⟨⟨vl, rfl, hvl⟩, hb3⟩
    obtain ⟨al, cl, rfl, hvl2⟩ := hvl
    have HVL := hid (show NatsAt w3 (.slice al o.length cl) o from ⟨al, cl, rfl, hvl2⟩)
    clear hvl2
    have HB3 := hid (HB2.out.trans (hb3.mono HB2.out.size))
    have HC3 := hid hb3
    clear hb3
    go_wp2_with fail
    refine (HI.out w3 (HE.out.below HB3.out)).mono ?_
    rintro r w4 ⟨rfl, hb4⟩
    have HB4 := hid (HB3.out.trans (hb4.mono HB3.out.size))
    have HC4 := hid (HC3.out.trans (hb4.mono HC3.out.size))
    have HD4 := hid hb4
    clear hb4
    go_wp2_with fail
    refine (HR.out w4).mono ?_
    rintro r w5 ⟨rfl, hb5⟩
    have HB5 := hid (HB4.out.trans (hb5.mono HB4.out.size))
    have HC5 := hid (HC4.out.trans (hb5.mono HC4.out.size))
    have HD5 := hid (HD4.out.trans (hb5.mono HD4.out.size))
    clear hb5
    go_wp2_with fail
    refine (HX.out _ w5 (HV.out.below HC5.out)).mono ?_
    rintro r w6 ⟨rfl, hb6⟩
    have HB6 := hid (HB5.out.trans (hb6.mono HB5.out.size))
    have HD6 := hid (HD5.out.trans (hb6.mono HD5.out.size))
    clear hb6
    go_wp2_with fail
    refine (HRL.out _ w6 (HVL.out.below HD6.out)).mono ?_
    rintro r w7 ⟨rfl, hb7⟩
    have HB7 := hid (HB6.out.trans (hb7.mono HB6.out.size))
    clear hb7
    go_wp2_with fail
    refine (HLv.out w7 (HE.out.below HB7.out)).mono ?_
    rintro r w8 ⟨rfl, hb8⟩
    have HB8 := hid (HB7.out.trans (hb8.mono HB7.out.size))
    clear hb8
    go_wp2_with fail
    go_ret
    exact ⟨rfl, HB8.out⟩

set_option maxRecDepth 100000 in
set_option maxHeartbeats 3200000 in
theorem wr_big_10 (s : ByteArray) (hs : s.size ≤ 1000) (m : Int) (h2 : m ≤ 9223372036854775807) (u : Nat) (hu : numOf s.data.toList = some u) (hm : 0 ≤ m → m < (u : Int)) (b : List UInt8) (hc : unL s.data.toList = some b) (hd : lstOf s.data.toList = none) (w : World) (E : Env w) : Calls Tryd.prog 5 #[.string s, .int .i64 m] w fun r w' => r = .returned (.bool true) ∧ Below w.heap.size w w' := by
  have HLv := hid live10
  have HE := hid E
  have d0 : decide ((1000 : Int) < (s.size : Int)) = false := decide_eq_false (by omega)
  have HN := hid (rn_yes s (by omega) u hu w E)
  have hds := numOf_some _ u hu
  have HR := hid (ref10_num u hds.2)
  unfold NumSpec at HR
  rw [hds.1] at HR
  have HI := hid (ri_no s (by omega) m h2 (fun v hv => by rw [hu] at hv; injection hv with hv; subst hv; exact hm))
  have HU := hid (un_yes s hs b hc)
  have hbl : b.length ≤ 1000 := by
    have h := congrArg List.length (hexW_unL _ b hc)
    rw [str_len] at h
    unfold hexW at h
    split at h
    · rename_i e; subst e; simp
    · rw [hx_len] at h; omega
  have HX := hid (rhex_any · b (by omega))
  rw [hexW_unL _ b hc] at HX
  have HL := hid (rl_no s (by omega) hd)
  have es : (⟨s.data.toList.toArray⟩ : ByteArray) = s := by simp
  rw [es] at HR
  rw [es] at HX
  have dS : (s.toList == s.toList) = true := by simp
  have h3 := h2
  clear hu hc hd es E hs hds h2 hbl
  by_cases h0 : 0 ≤ m
  · have d1 : decide (0 ≤ m) = true := decide_eq_true h0
    have c1 := cv_i64 m h0 h3
    have d2 : decide ((u : Int) ≤ m) = false := decide_eq_false (by have := hm h0; omega)
    clear hm h0 h3
    go_enter Tryd.func5, Tryd.ntmps5
    go_wp2_with fail
    refine HN.out.mono ?_
    rintro r w1 ⟨rfl, hb1⟩
    have HB1 := hid hb1
    clear hb1
    go_wp2_with fail
    refine (HU.out w1).mono ?_
    rintro r w2 ⟨⟨vb, rfl, hvb⟩, hb2⟩
    obtain ⟨ab, cb, rfl, hvb2⟩ := hvb
    have HV := hid (show BytesAt w2 (.slice ab b.length cb) b from ⟨ab, cb, rfl, hvb2⟩)
    clear hvb2
    have HB2 := hid (HB1.out.trans (hb2.mono HB1.out.size))
    clear hb2
    go_wp2_with fail
    refine (HL.out w2 (HE.out.below HB2.out)).mono ?_
    rintro r w3 ⟨rfl, hb3⟩
    have HB3 := hid (HB2.out.trans (hb3.mono HB2.out.size))
    have HC3 := hid hb3
    clear hb3
    go_wp2_with fail
    refine (HI.out w3 (HE.out.below HB3.out)).mono ?_
    rintro r w4 ⟨rfl, hb4⟩
    have HB4 := hid (HB3.out.trans (hb4.mono HB3.out.size))
    have HC4 := hid (HC3.out.trans (hb4.mono HC3.out.size))
    have HD4 := hid hb4
    clear hb4
    go_wp2_with fail
    refine (HR.out w4).mono ?_
    rintro r w5 ⟨rfl, hb5⟩
    have HB5 := hid (HB4.out.trans (hb5.mono HB4.out.size))
    have HC5 := hid (HC4.out.trans (hb5.mono HC4.out.size))
    have HD5 := hid (HD4.out.trans (hb5.mono HD4.out.size))
    clear hb5
    go_wp2_with fail
    refine (HX.out _ w5 (HV.out.below HC5.out)).mono ?_
    rintro r w6 ⟨rfl, hb6⟩
    have HB6 := hid (HB5.out.trans (hb6.mono HB5.out.size))
    have HD6 := hid (HD5.out.trans (hb6.mono HD5.out.size))
    clear hb6
    go_wp2_with fail
    refine (HLv.out w6 (HE.out.below HB6.out)).mono ?_
    rintro r w7 ⟨rfl, hb7⟩
    have HB7 := hid (HB6.out.trans (hb7.mono HB6.out.size))
    clear hb7
    go_wp2_with fail
    go_ret
    exact ⟨rfl, HB7.out⟩
  · have d1 : decide (0 ≤ m) = false := decide_eq_false h0
    clear hm h0 h3
    go_enter Tryd.func5, Tryd.ntmps5
    go_wp2_with fail
    refine HN.out.mono ?_
    rintro r w1 ⟨rfl, hb1⟩
    have HB1 := hid hb1
    clear hb1
    go_wp2_with fail
    refine (HU.out w1).mono ?_
    rintro r w2 ⟨⟨vb, rfl, hvb⟩, hb2⟩
    obtain ⟨ab, cb, rfl, hvb2⟩ := hvb
    have HV := hid (show BytesAt w2 (.slice ab b.length cb) b from ⟨ab, cb, rfl, hvb2⟩)
    clear hvb2
    have HB2 := hid (HB1.out.trans (hb2.mono HB1.out.size))
    clear hb2
    go_wp2_with fail
    refine (HL.out w2 (HE.out.below HB2.out)).mono ?_
    rintro r w3 ⟨rfl, hb3⟩
    have HB3 := hid (HB2.out.trans (hb3.mono HB2.out.size))
    have HC3 := hid hb3
    clear hb3
    go_wp2_with fail
    refine (HI.out w3 (HE.out.below HB3.out)).mono ?_
    rintro r w4 ⟨rfl, hb4⟩
    have HB4 := hid (HB3.out.trans (hb4.mono HB3.out.size))
    have HC4 := hid (HC3.out.trans (hb4.mono HC3.out.size))
    have HD4 := hid hb4
    clear hb4
    go_wp2_with fail
    refine (HR.out w4).mono ?_
    rintro r w5 ⟨rfl, hb5⟩
    have HB5 := hid (HB4.out.trans (hb5.mono HB4.out.size))
    have HC5 := hid (HC4.out.trans (hb5.mono HC4.out.size))
    have HD5 := hid (HD4.out.trans (hb5.mono HD4.out.size))
    clear hb5
    go_wp2_with fail
    refine (HX.out _ w5 (HV.out.below HC5.out)).mono ?_
    rintro r w6 ⟨rfl, hb6⟩
    have HB6 := hid (HB5.out.trans (hb6.mono HB5.out.size))
    have HD6 := hid (HD5.out.trans (hb6.mono HD5.out.size))
    clear hb6
    go_wp2_with fail
    refine (HLv.out w6 (HE.out.below HB6.out)).mono ?_
    rintro r w7 ⟨rfl, hb7⟩
    have HB7 := hid (HB6.out.trans (hb7.mono HB6.out.size))
    clear hb7
    go_wp2_with fail
    go_ret
    exact ⟨rfl, HB7.out⟩

set_option maxRecDepth 100000 in
set_option maxHeartbeats 3200000 in
theorem wr_big_01 (s : ByteArray) (hs : s.size ≤ 1000) (m : Int) (h2 : m ≤ 9223372036854775807) (u : Nat) (hu : numOf s.data.toList = some u) (hm : 0 ≤ m → m < (u : Int)) (hc : unL s.data.toList = none) (o : List Nat) (hd : lstOf s.data.toList = some o) (w : World) (E : Env w) : Calls Tryd.prog 5 #[.string s, .int .i64 m] w fun r w' => r = .returned (.bool true) ∧ Below w.heap.size w w' := by
  have HLv := hid live10
  have HE := hid E
  have d0 : decide ((1000 : Int) < (s.size : Int)) = false := decide_eq_false (by omega)
  have HN := hid (rn_yes s (by omega) u hu w E)
  have hds := numOf_some _ u hu
  have HR := hid (ref10_num u hds.2)
  unfold NumSpec at HR
  rw [hds.1] at HR
  have HI := hid (ri_no s (by omega) m h2 (fun v hv => by rw [hu] at hv; injection hv with hv; subst hv; exact hm))
  have HU := hid (un_no s hs hc)
  have HL := hid (rl_yes s (by omega) o hd)
  have hdl := listW_lst _ o hd
  have hol : o.length ≤ 1001 := lst_len s hs o hd
  have HRL := hid (rlist_any · o (getD_lt o hdl.2) (by omega))
  rw [hdl.1] at HRL
  have es : (⟨s.data.toList.toArray⟩ : ByteArray) = s := by simp
  rw [es] at HR
  rw [es] at HRL
  have dS : (s.toList == s.toList) = true := by simp
  have h3 := h2
  clear hu hc hd es E hs hds h2 hdl hol
  by_cases h0 : 0 ≤ m
  · have d1 : decide (0 ≤ m) = true := decide_eq_true h0
    have c1 := cv_i64 m h0 h3
    have d2 : decide ((u : Int) ≤ m) = false := decide_eq_false (by have := hm h0; omega)
    clear hm h0 h3
    go_enter Tryd.func5, Tryd.ntmps5
    go_wp2_with fail
    refine HN.out.mono ?_
    rintro r w1 ⟨rfl, hb1⟩
    have HB1 := hid hb1
    clear hb1
    go_wp2_with fail
    refine (HU.out w1).mono ?_
    rintro r w2 ⟨rfl, hb2⟩
    have HB2 := hid (HB1.out.trans (hb2.mono HB1.out.size))
    clear hb2
    go_wp2_with fail
    refine (HL.out w2 (HE.out.below HB2.out)).mono ?_
    rintro r w3 ⟨⟨vl, rfl, hvl⟩, hb3⟩
    obtain ⟨al, cl, rfl, hvl2⟩ := hvl
    have HVL := hid (show NatsAt w3 (.slice al o.length cl) o from ⟨al, cl, rfl, hvl2⟩)
    clear hvl2
    have HB3 := hid (HB2.out.trans (hb3.mono HB2.out.size))
    have HC3 := hid hb3
    clear hb3
    go_wp2_with fail
    refine (HI.out w3 (HE.out.below HB3.out)).mono ?_
    rintro r w4 ⟨rfl, hb4⟩
    have HB4 := hid (HB3.out.trans (hb4.mono HB3.out.size))
    have HC4 := hid (HC3.out.trans (hb4.mono HC3.out.size))
    have HD4 := hid hb4
    clear hb4
    go_wp2_with fail
    refine (HR.out w4).mono ?_
    rintro r w5 ⟨rfl, hb5⟩
    have HB5 := hid (HB4.out.trans (hb5.mono HB4.out.size))
    have HC5 := hid (HC4.out.trans (hb5.mono HC4.out.size))
    have HD5 := hid (HD4.out.trans (hb5.mono HD4.out.size))
    clear hb5
    go_wp2_with fail
    refine (HRL.out _ w5 (HVL.out.below HD5.out)).mono ?_
    rintro r w6 ⟨rfl, hb6⟩
    have HB6 := hid (HB5.out.trans (hb6.mono HB5.out.size))
    clear hb6
    go_wp2_with fail
    refine (HLv.out w6 (HE.out.below HB6.out)).mono ?_
    rintro r w7 ⟨rfl, hb7⟩
    have HB7 := hid (HB6.out.trans (hb7.mono HB6.out.size))
    clear hb7
    go_wp2_with fail
    go_ret
    exact ⟨rfl, HB7.out⟩
  · have d1 : decide (0 ≤ m) = false := decide_eq_false h0
    clear hm h0 h3
    go_enter Tryd.func5, Tryd.ntmps5
    go_wp2_with fail
    refine HN.out.mono ?_
    rintro r w1 ⟨rfl, hb1⟩
    have HB1 := hid hb1
    clear hb1
    go_wp2_with fail
    refine (HU.out w1).mono ?_
    rintro r w2 ⟨rfl, hb2⟩
    have HB2 := hid (HB1.out.trans (hb2.mono HB1.out.size))
    clear hb2
    go_wp2_with fail
    refine (HL.out w2 (HE.out.below HB2.out)).mono ?_
    rintro r w3 ⟨⟨vl, rfl, hvl⟩, hb3⟩
    obtain ⟨al, cl, rfl, hvl2⟩ := hvl
    have HVL := hid (show NatsAt w3 (.slice al o.length cl) o from ⟨al, cl, rfl, hvl2⟩)
    clear hvl2
    have HB3 := hid (HB2.out.trans (hb3.mono HB2.out.size))
    have HC3 := hid hb3
    clear hb3
    go_wp2_with fail
    refine (HI.out w3 (HE.out.below HB3.out)).mono ?_
    rintro r w4 ⟨rfl, hb4⟩
    have HB4 := hid (HB3.out.trans (hb4.mono HB3.out.size))
    have HC4 := hid (HC3.out.trans (hb4.mono HC3.out.size))
    have HD4 := hid hb4
    clear hb4
    go_wp2_with fail
    refine (HR.out w4).mono ?_
    rintro r w5 ⟨rfl, hb5⟩
    have HB5 := hid (HB4.out.trans (hb5.mono HB4.out.size))
    have HC5 := hid (HC4.out.trans (hb5.mono HC4.out.size))
    have HD5 := hid (HD4.out.trans (hb5.mono HD4.out.size))
    clear hb5
    go_wp2_with fail
    refine (HRL.out _ w5 (HVL.out.below HD5.out)).mono ?_
    rintro r w6 ⟨rfl, hb6⟩
    have HB6 := hid (HB5.out.trans (hb6.mono HB5.out.size))
    clear hb6
    go_wp2_with fail
    refine (HLv.out w6 (HE.out.below HB6.out)).mono ?_
    rintro r w7 ⟨rfl, hb7⟩
    have HB7 := hid (HB6.out.trans (hb7.mono HB6.out.size))
    clear hb7
    go_wp2_with fail
    go_ret
    exact ⟨rfl, HB7.out⟩

set_option maxRecDepth 100000 in
set_option maxHeartbeats 3200000 in
theorem wr_big_00 (s : ByteArray) (hs : s.size ≤ 1000) (m : Int) (h2 : m ≤ 9223372036854775807) (u : Nat) (hu : numOf s.data.toList = some u) (hm : 0 ≤ m → m < (u : Int)) (hc : unL s.data.toList = none) (hd : lstOf s.data.toList = none) (w : World) (E : Env w) : Calls Tryd.prog 5 #[.string s, .int .i64 m] w fun r w' => r = .returned (.bool true) ∧ Below w.heap.size w w' := by
  have HLv := hid live10
  have HE := hid E
  have d0 : decide ((1000 : Int) < (s.size : Int)) = false := decide_eq_false (by omega)
  have HN := hid (rn_yes s (by omega) u hu w E)
  have hds := numOf_some _ u hu
  have HR := hid (ref10_num u hds.2)
  unfold NumSpec at HR
  rw [hds.1] at HR
  have HI := hid (ri_no s (by omega) m h2 (fun v hv => by rw [hu] at hv; injection hv with hv; subst hv; exact hm))
  have HU := hid (un_no s hs hc)
  have HL := hid (rl_no s (by omega) hd)
  have es : (⟨s.data.toList.toArray⟩ : ByteArray) = s := by simp
  rw [es] at HR
  have dS : (s.toList == s.toList) = true := by simp
  have h3 := h2
  clear hu hc hd es E hs hds h2
  by_cases h0 : 0 ≤ m
  · have d1 : decide (0 ≤ m) = true := decide_eq_true h0
    have c1 := cv_i64 m h0 h3
    have d2 : decide ((u : Int) ≤ m) = false := decide_eq_false (by have := hm h0; omega)
    clear hm h0 h3
    go_enter Tryd.func5, Tryd.ntmps5
    go_wp2_with fail
    refine HN.out.mono ?_
    rintro r w1 ⟨rfl, hb1⟩
    have HB1 := hid hb1
    clear hb1
    go_wp2_with fail
    refine (HU.out w1).mono ?_
    rintro r w2 ⟨rfl, hb2⟩
    have HB2 := hid (HB1.out.trans (hb2.mono HB1.out.size))
    clear hb2
    go_wp2_with fail
    refine (HL.out w2 (HE.out.below HB2.out)).mono ?_
    rintro r w3 ⟨rfl, hb3⟩
    have HB3 := hid (HB2.out.trans (hb3.mono HB2.out.size))
    have HC3 := hid hb3
    clear hb3
    go_wp2_with fail
    refine (HI.out w3 (HE.out.below HB3.out)).mono ?_
    rintro r w4 ⟨rfl, hb4⟩
    have HB4 := hid (HB3.out.trans (hb4.mono HB3.out.size))
    have HC4 := hid (HC3.out.trans (hb4.mono HC3.out.size))
    have HD4 := hid hb4
    clear hb4
    go_wp2_with fail
    refine (HR.out w4).mono ?_
    rintro r w5 ⟨rfl, hb5⟩
    have HB5 := hid (HB4.out.trans (hb5.mono HB4.out.size))
    have HC5 := hid (HC4.out.trans (hb5.mono HC4.out.size))
    have HD5 := hid (HD4.out.trans (hb5.mono HD4.out.size))
    clear hb5
    go_wp2_with fail
    refine (HLv.out w5 (HE.out.below HB5.out)).mono ?_
    rintro r w6 ⟨rfl, hb6⟩
    have HB6 := hid (HB5.out.trans (hb6.mono HB5.out.size))
    clear hb6
    go_wp2_with fail
    go_ret
    exact ⟨rfl, HB6.out⟩
  · have d1 : decide (0 ≤ m) = false := decide_eq_false h0
    clear hm h0 h3
    go_enter Tryd.func5, Tryd.ntmps5
    go_wp2_with fail
    refine HN.out.mono ?_
    rintro r w1 ⟨rfl, hb1⟩
    have HB1 := hid hb1
    clear hb1
    go_wp2_with fail
    refine (HU.out w1).mono ?_
    rintro r w2 ⟨rfl, hb2⟩
    have HB2 := hid (HB1.out.trans (hb2.mono HB1.out.size))
    clear hb2
    go_wp2_with fail
    refine (HL.out w2 (HE.out.below HB2.out)).mono ?_
    rintro r w3 ⟨rfl, hb3⟩
    have HB3 := hid (HB2.out.trans (hb3.mono HB2.out.size))
    have HC3 := hid hb3
    clear hb3
    go_wp2_with fail
    refine (HI.out w3 (HE.out.below HB3.out)).mono ?_
    rintro r w4 ⟨rfl, hb4⟩
    have HB4 := hid (HB3.out.trans (hb4.mono HB3.out.size))
    have HC4 := hid (HC3.out.trans (hb4.mono HC3.out.size))
    have HD4 := hid hb4
    clear hb4
    go_wp2_with fail
    refine (HR.out w4).mono ?_
    rintro r w5 ⟨rfl, hb5⟩
    have HB5 := hid (HB4.out.trans (hb5.mono HB4.out.size))
    have HC5 := hid (HC4.out.trans (hb5.mono HC4.out.size))
    have HD5 := hid (HD4.out.trans (hb5.mono HD4.out.size))
    clear hb5
    go_wp2_with fail
    refine (HLv.out w5 (HE.out.below HB5.out)).mono ?_
    rintro r w6 ⟨rfl, hb6⟩
    have HB6 := hid (HB5.out.trans (hb6.mono HB5.out.size))
    clear hb6
    go_wp2_with fail
    go_ret
    exact ⟨rfl, HB6.out⟩

set_option maxRecDepth 100000 in
set_option maxHeartbeats 3200000 in
theorem wr_no_11 (s : ByteArray) (hs : s.size ≤ 1000) (m : Int) (h2 : m ≤ 9223372036854775807) (hu : numOf s.data.toList = none) (b : List UInt8) (hc : unL s.data.toList = some b) (o : List Nat) (hd : lstOf s.data.toList = some o) (w : World) (E : Env w) : Calls Tryd.prog 5 #[.string s, .int .i64 m] w fun r w' => r = .returned (.bool true) ∧ Below w.heap.size w w' := by
  have HLv := hid live10
  have HE := hid E
  have d0 : decide ((1000 : Int) < (s.size : Int)) = false := decide_eq_false (by omega)
  have HN := hid (rn_no s (by omega) hu w E)
  have HI := hid (ri_no s (by omega) m h2 (fun v hv => by rw [hu] at hv; cases hv))
  have HU := hid (un_yes s hs b hc)
  have hbl : b.length ≤ 1000 := by
    have h := congrArg List.length (hexW_unL _ b hc)
    rw [str_len] at h
    unfold hexW at h
    split at h
    · rename_i e; subst e; simp
    · rw [hx_len] at h; omega
  have HX := hid (rhex_any · b (by omega))
  rw [hexW_unL _ b hc] at HX
  have HL := hid (rl_yes s (by omega) o hd)
  have hdl := listW_lst _ o hd
  have hol : o.length ≤ 1001 := lst_len s hs o hd
  have HRL := hid (rlist_any · o (getD_lt o hdl.2) (by omega))
  rw [hdl.1] at HRL
  have es : (⟨s.data.toList.toArray⟩ : ByteArray) = s := by simp
  rw [es] at HX
  rw [es] at HRL
  have dS : (s.toList == s.toList) = true := by simp
  clear hu hc hd es E hs h2 hbl hdl hol
  go_enter Tryd.func5, Tryd.ntmps5
  go_wp2_with fail
  refine HN.out.mono ?_
  rintro r w1 ⟨rfl, hb1⟩
  have HB1 := hid hb1
  clear hb1
  go_wp2_with fail
  refine (HU.out w1).mono ?_
  rintro r w2 ⟨⟨vb, rfl, hvb⟩, hb2⟩
  obtain ⟨ab, cb, rfl, hvb2⟩ := hvb
  have HV := hid (show BytesAt w2 (.slice ab b.length cb) b from ⟨ab, cb, rfl, hvb2⟩)
  clear hvb2
  have HB2 := hid (HB1.out.trans (hb2.mono HB1.out.size))
  clear hb2
  go_wp2_with fail
  refine (HL.out w2 (HE.out.below HB2.out)).mono ?_
  rintro r w3 ⟨⟨vl, rfl, hvl⟩, hb3⟩
  obtain ⟨al, cl, rfl, hvl2⟩ := hvl
  have HVL := hid (show NatsAt w3 (.slice al o.length cl) o from ⟨al, cl, rfl, hvl2⟩)
  clear hvl2
  have HB3 := hid (HB2.out.trans (hb3.mono HB2.out.size))
  have HC3 := hid hb3
  clear hb3
  go_wp2_with fail
  refine (HI.out w3 (HE.out.below HB3.out)).mono ?_
  rintro r w4 ⟨rfl, hb4⟩
  have HB4 := hid (HB3.out.trans (hb4.mono HB3.out.size))
  have HC4 := hid (HC3.out.trans (hb4.mono HC3.out.size))
  have HD4 := hid hb4
  clear hb4
  go_wp2_with fail
  refine (HX.out _ w4 (HV.out.below HC4.out)).mono ?_
  rintro r w5 ⟨rfl, hb5⟩
  have HB5 := hid (HB4.out.trans (hb5.mono HB4.out.size))
  have HD5 := hid (HD4.out.trans (hb5.mono HD4.out.size))
  clear hb5
  go_wp2_with fail
  refine (HRL.out _ w5 (HVL.out.below HD5.out)).mono ?_
  rintro r w6 ⟨rfl, hb6⟩
  have HB6 := hid (HB5.out.trans (hb6.mono HB5.out.size))
  clear hb6
  go_wp2_with fail
  refine (HLv.out w6 (HE.out.below HB6.out)).mono ?_
  rintro r w7 ⟨rfl, hb7⟩
  have HB7 := hid (HB6.out.trans (hb7.mono HB6.out.size))
  clear hb7
  go_wp2_with fail
  go_ret
  exact ⟨rfl, HB7.out⟩

set_option maxRecDepth 100000 in
set_option maxHeartbeats 3200000 in
theorem wr_no_10 (s : ByteArray) (hs : s.size ≤ 1000) (m : Int) (h2 : m ≤ 9223372036854775807) (hu : numOf s.data.toList = none) (b : List UInt8) (hc : unL s.data.toList = some b) (hd : lstOf s.data.toList = none) (w : World) (E : Env w) : Calls Tryd.prog 5 #[.string s, .int .i64 m] w fun r w' => r = .returned (.bool true) ∧ Below w.heap.size w w' := by
  have HLv := hid live10
  have HE := hid E
  have d0 : decide ((1000 : Int) < (s.size : Int)) = false := decide_eq_false (by omega)
  have HN := hid (rn_no s (by omega) hu w E)
  have HI := hid (ri_no s (by omega) m h2 (fun v hv => by rw [hu] at hv; cases hv))
  have HU := hid (un_yes s hs b hc)
  have hbl : b.length ≤ 1000 := by
    have h := congrArg List.length (hexW_unL _ b hc)
    rw [str_len] at h
    unfold hexW at h
    split at h
    · rename_i e; subst e; simp
    · rw [hx_len] at h; omega
  have HX := hid (rhex_any · b (by omega))
  rw [hexW_unL _ b hc] at HX
  have HL := hid (rl_no s (by omega) hd)
  have es : (⟨s.data.toList.toArray⟩ : ByteArray) = s := by simp
  rw [es] at HX
  have dS : (s.toList == s.toList) = true := by simp
  clear hu hc hd es E hs h2 hbl
  go_enter Tryd.func5, Tryd.ntmps5
  go_wp2_with fail
  refine HN.out.mono ?_
  rintro r w1 ⟨rfl, hb1⟩
  have HB1 := hid hb1
  clear hb1
  go_wp2_with fail
  refine (HU.out w1).mono ?_
  rintro r w2 ⟨⟨vb, rfl, hvb⟩, hb2⟩
  obtain ⟨ab, cb, rfl, hvb2⟩ := hvb
  have HV := hid (show BytesAt w2 (.slice ab b.length cb) b from ⟨ab, cb, rfl, hvb2⟩)
  clear hvb2
  have HB2 := hid (HB1.out.trans (hb2.mono HB1.out.size))
  clear hb2
  go_wp2_with fail
  refine (HL.out w2 (HE.out.below HB2.out)).mono ?_
  rintro r w3 ⟨rfl, hb3⟩
  have HB3 := hid (HB2.out.trans (hb3.mono HB2.out.size))
  have HC3 := hid hb3
  clear hb3
  go_wp2_with fail
  refine (HI.out w3 (HE.out.below HB3.out)).mono ?_
  rintro r w4 ⟨rfl, hb4⟩
  have HB4 := hid (HB3.out.trans (hb4.mono HB3.out.size))
  have HC4 := hid (HC3.out.trans (hb4.mono HC3.out.size))
  have HD4 := hid hb4
  clear hb4
  go_wp2_with fail
  refine (HX.out _ w4 (HV.out.below HC4.out)).mono ?_
  rintro r w5 ⟨rfl, hb5⟩
  have HB5 := hid (HB4.out.trans (hb5.mono HB4.out.size))
  have HD5 := hid (HD4.out.trans (hb5.mono HD4.out.size))
  clear hb5
  go_wp2_with fail
  refine (HLv.out w5 (HE.out.below HB5.out)).mono ?_
  rintro r w6 ⟨rfl, hb6⟩
  have HB6 := hid (HB5.out.trans (hb6.mono HB5.out.size))
  clear hb6
  go_wp2_with fail
  go_ret
  exact ⟨rfl, HB6.out⟩

set_option maxRecDepth 100000 in
set_option maxHeartbeats 3200000 in
theorem wr_no_01 (s : ByteArray) (hs : s.size ≤ 1000) (m : Int) (h2 : m ≤ 9223372036854775807) (hu : numOf s.data.toList = none) (hc : unL s.data.toList = none) (o : List Nat) (hd : lstOf s.data.toList = some o) (w : World) (E : Env w) : Calls Tryd.prog 5 #[.string s, .int .i64 m] w fun r w' => r = .returned (.bool true) ∧ Below w.heap.size w w' := by
  have HLv := hid live10
  have HE := hid E
  have d0 : decide ((1000 : Int) < (s.size : Int)) = false := decide_eq_false (by omega)
  have HN := hid (rn_no s (by omega) hu w E)
  have HI := hid (ri_no s (by omega) m h2 (fun v hv => by rw [hu] at hv; cases hv))
  have HU := hid (un_no s hs hc)
  have HL := hid (rl_yes s (by omega) o hd)
  have hdl := listW_lst _ o hd
  have hol : o.length ≤ 1001 := lst_len s hs o hd
  have HRL := hid (rlist_any · o (getD_lt o hdl.2) (by omega))
  rw [hdl.1] at HRL
  have es : (⟨s.data.toList.toArray⟩ : ByteArray) = s := by simp
  rw [es] at HRL
  have dS : (s.toList == s.toList) = true := by simp
  clear hu hc hd es E hs h2 hdl hol
  go_enter Tryd.func5, Tryd.ntmps5
  go_wp2_with fail
  refine HN.out.mono ?_
  rintro r w1 ⟨rfl, hb1⟩
  have HB1 := hid hb1
  clear hb1
  go_wp2_with fail
  refine (HU.out w1).mono ?_
  rintro r w2 ⟨rfl, hb2⟩
  have HB2 := hid (HB1.out.trans (hb2.mono HB1.out.size))
  clear hb2
  go_wp2_with fail
  refine (HL.out w2 (HE.out.below HB2.out)).mono ?_
  rintro r w3 ⟨⟨vl, rfl, hvl⟩, hb3⟩
  obtain ⟨al, cl, rfl, hvl2⟩ := hvl
  have HVL := hid (show NatsAt w3 (.slice al o.length cl) o from ⟨al, cl, rfl, hvl2⟩)
  clear hvl2
  have HB3 := hid (HB2.out.trans (hb3.mono HB2.out.size))
  have HC3 := hid hb3
  clear hb3
  go_wp2_with fail
  refine (HI.out w3 (HE.out.below HB3.out)).mono ?_
  rintro r w4 ⟨rfl, hb4⟩
  have HB4 := hid (HB3.out.trans (hb4.mono HB3.out.size))
  have HC4 := hid (HC3.out.trans (hb4.mono HC3.out.size))
  have HD4 := hid hb4
  clear hb4
  go_wp2_with fail
  refine (HRL.out _ w4 (HVL.out.below HD4.out)).mono ?_
  rintro r w5 ⟨rfl, hb5⟩
  have HB5 := hid (HB4.out.trans (hb5.mono HB4.out.size))
  clear hb5
  go_wp2_with fail
  refine (HLv.out w5 (HE.out.below HB5.out)).mono ?_
  rintro r w6 ⟨rfl, hb6⟩
  have HB6 := hid (HB5.out.trans (hb6.mono HB5.out.size))
  clear hb6
  go_wp2_with fail
  go_ret
  exact ⟨rfl, HB6.out⟩

set_option maxRecDepth 100000 in
set_option maxHeartbeats 3200000 in
theorem wr_no_00 (s : ByteArray) (hs : s.size ≤ 1000) (m : Int) (h2 : m ≤ 9223372036854775807) (hu : numOf s.data.toList = none) (hc : unL s.data.toList = none) (hd : lstOf s.data.toList = none) (w : World) (E : Env w) : Calls Tryd.prog 5 #[.string s, .int .i64 m] w fun r w' => r = .returned (.bool true) ∧ Below w.heap.size w w' := by
  have HLv := hid live10
  have HE := hid E
  have d0 : decide ((1000 : Int) < (s.size : Int)) = false := decide_eq_false (by omega)
  have HN := hid (rn_no s (by omega) hu w E)
  have HI := hid (ri_no s (by omega) m h2 (fun v hv => by rw [hu] at hv; cases hv))
  have HU := hid (un_no s hs hc)
  have HL := hid (rl_no s (by omega) hd)
  have es : (⟨s.data.toList.toArray⟩ : ByteArray) = s := by simp
  have dS : (s.toList == s.toList) = true := by simp
  clear hu hc hd es E hs h2
  go_enter Tryd.func5, Tryd.ntmps5
  go_wp2_with fail
  refine HN.out.mono ?_
  rintro r w1 ⟨rfl, hb1⟩
  have HB1 := hid hb1
  clear hb1
  go_wp2_with fail
  refine (HU.out w1).mono ?_
  rintro r w2 ⟨rfl, hb2⟩
  have HB2 := hid (HB1.out.trans (hb2.mono HB1.out.size))
  clear hb2
  go_wp2_with fail
  refine (HL.out w2 (HE.out.below HB2.out)).mono ?_
  rintro r w3 ⟨rfl, hb3⟩
  have HB3 := hid (HB2.out.trans (hb3.mono HB2.out.size))
  have HC3 := hid hb3
  clear hb3
  go_wp2_with fail
  refine (HI.out w3 (HE.out.below HB3.out)).mono ?_
  rintro r w4 ⟨rfl, hb4⟩
  have HB4 := hid (HB3.out.trans (hb4.mono HB3.out.size))
  have HC4 := hid (HC3.out.trans (hb4.mono HC3.out.size))
  have HD4 := hid hb4
  clear hb4
  go_wp2_with fail
  refine (HLv.out w4 (HE.out.below HB4.out)).mono ?_
  rintro r w5 ⟨rfl, hb5⟩
  have HB5 := hid (HB4.out.trans (hb5.mono HB4.out.size))
  clear hb5
  go_wp2_with fail
  go_ret
  exact ⟨rfl, HB5.out⟩

theorem wordsReads_c (s : ByteArray) (hz : s.size ≤ maxLen) (m : Int) (hm : -9223372036854775808 ≤ m ∧ m ≤ 9223372036854775807) (w : World) (E : Env w) : Calls Tryd.prog 5 #[.string s, .int .i64 m] w fun r w' => r = .returned (.bool true) ∧ Below w.heap.size w w' := by
  by_cases hs : s.size ≤ 1000
  · cases hu : numOf s.data.toList with
    | none =>
      cases hc : unL s.data.toList with
      | none =>
        cases hd : lstOf s.data.toList with
        | none => exact wr_no_00 s hs m hm.2 hu hc hd w E
        | some o => exact wr_no_01 s hs m hm.2 hu hc o hd w E
      | some b =>
        cases hd : lstOf s.data.toList with
        | none => exact wr_no_10 s hs m hm.2 hu b hc hd w E
        | some o => exact wr_no_11 s hs m hm.2 hu b hc o hd w E
    | some u =>
      by_cases hmu : 0 ≤ m ∧ (u : Int) ≤ m
      · cases hc : unL s.data.toList with
        | none =>
          cases hd : lstOf s.data.toList with
          | none => exact wr_yes_00 s hs m hm.2 u hu hmu.1 hmu.2 hc hd w E
          | some o => exact wr_yes_01 s hs m hm.2 u hu hmu.1 hmu.2 hc o hd w E
        | some b =>
          cases hd : lstOf s.data.toList with
          | none => exact wr_yes_10 s hs m hm.2 u hu hmu.1 hmu.2 b hc hd w E
          | some o => exact wr_yes_11 s hs m hm.2 u hu hmu.1 hmu.2 b hc o hd w E
      · have hg : 0 ≤ m → m < (u : Int) := fun h => by omega
        cases hc : unL s.data.toList with
        | none =>
          cases hd : lstOf s.data.toList with
          | none => exact wr_big_00 s hs m hm.2 u hu hg hc hd w E
          | some o => exact wr_big_01 s hs m hm.2 u hu hg hc o hd w E
        | some b =>
          cases hd : lstOf s.data.toList with
          | none => exact wr_big_10 s hs m hm.2 u hu hg b hc hd w E
          | some o => exact wr_big_11 s hs m hm.2 u hu hg b hc o hd w E
  · have HLv := hid live10
    have d0 : decide ((1000 : Int) < (s.size : Int)) = true := decide_eq_true (by omega)
    go_enter Tryd.func5, Tryd.ntmps5
    go_wp2_with fail
    refine (HLv.out w E).mono ?_
    rintro r w1 ⟨rfl, hb1⟩
    go_wp2_with fail
    go_ret
    exact ⟨rfl, hb1⟩
end Go.Proofs.YtlkpnpbodbokkaaDoor
