/- WordsLines (written by gen_wtp.py). -/
import Derived.Test.YtlkpnpbodbokkaaDoorProg
import Derived.WalkKit
import Derived.Deep.Cut
import Derived.BigQuiet
import Derived.Test.YtlkpnpbodbokkaaDoorWtP
namespace Go.Proofs.YtlkpnpbodbokkaaDoor
open Go.RowKit Go.Bs
set_option linter.unusedVariables false
set_option linter.unusedSimpArgs false

set_option maxRecDepth 100000 in
set_option maxHeartbeats 3200000 in
theorem wl_11 (s : ByteArray) (hs : s.size ≤ 5000) (k : Nat) (hk : lnBad 0 (spl 10 s.data.toList) = some k) (hl : lineB s.data.toList = true) (w : World) (E : Env w) : Calls Tryd.prog 8 #[.string s] w fun r w' => r = .returned (.bool true) ∧ Below w.heap.size w w' := by
  have HLv := hid live10
  have HE := hid E
  have d0 : decide ((5000 : Int) < (s.size : Int)) = false := decide_eq_false (by omega)
  have HA := hid (words_lines s (by omega) w E)
  have HB0 := hid (ref10_lines s (by omega))
  have HSp := hid (words_split s (by omega))
  have HLn := hid (ref10_line s (by omega))
  rw [hl] at HLn
  have hct := splc_count 10 s.data.toList
  rw [str_len] at hct
  have HS1 := hid (same10_nil none none 0 0)
  have dk : ((k : Int) != (k : Int)) = false := by simp
  have HRS := hid (ref10_split s (by omega))
  have hwj : jl 32 (wordsB s.data.toList) = s.data.toList := by
    unfold wordsB
    split
    · rename_i e; rw [e]; rfl
    · exact jl_spl 32 _
  have hwc : (wordsB s.data.toList).length ≤ 100000 := by
    unfold wordsB
    split
    · decide
    · have := splc_count 32 s.data.toList; rw [str_len] at this; omega
  have HS2 := hid (fun v v' w => same10 v v' (wordsB s.data.toList) w hwc)
  have HJ := hid (fun v w => words_join v (wordsB s.data.toList) w hwc (by rw [hwj, str_len]; omega))
  rw [hwj, mkS_data] at HJ
  have dS : (s.toList == s.toList) = true := by simp
  clear E hs hct hwj hwc
  go_enter Tryd.func8, Tryd.ntmps8
  go_wp2_with fail
  refine HA.out.mono ?_
  rintro r w1 ⟨hr, hb1⟩
  have HB1 := hid hb1
  clear hb1
  have hr1 : r = .returned (.tuple #[.slice none 0 0, .int .i64 (k : Int), .int .i64 20]) := by
    rcases hr with ⟨k2, h, e⟩ | ⟨h, _⟩
    · rw [hk] at h; injection h with h; subst h; exact e
    · rw [hk] at h; cases h
  subst hr1
  clear hr
  go_wp2_with fail
  refine (HB0.out w1).mono ?_
  rintro r w2 ⟨hr, hb2⟩
  have HC2 := hid hb2
  have HB2 := hid (HB1.out.trans (hb2.mono HB1.out.size))
  clear hb2
  have hr1 : r = .returned (.tuple #[.slice none 0 0, .int .i64 (k : Int), .int .i64 20]) := by
    rcases hr with ⟨k2, h, e⟩ | ⟨h, _⟩
    · rw [hk] at h; injection h with h; subst h; exact e
    · rw [hk] at h; cases h
  subst hr1
  clear hr hk
  go_wp2_with fail
  refine (HS1.out w2).mono ?_
  rintro r w3 ⟨rfl, hb3⟩
  have HB3 := hid (HB2.out.trans (hb3.mono HB2.out.size))
  clear hb3
  go_wp2_with fail
  refine (HSp.out w3 (HE.out.below HB3.out)).mono ?_
  rintro r w4 ⟨hr, hb4⟩
  have HB4 := hid (HB3.out.trans (hb4.mono HB3.out.size))
  clear hb4
  obtain ⟨v4, rfl, hv4⟩ : ∃ v, r = .returned (.tuple #[v, .bool true]) ∧ StrsAt w4 v (wordsB s.data.toList) := by
    rcases hr with ⟨_, v, h, h2⟩ | ⟨h, _⟩
    · exact ⟨v, h, h2⟩
    · rw [hl] at h; cases h
  clear hr
  obtain ⟨a4, c4, rfl, hx4⟩ := hv4
  have HV4 := hid (show StrsAt w4 (.slice a4 (wordsB s.data.toList).length c4) _ from ⟨a4, c4, rfl, hx4⟩)
  clear hx4 hl
  generalize wordsB s.data.toList = WD at *
  go_wp2_with fail
  refine (HLn.out w4).mono ?_
  rintro r w5 ⟨rfl, hb5⟩
  have HC5 := hid hb5
  have HB5 := hid (HB4.out.trans (hb5.mono HB4.out.size))
  clear hb5
  go_wp2_with fail
  refine (HRS.out w5).mono ?_
  rintro r w6 ⟨⟨v6, rfl, hv6⟩, hb6⟩
  obtain ⟨a6, c6, rfl, hx6⟩ := hv6
  have HV6 := hid (show StrsAt w6 (.slice a6 WD.length c6) _ from ⟨a6, c6, rfl, hx6⟩)
  have HC6 := hid (HC5.out.trans (hb6.mono HC5.out.size))
  have HB6 := hid (HB5.out.trans (hb6.mono HB5.out.size))
  clear hb6 hx6
  go_wp2_with fail
  refine (HS2.out _ _ w6 (HV4.out.below HC6.out) HV6.out).mono ?_
  rintro r w7 ⟨rfl, hb7⟩
  have HC7 := hid (HC6.out.trans (hb7.mono HC6.out.size))
  have HB7 := hid (HB6.out.trans (hb7.mono HB6.out.size))
  clear hb7
  go_wp2_with fail
  refine (HJ.out _ w7 (HV4.out.below HC7.out)).mono ?_
  rintro r w8 ⟨rfl, hb8⟩
  have HB8 := hid (HB7.out.trans (hb8.mono HB7.out.size))
  clear hb8
  go_wp2_with fail
  refine (HLv.out w8 (HE.out.below HB8.out)).mono ?_
  rintro r w9 ⟨rfl, hb9⟩
  have HB9 := hid (HB8.out.trans (hb9.mono HB8.out.size))
  clear hb9
  go_wp2_with fail
  go_ret
  exact ⟨rfl, HB9.out⟩

set_option maxRecDepth 100000 in
set_option maxHeartbeats 3200000 in
theorem wl_10 (s : ByteArray) (hs : s.size ≤ 5000) (k : Nat) (hk : lnBad 0 (spl 10 s.data.toList) = some k) (hl : lineB s.data.toList = false) (w : World) (E : Env w) : Calls Tryd.prog 8 #[.string s] w fun r w' => r = .returned (.bool true) ∧ Below w.heap.size w w' := by
  have HLv := hid live10
  have HE := hid E
  have d0 : decide ((5000 : Int) < (s.size : Int)) = false := decide_eq_false (by omega)
  have HA := hid (words_lines s (by omega) w E)
  have HB0 := hid (ref10_lines s (by omega))
  have HSp := hid (words_split s (by omega))
  have HLn := hid (ref10_line s (by omega))
  rw [hl] at HLn
  have hct := splc_count 10 s.data.toList
  rw [str_len] at hct
  have HS1 := hid (same10_nil none none 0 0)
  have dk : ((k : Int) != (k : Int)) = false := by simp
  clear E hs hct
  go_enter Tryd.func8, Tryd.ntmps8
  go_wp2_with fail
  refine HA.out.mono ?_
  rintro r w1 ⟨hr, hb1⟩
  have HB1 := hid hb1
  clear hb1
  have hr1 : r = .returned (.tuple #[.slice none 0 0, .int .i64 (k : Int), .int .i64 20]) := by
    rcases hr with ⟨k2, h, e⟩ | ⟨h, _⟩
    · rw [hk] at h; injection h with h; subst h; exact e
    · rw [hk] at h; cases h
  subst hr1
  clear hr
  go_wp2_with fail
  refine (HB0.out w1).mono ?_
  rintro r w2 ⟨hr, hb2⟩
  have HC2 := hid hb2
  have HB2 := hid (HB1.out.trans (hb2.mono HB1.out.size))
  clear hb2
  have hr1 : r = .returned (.tuple #[.slice none 0 0, .int .i64 (k : Int), .int .i64 20]) := by
    rcases hr with ⟨k2, h, e⟩ | ⟨h, _⟩
    · rw [hk] at h; injection h with h; subst h; exact e
    · rw [hk] at h; cases h
  subst hr1
  clear hr hk
  go_wp2_with fail
  refine (HS1.out w2).mono ?_
  rintro r w3 ⟨rfl, hb3⟩
  have HB3 := hid (HB2.out.trans (hb3.mono HB2.out.size))
  clear hb3
  go_wp2_with fail
  refine (HSp.out w3 (HE.out.below HB3.out)).mono ?_
  rintro r w4 ⟨hr, hb4⟩
  have HB4 := hid (HB3.out.trans (hb4.mono HB3.out.size))
  clear hb4
  have hr1 : r = .returned (.tuple #[.slice none 0 0, .bool false]) := by
    rcases hr with ⟨h, _⟩ | ⟨_, h⟩
    · rw [hl] at h; cases h
    · exact h
  subst hr1
  clear hr hl
  go_wp2_with fail
  refine (HLn.out w4).mono ?_
  rintro r w5 ⟨rfl, hb5⟩
  have HC5 := hid hb5
  have HB5 := hid (HB4.out.trans (hb5.mono HB4.out.size))
  clear hb5
  go_wp2_with fail
  refine (HLv.out w5 (HE.out.below HB5.out)).mono ?_
  rintro r w9 ⟨rfl, hb9⟩
  have HB9 := hid (HB5.out.trans (hb9.mono HB5.out.size))
  clear hb9
  go_wp2_with fail
  go_ret
  exact ⟨rfl, HB9.out⟩

set_option maxRecDepth 100000 in
set_option maxHeartbeats 3200000 in
theorem wl_01 (s : ByteArray) (hs : s.size ≤ 5000) (hk : lnBad 0 (spl 10 s.data.toList) = none) (hl : lineB s.data.toList = true) (w : World) (E : Env w) : Calls Tryd.prog 8 #[.string s] w fun r w' => r = .returned (.bool true) ∧ Below w.heap.size w w' := by
  have HLv := hid live10
  have HE := hid E
  have d0 : decide ((5000 : Int) < (s.size : Int)) = false := decide_eq_false (by omega)
  have HA := hid (words_lines s (by omega) w E)
  have HB0 := hid (ref10_lines s (by omega))
  have HSp := hid (words_split s (by omega))
  have HLn := hid (ref10_line s (by omega))
  rw [hl] at HLn
  have hct := splc_count 10 s.data.toList
  rw [str_len] at hct
  obtain ⟨D, hD⟩ : ∃ D, (spl 10 s.data.toList).dropLast = D := ⟨_, rfl⟩
  have HS1 := hid (fun v v' w => same10 v v' D w (by rw [← hD, List.length_dropLast]; omega))
  have HD := hid hD
  clear hD
  have HRS := hid (ref10_split s (by omega))
  have hwj : jl 32 (wordsB s.data.toList) = s.data.toList := by
    unfold wordsB
    split
    · rename_i e; rw [e]; rfl
    · exact jl_spl 32 _
  have hwc : (wordsB s.data.toList).length ≤ 100000 := by
    unfold wordsB
    split
    · decide
    · have := splc_count 32 s.data.toList; rw [str_len] at this; omega
  have HS2 := hid (fun v v' w => same10 v v' (wordsB s.data.toList) w hwc)
  have HJ := hid (fun v w => words_join v (wordsB s.data.toList) w hwc (by rw [hwj, str_len]; omega))
  rw [hwj, mkS_data] at HJ
  have dS : (s.toList == s.toList) = true := by simp
  clear E hs hct hwj hwc
  go_enter Tryd.func8, Tryd.ntmps8
  go_wp2_with fail
  refine HA.out.mono ?_
  rintro r w1 ⟨hr, hb1⟩
  have HB1 := hid hb1
  clear hb1
  obtain ⟨v1, rfl, hv1⟩ : ∃ v, r = .returned (.tuple #[v, .int .i64 0, .int .i64 0]) ∧ StrsAt w1 v D := by
    rcases hr with ⟨k2, h, e⟩ | ⟨_, v, h, h2⟩
    · rw [hk] at h; cases h
    · exact ⟨v, h, by rw [← HD.out]; exact h2⟩
  clear hr
  obtain ⟨a1, c1, rfl, hx1⟩ := hv1
  have HV1 := hid (show StrsAt w1 (.slice a1 D.length c1) _ from ⟨a1, c1, rfl, hx1⟩)
  clear hx1
  go_wp2_with fail
  refine (HB0.out w1).mono ?_
  rintro r w2 ⟨hr, hb2⟩
  have HC2 := hid hb2
  have HB2 := hid (HB1.out.trans (hb2.mono HB1.out.size))
  clear hb2
  obtain ⟨v2, rfl, hv2⟩ : ∃ v, r = .returned (.tuple #[v, .int .i64 0, .int .i64 0]) ∧ StrsAt w2 v D := by
    rcases hr with ⟨k2, h, e⟩ | ⟨_, v, h, h2⟩
    · rw [hk] at h; cases h
    · exact ⟨v, h, by rw [← HD.out]; exact h2⟩
  clear hr hk
  obtain ⟨a2, c2, rfl, hx2⟩ := hv2
  have HV2 := hid (show StrsAt w2 (.slice a2 D.length c2) _ from ⟨a2, c2, rfl, hx2⟩)
  clear hx2
  go_wp2_with fail
  refine (HS1.out _ _ w2 (HV1.out.below HC2.out) HV2.out).mono ?_
  rintro r w3 ⟨rfl, hb3⟩
  have HB3 := hid (HB2.out.trans (hb3.mono HB2.out.size))
  clear hb3
  go_wp2_with fail
  refine (HSp.out w3 (HE.out.below HB3.out)).mono ?_
  rintro r w4 ⟨hr, hb4⟩
  have HB4 := hid (HB3.out.trans (hb4.mono HB3.out.size))
  clear hb4
  obtain ⟨v4, rfl, hv4⟩ : ∃ v, r = .returned (.tuple #[v, .bool true]) ∧ StrsAt w4 v (wordsB s.data.toList) := by
    rcases hr with ⟨_, v, h, h2⟩ | ⟨h, _⟩
    · exact ⟨v, h, h2⟩
    · rw [hl] at h; cases h
  clear hr
  obtain ⟨a4, c4, rfl, hx4⟩ := hv4
  have HV4 := hid (show StrsAt w4 (.slice a4 (wordsB s.data.toList).length c4) _ from ⟨a4, c4, rfl, hx4⟩)
  clear hx4 hl
  generalize wordsB s.data.toList = WD at *
  go_wp2_with fail
  refine (HLn.out w4).mono ?_
  rintro r w5 ⟨rfl, hb5⟩
  have HC5 := hid hb5
  have HB5 := hid (HB4.out.trans (hb5.mono HB4.out.size))
  clear hb5
  go_wp2_with fail
  refine (HRS.out w5).mono ?_
  rintro r w6 ⟨⟨v6, rfl, hv6⟩, hb6⟩
  obtain ⟨a6, c6, rfl, hx6⟩ := hv6
  have HV6 := hid (show StrsAt w6 (.slice a6 WD.length c6) _ from ⟨a6, c6, rfl, hx6⟩)
  have HC6 := hid (HC5.out.trans (hb6.mono HC5.out.size))
  have HB6 := hid (HB5.out.trans (hb6.mono HB5.out.size))
  clear hb6 hx6
  go_wp2_with fail
  refine (HS2.out _ _ w6 (HV4.out.below HC6.out) HV6.out).mono ?_
  rintro r w7 ⟨rfl, hb7⟩
  have HC7 := hid (HC6.out.trans (hb7.mono HC6.out.size))
  have HB7 := hid (HB6.out.trans (hb7.mono HB6.out.size))
  clear hb7
  go_wp2_with fail
  refine (HJ.out _ w7 (HV4.out.below HC7.out)).mono ?_
  rintro r w8 ⟨rfl, hb8⟩
  have HB8 := hid (HB7.out.trans (hb8.mono HB7.out.size))
  clear hb8
  go_wp2_with fail
  refine (HLv.out w8 (HE.out.below HB8.out)).mono ?_
  rintro r w9 ⟨rfl, hb9⟩
  have HB9 := hid (HB8.out.trans (hb9.mono HB8.out.size))
  clear hb9
  go_wp2_with fail
  go_ret
  exact ⟨rfl, HB9.out⟩

set_option maxRecDepth 100000 in
set_option maxHeartbeats 3200000 in
theorem wl_00 (s : ByteArray) (hs : s.size ≤ 5000) (hk : lnBad 0 (spl 10 s.data.toList) = none) (hl : lineB s.data.toList = false) (w : World) (E : Env w) : Calls Tryd.prog 8 #[.string s] w fun r w' => r = .returned (.bool true) ∧ Below w.heap.size w w' := by
  have HLv := hid live10
  have HE := hid E
  have d0 : decide ((5000 : Int) < (s.size : Int)) = false := decide_eq_false (by omega)
  have HA := hid (words_lines s (by omega) w E)
  have HB0 := hid (ref10_lines s (by omega))
  have HSp := hid (words_split s (by omega))
  have HLn := hid (ref10_line s (by omega))
  rw [hl] at HLn
  have hct := splc_count 10 s.data.toList
  rw [str_len] at hct
  obtain ⟨D, hD⟩ : ∃ D, (spl 10 s.data.toList).dropLast = D := ⟨_, rfl⟩
  have HS1 := hid (fun v v' w => same10 v v' D w (by rw [← hD, List.length_dropLast]; omega))
  have HD := hid hD
  clear hD
  clear E hs hct
  go_enter Tryd.func8, Tryd.ntmps8
  go_wp2_with fail
  refine HA.out.mono ?_
  rintro r w1 ⟨hr, hb1⟩
  have HB1 := hid hb1
  clear hb1
  obtain ⟨v1, rfl, hv1⟩ : ∃ v, r = .returned (.tuple #[v, .int .i64 0, .int .i64 0]) ∧ StrsAt w1 v D := by
    rcases hr with ⟨k2, h, e⟩ | ⟨_, v, h, h2⟩
    · rw [hk] at h; cases h
    · exact ⟨v, h, by rw [← HD.out]; exact h2⟩
  clear hr
  obtain ⟨a1, c1, rfl, hx1⟩ := hv1
  have HV1 := hid (show StrsAt w1 (.slice a1 D.length c1) _ from ⟨a1, c1, rfl, hx1⟩)
  clear hx1
  go_wp2_with fail
  refine (HB0.out w1).mono ?_
  rintro r w2 ⟨hr, hb2⟩
  have HC2 := hid hb2
  have HB2 := hid (HB1.out.trans (hb2.mono HB1.out.size))
  clear hb2
  obtain ⟨v2, rfl, hv2⟩ : ∃ v, r = .returned (.tuple #[v, .int .i64 0, .int .i64 0]) ∧ StrsAt w2 v D := by
    rcases hr with ⟨k2, h, e⟩ | ⟨_, v, h, h2⟩
    · rw [hk] at h; cases h
    · exact ⟨v, h, by rw [← HD.out]; exact h2⟩
  clear hr hk
  obtain ⟨a2, c2, rfl, hx2⟩ := hv2
  have HV2 := hid (show StrsAt w2 (.slice a2 D.length c2) _ from ⟨a2, c2, rfl, hx2⟩)
  clear hx2
  go_wp2_with fail
  refine (HS1.out _ _ w2 (HV1.out.below HC2.out) HV2.out).mono ?_
  rintro r w3 ⟨rfl, hb3⟩
  have HB3 := hid (HB2.out.trans (hb3.mono HB2.out.size))
  clear hb3
  go_wp2_with fail
  refine (HSp.out w3 (HE.out.below HB3.out)).mono ?_
  rintro r w4 ⟨hr, hb4⟩
  have HB4 := hid (HB3.out.trans (hb4.mono HB3.out.size))
  clear hb4
  have hr1 : r = .returned (.tuple #[.slice none 0 0, .bool false]) := by
    rcases hr with ⟨h, _⟩ | ⟨_, h⟩
    · rw [hl] at h; cases h
    · exact h
  subst hr1
  clear hr hl
  go_wp2_with fail
  refine (HLn.out w4).mono ?_
  rintro r w5 ⟨rfl, hb5⟩
  have HC5 := hid hb5
  have HB5 := hid (HB4.out.trans (hb5.mono HB4.out.size))
  clear hb5
  go_wp2_with fail
  refine (HLv.out w5 (HE.out.below HB5.out)).mono ?_
  rintro r w9 ⟨rfl, hb9⟩
  have HB9 := hid (HB5.out.trans (hb9.mono HB5.out.size))
  clear hb9
  go_wp2_with fail
  go_ret
  exact ⟨rfl, HB9.out⟩

theorem wordsLines_c (s : ByteArray) (hz : s.size ≤ maxLen) (w : World) (E : Env w) : Calls Tryd.prog 8 #[.string s] w fun r w' => r = .returned (.bool true) ∧ Below w.heap.size w w' := by
  by_cases hs : s.size ≤ 5000
  · cases hk : lnBad 0 (spl 10 s.data.toList) with
    | some k =>
      cases hl : lineB s.data.toList with
      | true => exact wl_11 s hs k hk hl w E
      | false => exact wl_10 s hs k hk hl w E
    | none =>
      cases hl : lineB s.data.toList with
      | true => exact wl_01 s hs hk hl w E
      | false => exact wl_00 s hs hk hl w E
  · have HLv := hid live10
    have d0 : decide ((5000 : Int) < (s.size : Int)) = true := decide_eq_true (by omega)
    go_enter Tryd.func8, Tryd.ntmps8
    go_wp2_with fail
    refine (HLv.out w E).mono ?_
    rintro r w1 ⟨rfl, hb1⟩
    go_wp2_with fail
    go_ret
    exact ⟨rfl, hb1⟩
end Go.Proofs.YtlkpnpbodbokkaaDoor

