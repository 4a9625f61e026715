/- words.Unhex, words.ReadNum (written by gen_wth.py). -/
import Derived.Test.YtlkpnpbodbokkaaDoorProg
import Derived.WalkKit
import Derived.Deep.Cut
import Derived.BigQuiet
import Derived.Lib.ParseIntB
import Derived.Lib.AtoiErrMem
import Derived.Test.YtlkpnpbodbokkaaDoorShd
import Derived.Test.YtlkpnpbodbokkaaDoorFrA
import Derived.Test.YtlkpnpbodbokkaaDoorWtB
import Derived.Test.YtlkpnpbodbokkaaDoorWtG
namespace Go.Bs
open Go.RowKit
set_option linter.unusedVariables false
theorem third_u {x : Lib.NumEnd Nat} (h1 : ∀ v, x ≠ .ok v) (h2 : x ≠ .range) : x = Lib.parseUintB 64 [] := by
  cases x
  all_goals first | rfl | exact absurd rfl (h1 _) | exact absurd rfl h2
theorem str_data (s : ByteArray) (L : List UInt8) (h : s.data.toList = L) : s = ⟨L.toArray⟩ := by
  cases s with
  | mk d => simp at h; rw [← h]
theorem data_str (s : ByteArray) : s.toList = s.data.toList := by rw [ByteArray.toList_eq]
end Go.Bs
namespace Go.Proofs.YtlkpnpbodbokkaaDoor
open Go.RowKit Go.Bs
set_option linter.unusedVariables false
set_option linter.unusedSimpArgs false

theorem words_unhex (s : ByteArray) (hs : s.size ≤ 1000) (w : World) : Calls Tryd.prog 18 #[.string s] w fun r w' => UnRet w s r w' ∧ Below w.heap.size w w' := by
  have hsz := str_len s
  by_cases h45 : s.data.toList = [45]
  · have hd : (s.toList == [45]) = true := by rw [data_str]; exact beq_iff_eq.2 h45
    have HR : Hid (UnRet w s (.returned (.tuple #[.slice none 0 0, .bool true])) w) := hid (.inl ⟨[], _, by unfold unL; rw [if_pos h45], rfl, rSl_mk rfl (Nat.le_refl _) (Nat.zero_le _) (.inl rfl)⟩)
    clear h45 hsz
    go_enter Tryd.func18, Tryd.ntmps18
    go_wp2_with fail
    go_ret2
    exact ⟨HR.out, Below.refl _ _⟩
  · have hd : (s.toList == [45]) = false := by rw [data_str]; exact beq_eq_false_iff_ne.2 h45
    by_cases hz : s.size = 0
    · have he : s.toList.isEmpty = true := by rw [data_str, List.isEmpty_iff]; exact List.eq_nil_of_length_eq_zero (by omega)
      have HR : Hid (UnRet w s (.returned (.tuple #[.slice none 0 0, .bool false])) w) := hid (.inr ⟨by unfold unL; rw [if_neg h45, if_pos (.inl (List.eq_nil_of_length_eq_zero (by omega)))], rfl⟩)
      clear h45 hsz hz
      go_enter Tryd.func18, Tryd.ntmps18
      go_wp2_with fail
      go_ret2
      exact ⟨HR.out, Below.refl _ _⟩
    · have he : s.toList.isEmpty = false := by rw [data_str, List.isEmpty_eq_false_iff]; intro e; rw [e] at hsz; simp at hsz; omega
      have hn0 : s.data.toList ≠ [] := by intro e; rw [e] at hsz; simp at hsz; omega
      by_cases ho : s.size % 2 = 1
      · have HR : Hid (UnRet w s (.returned (.tuple #[.slice none 0 0, .bool false])) w) := hid (.inr ⟨by unfold unL; rw [if_neg h45, if_pos (.inr (by omega))], rfl⟩)
        have eq2 : (((s.size : Nat) : Int) % 2 == 1) = true := beq_iff_eq.2 (by omega)
        clear h45 hsz hn0 ho hz
        go_enter Tryd.func18, Tryd.ntmps18
        go_wp2_with fail
        go_ret2
        exact ⟨HR.out, Below.refl _ _⟩
      · refine (unhex_even s hs (by omega) (by omega) hd he w).mono ?_
        rintro r w' ⟨h, hb⟩
        refine ⟨?_, hb⟩
        have hun : unL s.data.toList = if allHex s.data.toList then some (unBs s.data.toList) else none := by
          unfold unL; rw [if_neg h45, if_neg (by rintro (e | e); exact hn0 e; omega)]
        rcases h with ⟨ha, v, rfl, hr⟩ | ⟨ha, rfl⟩
        · exact .inl ⟨_, v, by rw [hun, if_pos ha], rfl, hr⟩
        · exact .inr ⟨by rw [hun, ha]; rfl, rfl⟩

theorem words_hex0 (a : Option Addr) (c : Nat) (w : World) : Calls Tryd.prog 25 #[.slice a 0 c] w fun r w' => r = .returned (.string ⟨(hexW []).toArray⟩) ∧ Below w.heap.size w w' := by
  go_enter Tryd.func25, Tryd.ntmps25
  go_wp2_with fail
  go_ret
  exact ⟨rfl, Below.refl _ _⟩

theorem pu_c (s : ByteArray) (hs : s.size ≤ 100000) (w : World) (E : Env w) : Calls Tryd.prog 44 #[.string s, .int .i64 10, .int .i64 64] w fun r w' =>
    ((∃ u : Nat, Lib.parseUintB 64 s.data.toList = .ok u ∧ u < 18446744073709551616 ∧ r = .returned (.tuple #[.int .u64 (u : Int), .nilIface])) ∨
     ((∀ v, Lib.parseUintB 64 s.data.toList ≠ .ok v) ∧ ∃ (n : Int) (te : TypeId) (pe : Value), r = .returned (.tuple #[.int .u64 n, .iface te pe]))) ∧ Below w.heap.size w w' := by
  obtain ⟨h1, ⟨m, h2⟩, ⟨a, b, h3⟩, ⟨c, d, h4⟩⟩ := E
  have hc : (∃ v, Lib.parseUintB 64 s.data.toList = .ok v) ∨ Lib.parseUintB 64 s.data.toList = .range ∨ ((∀ v, Lib.parseUintB 64 s.data.toList ≠ .ok v) ∧ Lib.parseUintB 64 s.data.toList ≠ .range) := by
    by_cases h5 : ∃ v, Lib.parseUintB 64 s.data.toList = .ok v
    · exact .inl h5
    · by_cases h6 : Lib.parseUintB 64 s.data.toList = .range
      · exact .inr (.inl h6)
      · exact .inr (.inr ⟨fun v e => h5 ⟨v, e⟩, h6⟩)
  rcases hc with ⟨v, h⟩ | h | ⟨hv, hr⟩
  · refine (Tryd.strconv_ParseUint_10_at64_ok s (by omega) v h w).mono ?_
    rintro r w' ⟨rfl, hw⟩
    refine ⟨.inl ⟨v, h, parse_lt _ _ h, rfl⟩, ?_⟩
    rcases hw with rfl | rfl
    · exact Below.refl _ _
    · exact Lib.bytesWorld_below _ _ _
  · refine (Tryd.strconv_ParseUint_10_at64_range s (by omega) h _ w h4 (.inr ⟨c, d, rfl⟩)).mono ?_
    rintro r w' ⟨N, rfl, _, _, hb⟩
    exact ⟨.inr ⟨fun v e => by (rw [h] at e; cases e), _, _, _, rfl⟩, hb⟩
  · have h := third_u hv hr
    refine Calls.mono (P := Tryd.prog) (f := 44) (Any.strconv_ParseUint_10_at64_syntax Tryd.laysPu14 s (by omega) h _ w h3 (.inr ⟨a, b, rfl⟩)) ?_
    rintro r w' ⟨N, rfl, _, _, hb⟩
    exact ⟨.inr ⟨hv, _, _, _, rfl⟩, hb⟩

def RnRet (s : List UInt8) (r : Ending) : Prop := (∃ u : Nat, numOf s = some u ∧ u < 18446744073709551616 ∧ r = .returned (.tuple #[.int .u64 (u : Int), .bool true])) ∨ (numOf s = none ∧ r = .returned (.tuple #[.int .u64 0, .bool false]))

set_option maxRecDepth 100000 in
set_option maxHeartbeats 3200000 in
theorem words_readnum (s : ByteArray) (hs : s.size ≤ 100000) (w : World) (E : Env w) : Calls Tryd.prog 17 #[.string s] w fun r w' => RnRet s.data.toList r ∧ Below w.heap.size w w' := by
  have HP := hid (pu_c s hs w E)
  have HN := hid num_c
  have HE := hid E
  clear E
  go_enter Tryd.func17, Tryd.ntmps17
  go_wp2_with fail
  refine HP.out.mono ?_
  rintro r w1 ⟨h, hb1⟩
  have HB1 := hid hb1
  rcases h with ⟨u, h, hu, rfl⟩ | ⟨h, n, te, pe, rfl⟩
  · have HF := hid (numOf_ok _ u h)
    have HNu := hid (HN.out u hu w1 ((HE.out.below HB1.out).tab))
    have hx : (Lib.decDigits u == s.toList) = decide (Lib.decDigits u = s.data.toList) := by
      rw [data_str]
      by_cases h : Lib.decDigits u = s.data.toList
      · rw [decide_eq_true h]; exact beq_iff_eq.2 h
      · rw [decide_eq_false h]; exact beq_eq_false_iff_ne.2 h
    clear h hb1 HN
    generalize hD : Lib.decDigits u = D at *
    have HD := hid hD
    clear hD
    go_wp2_with fail
    refine HNu.out.mono ?_
    rintro r w2 ⟨rfl, hb2⟩
    have HB2 := hid (HB1.out.trans (hb2.mono HB1.out.size))
    by_cases he : D = s.data.toList
    · rw [decide_eq_true he] at hx
      have HR : Hid (RnRet s.data.toList (.returned (.tuple #[.int .u64 (u : Int), .bool true]))) := hid (.inl ⟨u, by rw [HF.out, if_pos he], hu, rfl⟩)
      clear he hb2 HF
      go_wp2_with fail
      go_ret2
      exact ⟨HR.out, HB2.out⟩
    · rw [decide_eq_false he] at hx
      have HR : Hid (RnRet s.data.toList (.returned (.tuple #[.int .u64 0, .bool false]))) := hid (.inr ⟨by rw [HF.out, if_neg he], rfl⟩)
      clear he hb2 HF
      go_wp2_with fail
      go_ret2
      exact ⟨HR.out, HB2.out⟩
  · have HR : Hid (RnRet s.data.toList (.returned (.tuple #[.int .u64 0, .bool false]))) := hid (.inr ⟨numOf_bad _ h, rfl⟩)
    clear h hb1
    go_wp2_with fail
    go_ret2
    exact ⟨HR.out, HB1.out⟩
end Go.Proofs.YtlkpnpbodbokkaaDoor
