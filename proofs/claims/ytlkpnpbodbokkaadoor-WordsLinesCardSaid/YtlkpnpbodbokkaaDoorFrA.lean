/- fault.Parse; FaultReads (written by gen_fra.py). -/
import Derived.Test.YtlkpnpbodbokkaaDoorProg
import Derived.WalkKit
import Derived.Deep.Cut
import Derived.BigQuiet
import Derived.Lib.AtoiAllCases
import Derived.Lib.AtoiErrMem
import Derived.Test.YtlkpnpbodbokkaaDoorShb
import Derived.Test.YtlkpnpbodbokkaaDoorFwE
namespace Go.Bs
open Go.RowKit
set_option linter.unusedVariables false
theorem words_some (k : Nat) (h : k < 21) : wordsL.getD k ⟨#[]⟩ ≠ ⟨#[]⟩ := by
  have : ∀ k : Fin 21, (wordsL.getD k.val ⟨#[]⟩).size ≠ 0 := by decide
  intro e
  exact this ⟨k, h⟩ (by show (wordsL.getD k ⟨#[]⟩).size = 0; rw [e]; rfl)
theorem text_ok : textOf 0 0 = ⟨#[111, 107]⟩ := by unfold textOf; rw [if_pos (Or.inl rfl)]; rfl
theorem text_some (k : Nat) (h : k < 21) (a : Int) : textOf (k : Int) a ≠ ⟨#[]⟩ := by
  have h1 := words_some k h
  rw [← wordOf_nat k h] at h1
  unfold textOf
  split
  · exact h1
  · intro e
    have := congrArg ByteArray.size e
    rw [ByteArray.size_append, ByteArray.size_append] at this
    have h2 : (⟨#[32]⟩ : ByteArray).size = 1 := rfl
    have h3 : (⟨#[]⟩ : ByteArray).size = 0 := rfl
    omega
theorem ok_list : (⟨#[111, 107]⟩ : ByteArray).toList = [111, 107] := by rw [ByteArray.toList_eq]
end Go.Bs
namespace Go.Proofs.YtlkpnpbodbokkaaDoor
open Go.RowKit Go.Bs
set_option linter.unusedVariables false
set_option linter.unusedSimpArgs false

/-- What the library's calls want of the world. -/
structure Env (w : World) : Prop where
  tab : Tab w
  mx : ∃ m, w.cell? ⟨0, 0, none⟩ = some (.int .i64 m)
  e1 : ∃ te pe, w.cell? ⟨1, 0, none⟩ = some (.iface te pe)
  e2 : ∃ te pe, w.cell? ⟨2, 0, none⟩ = some (.iface te pe)
theorem Env.below {w w' : World} (h : Env w) (hb : Below w.heap.size w w') : Env w' := by
  obtain ⟨h1, ⟨m, h2⟩, ⟨a, b, h3⟩, ⟨c, d, h4⟩⟩ := h
  exact ⟨h1.below hb, ⟨m, (hb.cell (World.block_lt_of_cell? _ _ h2)).trans h2⟩, ⟨a, b, (hb.cell (World.block_lt_of_cell? _ _ h3)).trans h3⟩, ⟨c, d, (hb.cell (World.block_lt_of_cell? _ _ h4)).trans h4⟩⟩

theorem num_third {x : Lib.NumEnd Int} (h1 : ∀ v, x ≠ .ok v) (h2 : x ≠ .range) : x = Lib.atoiAll [] := by
  cases x
  all_goals first | rfl | exact absurd rfl (h1 _) | exact absurd rfl h2

theorem atoi_c (s : ByteArray) (hs : s.size ≤ 1000) (w : World) (E : Env w) : Calls Tryd.prog 43 #[.string s] w fun r w' =>
    (∃ (n : Int) (e : Value), -9223372036854775808 ≤ n ∧ n ≤ 9223372036854775807 ∧ (e = .nilIface ∨ ∃ te pe, e = .iface te pe) ∧ r = .returned (.tuple #[.int .i64 n, e])) ∧ Below w.heap.size w w' := by
  obtain ⟨h1, ⟨m, h2⟩, ⟨a, b, h3⟩, ⟨c, d, h4⟩⟩ := E
  have hc : (∃ v, Lib.atoiAll s.data.toList = .ok v) ∨ Lib.atoiAll s.data.toList = .range ∨ ((∀ v, Lib.atoiAll s.data.toList ≠ .ok v) ∧ Lib.atoiAll s.data.toList ≠ .range) := by
    by_cases h5 : ∃ v, Lib.atoiAll s.data.toList = .ok v
    · exact .inl h5
    · by_cases h6 : Lib.atoiAll s.data.toList = .range
      · exact .inr (.inl h6)
      · exact .inr (.inr ⟨fun v e => h5 ⟨v, e⟩, h6⟩)
  rcases hc with ⟨v, h⟩ | h | ⟨hv, hr⟩
  · refine (Tryd.strconv_Atoi_ok s (by omega) v h w).mono ?_
    rintro r w' ⟨rfl, hw⟩
    refine ⟨⟨v, _, (Lib.atoiAll_bounds h).1, (Lib.atoiAll_bounds h).2, .inl rfl, rfl⟩, ?_⟩
    rcases hw with rfl | ⟨t, rfl⟩
    · exact Below.refl _ _
    · exact Lib.bytesWorld_below _ _ _
  · refine (Tryd.strconv_Atoi_range s (by omega) h _ w h4 (.inr ⟨c, d, rfl⟩)).mono ?_
    rintro r w' ⟨N, rfl, _, _, hb⟩
    exact ⟨⟨_, _, (Lib.atoiSat_bounds _).1, (Lib.atoiSat_bounds _).2, .inr ⟨_, _, rfl⟩, rfl⟩, hb⟩
  · have h := num_third hv hr
    refine Calls.mono (P := Tryd.prog) (f := 43) (Any.strconv_Atoi_syntax Tryd.laysC172 s (by omega) h _ w h3 (.inr ⟨a, b, rfl⟩)) ?_
    rintro r w' ⟨N, rfl, _, _, hb⟩
    exact ⟨⟨0, _, by decide, by decide, .inr ⟨_, _, rfl⟩, rfl⟩, hb⟩

theorem cut_len (x y : List UInt8) : (Lib.cut x y).2.1.length ≤ x.length := by
  unfold Lib.cut
  split <;> simp

theorem cut_c (s : ByteArray) (hs : s.size ≤ 1000) (w : World) (E : Env w) : Calls Tryd.prog 42 #[.string s, .string ⟨#[32]⟩] w fun r w' =>
    (∃ (x y : ByteArray) (b : Bool), y.size ≤ 1000 ∧ r = .returned (.tuple #[.string x, .string y, .bool b])) ∧ Below w.heap.size w w' := by
  obtain ⟨h1, ⟨m, h2⟩, _, _⟩ := E
  refine (Tryd.strings_Cut s ⟨#[32]⟩ m w (by omega) h2).mono ?_
  rintro r w' ⟨rfl, n, rfl⟩
  refine ⟨⟨_, _, _, ?_, rfl⟩, below_drewN (Below.refl _ _) _⟩
  have := cut_len s.data.toList (⟨#[32]⟩ : ByteArray).data.toList
  have h5 : s.data.toList.length = s.size := Array.length_toList
  show (Lib.cut _ _).2.1.toArray.size ≤ 1000
  rw [List.size_toArray]
  omega

theorem fault_at0 (w : World) (k f : Int) : Calls Tryd.prog 40 #[.int .i64 k, .int .i64 f] w fun r w' => r = .returned (.agg #[.int .i64 k, .int .i64 (if k = 0 then 0 else f)]) ∧ Below w.heap.size w w' := by
  by_cases hk : k = 0
  · subst hk
    rw [if_pos rfl]
    go_enter Tryd.func40, Tryd.ntmps40
    go_wp2
    refine bodyPost_ret (v := .agg #[.int .i64 0, .int .i64 0]) (by simp [results, Tryd.results40, go_sem]) rfl ⟨rfl, by (repeat (first | exact Below.refl _ _ | assumption | (refine below_alloc ?_ _) | (refine Below.setCell ?_ (by first | omega | (simp; done) | (simp; omega)) _) | (refine Below.drew ?_) | (refine below_drewN ?_ _) | (refine below_then (by assumption) ?_)))⟩
  · rw [if_neg hk]
    exact fault_at w k f hk

def ParseRet (s : ByteArray) (r : Ending) : Prop :=
  (∃ c a : Int, -9223372036854775808 ≤ a ∧ a ≤ 9223372036854775807 ∧ textOf c a = s ∧ s ≠ ⟨#[]⟩ ∧ r = .returned (.tuple #[.agg #[.int .i64 c, .int .i64 a], .bool true])) ∨ r = .returned (.tuple #[.agg #[.int .i64 0, .int .i64 0], .bool false])

set_option maxRecDepth 100000 in
set_option maxHeartbeats 3200000 in
theorem fault_parse (s : ByteArray) (hs : s.size ≤ 1000) (w : World) (E : Env w) : Calls Tryd.prog 15 #[.string s] w fun r w' => ParseRet s r ∧ Below w.heap.size w w' := by
  have HW := hid (fun w => fault_word 0 w)
  have hw0 : wordOf 0 = ⟨#[111, 107]⟩ := rfl
  rw [hw0] at HW
  have HC := hid (cut_c s hs)
  have HFd := hid fault_find
  have HA := hid atoi_c
  have HAt := hid fault_at0
  have HT := hid fault_text
  have HE := hid E
  have z0 : (w.alloc (.cells #[.int .i64 0, .int .i64 0] 24)).cell? ⟨w.heap.size, 0, none⟩ = some (.int .i64 0) := by simp
  have z1 : (w.alloc (.cells #[.int .i64 0, .int .i64 0] 24)).cell? ⟨w.heap.size, 1, none⟩ = some (.int .i64 0) := by simp
  have f0 : (w.alloc (.cells #[.int .i64 0, .int .i64 0] 24)).frozen? ⟨w.heap.size, 0, none⟩ = false := by simp
  have f1 : (w.alloc (.cells #[.int .i64 0, .int .i64 0] 24)).frozen? ⟨w.heap.size, 1, none⟩ = false := by simp
  have q0 : w.heap.size < (w.alloc (.cells #[.int .i64 0, .int .i64 0] 24)).heap.size := by simp
  have HB0 := hid ((Below.refl w.heap.size w).alloc (Nat.le_refl _) (.cells #[.int .i64 0, .int .i64 0] 24))
  clear E
  by_cases hok : s = ⟨#[111, 107]⟩
  · have hd : (s.toList == [111, 107]) = true := by rw [← ok_list, str_eq]; exact decide_eq_true hok
    have HR : Hid (ParseRet s (.returned (.tuple #[.agg #[.int .i64 0, .int .i64 0], .bool true]))) := hid (.inl ⟨0, 0, by decide, by decide, text_ok.trans hok.symm, by rw [hok]; exact (fun e => absurd (congrArg ByteArray.size e) (by decide)), rfl⟩)
    clear hok hs
    go_enter Tryd.func15, Tryd.ntmps15
    go_wp2_with fail
    generalize w.alloc (.cells #[.int .i64 0, .int .i64 0] 24) = W0 at *
    refine (HW.out _).mono ?_
    rintro r w1 ⟨rfl, hb1⟩
    have c0 := (hb1.cell (p := ⟨w.heap.size, 0, none⟩) q0).trans z0
    have c1 := (hb1.cell (p := ⟨w.heap.size, 1, none⟩) q0).trans z1
    have c2 := (hb1.frozen (p := ⟨w.heap.size, 0, none⟩) q0).trans f0
    have c3 := (hb1.frozen (p := ⟨w.heap.size, 1, none⟩) q0).trans f1
    have HZ := hid (HB0.out.trans (hb1.mono HB0.out.size))
    go_wp2_with fail
    refine bodyPost_ret (v := .tuple #[.agg #[.int .i64 0, .int .i64 0], .bool true]) (by simp [results, Tryd.results15, go_sem, c0, c1]) rfl ⟨HR.out, ?_⟩
    exact (HZ.out.setCell (Nat.le_refl _) _).setCell (Nat.le_refl _) _
  · have hd : (s.toList == [111, 107]) = false := by rw [← ok_list, str_eq]; exact decide_eq_false hok
    have HN : Hid (ParseRet s (.returned (.tuple #[.agg #[.int .i64 0, .int .i64 0], .bool false]))) := hid (.inr rfl)
    clear hok
    go_enter Tryd.func15, Tryd.ntmps15
    go_wp2_with fail
    generalize w.alloc (.cells #[.int .i64 0, .int .i64 0] 24) = W0 at *
    refine (HW.out _).mono ?_
    rintro r w1 ⟨rfl, hb1⟩
    have HB1 := hid (HB0.out.trans (hb1.mono HB0.out.size))
    go_wp2_with fail
    refine (HC.out _ (HE.out.below HB1.out)).mono ?_
    rintro r w2 ⟨⟨x, y, b, hy, rfl⟩, hb2⟩
    have HB2 := hid (HB1.out.trans (hb2.mono HB1.out.size))
    go_wp2_with fail
    refine (HFd.out x _).mono ?_
    rintro r w3 ⟨hfr, hb3⟩
    have HB3 := hid (HB2.out.trans (hb3.mono HB2.out.size))
    obtain ⟨ok, kc, hkc, rfl⟩ : ∃ (ok : Bool) (kc : Nat), kc < 21 ∧ r = .returned (.tuple #[.int .i64 (kc : Int), .bool ok]) := by
      rcases hfr with ⟨k, hk, e, rfl⟩ | ⟨hno, rfl⟩
      · exact ⟨true, k, hk, rfl⟩
      · exact ⟨false, 0, by decide, rfl⟩
    clear hfr
    go_wp2_with fail
    refine (HA.out y hy _ (HE.out.below HB3.out)).mono ?_
    rintro r w4 ⟨⟨n, e, hn0, hn1, he, rfl⟩, hb4⟩
    have HB4 := hid (HB3.out.trans (hb4.mono HB3.out.size))
    go_wp2_with fail
    refine (HAt.out _ _ _).mono ?_
    rintro r w5 ⟨rfl, hb5⟩
    have HB5 := hid (HB4.out.trans (hb5.mono HB4.out.size))
    have hx0 : -9223372036854775808 ≤ (if (kc : Int) = 0 then 0 else n) ∧ (if (kc : Int) = 0 then 0 else n) ≤ 9223372036854775807 := by split <;> omega
    have HX := hid (text_some kc hkc (if (kc : Int) = 0 then 0 else n))
    generalize (if (kc : Int) = 0 then 0 else n) = a at *
    have c0 := (HB0.out.trans (hb1.mono HB0.out.size)).size
    have B15 := (((hb1.trans (hb2.mono hb1.size)).trans (hb3.mono (hb1.trans (hb2.mono hb1.size)).size)).trans (hb4.mono ((hb1.trans (hb2.mono hb1.size)).trans (hb3.mono (hb1.trans (hb2.mono hb1.size)).size)).size))
    have B5 := B15.trans (hb5.mono B15.size)
    have y0 := (B5.cell (p := ⟨w.heap.size, 0, none⟩) q0).trans z0
    have y1 := (B5.cell (p := ⟨w.heap.size, 1, none⟩) q0).trans z1
    have y2 := (B5.frozen (p := ⟨w.heap.size, 0, none⟩) q0).trans f0
    have y3 := (B5.frozen (p := ⟨w.heap.size, 1, none⟩) q0).trans f1
    have q5 : w.heap.size < w5.heap.size := by have := B5.size; omega
    clear c0 B15 B5 hb1 hb2 hb3 hb4 hb5
    cases b with
    | false =>
      go_wp2_with fail
      refine bodyPost_ret (v := .tuple #[.agg #[.int .i64 0, .int .i64 0], .bool false]) (by simp [results, Tryd.results15, go_sem, y0, y1, q5]) rfl ⟨HN.out, ?_⟩
      exact ((HB5.out.setCell (Nat.le_refl _) _).setCell (Nat.le_refl _) _).alloc (by simp; exact HB5.out.size) _
    | true =>
      cases ok with
      | false =>
        go_wp2_with fail
        refine bodyPost_ret (v := .tuple #[.agg #[.int .i64 0, .int .i64 0], .bool false]) (by simp [results, Tryd.results15, go_sem, y0, y1, q5]) rfl ⟨HN.out, ?_⟩
        exact ((HB5.out.setCell (Nat.le_refl _) _).setCell (Nat.le_refl _) _).alloc (by simp; exact HB5.out.size) _
      | true =>
        rcases he with rfl | ⟨te, pe, rfl⟩
        · have g0 := ((Below.refl w5.heap.size w5).alloc (Nat.le_refl _) (.cells #[.int .i64 (kc : Int), .int .i64 a] 24))
          go_wp2_with fail
          refine (HT.out _ _ hx0.1 hx0.2 _ ((HE.out.below HB5.out).below g0).tab).mono ?_
          rintro r w6 ⟨rfl, hb6⟩
          have B6 := g0.trans (hb6.mono g0.size)
          have n0 := (hb6.cell (p := ⟨w5.heap.size, 0, none⟩) (by simp)).trans (by simp : _ = some (.int .i64 (kc : Int)))
          have n1 := (hb6.cell (p := ⟨w5.heap.size, 1, none⟩) (by simp)).trans (by simp : _ = some (.int .i64 a))
          have u0 := (B6.cell (p := ⟨w.heap.size, 0, none⟩) q5).trans y0
          have u1 := (B6.cell (p := ⟨w.heap.size, 1, none⟩) q5).trans y1
          have u2 := (B6.frozen (p := ⟨w.heap.size, 0, none⟩) q5).trans y2
          have u3 := (B6.frozen (p := ⟨w.heap.size, 1, none⟩) q5).trans y3
          have HB6 := hid (HB5.out.trans (B6.mono HB5.out.size))
          have HY : Hid (textOf (kc : Int) a = s → ParseRet s (.returned (.tuple #[.agg #[.int .i64 (kc : Int), .int .i64 a], .bool true]))) := hid (fun e => .inl ⟨_, _, hx0.1, hx0.2, e, (by rw [← e]; exact HX.out), rfl⟩)
          clear HX y0 y1 y2 y3 z0 z1 f0 f1 q0 B6 g0 hb6
          generalize textOf (kc : Int) a = X at *
          by_cases hX : X = s
          · have dX : (X.toList != s.toList) = false := by rw [hX]; simp
            have dY : (X.toList == s.toList) = true := by rw [hX]; simp
            have HY' := hid (HY.out hX)
            clear hX HY
            go_wp2_with fail
            refine bodyPost_ret (v := .tuple #[.agg #[.int .i64 (kc : Int), .int .i64 a], .bool true]) (by simp [results, Tryd.results15, go_sem, u0, u1]) rfl ⟨HY'.out, ?_⟩
            exact (HB6.out.setCell (Nat.le_refl _) _).setCell (Nat.le_refl _) _
          · have dX : (X.toList != s.toList) = true := by rw [bne, str_eq, decide_eq_false hX]; rfl
            have dY : (X.toList == s.toList) = false := by rw [str_eq, decide_eq_false hX]
            clear hX HY
            go_wp2_with fail
            refine bodyPost_ret (v := .tuple #[.agg #[.int .i64 0, .int .i64 0], .bool false]) (by simp [results, Tryd.results15, go_sem, u0, u1]) rfl ⟨HN.out, ?_⟩
            exact (HB6.out.setCell (Nat.le_refl _) _).setCell (Nat.le_refl _) _
        · go_wp2_with fail
          refine bodyPost_ret (v := .tuple #[.agg #[.int .i64 0, .int .i64 0], .bool false]) (by simp [results, Tryd.results15, go_sem, y0, y1, q5]) rfl ⟨HN.out, ?_⟩
          exact ((HB5.out.setCell (Nat.le_refl _) _).setCell (Nat.le_refl _) _).alloc (by simp; exact HB5.out.size) _

set_option maxRecDepth 100000 in
set_option maxHeartbeats 3200000 in
theorem faultReads_c (s : ByteArray) (hs0 : s.size ≤ maxLen) (w : World) (E : Env w) : Calls Tryd.prog 4 #[.string s] w fun r w' => r = .returned (.bool true) ∧ Below w.heap.size w w' := by
  have HLv := hid live01
  have HU := hid ref01_text
  have HE := hid E
  clear E
  by_cases hs : s.size ≤ 1000
  · have d0 : decide ((1000 : Int) < (s.size : Int)) = false := decide_eq_false (by omega)
    have HP := hid (fault_parse s hs)
    go_enter Tryd.func4, Tryd.ntmps4
    go_wp2_with fail
    refine (HP.out _ HE.out).mono ?_
    rintro r w1 ⟨hr, hb1⟩
    have HB1 := hid hb1
    rcases hr with ⟨c, a, h0, h1, hX, hne, rfl⟩ | rfl
    · have e1 : Hid (textOf c a = s) := hid hX
      have HU' := hid (HU.out c a h0 h1)
      rw [hX] at HU'
      have d1 : (s.toList == s.toList) = true := by simp
      have d2 : s.toList.isEmpty = false := not_ne s hne
      have d3 : (s.toList != []) = true := by rw [bne_iff_ne]; intro e; rw [e] at d2; cases d2
      have g0 := ((Below.refl w1.heap.size w1).alloc (Nat.le_refl _) (.cells #[.int .i64 c, .int .i64 a] 24))
      have HB2 := hid (HB1.out.trans (g0.mono HB1.out.size))
      clear hX hne hb1 g0
      go_wp2_with fail
      refine (HU'.out _).mono ?_
      rintro r w2 ⟨rfl, hb2⟩
      have HB3 := hid (HB2.out.trans (hb2.mono HB2.out.size))
      go_wp2_with fail
      refine (HLv.out _ (HE.out.below HB3.out).tab).mono ?_
      rintro r w3 ⟨rfl, hb3⟩
      go_wp2_with fail
      go_ret
      exact ⟨rfl, HB3.out.trans (hb3.mono HB3.out.size)⟩
    · have g0 := ((Below.refl w1.heap.size w1).alloc (Nat.le_refl _) (.cells #[.int .i64 0, .int .i64 0] 24))
      have HB2 := hid (HB1.out.trans (g0.mono HB1.out.size))
      clear hb1 g0
      go_wp2_with fail
      refine (HLv.out _ (HE.out.below HB2.out).tab).mono ?_
      rintro r w3 ⟨rfl, hb3⟩
      go_wp2_with fail
      go_ret
      exact ⟨rfl, HB2.out.trans (hb3.mono HB2.out.size)⟩
  · have d0 : decide ((1000 : Int) < (s.size : Int)) = true := decide_eq_true (by omega)
    go_enter Tryd.func4, Tryd.ntmps4
    go_wp2_with fail
    refine (HLv.out _ HE.out.tab).mono ?_
    rintro r w3 ⟨rfl, hb3⟩
    go_wp2_with fail
    go_ret
    exact ⟨rfl, hb3⟩
end Go.Proofs.YtlkpnpbodbokkaaDoor
