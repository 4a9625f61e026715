/- live; FaultWords (written by gen_fwe.py). -/
import Derived.Test.YtlkpnpbodbokkaaDoorProg
import Derived.WalkKit
import Derived.Deep.Cut
import Derived.BigQuiet
import Derived.Test.YtlkpnpbodbokkaaDoorFwD
namespace Go.Bs
open Go.RowKit
set_option linter.unusedVariables false
theorem text_sum7 : textOf 6 7 = ⟨#[115, 117, 109, 32, 55]⟩ := by
  unfold textOf
  rw [show Lib.itoa 7 = _ from Go.Proofs.YtlkpnpbodbokkaaDoor.itoa_pos_s 7 (by decide)]
  decide
end Go.Bs
namespace Go.Proofs.YtlkpnpbodbokkaaDoor
open Go.RowKit Go.Bs
set_option linter.unusedVariables false
set_option linter.unusedSimpArgs false

set_option maxRecDepth 100000 in
set_option maxHeartbeats 3200000 in
theorem live01 (w : World) (ht : Tab w) : Calls Tryd.prog 14 #[] w fun r w' => r = .returned (.bool true) ∧ Below w.heap.size w w' := by
  have HA := hid (fun w => fault_at w 6 7 (by decide))
  have HT := hid (fun w => fault_text 6 7 (by decide) (by decide) w)
  rw [text_sum7] at HT
  have HF := hid fault_first3
  have HTab := hid ht
  go_enter Tryd.func14, Tryd.ntmps14
  go_wp2_with fail
  refine (HA.out _).mono ?_
  rintro r w1 ⟨rfl, hb1⟩
  go_wp2_with fail
  refine (HT.out _ (HTab.out.below hb1)).mono ?_
  rintro r w2 ⟨rfl, hb2⟩
  go_wp2_with fail
  have hcs : ∀ i : Nat, i < 6 → (w2.alloc (.cells #[.int .i64 0, .int .i64 0, .int .i64 7, .int .i64 3, .int .i64 6, .int .i64 1] 24)).cell? ⟨w2.heap.size, i, none⟩ = some (.int .i64 (#[0, 0, 7, 3, 6, 1].getD i 0)) := by
    intro i hi
    rw [World.cell?_alloc_new]
    have : ∀ k : Fin 6, (#[.int .i64 0, .int .i64 0, .int .i64 7, .int .i64 3, .int .i64 6, .int .i64 1] : Array Value)[k.val]? = some (.int .i64 ((#[0, 0, 7, 3, 6, 1] : Array Int).getD k.val 0))
      | ⟨0, _⟩ => rfl | ⟨1, _⟩ => rfl | ⟨2, _⟩ => rfl | ⟨3, _⟩ => rfl | ⟨4, _⟩ => rfl | ⟨5, _⟩ => rfl
      | ⟨n + 6, h⟩ => absurd h (by omega)
    exact this ⟨i, hi⟩
  refine (HF.out _ _ hcs).mono ?_
  rintro r w3 ⟨rfl, hb3⟩
  have HZ := hid ((hb1.trans (hb2.mono hb1.size)).trans (((Below.refl w2.heap.size w2).alloc (Nat.le_refl _) (.cells #[.int .i64 0, .int .i64 0, .int .i64 7, .int .i64 3, .int .i64 6, .int .i64 1] 24)).trans (hb3.mono (by simp)) |>.mono (hb1.trans (hb2.mono hb1.size)).size))
  clear hcs hb1 hb2 hb3
  go_wp2_with fail
  go_ret
  exact ⟨rfl, HZ.out⟩

set_option maxRecDepth 100000 in
set_option maxHeartbeats 3200000 in
theorem faultWords_c (c a : Int) (h0 : -9223372036854775808 ≤ a) (h1 : a ≤ 9223372036854775807) (s : ByteArray) (w : World) (ht : Tab w) : Calls Tryd.prog 3 #[.agg #[.int .i64 c, .int .i64 a], .string s] w fun r w' => r = .returned (.bool true) ∧ Below w.heap.size w w' := by
  have HW := hid (fun w => fault_word c w)
  have HR := hid (fun w => ref01_word c w)
  have HT := hid (fun w => fault_text c a h0 h1 w)
  have HU := hid (fun w => ref01_text c a h0 h1 w)
  have HV := hid (fun (k : Nat) (h : k < 21) (w : World) => (wordOf_nat k h ▸ ref01_word (k : Int) w : _))
  have HTab := hid ht
  have HF := hid (fault_find s)
  have HLv := hid live01
  generalize textOf c a = X at *
  generalize wordOf c = s1 at *
  have lc0 : (w.alloc (.cells #[.int .i64 c, .int .i64 a] 24)).cell? ⟨w.heap.size, 0, none⟩ = some (.int .i64 c) := by simp
  have lc1 : (w.alloc (.cells #[.int .i64 c, .int .i64 a] 24)).cell? ⟨w.heap.size, 1, none⟩ = some (.int .i64 a) := by simp
  have HB := hid ((Below.refl w.heap.size w).alloc (Nat.le_refl _) (.cells #[.int .i64 c, .int .i64 a] 24))
  go_enter Tryd.func3, Tryd.ntmps3
  go_upto_region 1 with (fail)
  generalize w.alloc (.cells #[.int .i64 c, .int .i64 a] 24) = W0 at *
  have X0 := fun z : Later W0 => z.cell lc0
  have X1 := fun z : Later W0 => z.cell lc1
  have HTL := hid (fun z : Later W0 => HTab.out.below (HB.out.trans (z.below.mono HB.out.size)))
  have e1 : (s1.toList != s1.toList) = false := by simp
  have e2 : (X.toList != X.toList) = false := by simp
  refine wp_region_later (by kernel_rfl) (by kernel_rfl) ?_
  repeat (go_big_quiet_step ((first | (go_at_call 9; with_reducible exact later_of (HW.out _)) | (go_at_call 10; with_reducible exact later_of (HR.out _)) | (go_at_call 11; with_reducible exact later_of (HT.out _ (HTL.out _))) | (go_at_call 12; with_reducible exact later_of (HU.out _)))))
  refine wpQuiet_nil ?_
  rintro W5 ⟨⟨W5', hb5⟩, rfl⟩
  have HB5 := hid (HB.out.trans (hb5.mono HB.out.size))
  go_wp2_with fail
  refine (HF.out _).mono ?_
  rintro r W6 ⟨hfr, hb6⟩
  have HB6 := hid (HB5.out.trans (hb6.mono HB5.out.size))
  clear HF HW HR HT HU e1 e2 X0 X1 HTL lc0 lc1 hb5 hb6
  obtain ⟨ok, kc, hval⟩ : ∃ (ok : Bool) (kc : Nat), kc < 21 ∧ r = .returned (.tuple #[.int .i64 (kc : Int), .bool ok]) ∧ Hid (ok = true → wordsL.getD kc ⟨#[]⟩ = s) ∧ Hid (ok = false → kc = 0) ∧ Hid (ok = true ↔ ∃ m, m < 21 ∧ wordsL.getD m ⟨#[]⟩ = s) := by
    rcases hfr with ⟨k, hk, e, rfl⟩ | ⟨hno, rfl⟩
    · exact ⟨true, k, hk, rfl, hid (fun _ => e), hid (by simp), hid ⟨fun _ => ⟨k, hk, e⟩, fun _ => rfl⟩⟩
    · exact ⟨false, 0, by decide, rfl, hid (by simp), hid (fun _ => rfl), hid ⟨by simp, fun ⟨m, hm, e⟩ => absurd e (hno m hm)⟩⟩
  obtain ⟨hkc, rfl, HK1, HK2, HK3⟩ := hval
  clear hfr
  go_wp2_with fail
  go_loopw [7, 8] (fun kn i wr => ∃ (j : Nat) (b : Bool), j ≤ 21 ∧ i = .int .i64 j ∧ kn = .bool b ∧ Hid (b = true ↔ ∃ m, m < j ∧ wordsL.getD m ⟨#[]⟩ = s) ∧ Below w.heap.size w wr) (fun _ i _ => 21 - (intOf i).toNat)
  case atStart => exact ⟨0, false, by omega, rfl, rfl, hid (by simp), HB6.out⟩
  case round =>
    obtain ⟨j, b, hj, rfl, rfl, hb, hbl⟩ := hrel
    by_cases hlt : j < 21
    · have i1 : (j : Int) < 21 := by omega
      cases b with
      | true =>
        have hn : Hid ((true = true) ↔ ∃ m, m < j + 1 ∧ wordsL.getD m ⟨#[]⟩ = s) := hid ⟨fun _ => (hb.out.1 rfl).imp fun m h => ⟨by omega, h.2⟩, fun _ => rfl⟩
        clear hb
        go_wp2_with fail
        go_roundw
        case rel => exact ⟨j + 1, true, by omega, by go_num, rfl, hn, hbl⟩
        case measure => simp [intOf]; omega
      | false =>
        have hn := hid (fun (q : Bool) (hq : q = true ↔ wordsL.getD j ⟨#[]⟩ = s) => (⟨fun h => ⟨j, by omega, hq.1 h⟩, fun ⟨m, hm, e⟩ => by
          rcases Nat.lt_succ_iff_lt_or_eq.1 hm with h | rfl
          · exact absurd (hb.out.2 ⟨m, h, e⟩) (by simp)
          · exact hq.2 e⟩ : q = true ↔ ∃ m, m < j + 1 ∧ wordsL.getD m ⟨#[]⟩ = s))
        have hcl := hid (HV.out j hlt)
        clear hb
        generalize wordsL.getD j ⟨#[]⟩ = u at *
        obtain ⟨q, hq⟩ : ∃ q : Bool, (u.toList == s.toList) = q := ⟨_, rfl⟩
        have hqs : Hid (q = true ↔ u = s) := hid (by rw [← hq, str_eq]; simp)
        go_wp2_with fail
        refine (hcl.out _).mono ?_
        rintro r w7 ⟨rfl, hb7⟩
        go_wp2_with fail
        go_roundw
        case rel => exact ⟨j + 1, q, by omega, by go_num, rfl, hid (hn.out q hqs.out), hbl.trans (hb7.mono hbl.size)⟩
        case measure => simp [intOf]; omega
    · obtain rfl : j = 21 := by omega
      have hbo : b = ok := by
        have := hb.out.trans HK3.out.symm
        cases b <;> cases ok <;> simp_all
      subst hbo
      clear hb HK3
      have hlv := fun w' (h : Below w.heap.size w w') => HLv.out w' (HTab.out.below h)
      have HLV := hid hlv
      clear hlv
      cases b with
      | true =>
        have hcl := hid (HV.out kc hkc)
        have e1 : Hid (wordsL.getD kc ⟨#[]⟩ = s) := hid (HK1.out rfl)
        rw [e1.out] at hcl
        clear HK1 HK2 e1
        have e3 : (s.toList == s.toList) = true := by simp
        go_wp2_with fail
        refine (hcl.out _).mono ?_
        rintro r w7 ⟨rfl, hb7⟩
        have hbl7 := hbl.trans (hb7.mono hbl.size)
        go_wp2_with fail
        refine (HLV.out _ hbl7).mono ?_
        rintro r w8 ⟨rfl, hb8⟩
        go_wp2_with fail
        go_ret
        exact ⟨rfl, hbl7.trans (hb8.mono hbl7.size)⟩
      | false =>
        have e1 := HK2.out rfl
        subst e1
        clear HK1 HK2
        go_wp2_with fail
        refine (HLV.out _ hbl).mono ?_
        rintro r w8 ⟨rfl, hb8⟩
        go_wp2_with fail
        go_ret
        exact ⟨rfl, hbl.trans (hb8.mono hbl.size)⟩
end Go.Proofs.YtlkpnpbodbokkaaDoor
