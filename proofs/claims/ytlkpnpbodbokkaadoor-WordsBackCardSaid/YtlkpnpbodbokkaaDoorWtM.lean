/- What is told is read as it was: WordsBack (written by gen_wtm.py). -/
import Derived.Test.YtlkpnpbodbokkaaDoorProg
import Derived.WalkKit
import Derived.Deep.Cut
import Derived.BigQuiet
import Derived.Laws.BytesArg
import Derived.Test.YtlkpnpbodbokkaaDoorWtL
namespace Go.Bs
open Go.RowKit
theorem bytes_str {P : Program} {w : World} {v : Value} {l : List UInt8} (src dst e : TypeId) (hs : P.underlying src = some (.slice e)) (he : P.underlying e = some (.int .u8)) (hd : P.underlying dst = some .string)
    (h : BytesAt w v l) : (convert src dst v).run P w = .ok (.string ⟨l.toArray⟩) w := by
  obtain ⟨a, c, rfl, h⟩ := h
  by_cases hl : l = []
  · subst hl
    cases a with
    | none => exact run_convert_bytes_nil (P := P) w src e hs he 0 c dst hd
    | some a => exact run_convert_bytes_back (P := P) w src dst e a c [] hs he hd (fun j hj => by simp at hj)
  · rcases h with h | ⟨b, o, rfl, _, hc⟩
    · exact absurd h hl
    · refine run_convert_bytes_back (P := P) w src dst e ⟨b, o, none⟩ c l hs he hd (fun j hj => ?_)
      have ea : (⟨b, o, none⟩ : Addr).add j = ⟨b, o + j, none⟩ := by
        unfold Addr.add
        split <;> simp_all
      rw [ea, hc j hj, List.getD_eq_getElem?_getD, List.getElem?_eq_getElem hj]
      rfl
end Go.Bs
namespace Go.Proofs.YtlkpnpbodbokkaaDoor
open Go.RowKit Go.Bs
set_option linter.unusedVariables false
set_option linter.unusedSimpArgs false

theorem same02 (v v' : Value) (l : List UInt8) (w : World) (h : BytesAt w v l) (h' : BytesAt w v' l) : Calls Tryd.prog 27 #[v, v'] w fun r w' => r = .returned (.bool true) ∧ Below w.heap.size w w' := by
  have c1 := bytes_str (P := Tryd.prog) 37 9 5 Tryd.underlying37 Tryd.underlying5 Tryd.underlying9 h
  have c2 := bytes_str (P := Tryd.prog) 37 9 5 Tryd.underlying37 Tryd.underlying5 Tryd.underlying9 h'
  obtain ⟨a, c, rfl, _⟩ := h
  obtain ⟨a', c', rfl, _⟩ := h'
  generalize l.length = n at *
  go_enter Tryd.func27, Tryd.ntmps27
  go_wp2_with fail
  go_ret
  exact ⟨rfl, Below.refl _ _⟩

theorem same05_nil (a a' : Option Addr) (c c' : Nat) (w : World) : Calls Tryd.prog 28 #[.slice a 0 c, .slice a' 0 c'] w fun r w' => r = .returned (.bool true) ∧ Below w.heap.size w w' := by
  go_enter Tryd.func28, Tryd.ntmps28
  go_wp2_with fail
  go_loopw [5] (fun i wr => i = .int .i64 0 ∧ wr = w) (fun _ _ => 0)
  case atStart => exact ⟨rfl, rfl⟩
  case round =>
    obtain ⟨rfl, rfl⟩ := hrel
    go_wp2_with fail
    go_ret
    exact ⟨rfl, Below.refl _ _⟩

set_option maxRecDepth 100000 in
set_option maxHeartbeats 3200000 in
theorem same05_some (b o b' o' c c' : Nat) (l : List Nat) (w : World) (hl : ∀ i, l.getD i 0 < 18446744073709551616) (hn : l.length ≤ 100000) (h : ∀ i, i < l.length → w.cell? ⟨b, o + i, none⟩ = some (.int .u64 ((l.getD i 0 : Nat) : Int))) (h' : ∀ i, i < l.length → w.cell? ⟨b', o' + i, none⟩ = some (.int .u64 ((l.getD i 0 : Nat) : Int))) :
    Calls Tryd.prog 28 #[.slice (some ⟨b, o, none⟩) l.length c, .slice (some ⟨b', o', none⟩) l.length c'] w fun r w' => r = .returned (.bool true) ∧ Below w.heap.size w w' := by
  have H1 := hid h
  have H2 := hid h'
  clear h h' hl
  go_enter Tryd.func28, Tryd.ntmps28
  go_wp2_with fail
  go_loopw [5] (fun i wr => ∃ k : Nat, k ≤ l.length ∧ i = .int .i64 k ∧ Below w.heap.size w wr) (fun i _ => l.length - (intOf i).toNat)
  case atStart => exact ⟨0, by omega, rfl, Below.refl _ _⟩
  case round =>
    obtain ⟨k, hk, rfl, hb⟩ := hrel
    by_cases hlt : k < l.length
    · have i1 : (k : Int) < (l.length : Int) := by omega
      have hx := H1.out k hlt
      have hy := H2.out k hlt
      have hx' := (hb.cell (p := ⟨b, o + k, none⟩) (World.block_lt_of_cell? _ _ hx)).trans hx
      have hy' := (hb.cell (p := ⟨b', o' + k, none⟩) (World.block_lt_of_cell? _ _ hy)).trans hy
      clear hx hy
      generalize l.getD k 0 = x at *
      have X0 := fun z : Later wr => z.cell hx'
      have X1 := fun z : Later wr => z.cell hy'
      have HB := hid hb
      go_wp2_with fail
      refine wp_region_later (by kernel_rfl) (by kernel_rfl) ?_
      repeat (go_big_quiet_step (fail))
      refine wpQuiet_nil ?_
      rintro W5 ⟨⟨W5', hb5⟩, rfl⟩
      have HB5 := hid (HB.out.trans (hb5.mono HB.out.size))
      go_wp2_with fail
      go_roundw
      case rel => exact ⟨k + 1, by omega, by go_num, HB5.out⟩
      case measure => simp [intOf]; omega
    · obtain rfl : k = l.length := by omega
      go_wp2_with fail
      go_ret
      exact ⟨rfl, hb⟩

theorem same05 (v v' : Value) (l : List Nat) (w : World) (hl : ∀ i, l.getD i 0 < 18446744073709551616) (hn : l.length ≤ 100000) (h : NatsAt w v l) (h' : NatsAt w v' l) : Calls Tryd.prog 28 #[v, v'] w fun r w' => r = .returned (.bool true) ∧ Below w.heap.size w w' := by
  obtain ⟨a, c, rfl, h⟩ := h
  obtain ⟨a', c', rfl, h'⟩ := h'
  by_cases hz : l = []
  · subst hz; exact same05_nil a a' c c' w
  · rcases h with h | ⟨b, o, rfl, _, hc⟩
    · exact absurd h hz
    · rcases h' with h | ⟨b', o', rfl, _, hc'⟩
      · exact absurd h hz
      · exact same05_some b o b' o' c c' l w hl hn hc hc'

set_option maxRecDepth 100000 in
set_option maxHeartbeats 3200000 in
theorem wordsBack_c (x : Nat) (hx : x < 18446744073709551616) (b : List UInt8) (l : List Nat) (hl : ∀ i, l.getD i 0 < 18446744073709551616) (v1 v2 : Value) (w : World) (h1 : BytesAt w v1 b) (h2 : NatsAt w v2 l) (E : Env w) :
    Calls Tryd.prog 7 #[.int .u64 (x : Int), v1, v2] w fun r w' => r = .returned (.bool true) ∧ Below w.heap.size w w' := by
  have HLv := hid live10
  have HE := hid E
  have H1 := hid h1
  have H2 := hid h2
  by_cases hg : b.length ≤ 300 ∧ l.length ≤ 200
  · have d1 : decide ((300 : Int) < (b.length : Int)) = false := decide_eq_false (by omega)
    have d2 : decide ((200 : Int) < (l.length : Int)) = false := decide_eq_false (by omega)
    have hlx : ∀ y ∈ l, y < 18446744073709551616 := fun y hy => by
      obtain ⟨i, hi, rfl⟩ := List.getElem_of_mem hy
      have := hl i
      rw [List.getD_eq_getElem?_getD, List.getElem?_eq_getElem hi] at this
      exact this
    have hD := dec_len x hx
    have hW := hx_len b b.length
    have hJ := jn_len l hl l.length
    have HN := hid (num_c x hx w E.tab)
    have HRN := hid (rn_yes ⟨(Lib.decDigits x).toArray⟩ (by show (Lib.decDigits x).toArray.size ≤ 100000; rw [List.size_toArray]; omega) x (numOf_dec x hx))
    have HX := hid (hex_any v1 b (by omega))
    have HU := hid (un_yes ⟨(hexW b).toArray⟩ (by show (hexW b).toArray.size ≤ 1000; rw [List.size_toArray]; unfold hexW; split; exact (by decide); omega) b (unL_hexW b))
    have HL := hid (list_any v2 l hl (by omega))
    have HRL := hid (rl_yes ⟨(listW l).toArray⟩ (by show (listW l).toArray.size ≤ 100000; rw [List.size_toArray]; unfold listW; split; exact (by decide); omega) l (lst_listW l hlx))
    have HS2 := hid same02
    have HS5 := hid (fun v v' w => same05 v v' l w hl (by omega))
    obtain ⟨a1, c1, rfl, _⟩ := h1
    obtain ⟨a2, c2, rfl, _⟩ := h2
    have dxx : ((x : Int) == (x : Int)) = true := by simp
    clear hg E hl hlx hD hW hJ hx
    generalize Lib.decDigits x = D at *
    generalize hexW b = HX1 at *
    generalize listW l = L1 at *
    go_enter Tryd.func7, Tryd.ntmps7
    go_wp2_with fail
    refine HN.out.mono ?_
    rintro r w1 ⟨rfl, hb1⟩
    have HB1 := hid hb1
    clear hb1
    go_wp2_with fail
    refine (HRN.out w1 (HE.out.below HB1.out)).mono ?_
    rintro r w2 ⟨rfl, hb2⟩
    have HB2 := hid (HB1.out.trans (hb2.mono HB1.out.size))
    clear hb2
    go_wp2_with fail
    refine (HX.out w2 (H1.out.below HB2.out)).mono ?_
    rintro r w3 ⟨rfl, hb3⟩
    have HB3 := hid (HB2.out.trans (hb3.mono HB2.out.size))
    clear hb3
    go_wp2_with fail
    refine (HU.out w3).mono ?_
    rintro r w4 ⟨⟨vb, rfl, hvb⟩, hb4⟩
    obtain ⟨ab, cb, rfl, hvb2⟩ := hvb
    have HV := hid (show BytesAt w4 (.slice ab b.length cb) b from ⟨ab, cb, rfl, hvb2⟩)
    have HB4 := hid (HB3.out.trans (hb4.mono HB3.out.size))
    clear hb4 hvb2
    go_wp2_with fail
    refine (HL.out w4 (H2.out.below HB4.out) (HE.out.below HB4.out)).mono ?_
    rintro r w5 ⟨rfl, hb5⟩
    have HB5 := hid (HB4.out.trans (hb5.mono HB4.out.size))
    have HC5 := hid hb5
    clear hb5
    go_wp2_with fail
    refine (HRL.out w5 (HE.out.below HB5.out)).mono ?_
    rintro r w6 ⟨⟨vl, rfl, hvl⟩, hb6⟩
    obtain ⟨al, cl, rfl, hvl2⟩ := hvl
    have HVL := hid (show NatsAt w6 (.slice al l.length cl) l from ⟨al, cl, rfl, hvl2⟩)
    have HB6 := hid (HB5.out.trans (hb6.mono HB5.out.size))
    have HC6 := hid (HC5.out.trans (hb6.mono HC5.out.size))
    clear hb6 hvl2
    go_wp2_with fail
    refine (HS2.out _ _ b w6 (HV.out.below HC6.out) (H1.out.below HB6.out)).mono ?_
    rintro r w7 ⟨rfl, hb7⟩
    have HB7 := hid (HB6.out.trans (hb7.mono HB6.out.size))
    have HC7 := hid hb7
    clear hb7
    go_wp2_with fail
    refine (HS5.out _ _ w7 (HVL.out.below HC7.out) (H2.out.below HB7.out)).mono ?_
    rintro r w8 ⟨rfl, hb8⟩
    have HB8 := hid (HB7.out.trans (hb8.mono HB7.out.size))
    clear hb8
    go_wp2_with fail
    refine (HLv.out w8 (HE.out.below HB8.out)).mono ?_
    rintro r w9 ⟨rfl, hb9⟩
    have HB9 := hid (HB8.out.trans (hb9.mono HB8.out.size))
    clear hb9
    go_wp2_with fail
    go_ret
    exact ⟨rfl, HB9.out⟩
  · obtain ⟨a1, c1, rfl, _⟩ := h1
    obtain ⟨a2, c2, rfl, _⟩ := h2
    by_cases hb : b.length ≤ 300
    · have d1 : decide ((300 : Int) < (b.length : Int)) = false := decide_eq_false (by omega)
      have d2 : decide ((200 : Int) < (l.length : Int)) = true := decide_eq_true (by omega)
      clear hg
      go_enter Tryd.func7, Tryd.ntmps7
      go_wp2_with fail
      refine (HLv.out w HE.out).mono ?_
      rintro r w7 ⟨rfl, hb7⟩
      go_wp2_with fail
      go_ret
      exact ⟨rfl, hb7⟩
    · have d1 : decide ((300 : Int) < (b.length : Int)) = true := decide_eq_true (by omega)
      clear hg
      go_enter Tryd.func7, Tryd.ntmps7
      go_wp2_with fail
      refine (HLv.out w HE.out).mono ?_
      rintro r w7 ⟨rfl, hb7⟩
      go_wp2_with fail
      go_ret
      exact ⟨rfl, hb7⟩
end Go.Proofs.YtlkpnpbodbokkaaDoor
