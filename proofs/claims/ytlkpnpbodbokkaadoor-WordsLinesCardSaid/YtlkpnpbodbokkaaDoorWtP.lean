/- words.Lines, words.Join, WordsLines (written by gen_wtp.py). -/
import Derived.Test.YtlkpnpbodbokkaaDoorProg
import Derived.WalkKit
import Derived.Deep.Cut
import Derived.BigQuiet
import Derived.Test.YtlkpnpbodbokkaaDoorWtO
namespace Go.Proofs.YtlkpnpbodbokkaaDoor
open Go.RowKit Go.Bs
set_option linter.unusedVariables false
set_option linter.unusedSimpArgs false

theorem cut10_yes (s : ByteArray) (hs : s.size ≤ 100000) (p q : List UInt8) (h : s.data.toList = p ++ 10 :: q) (hp : (10 : UInt8) ∉ p) (w : World) (E : Env w) : Calls Tryd.prog 42 #[.string s, .string ⟨#[10]⟩] w fun r w' => r = .returned (.tuple #[.string (mkS p), .string (mkS q), .bool true]) ∧ Below w.heap.size w w' := by
  obtain ⟨m, hm⟩ := E.mx
  refine (Tryd.strings_Cut s ⟨#[10]⟩ m w (by omega) hm).mono ?_
  rintro r w' ⟨rfl, n, rfl⟩
  refine ⟨?_, below_drewN (Below.refl _ _) _⟩
  show Ending.returned (.tuple #[.string ⟨(Lib.cut s.data.toList [10]).1.toArray⟩, .string ⟨(Lib.cut s.data.toList [10]).2.1.toArray⟩, .bool (Lib.cut s.data.toList [10]).2.2]) = _
  rw [h, cut_yes 10 p q hp]
  first | done | rfl
theorem cut10_no (s : ByteArray) (hs : s.size ≤ 100000) (hp : (10 : UInt8) ∉ s.data.toList) (w : World) (E : Env w) : Calls Tryd.prog 42 #[.string s, .string ⟨#[10]⟩] w fun r w' => r = .returned (.tuple #[.string s, .string ⟨#[]⟩, .bool false]) ∧ Below w.heap.size w w' := by
  obtain ⟨m, hm⟩ := E.mx
  refine (Tryd.strings_Cut s ⟨#[10]⟩ m w (by omega) hm).mono ?_
  rintro r w' ⟨rfl, n, rfl⟩
  refine ⟨?_, below_drewN (Below.refl _ _) _⟩
  show Ending.returned (.tuple #[.string ⟨(Lib.cut s.data.toList [10]).1.toArray⟩, .string ⟨(Lib.cut s.data.toList [10]).2.1.toArray⟩, .bool (Lib.cut s.data.toList [10]).2.2]) = _
  rw [cut_no 10 _ hp]
theorem mkS_list (p : List UInt8) : (mkS p).data.toList = p := by simp [mkS]
theorem mkS_size (p : List UInt8) : (mkS p).size = p.length := by show p.toArray.size = _; simp

set_option maxRecDepth 100000 in
set_option maxHeartbeats 3200000 in
theorem words_lines (s : ByteArray) (hs : s.size ≤ 100000) (w : World) (E : Env w) : Calls Tryd.prog 29 #[.string s] w fun r w' => LinesRet s.data.toList r w' ∧ Below w.heap.size w w' := by
  obtain ⟨i0, hi, hz0, hz1, hz2⟩ := info_parts wInfoS
  have dm : decide ((1048576 : Int) < (s.size : Int)) = false := decide_eq_false (by omega)
  have HCy := hid cut10_yes
  have HCn := hid cut10_no
  have HSp := hid words_split
  have HE := hid E
  obtain ⟨l, hl⟩ : ∃ l, l = s.data.toList := ⟨_, rfl⟩
  have HLN : Hid (l.length = s.size) := hid (by rw [hl]; exact str_len s)
  have HL := hid hl
  rw [← hl]
  clear hl E
  go_enter Tryd.func29, Tryd.ntmps29
  go_wp2_with fail
  go_loopw [0, 5] (fun c v wr => ∃ (X : ByteArray) (d : List (List UInt8)), c = .string X ∧ X.size ≤ s.size ∧ spl 10 l = d ++ spl 10 X.data.toList ∧ lnBad 0 (spl 10 l) = lnBad d.length (spl 10 X.data.toList) ∧ wr.ownsRow w.heap.size 9 1 v d.length (strCells (d.map mkS)) ∧ Below w.heap.size w wr) (fun c _ _ => strLen c)
  case atStart => exact ⟨s, [], rfl, Nat.le_refl _, by rw [HL.out]; rfl, by rw [HL.out]; rfl, ⟨by simp [strCells], .inl ⟨rfl, rfl⟩⟩, Below.refl _ _⟩
  case round =>
    obtain ⟨X, d, rfl, hX, hspl, hbad, hown, hb⟩ := hrel
    have HO := hid hown
    have HB := hid hb
    have hbz := hb.size
    have hdl := done_le hspl
    rw [HLN.out] at hdl
    obtain ⟨a5, c5, rfl⟩ := own_form hown
    clear hown hb
    by_cases hz : X.size = 0
    · have hx0 := str_none X hz
      have he : X.toList.isEmpty = true := by rw [data_str, hx0]; rfl
      have hq : (X.toList != []) = false := by rw [data_str, hx0]; rfl
      rw [hx0] at hspl hbad
      have hT : StrsAt wr (.slice a5 d.length c5) d := own_texts rfl HO.out
      have HR : Hid (LinesRet l (.returned (.tuple #[.slice a5 d.length c5, .int .i64 0, .int .i64 0])) wr) := hid (.inr ⟨by rw [hbad]; rfl, _, rfl, by
        rw [hspl]
        show StrsAt wr _ (d ++ [[]]).dropLast
        rw [List.dropLast_concat]; exact hT⟩)
      clear hspl hbad hx0 hz hT
      go_wp2_with fail
      refine bodyPost_ret (v := .tuple #[.slice a5 d.length c5, .int .i64 0, .int .i64 0]) (by simp [results, Tryd.results29, go_sem]) rfl ⟨HR.out, HB.out⟩
    · have hne := str_some X hz
      have he : X.toList.isEmpty = false := by rw [data_str, List.isEmpty_eq_false_iff]; exact hne
      have hq : (X.toList != []) = true := by rw [data_str, bne_iff_ne]; exact hne
      by_cases h10 : (10 : UInt8) ∈ X.data.toList
      · obtain ⟨p, q, hpq, hp⟩ := List.eq_append_cons_of_mem h10
        have hlen : X.size = p.length + q.length + 1 := by rw [← str_len X, hpq]; simp; omega
        have HC := hid (HCy.out X (by omega) p q hpq hp wr (HE.out.below HB.out))
        rw [hpq, spl_app 10 p q hp] at hspl hbad
        rw [lnBad_more _ _ _ (spl_ne 10 q)] at hbad
        have HS := hid hspl
        have HBad := hid hbad
        have HSpl := hid (HSp.out (mkS p) (by rw [mkS_size]; omega))
        rw [mkS_list] at HSpl
        have HXl := hid hlen
        clear hspl hbad hpq hp h10 hne hlen HCy HCn
        cases hlb : lineB p with
        | false =>
          rw [hlb] at HBad
          have HR : Hid (∀ W, LinesRet l (.returned (.tuple #[.slice none 0 0, .int .i64 ((d.length : Int) + 1), .int .i64 20])) W) := hid (fun W => .inl ⟨d.length + 1, HBad.out, rfl⟩)
          go_wp2_with fail
          refine HC.out.mono ?_
          rintro r w1 ⟨rfl, hb1⟩
          have HB1 := hid (HB.out.trans (hb1.mono HB.out.size))
          clear hb1
          go_wp2_with fail
          refine (HSpl.out w1 (HE.out.below HB1.out)).mono ?_
          rintro r w2 ⟨hr, hb2⟩
          have hr' : r = .returned (.tuple #[.slice none 0 0, .bool false]) := by
            rcases hr with ⟨h, _⟩ | ⟨_, h⟩
            · rw [hlb] at h; cases h
            · exact h
          subst hr'
          have HB2 := hid (HB1.out.trans (hb2.mono HB1.out.size))
          clear hr hb2
          go_wp2_with fail
          refine bodyPost_ret (v := .tuple #[.slice none 0 0, .int .i64 ((d.length : Int) + 1), .int .i64 20]) (by simp [results, Tryd.results29, go_sem]) rfl ⟨HR.out _, HB2.out⟩
        | true =>
          rw [hlb] at HBad
          go_wp2_with fail
          refine HC.out.mono ?_
          rintro r w1 ⟨rfl, hb1⟩
          have HB1 := hid (HB.out.trans (hb1.mono HB.out.size))
          have HC1 := hid hb1
          clear hb1
          go_wp2_with fail
          refine (HSpl.out w1 (HE.out.below HB1.out)).mono ?_
          rintro r w2 ⟨hr, hb2⟩
          obtain ⟨v2, rfl⟩ : ∃ v2, r = .returned (.tuple #[v2, .bool true]) := by
            rcases hr with ⟨_, v2, h, _⟩ | ⟨h, _⟩
            · exact ⟨v2, h⟩
            · rw [hlb] at h; cases h
          have HB2 := hid (HB1.out.trans (hb2.mono HB1.out.size))
          have HC2 := hid (HC1.out.trans (hb2.mono HC1.out.size))
          have hc1z := HC1.out.size
          have hb2z := hb2.size
          clear hr hb2 HB
          have HB := HB2
          go_wp2_with (at_builtin; go_loud (refine wpList_append_src rfl _ _ _ rfl w.heap.size 9 i0 (.string ⟨#[]⟩) 1 16 Tryd.underlying52 hi hz0 hz1 hz2 rfl (by decide) (.slice a5 d.length c5) d.length (strCells (d.map mkS)) rfl (own_below (own_below HO.out HC2.out) (by (repeat (first | exact Below.refl _ _ | assumption | (refine below_alloc ?_ _) | (refine Below.setCell ?_ (by first | omega | (simp; done) | (simp; omega)) _) | (refine Below.drew ?_) | (refine below_drewN ?_ _) | (refine below_then (by assumption) ?_))))) _ 1 1 [.string (mkS p)] rfl (src_row (by (repeat (first | assumption | exact Blk.newAt _ _ _ (by first | (simp; done) | (simp; omega)) | refine Blk.alloc ?_ _ | refine Blk.drew ?_ | refine Blk.drewN ?_ _ | refine Blk.far ?_ (by first | (simp; done) | (simp; omega)) _)))) (by simp [Value.oneCell']) (by simp only [maxLen]; omega) (by omega) (by first | omega | (simp; done) | (simp; omega)) ?_; intro v6 w6 hown6 hgrow6 hat6; have hb6 : Below w.heap.size w w6 := (Below.grown (by have := HB.out; (repeat (first | exact Below.refl _ _ | assumption | (refine below_alloc ?_ _) | (refine Below.setCell ?_ (by first | omega | (simp; done) | (simp; omega)) _) | (refine Below.drew ?_) | (refine below_drewN ?_ _) | (refine below_then (by assumption) ?_)))) hgrow6 (by first | omega | (simp; done) | (simp; omega)) (fun g e => (HO.out.lt g e).1)); have HO6 := hid hown6; obtain ⟨a6, c6, rfl⟩ := own_form hown6; clear hown6 hgrow6 hat6))
          go_wp2_with fail
          go_roundw
          case rel => exact ⟨mkS q, d ++ [p], rfl, by rw [mkS_size]; have := HXl.out; omega, (by rw [HS.out, mkS_list]; simp), (by rw [HBad.out, mkS_list, List.length_append]; rfl), (by rw [List.length_append]; simpa [strCells] using HO6.out), hb6⟩
          case measure =>
            show (mkS q).size < X.size
            rw [mkS_size]; have := HXl.out; omega
      · have HC := hid (HCn.out X (by omega) h10 wr (HE.out.below HB.out))
        rw [spl_none 10 _ h10] at hspl hbad
        have HR : Hid (∀ W, LinesRet l (.returned (.tuple #[.slice none 0 0, .int .i64 ((d.length : Int) + 1), .int .i64 20])) W) := hid (fun W => .inl ⟨d.length + 1, by rw [hbad]; unfold lnBad; rw [if_neg hne], rfl⟩)
        have HSpl := hid (HSp.out X (by omega))
        clear hspl hbad h10 hne HCy HCn
        go_wp2_with fail
        refine HC.out.mono ?_
        rintro r w1 ⟨rfl, hb1⟩
        have HB1 := hid (HB.out.trans (hb1.mono HB.out.size))
        clear hb1
        go_wp2_with fail
        refine (HSpl.out w1 (HE.out.below HB1.out)).mono ?_
        rintro r w2 ⟨hr, hb2⟩
        have HB2 := hid (HB1.out.trans (hb2.mono HB1.out.size))
        clear hb2
        rcases hr with ⟨_, v2, rfl, _⟩ | ⟨_, rfl⟩
        · go_wp2_with fail
          refine bodyPost_ret (v := .tuple #[.slice none 0 0, .int .i64 ((d.length : Int) + 1), .int .i64 20]) (by simp [results, Tryd.results29, go_sem]) rfl ⟨HR.out _, HB2.out⟩
        · go_wp2_with fail
          refine bodyPost_ret (v := .tuple #[.slice none 0 0, .int .i64 ((d.length : Int) + 1), .int .i64 20]) (by simp [results, Tryd.results29, go_sem]) rfl ⟨HR.out _, HB2.out⟩

theorem words_join (v : Value) (l : List (List UInt8)) (w : World) (hn : l.length ≤ 100000) (hj : (jl 32 l).length ≤ 100000) (h : StrsAt w v l) : Calls Tryd.prog 35 #[v] w fun r w' => r = .returned (.string (mkS (jl 32 l))) ∧ Below w.heap.size w w' := by
  have HJ : Hid (Calls Tryd.prog 48 #[v, .string ⟨#[32]⟩] w fun e w' => e = .returned (.string (mkS (jl 32 l))) ∧ Below w.heap.size w w') := hid (by
    obtain ⟨a, c, rfl, h⟩ := h
    by_cases hl : l = []
    · subst hl
      exact Calls.mono (P := Tryd.prog) (f := 48) (Any.strings_Join_none Tryd.lays156 Tryd.Builder_Extra_156 a c ⟨#[32]⟩ w) (fun e w' ⟨he, hw⟩ => ⟨he, hw ▸ Below.refl _ _⟩)
    · rcases h with h | ⟨b, o, rfl, hb, hcap, hc⟩
      · exact absurd h hl
      · have e1 : (l.map mkS).map (·.data.toList) = l := by
          rw [List.map_map]
          conv => rhs; rw [← List.map_id l]
          apply List.map_congr_left; intro x _; simp [mkS]
        have e2 : Lib.join ((l.map mkS).map (·.data.toList)) (⟨#[32]⟩ : ByteArray).data.toList = jl 32 l := by
          rw [e1]; exact jl_join' 32 _
        have h := Tryd.strings_Join b o c (l.map mkS) ⟨#[32]⟩ w (fun j x hj => by
          have hjl : j < l.length := by have := (List.getElem?_eq_some_iff.1 hj).1; simpa using this
          rw [hc j hjl]
          rw [List.getElem?_map, List.getElem?_eq_getElem hjl] at hj
          injection hj with hj
          rw [← hj, List.getD_eq_getElem?_getD, List.getElem?_eq_getElem hjl]; rfl) hb (by simp; omega) (by simpa using hcap) (by rw [e2]; omega)
        rw [e2, List.length_map] at h
        exact h)
  obtain ⟨a, c, rfl, _⟩ := h
  generalize jl 32 l = J at *
  go_enter Tryd.func35, Tryd.ntmps35
  go_wp2_with fail
  refine HJ.out.mono ?_
  rintro r w1 ⟨rfl, hb1⟩
  go_wp2_with fail
  go_ret
  exact ⟨rfl, hb1⟩

end Go.Proofs.YtlkpnpbodbokkaaDoor
