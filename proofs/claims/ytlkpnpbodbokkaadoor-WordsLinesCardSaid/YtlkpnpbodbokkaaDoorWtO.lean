/- Lines and words, by the program and by the document (written by gen_wto.py). -/
import Derived.Test.YtlkpnpbodbokkaaDoorProg
import Derived.WalkKit
import Derived.Deep.Cut
import Derived.BigQuiet
import Derived.Lib.CutLaws
import Derived.Test.YtlkpnpbodbokkaaDoorWtN
namespace Go.Bs
open Go.RowKit
set_option linter.unusedVariables false
theorem wordsB_count (s : List UInt8) : (spl 32 s).length ≤ s.length + 1 := by
  induction s with
  | nil => simp [spl]
  | cons b l ih =>
    unfold spl
    split
    · simp only [List.length_cons]; omega
    · have := List.length_pos_iff.2 (spl_ne 32 l)
      simp only [List.length_cons, List.length_tail]; omega
theorem splc_count (c : UInt8) (s : List UInt8) : (spl c s).length ≤ s.length + 1 := by
  induction s with
  | nil => simp [spl]
  | cons b l ih =>
    unfold spl
    split
    · simp only [List.length_cons]; omega
    · have := List.length_pos_iff.2 (spl_ne c l)
      simp only [List.length_cons, List.length_tail]; omega
theorem done_le {c : UInt8} {l : List UInt8} {d : List (List UInt8)} {r : List UInt8} (h : spl c l = d ++ spl c r) : d.length ≤ l.length := by
  have h1 := splc_count c l
  have h2 := List.length_pos_iff.2 (spl_ne c r)
  rw [h, List.length_append] at h1
  omega
theorem cut_yes (c : UInt8) (p q : List UInt8) (h : c ∉ p) : Lib.cut (p ++ c :: q) [c] = (p, q, true) := by
  unfold Lib.cut
  rw [Lib.index_one, indexByte_app c p q h, if_pos (by omega)]
  simp only [Int.toNat_natCast, List.length_cons, List.length_nil]
  rw [List.take_left', ← List.drop_drop, List.drop_left]
  · rfl
  · rfl
theorem cut_no (c : UInt8) (p : List UInt8) (h : c ∉ p) : Lib.cut p [c] = (p, [], false) := by
  unfold Lib.cut
  have e : Lib.indexByte p c = -1 := by
    induction p with
    | nil => rfl
    | cons b l ih =>
      rw [List.mem_cons, not_or] at h
      have hb : (b == c) = false := beq_eq_false_iff_ne.2 (fun e => h.1 e.symm)
      rw [Lib.indexByte, hb, ih h.2]
      rfl
  rw [Lib.index_one, e, if_neg (by omega)]
def strLen : Value → Nat
  | .string b => b.size
  | _ => 0
end Go.Bs
namespace Go.Proofs.YtlkpnpbodbokkaaDoor
open Go.RowKit Go.Bs
set_option linter.unusedVariables false
set_option linter.unusedSimpArgs false

theorem str_piece (s : ByteArray) (f i : Nat) (h1 : f ≤ i) (h2 : i ≤ s.size) (W : World) : (Instr.slice 9 (.string s) (some (.int .i64 (f : Int))) (some (.int .i64 (i : Int))) none).run Tryd.prog W = .ok (.string (mkS ((s.data.toList.drop f).take (i - f)))) W := by
  rw [run_slice_string W _ _ _ _ _ _ Tryd.underlying9 (by omega) (by omega) (by omega), Int.toNat_natCast, Int.toNat_natCast, extract_mkS]
theorem str_from (s : ByteArray) (f : Nat) (h1 : f ≤ s.size) (W : World) : (Instr.slice 9 (.string s) (some (.int .i64 (f : Int))) none none).run Tryd.prog W = .ok (.string (mkS (s.data.toList.drop f))) W := by
  rw [run_slice_string_from_if W _ _ _ _ Tryd.underlying9, if_pos (by omega), Int.toNat_natCast, extract_mkS, List.take_of_length_le]
  rw [List.length_drop, str_len]; exact Nat.le_refl _
theorem str_ix (s : ByteArray) (i : Nat) (hi : i < s.size) (W : World) : (Instr.index 9 (.string s) (.int .i64 (i : Int))).run Tryd.prog W = .ok (.int .u8 (((s.data.toList.getD i 0).toNat : Nat) : Int)) W := by
  have e := str_at s i hi
  rw [run_index_string _ _ _ _ _ Tryd.underlying9, dif_pos (by omega)]
  show Result.ok (Value.int .u8 ((s[i]'hi).toNat : Int)) W = _
  rw [← e]
theorem str_none (s : ByteArray) (h : s.size = 0) : s.data.toList = [] := List.eq_nil_of_length_eq_zero (by rw [str_len]; exact h)
theorem str_some (s : ByteArray) (h : s.size ≠ 0) : s.data.toList ≠ [] := by intro e; have := str_len s; rw [e] at this; simp at this; omega

set_option maxRecDepth 100000 in
set_option maxHeartbeats 3200000 in
theorem ref10_split (s : ByteArray) (hs : s.size ≤ 100000) (w : World) : Calls Tryd.prog 34 #[.string s] w fun r w' => (∃ v, r = .returned v ∧ StrsAt w' v (wordsB s.data.toList)) ∧ Below w.heap.size w w' := by
  by_cases hz : s.size = 0
  · have hl := str_none s hz
    have hw : wordsB s.data.toList = [] := by rw [hl]; rfl
    have ez : ((s.size : Nat) : Int) = 0 := by omega
    have he : s.toList.isEmpty = true := by rw [data_str, hl]; rfl
    have hq : (s.toList != []) = false := by rw [data_str, hl]; rfl
    rw [hw]
    clear hw hl hz
    go_enter Tryd.func34, Tryd.ntmps34
    go_wp2_with fail
    go_loopw [3, 4, 5] (fun v f i wr => v = .slice none 0 0 ∧ f = .int .i64 0 ∧ i = .int .i64 0 ∧ wr = w) (fun _ _ _ _ => 0)
    case atStart => exact ⟨rfl, rfl, rfl, rfl⟩
    case round =>
      obtain ⟨rfl, rfl, rfl, rfl⟩ := hrel
      go_wp2_with fail
      go_ret
      exact ⟨⟨_, rfl, ⟨none, 0, rfl, .inl rfl⟩⟩, Below.refl _ _⟩
  · obtain ⟨i0, hi, hz0, hz1, hz2⟩ := info_parts wInfoS
    have hne := str_some s hz
    have he : s.toList.isEmpty = false := by rw [data_str, List.isEmpty_eq_false_iff]; exact hne
    have hq : (s.toList != []) = true := by rw [data_str, bne_iff_ne]; exact hne
    have HIX := hid (str_ix s)
    have HPC := hid (str_piece s)
    have HFR := hid (str_from s)
    obtain ⟨l, hl⟩ : ∃ l, l = s.data.toList := ⟨_, rfl⟩
    have HLN : Hid (l.length = s.size) := hid (by rw [hl]; exact str_len s)
    have hwd : Hid (wordsB l = spl 32 l) := hid (by unfold wordsB; rw [if_neg (by rw [hl]; exact hne)])
    rw [← hl] at HIX HPC HFR
    rw [← hl, hwd.out]
    clear hl hne hwd hz
    go_enter Tryd.func34, Tryd.ntmps34
    go_wp2_with fail
    go_loopw [3, 4, 5] (fun v f i wr => ∃ (fn k : Nat) (d : List (List UInt8)), fn ≤ k ∧ k ≤ s.size ∧ f = .int .i64 fn ∧ i = .int .i64 k ∧ spl 32 l = d ++ spl 32 (l.drop fn) ∧ (32 : UInt8) ∉ (l.drop fn).take (k - fn) ∧ wr.ownsRow w.heap.size 9 1 v d.length (strCells (d.map mkS)) ∧ Below w.heap.size w wr) (fun _ _ i _ => s.size - (intOf i).toNat)
    case atStart => exact ⟨0, 0, [], by omega, by omega, rfl, rfl, rfl, by simp, ⟨by simp [strCells], .inl ⟨rfl, rfl⟩⟩, Below.refl _ _⟩
    case round =>
      obtain ⟨fn, k, d, hfk, hk, rfl, rfl, hspl, hno, hown, hb⟩ := hrel
      have HO := hid hown
      have HB := hid hb
      have hbz := hb.size
      have hdl := done_le hspl
      rw [HLN.out] at hdl
      obtain ⟨a5, c5, rfl⟩ := own_form hown
      clear hown hb
      by_cases hlt : k < s.size
      · have i1 : (k : Int) < (s.size : Int) := by omega
        have ix := fun W => HIX.out k hlt W
        obtain ⟨x, hx⟩ : ∃ x, l.getD k 0 = x := ⟨_, rfl⟩
        rw [hx] at ix
        by_cases h32 : x = 32
        · have d3 : ((x.toNat : Int) == 32) = true := by rw [h32]; rfl
          have pc := fun W => HPC.out fn k hfk (by omega) W
          have hst := hid (spl_step 32 l fn k hfk (by rw [HLN.out]; exact hlt) (hx.trans h32) hno)
          have HS := hid hspl
          clear hspl hno hx h32
          generalize (l.drop fn).take (k - fn) = p at *
          generalize x.toNat = xn at *
          go_wp2_with (at_builtin; go_loud (refine wpList_append_src rfl _ _ _ rfl w.heap.size 9 i0 (.string ⟨#[]⟩) 1 16 Tryd.underlying52 hi hz0 hz1 hz2 rfl (by decide) (.slice a5 d.length c5) d.length (strCells (d.map mkS)) rfl (own_below HO.out (by (repeat (first | exact Below.refl _ _ | assumption | (refine below_alloc ?_ _) | (refine Below.setCell ?_ (by first | omega | (simp; done) | (simp; omega)) _) | (refine Below.drew ?_) | (refine below_drewN ?_ _) | (refine below_then (by assumption) ?_))))) _ 1 1 [.string (mkS p)] rfl (src_row (by (repeat (first | assumption | exact Blk.newAt _ _ _ (by first | (simp; done) | (simp; omega)) | refine Blk.alloc ?_ _ | refine Blk.drew ?_ | refine Blk.drewN ?_ _ | refine Blk.far ?_ (by first | (simp; done) | (simp; omega)) _)))) (by simp [Value.oneCell']) (by simp only [maxLen]; omega) (by omega) (by first | omega | (simp; done) | (simp; omega)) ?_; intro v6 w6 hown6 hgrow6 hat6; have hb6 : Below w.heap.size w w6 := (Below.grown (by have := HB.out; (repeat (first | exact Below.refl _ _ | assumption | (refine below_alloc ?_ _) | (refine Below.setCell ?_ (by first | omega | (simp; done) | (simp; omega)) _) | (refine Below.drew ?_) | (refine below_drewN ?_ _) | (refine below_then (by assumption) ?_)))) hgrow6 (by first | omega | (simp; done) | (simp; omega)) (fun g e => (HO.out.lt g e).1)); have HO6 := hid hown6; obtain ⟨a6, c6, rfl⟩ := own_form hown6; clear hown6 hgrow6 hat6))
          go_wp2_with fail
          go_roundw
          case rel => exact ⟨k + 1, k + 1, d ++ [p], by omega, by omega, by go_num, by go_num, (by rw [HS.out, hst.out]; simp), by simp, (by rw [List.length_append]; simpa [strCells] using HO6.out), hb6⟩
          case measure => simp [intOf]; omega
        · have d3 : ((x.toNat : Int) == 32) = false := beq_eq_false_iff_ne.2 (fun e => h32 (UInt8.toNat_inj.1 (by show x.toNat = 32; omega)))
          have HNo := hid (no_step 32 l fn k hfk (by rw [HLN.out]; exact hlt) (by rw [hx]; exact h32) hno)
          have HS := hid hspl
          clear hspl hno hx h32
          generalize x.toNat = xn at *
          go_wp2_with fail
          go_roundw
          case rel => exact ⟨fn, k + 1, d, by omega, by omega, rfl, by go_num, HS.out, HNo.out, HO.out, HB.out⟩
          case measure => simp [intOf]; omega
      · obtain rfl : k = s.size := by omega
        have fr := fun W => HFR.out fn hfk W
        have hfull : (l.drop fn).take (s.size - fn) = l.drop fn := List.take_of_length_le (by rw [List.length_drop, HLN.out]; exact Nat.le_refl _)
        rw [hfull] at hno
        have hend := spl_none 32 _ hno
        have HS : Hid (spl 32 l = d ++ [l.drop fn]) := hid (by rw [hspl, hend])
        clear hspl hno hend hfull
        generalize l.drop fn = p at *
        go_wp2_with (at_builtin; go_loud (refine wpList_append_src rfl _ _ _ rfl w.heap.size 9 i0 (.string ⟨#[]⟩) 1 16 Tryd.underlying52 hi hz0 hz1 hz2 rfl (by decide) (.slice a5 d.length c5) d.length (strCells (d.map mkS)) rfl (own_below HO.out (by (repeat (first | exact Below.refl _ _ | assumption | (refine below_alloc ?_ _) | (refine Below.setCell ?_ (by first | omega | (simp; done) | (simp; omega)) _) | (refine Below.drew ?_) | (refine below_drewN ?_ _) | (refine below_then (by assumption) ?_))))) _ 1 1 [.string (mkS p)] rfl (src_row (by (repeat (first | assumption | exact Blk.newAt _ _ _ (by first | (simp; done) | (simp; omega)) | refine Blk.alloc ?_ _ | refine Blk.drew ?_ | refine Blk.drewN ?_ _ | refine Blk.far ?_ (by first | (simp; done) | (simp; omega)) _)))) (by simp [Value.oneCell']) (by simp only [maxLen]; omega) (by omega) (by first | omega | (simp; done) | (simp; omega)) ?_; intro v6 w6 hown6 hgrow6 hat6; have hb6 : Below w.heap.size w w6 := (Below.grown (by have := HB.out; (repeat (first | exact Below.refl _ _ | assumption | (refine below_alloc ?_ _) | (refine Below.setCell ?_ (by first | omega | (simp; done) | (simp; omega)) _) | (refine Below.drew ?_) | (refine below_drewN ?_ _) | (refine below_then (by assumption) ?_)))) hgrow6 (by first | omega | (simp; done) | (simp; omega)) (fun g e => (HO.out.lt g e).1)); have HO6 := hid hown6; obtain ⟨a6, c6, rfl⟩ := own_form hown6; clear hown6 hgrow6 hat6))
        go_wp2_with fail
        go_ret
        have hfin : StrsAt w6 (.slice a6 (d.length + 1) c6) (d ++ [p]) := own_texts (n := d.length + 1) (by simp) (by simpa [strCells] using HO6.out)
        exact ⟨⟨_, rfl, by rw [HS.out]; exact hfin⟩, hb6⟩


def LinesRet (l : List UInt8) (r : Ending) (w' : World) : Prop :=
  (∃ k : Nat, lnBad 0 (spl 10 l) = some k ∧ r = .returned (.tuple #[.slice none 0 0, .int .i64 (k : Int), .int .i64 20])) ∨ (lnBad 0 (spl 10 l) = none ∧ ∃ v, r = .returned (.tuple #[v, .int .i64 0, .int .i64 0]) ∧ StrsAt w' v (spl 10 l).dropLast)

set_option maxRecDepth 100000 in
set_option maxHeartbeats 3200000 in
theorem ref10_lines (s : ByteArray) (hs : s.size ≤ 100000) (w : World) : Calls Tryd.prog 30 #[.string s] w fun r w' => LinesRet s.data.toList r w' ∧ Below w.heap.size w w' := by
  obtain ⟨i0, hi, hz0, hz1, hz2⟩ := info_parts wInfoS
  have dm : decide ((1048576 : Int) < (s.size : Int)) = false := decide_eq_false (by omega)
  have HIX := hid (str_ix s)
  have HPC := hid (str_piece s)
  have HLn := hid ref10_line
  obtain ⟨l, hl⟩ : ∃ l, l = s.data.toList := ⟨_, rfl⟩
  have HLN : Hid (l.length = s.size) := hid (by rw [hl]; exact str_len s)
  rw [← hl] at HIX HPC
  rw [← hl]
  clear hl
  go_enter Tryd.func30, Tryd.ntmps30
  go_wp2_with fail
  go_loopw [5, 6, 7] (fun v f i wr => ∃ (fn k : Nat) (d : List (List UInt8)), fn ≤ k ∧ k ≤ s.size ∧ f = .int .i64 fn ∧ i = .int .i64 k ∧ spl 10 l = d ++ spl 10 (l.drop fn) ∧ lnBad 0 (spl 10 l) = lnBad d.length (spl 10 (l.drop fn)) ∧ (10 : UInt8) ∉ (l.drop fn).take (k - fn) ∧ wr.ownsRow w.heap.size 9 1 v d.length (strCells (d.map mkS)) ∧ Below w.heap.size w wr) (fun _ _ i _ => s.size - (intOf i).toNat)
  case atStart => exact ⟨0, 0, [], by omega, by omega, rfl, rfl, rfl, rfl, by simp, ⟨by simp [strCells], .inl ⟨rfl, rfl⟩⟩, Below.refl _ _⟩
  case round =>
    obtain ⟨fn, k, d, hfk, hk, rfl, rfl, hspl, hbad, hno, hown, hb⟩ := hrel
    have HO := hid hown
    have HB := hid hb
    have hbz := hb.size
    have hdl := done_le hspl
    rw [HLN.out] at hdl
    obtain ⟨a5, c5, rfl⟩ := own_form hown
    clear hown hb
    by_cases hlt : k < s.size
    · have i1 : (k : Int) < (s.size : Int) := by omega
      have ix := fun W => HIX.out k hlt W
      obtain ⟨x, hx⟩ : ∃ x, l.getD k 0 = x := ⟨_, rfl⟩
      rw [hx] at ix
      by_cases h32 : x = 10
      · have d3 : ((x.toNat : Int) != 10) = false := by rw [h32]; rfl
        have pc := fun W => HPC.out fn k hfk (by omega) W
        have hst := spl_step 10 l fn k hfk (by rw [HLN.out]; exact hlt) (hx.trans h32) hno
        have hpl : ((l.drop fn).take (k - fn)).length ≤ 100000 := by rw [List.length_take]; omega
        rw [hst, lnBad_more _ _ _ (spl_ne 10 _)] at hbad
        have HBad := hid hbad
        have HS : Hid (spl 10 l = d ++ (l.drop fn).take (k - fn) :: spl 10 (l.drop (k + 1))) := hid (by rw [hspl, hst])
        clear hspl hno hx h32 hst hbad
        generalize (l.drop fn).take (k - fn) = p at *
        generalize x.toNat = xn at *
        have HLp := hid (HLn.out (mkS p) (by show p.toArray.size ≤ 100000; rw [List.size_toArray]; exact hpl))
        have em : (mkS p).data.toList = p := by simp [mkS]
        rw [em] at HLp
        clear em
        cases hlb : lineB p with
        | false =>
          rw [hlb] at HLp HBad
          have HR : Hid (LinesRet l (.returned (.tuple #[.slice none 0 0, .int .i64 ((d.length : Int) + 1), .int .i64 20])) w) := hid (.inl ⟨d.length + 1, HBad.out, rfl⟩)
          go_wp2_with fail
          refine (HLp.out _).mono ?_
          rintro r w2 ⟨rfl, hb2⟩
          have HB2 := hid (HB.out.trans (hb2.mono HB.out.size))
          clear hb2
          go_wp2_with fail
          refine bodyPost_ret (v := .tuple #[.slice none 0 0, .int .i64 ((d.length : Int) + 1), .int .i64 20]) (by simp [results, Tryd.results30, go_sem]) rfl ⟨?_, HB2.out⟩
          rcases HR.out with ⟨k2, h1, h2⟩ | ⟨h1, v, h2, _⟩
          · exact .inl ⟨k2, h1, h2⟩
          · simp at h2
        | true =>
          rw [hlb] at HLp HBad
          go_wp2_with fail
          refine (HLp.out _).mono ?_
          rintro r w2 ⟨rfl, hb2⟩
          have HB1 := hid hb2
          have HB2 := hid (HB.out.trans (hb2.mono HB.out.size))
          have hb2z := hb2.size
          clear hb2 HB
          have HB := HB2
          go_wp2_with (at_builtin; go_loud (refine wpList_append_src rfl _ _ _ rfl w.heap.size 9 i0 (.string ⟨#[]⟩) 1 16 Tryd.underlying52 hi hz0 hz1 hz2 rfl (by decide) (.slice a5 d.length c5) d.length (strCells (d.map mkS)) rfl (own_below (own_below HO.out HB1.out) (by (repeat (first | exact Below.refl _ _ | assumption | (refine below_alloc ?_ _) | (refine Below.setCell ?_ (by first | omega | (simp; done) | (simp; omega)) _) | (refine Below.drew ?_) | (refine below_drewN ?_ _) | (refine below_then (by assumption) ?_))))) _ 1 1 [.string (mkS p)] rfl (src_row (by (repeat (first | assumption | exact Blk.newAt _ _ _ (by first | (simp; done) | (simp; omega)) | refine Blk.alloc ?_ _ | refine Blk.drew ?_ | refine Blk.drewN ?_ _ | refine Blk.far ?_ (by first | (simp; done) | (simp; omega)) _)))) (by simp [Value.oneCell']) (by simp only [maxLen]; omega) (by omega) (by first | omega | (simp; done) | (simp; omega)) ?_; intro v6 w6 hown6 hgrow6 hat6; have hb6 : Below w.heap.size w w6 := (Below.grown (by have := HB.out; (repeat (first | exact Below.refl _ _ | assumption | (refine below_alloc ?_ _) | (refine Below.setCell ?_ (by first | omega | (simp; done) | (simp; omega)) _) | (refine Below.drew ?_) | (refine below_drewN ?_ _) | (refine below_then (by assumption) ?_)))) hgrow6 (by first | omega | (simp; done) | (simp; omega)) (fun g e => (HO.out.lt g e).1)); have HO6 := hid hown6; obtain ⟨a6, c6, rfl⟩ := own_form hown6; clear hown6 hgrow6 hat6))
          go_wp2_with fail
          go_roundw
          case rel => exact ⟨k + 1, k + 1, d ++ [p], by omega, by omega, by go_num, by go_num, (by rw [HS.out]; simp), (by rw [HBad.out, List.length_append]; rfl), by simp, (by rw [List.length_append]; simpa [strCells] using HO6.out), hb6⟩
          case measure => simp [intOf]; omega
      · have d3 : ((x.toNat : Int) != 10) = true := bne_iff_ne.2 (fun e => h32 (UInt8.toNat_inj.1 (by show x.toNat = 10; omega)))
        have HNo := hid (no_step 10 l fn k hfk (by rw [HLN.out]; exact hlt) (by rw [hx]; exact h32) hno)
        have HS := hid hspl
        have HBad := hid hbad
        clear hspl hno hx h32 hbad
        generalize x.toNat = xn at *
        go_wp2_with fail
        go_roundw
        case rel => exact ⟨fn, k + 1, d, by omega, by omega, rfl, by go_num, HS.out, HBad.out, HNo.out, HO.out, HB.out⟩
        case measure => simp [intOf]; omega
    · obtain rfl : k = s.size := by omega
      have hfull : (l.drop fn).take (s.size - fn) = l.drop fn := List.take_of_length_le (by rw [List.length_drop, HLN.out]; exact Nat.le_refl _)
      rw [hfull] at hno
      have hend := spl_none 10 _ hno
      rw [hend] at hspl hbad
      by_cases hf : fn < s.size
      · have df : decide ((fn : Int) < (s.size : Int)) = true := decide_eq_true (by omega)
        have hne : l.drop fn ≠ [] := by
          intro e
          have := congrArg List.length e
          rw [List.length_drop, HLN.out] at this
          simp at this; omega
        have HR : Hid (∀ W, LinesRet l (.returned (.tuple #[.slice none 0 0, .int .i64 ((d.length : Int) + 1), .int .i64 20])) W) := hid (fun W => .inl ⟨d.length + 1, by rw [hbad]; unfold lnBad; rw [if_neg hne], rfl⟩)
        clear hspl hbad hno hend hfull hne
        go_wp2_with fail
        refine bodyPost_ret (v := .tuple #[.slice none 0 0, .int .i64 ((d.length : Int) + 1), .int .i64 20]) (by simp [results, Tryd.results30, go_sem]) rfl ⟨HR.out _, HB.out⟩
      · have df : decide ((fn : Int) < (s.size : Int)) = false := decide_eq_false (by omega)
        have hnil : l.drop fn = [] := List.drop_eq_nil_of_le (by rw [HLN.out]; omega)
        rw [hnil] at hspl hbad
        have hT : StrsAt wr (.slice a5 d.length c5) d := own_texts rfl HO.out
        have HR : Hid (LinesRet l (.returned (.tuple #[.slice a5 d.length c5, .int .i64 0, .int .i64 0])) wr) := hid (.inr ⟨by rw [hbad]; rfl, _, rfl, by rw [hspl, List.dropLast_concat]; exact hT⟩)
        clear hspl hbad hno hend hfull hnil hT
        go_wp2_with fail
        refine bodyPost_ret (v := .tuple #[.slice a5 d.length c5, .int .i64 0, .int .i64 0]) (by simp [results, Tryd.results30, go_sem]) rfl ⟨HR.out, HB.out⟩


def SplitRet (l : List UInt8) (r : Ending) (w' : World) : Prop :=
  (lineB l = true ∧ ∃ v, r = .returned (.tuple #[v, .bool true]) ∧ StrsAt w' v (wordsB l)) ∨ (lineB l = false ∧ r = .returned (.tuple #[.slice none 0 0, .bool false]))

set_option maxRecDepth 100000 in
set_option maxHeartbeats 3200000 in
theorem words_split (s : ByteArray) (hs : s.size ≤ 100000) (w : World) (E : Env w) : Calls Tryd.prog 32 #[.string s] w fun r w' => SplitRet s.data.toList r w' ∧ Below w.heap.size w w' := by
  by_cases hz : s.size = 0
  · have hl := str_none s hz
    have he : s.toList.isEmpty = true := by rw [data_str, hl]; rfl
    have HR : Hid (SplitRet s.data.toList (.returned (.tuple #[.slice none 0 0, .bool true])) w) := hid (.inl ⟨by rw [hl]; rfl, _, rfl, by rw [hl]; exact ⟨none, 0, rfl, .inl rfl⟩⟩)
    clear hl hz
    go_enter Tryd.func32, Tryd.ntmps32
    go_wp2_with fail
    go_ret2
    exact ⟨HR.out, Below.refl _ _⟩
  · have hne := str_some s hz
    have he : s.toList.isEmpty = false := by rw [data_str, List.isEmpty_eq_false_iff]; exact hne
    obtain ⟨m, hm⟩ := E.mx
    have HSp := hid (Tryd.strings_Split s ⟨#[32]⟩ m w (by omega) hm (by decide))
    have HPl := hid words_plain
    have HLs : Hid (lineB s.data.toList = (spl 32 s.data.toList).all plainB) := hid (lineB_words _ hne)
    have HWd : Hid (wordsB s.data.toList = spl 32 s.data.toList) := hid (by unfold wordsB; rw [if_neg hne])
    have hP1 := splitB_spl 32 s
    have hP2 : (Lib.splitB ⟨#[32]⟩ 0 (Lib.countB s ⟨#[32]⟩) s).length = Lib.countB s ⟨#[32]⟩ + 1 := Lib.splitB_all ⟨#[32]⟩ (by decide) 0 _ s rfl
    have hcnt : Lib.countB s ⟨#[32]⟩ ≤ s.size := Lib.countB_le ⟨#[32]⟩ (by decide) _ s (Nat.le_refl _)
    generalize Lib.countB s ⟨#[32]⟩ = cnt at *
    generalize Lib.splitB ⟨#[32]⟩ 0 cnt s = P at *
    have HP1 := hid hP1
    obtain ⟨n, hn⟩ : ∃ n, n = cnt + 1 := ⟨_, rfl⟩
    rw [← hn] at HSp hP2
    have en : ((cnt : Int) + 1) = (n : Int) := by omega
    have hn1 : n ≤ 100001 := by omega
    have HP2 := hid hP2
    clear E hP1 hP2 hm hn hne hz
    go_enter Tryd.func32, Tryd.ntmps32
    go_wp2_with fail
    refine HSp.out.mono ?_
    rintro r W ⟨rfl, hW⟩
    have hblk : Blk W w.heap.size 9 (P.map Value.string).toArray := by rw [hW]; exact Blk.new w _ _
    have hbW : Below w.heap.size w W := by rw [hW]; (repeat (first | exact Below.refl _ _ | assumption | (refine below_alloc ?_ _) | (refine Below.setCell ?_ (by first | omega | (simp; done) | (simp; omega)) _) | (refine Below.drew ?_) | (refine below_drewN ?_ _) | (refine below_then (by assumption) ?_)))
    have HBlk := hid hblk
    have HBW := hid hbW
    clear hblk hbW hW
    go_wp2_with fail
    go_loopw [13] (fun i wr => ∃ k : Nat, k ≤ n ∧ i = .int .i64 k ∧ (∀ j, j < k → plainB (P.getD j ⟨#[]⟩).data.toList = true) ∧ Below W.heap.size W wr) (fun i _ => n - (intOf i).toNat)
    case atStart => exact ⟨0, by omega, rfl, fun j hj => by omega, Below.refl _ _⟩
    case round =>
      obtain ⟨k, hk, rfl, hall, hb⟩ := hrel
      by_cases hlt : k < n
      · have i1 : (k : Int) < (n : Int) := by omega
        have hPk : k < P.length := by rw [HP2.out]; exact hlt
        have hx : P[k]? = some P[k] := List.getElem?_eq_getElem hPk
        have hx' : wr.cell? ⟨w.heap.size, k, none⟩ = some (.string P[k]) := by
          rw [(HBlk.out.later hb).cell]; simp [hx]
        have hgd : P.getD k ⟨#[]⟩ = P[k] := by rw [List.getD_eq_getElem?_getD, hx]; rfl
        have HPk := hid (HPl.out P[k] wr)
        have HB := hid hb
        have HA := hid hall
        cases hp : plainB P[k].data.toList with
        | true =>
          rw [hp] at HPk
          have HG : Hid (plainB (P.getD k ⟨#[]⟩).data.toList = true) := hid (by rw [hgd]; exact hp)
          clear hx hb hall hgd hp
          generalize P[k] = x at *
          go_wp2_with fail
          refine HPk.out.mono ?_
          rintro r w1 ⟨rfl, hb1⟩
          have HB1 := hid (HB.out.trans (hb1.mono HB.out.size))
          clear hb1
          go_wp2_with fail
          go_roundw
          case rel =>
            refine ⟨k + 1, by omega, by go_num, fun j hj => ?_, HB1.out⟩
            by_cases hji : j = k
            · subst hji; exact HG.out
            · exact HA.out j (by omega)
          case measure => simp [intOf]; omega
        | false =>
          rw [hp] at HPk
          have HR : Hid (∀ W', SplitRet s.data.toList (.returned (.tuple #[.slice none 0 0, .bool false])) W') := hid (fun W' => .inr ⟨by
            rw [HLs.out, ← HP1.out, List.all_eq_false]
            exact ⟨P[k].data.toList, List.mem_map_of_mem (List.getElem_mem hPk), by rw [hp]; decide⟩, rfl⟩)
          clear hx hb hall hgd hp
          generalize P[k] = x at *
          go_wp2_with fail
          refine HPk.out.mono ?_
          rintro r w1 ⟨rfl, hb1⟩
          have HB1 := hid (HBW.out.trans ((HB.out.trans (hb1.mono HB.out.size)).mono HBW.out.size))
          clear hb1
          go_wp2_with fail
          go_ret2
          exact ⟨HR.out _, HB1.out⟩
      · obtain rfl : k = n := by omega
        have hT : StrsAt wr (.slice (some ⟨w.heap.size, 0, none⟩) k k) (spl 32 s.data.toList) := by
          have hlen : (spl 32 s.data.toList).length = k := by rw [← HP1.out, List.length_map, HP2.out]
          refine ⟨_, k, by rw [hlen], .inr ⟨w.heap.size, 0, rfl, (HBlk.out.later hb).lt, by omega, fun i hi => ?_⟩⟩
          rw [hlen] at hi
          rw [Nat.zero_add, (HBlk.out.later hb).cell, ← HP1.out]
          have hiP : i < P.length := by rw [HP2.out]; exact hi
          rw [List.getD_eq_getElem?_getD, List.getElem?_map, List.getElem?_eq_getElem hiP]
          simp [hiP]
        have HR : Hid (SplitRet s.data.toList (.returned (.tuple #[.slice (some ⟨w.heap.size, 0, none⟩) k k, .bool true])) wr) := hid (.inl ⟨by
          rw [HLs.out, ← HP1.out, List.all_eq_true]
          intro p hp
          obtain ⟨x, hx, rfl⟩ := List.mem_map.1 hp
          obtain ⟨j, hj, rfl⟩ := List.getElem_of_mem hx
          have := hall j (by rw [← HP2.out]; exact hj)
          rw [List.getD_eq_getElem?_getD, List.getElem?_eq_getElem hj] at this
          exact this, _, rfl, by rw [HWd.out]; exact hT⟩)
        have HBf := hid (HBW.out.trans (hb.mono HBW.out.size))
        clear hall hb hT
        go_wp2_with fail
        go_ret2
        exact ⟨HR.out, HBf.out⟩
end Go.Proofs.YtlkpnpbodbokkaaDoor
