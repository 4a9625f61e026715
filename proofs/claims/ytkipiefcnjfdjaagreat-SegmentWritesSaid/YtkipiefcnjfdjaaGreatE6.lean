/- Needed by segmentWrites_walk, part 6: texts put together by shake.py; no condition. -/
import Derived.Test.YtkipiefcnjfdjaaGreatF5
import Derived.Test.YtkipiefcnjfdjaaGreatE5
import Derived.Maps.AppendAt
import Derived.Deep.AppendLies
import Derived.Test.YtkipiefcnjfdjaaGreatE1
import Derived.BigRegion
import Derived.Test.YtkipiefcnjfdjaaGreatE2
import Derived.Laws.Bits64
import Derived.Deep.RegionHeld3
import Derived.IntWalk
import Derived.ScopeJumps
import Derived.WalkMore
import Derived.Test.YtkipiefcnjfdjaaGreatRows
import Derived.Test.YtkipiefcnjfdjaaGreatE3
import Derived.Test.YtkipiefcnjfdjaaGreatE4
namespace Go.Proofs.YtkipiefcnjfdjaaGreat
open Go.RowKit Go.Bs Go.Maps
set_option linter.unusedVariables false
set_option linter.unusedSimpArgs false

set_option maxRecDepth 100000 in
set_option maxHeartbeats 1600000 in
theorem ref03_fixed (x : Nat) (hx : x < 18446744073709551616) (w : World) :
    Calls Tryz.prog 179 #[.int .u64 x, .int .i64 4] w fun r w' => ∃ v, r = .returned v ∧ OwnB w' w.heap.size v (fixedB 4 x) ∧ Below w.heap.size w w' := by
  obtain ⟨i0, hi, hz0, hz1, hz2⟩ := info_parts info8
  go_enter Tryz.func179, Tryz.ntmps179
  go_wp2_with fail
  go_loopw [5, 6] (fun o i wr => ∃ k : Nat, k ≤ 4 ∧ i = .int .i64 k ∧ wr.ownsRow w.heap.size 5 1 o k (byteCells (fixedB k x)) ∧ Below w.heap.size w wr) (fun _ i _ => 4 - (intOf i).toNat)
  case atStart => exact ⟨0, Nat.zero_le _, rfl, ⟨rfl, .inl ⟨rfl, rfl⟩⟩, Below.refl _ _⟩
  case round =>
    obtain ⟨k, hk, rfl, hown, hb⟩ := hrel
    have hbs := hb.size
    obtain ⟨aJ, cJ, rfl⟩ := own_form hown
    have HO := hid hown
    clear hown
    by_cases hlt : k < 4
    · have i1 : (k : Int) < 4 := by omega
      have i2 : (k : Int) < 8 := by omega
      have d1 : decide ((k : Int) < 4) = true := decide_eq_true i1
      have d2 : decide ((k : Int) < 8) = true := decide_eq_true i2
      have hp : (2 : Int) ^ (8 * k) = ((256 ^ k : Nat) : Int) := by
        rcases k with _ | _ | _ | _ | k
        · rfl
        · rfl
        · rfl
        · rfl
        · omega
      have hfin := hid (fixedB_snoc k x)
      have hby : Hid ((x : Int) / 2 ^ (8 * k) % 256 = ((UInt8.ofNat (x / 256 ^ k % 256)).toNat : Int)) := hid (by
        rw [hp, ← byte_small (by omega)]
        rfl)
      clear hp
      go_wp2_with (at_builtin; (refine wpList_append_src rfl _ _ _ rfl w.heap.size 5 i0 (.int .u8 0) 1 1 Tryz.underlying28 hi hz0 hz1 hz2 rfl (by decide) (.slice aJ k cJ) k (byteCells (fixedB k x)) rfl (own_below HO.out (by (repeat (first | with_reducible exact Below.refl _ _ | with_reducible assumption | (with_reducible refine below_alloc ?_ _) | (with_reducible refine Below.setCell ?_ (by first | omega | (simp; done) | (simp; omega)) _) | (with_reducible refine Below.drew ?_) | (with_reducible refine below_drewN ?_ _) | (refine below_then (by with_reducible assumption) ?_))))) (some ⟨wr.heap.size, 0, none⟩) 1 1 [.int .u8 ((x : Int) / 2 ^ (8 * k) % 256)] rfl (src_new1 wr 5 _ rfl rfl rfl) (by intro u hu; simp at hu; subst hu; rfl) (by simp only [maxLen]; omega) (by omega) (by simp; omega) ?_; intro v' w1 hown1 hgrow1 hat1; have HG := hid hgrow1; have HO1 := hid hown1; clear hgrow1 hown1 hat1))
      have ho := HO1.out
      rw [hby.out, byteCells_snoc, ← hfin.out] at ho
      have hB : Below w.heap.size w w1 := Below.grown (by (repeat (first | with_reducible exact Below.refl _ _ | with_reducible assumption | (with_reducible refine below_alloc ?_ _) | (with_reducible refine Below.setCell ?_ (by first | omega | (simp; done) | (simp; omega)) _) | (with_reducible refine Below.drew ?_) | (with_reducible refine below_drewN ?_ _) | (refine below_then (by with_reducible assumption) ?_)))) HG.out (by simp; omega) (fun g e => (HO.out.lt g e).1)
      have HO2 := hid ho
      clear ho
      go_wp2_with fail
      go_roundw
      case rel => exact ⟨k + 1, by omega, by go_num, HO2.out, hB⟩
      case measure => simp [intOf]; omega
    · obtain rfl : k = 4 := by omega
      go_wp2
      go_ret
      exact ⟨_, rfl, HO.out, hb⟩

set_option maxRecDepth 100000 in
set_option maxHeartbeats 1600000 in
theorem ref08_bytes (D : List UInt8) (ad : Option Addr) (nd cd : Nat) (w : World) (hD : rBytes.r (· < w.heap.size) w [.slice ad nd cd] D) (hm : D.length ≤ 2097152) :
    Calls Tryz.prog 181 #[.slice ad nd cd] w fun r w' => ∃ v, r = .returned v ∧ OwnB w' w.heap.size v (frameB D) ∧ Below w.heap.size w w' := by
  obtain ⟨rfl, _, _, _⟩ := sl_len hD
  obtain ⟨i0, hi, hz0, hz1, hz2⟩ := info_parts info8
  have HB := hid (ref06_own w D ad _ cd hD (by omega))
  have HS := hid (fun (W : World) (hW : Below w.heap.size w W) => ref07_sum D ad _ cd W (lift hD hW))
  have HL := crcSum_lt D
  have hfb : Hid (frameB D = blobB D ++ fixedB 4 (crcSum D)) := hid rfl
  have hbl := blobB_len D
  have hvl := (varB_len D.length).1
  have hbl2 : (blobB D).length ≤ 3000000 := by omega
  have hfl : (fixedB 4 (crcSum D)).length ≤ 4 := by rw [fixedB_len]; omega
  have HF := hid (fun W : World => ref03_fixed (crcSum D) (by omega) W)
  have HON := hid (byteCells_one (fixedB 4 (crcSum D)))
  generalize fixedB 4 (crcSum D) = X at *
  generalize crcSum D = s at *
  generalize frameB D = K at *
  generalize blobB D = B at *
  have e1 : (s : Int) % 18446744073709551616 = s := by omega
  clear hD hbl hvl
  go_enter Tryz.func181, Tryz.ntmps181
  go_wp2_with fail
  refine HB.out.mono ?_
  rintro r w1 ⟨v, rfl, ho, hb1⟩
  obtain ⟨a1, c1, rfl⟩ := own_form ho
  have HO := hid ho
  clear ho
  go_wp2_with fail
  refine (HS.out _ hb1).mono ?_
  rintro r w2 ⟨rfl, rfl⟩
  go_wp2_with fail
  refine (HF.out _).mono ?_
  rintro r w3 ⟨v3, rfl, ho3, hb3⟩
  obtain ⟨a3, c3, rfl⟩ := ho3.form
  have HSX := hid (src_bytes (own_bytes rfl ho3))
  have HO3 := hid (own_below HO.out hb3)
  have hb03 := below_then hb3 hb1
  have hz03 := hb03.size
  clear ho3
  go_wp2_with (at_builtin; (refine wpList_append_src rfl _ _ _ rfl w.heap.size 5 i0 (.int .u8 0) 1 1 Tryz.underlying28 hi hz0 hz1 hz2 rfl (by decide) (.slice a1 B.length c1) B.length (byteCells B) rfl HO3.out a3 X.length c3 (byteCells X) rfl HSX.out HON.out (by simp only [maxLen]; omega) (by omega) hz03 ?_; intro v' w4 hown4 hgrow4 hat4; have HG := hid hgrow4; have HO4 := hid hown4; clear hgrow4 hown4 hat4))
  have hB : Below w.heap.size w w4 := Below.grown hb03 HG.out hz03 (fun g e => (HO3.out.lt g e).1)
  have hO := OwnB.app HO4.out
  rw [← hfb.out] at hO
  have HO5 := hid hO
  clear hO
  go_wp2
  go_ret
  exact ⟨_, rfl, HO5.out, hB⟩
end Go.Proofs.YtkipiefcnjfdjaaGreat
namespace Go.Proofs.YtkipiefcnjfdjaaGreat
open Go.RowKit Go.Bs Go.Maps
set_option linter.unusedVariables false
set_option linter.unusedSimpArgs false

set_option maxRecDepth 100000 in
set_option maxHeartbeats 1600000 in
theorem ref34_record (k : Nat) (hk : k < 256) (D : List UInt8) (a : Option Addr) (n c : Nat) (w : World) (hl : rBytes.r (· < w.heap.size) w [.slice a n c] D) (hm : D.length + 1 ≤ 2097152) :
    Calls Tryz.prog 116 #[.int .u8 k, .slice a n c] w fun r w' => ∃ x, r = .returned x ∧ OwnB w' w.heap.size x (recB (UInt8.ofNat k) D) ∧ Below w.heap.size w w' := by
  obtain ⟨rfl, hlm, _, _⟩ := sl_len hl
  obtain ⟨i0, hi, hz0, hz1, hz2⟩ := info_parts info8
  have HF := hid (fun (W : World) (a : Option Addr) (n c : Nat) h => ref08_bytes (UInt8.ofNat k :: D) a n c W h (by simp; omega))
  have hrb : Hid (recB (UInt8.ofNat k) D = frameB (UInt8.ofNat k :: D)) := hid rfl
  have hcl : Hid ([Value.int .u8 (k : Int)] ++ byteCells D = byteCells (UInt8.ofNat k :: D)) := hid (by
    rw [show (k : Int) = ((UInt8.ofNat k).toNat : Int) from byte_small hk]; rfl)
  have HS := hid (fun (W : World) (hW : Below w.heap.size w W) => src_bytes (lift hl hW))
  have HONE := hid (byteCells_one D)
  have HO := hid (own_new1 (w := w.alloc (.cells #[.int .u8 (k : Int)] 5)) (base := w.heap.size) (e := 5) (Nat.le_refl _) (World.alloc_heap_new w _))
  clear hl
  go_enter Tryz.func116, Tryz.ntmps116
  go_wp2_with (at_builtin; (refine wpList_append_src rfl _ _ _ rfl w.heap.size 5 i0 (.int .u8 0) 1 1 Tryz.underlying28 hi hz0 hz1 hz2 rfl (by decide) (.slice (some ⟨w.heap.size, 0, none⟩) 1 1) 1 _ rfl HO.out a D.length c (byteCells D) rfl (HS.out _ (by (repeat (first | exact Below.refl _ _ | assumption | (refine below_alloc ?_ _) | (refine Below.setCell ?_ (by first | omega | (simp; done) | (simp; omega)) _) | (refine Below.drew ?_) | (refine below_drewN ?_ _) | (refine below_then (by assumption) ?_))))) HONE.out (by simp only [maxLen]; omega) (by omega) (by simp) ?_; intro v' w1 hown1 hgrow1 hat1; obtain ⟨a', c', rfl⟩ := own_form hown1; have HG := hid hgrow1; have HO1 := hid hown1; clear hgrow1 hown1 hat1))
  have ho := HO1.out
  rw [hcl.out] at ho
  have hB : Below w.heap.size w w1 := Below.grown (by (repeat (first | exact Below.refl _ _ | assumption | (refine below_alloc ?_ _) | (refine Below.setCell ?_ (by first | omega | (simp; done) | (simp; omega)) _) | (refine Below.drew ?_) | (refine below_drewN ?_ _) | (refine below_then (by assumption) ?_)))) HG.out (by simp) (fun g e => (HO.out.lt g e).1)
  have HR1 := hid (own_bytes (l := UInt8.ofNat k :: D) (by simp; omega) ho)
  clear ho
  refine (HF.out w1 a' _ c' HR1.out).mono ?_
  rintro r w2 ⟨v, rfl, ho2, hb2⟩
  rw [← hrb.out] at ho2
  have HO2 := hid (ho2.low hB.size)
  clear ho2
  go_wp2
  go_ret
  exact ⟨_, rfl, HO2.out, below_then hb2 hB⟩

set_option maxRecDepth 100000 in
set_option maxHeartbeats 3200000 in
theorem ref31_bytes (ep : Nat) (hep : ep < 4611686018427387904) (w : World) :
    Calls Tryz.prog 115 #[.agg #[.int .i64 3, .int .u64 ep, .int .u64 0]] w fun r w' => ∃ x, r = .returned x ∧ OwnB w' w.heap.size x (headHB 3 ep 0) ∧ Below w.heap.size w w' := by
  obtain ⟨i0, hi, hz0, hz1, hz2⟩ := info_parts info8
  have HV := hid (fun W : World => ref04_own ep (by omega) W)
  have hvl := (varB_len ep).1
  have hP : Hid (headP 3 ep 0 = [84, 72, 79, 76, 3] ++ varB ep) := hid (by simp [headP])
  have hfb : Hid (headHB 3 ep 0 = headP 3 ep 0 ++ fixedB 4 (crcSum (headP 3 ep 0))) := hid rfl
  have hPl : (headP 3 ep 0).length ≤ 15 := by rw [hP.out]; simp; omega
  have hlP : Hid (5 + (varB ep).length = (headP 3 ep 0).length) := hid (by rw [hP.out]; simp; omega)
  have HS := hid (fun (W : World) a n c (h : rBytes.r (· < W.heap.size) W [.slice a n c] (headP 3 ep 0)) => ref07_sum (headP 3 ep 0) a n c W h)
  have HL := crcSum_lt (headP 3 ep 0)
  have hXl : (fixedB 4 (crcSum (headP 3 ep 0))).length ≤ 4 := by rw [fixedB_len]; omega
  have HF := hid (fun W : World => ref03_fixed (crcSum (headP 3 ep 0)) (by omega) W)
  have HONX := hid (byteCells_one (fixedB 4 (crcSum (headP 3 ep 0))))
  have HONV := hid (byteCells_one (varB ep))
  generalize fixedB 4 (crcSum (headP 3 ep 0)) = X at *
  generalize crcSum (headP 3 ep 0) = s at *
  generalize headHB 3 ep 0 = K at *
  generalize headP 3 ep 0 = P at *
  generalize varB ep = V at *
  have e1 : (s : Int) % 18446744073709551616 = s := by omega
  go_enter Tryz.func115, Tryz.ntmps115
  go_wp2_with fail
  have hbL : Below w.heap.size w ((w.alloc (.cells #[.int .i64 3, .int .u64 ep, .int .u64 0] 158)).alloc (.cells #[.int .u8 84, .int .u8 72, .int .u8 79, .int .u8 76, .int .u8 3] 5)) := by (repeat (first | exact Below.refl _ _ | assumption | (refine below_alloc ?_ _) | (refine Below.setCell ?_ (by first | omega | (simp; done) | (simp; omega)) _) | (refine Below.drew ?_) | (refine below_drewN ?_ _) | (refine below_then (by assumption) ?_)))
  have hBX := (Blk.new w 158 #[.int .i64 3, .int .u64 ep, .int .u64 0]).alloc (.cells #[.int .u8 84, .int .u8 72, .int .u8 79, .int .u8 76, .int .u8 3] 5)
  have hOL : ((w.alloc (.cells #[.int .i64 3, .int .u64 ep, .int .u64 0] 158)).alloc (.cells #[.int .u8 84, .int .u8 72, .int .u8 79, .int .u8 76, .int .u8 3] 5)).ownsRow w.heap.size 5 1 (.slice (some ⟨w.heap.size + 1, 0, none⟩) 5 5) 5 (byteCells [84, 72, 79, 76, 3]) :=
    ⟨rfl, .inr ⟨w.heap.size + 1, 5, #[.int .u8 84, .int .u8 72, .int .u8 79, .int .u8 76, .int .u8 3], rfl, by omega, Blk.new1 w _ _ _, Nat.le_refl _, by decide, rfl, rfl⟩⟩
  generalize (w.alloc (.cells #[.int .i64 3, .int .u64 ep, .int .u64 0] 158)).alloc (.cells #[.int .u8 84, .int .u8 72, .int .u8 79, .int .u8 76, .int .u8 3] 5) = W at *
  have HOL := hid hOL
  have HBX := hid hBX
  clear hOL hBX
  refine (HV.out W).mono ?_
  rintro r w1 ⟨v, rfl, ho, hb1⟩
  obtain ⟨a1, c1, rfl⟩ := own_form ho
  have HSV := hid (src_bytes (own_bytes rfl ho))
  have HO1 := hid (own_below HOL.out hb1)
  have hb01 := below_then hb1 hbL
  have hz01 := hb01.size
  have HB1 := hid (HBX.out.later hb1)
  have x0 : w1.cell? ⟨w.heap.size, 0, none⟩ = some (.int .i64 3) := HB1.out.cell 0
  clear ho
  go_wp2_with (at_builtin; (refine wpList_append_src rfl _ _ _ rfl w.heap.size 5 i0 (.int .u8 0) 1 1 Tryz.underlying28 hi hz0 hz1 hz2 rfl (by decide) (.slice (some ⟨w.heap.size + 1, 0, none⟩) 5 5) 5 (byteCells [84, 72, 79, 76, 3]) rfl HO1.out a1 V.length c1 (byteCells V) rfl HSV.out HONV.out (by simp only [maxLen]; omega) (by omega) hz01 ?_; intro v' w2 hown2 hgrow2 hat2; rw [byteCells_app, ← hP.out, hlP.out] at hown2; obtain ⟨aJ, cJ, rfl⟩ := own_form hown2; have HOJ := hid hown2; have HRJ := hid (own_bytes rfl hown2); have hbJ : Below w.heap.size w w2 := Below.grown hb01 hgrow2 hz01 (fun g e => (HO1.out.lt g e).1); have HB2 := hid (HB1.out.grown hgrow2 (fun e => by simp [Value.ownBlock] at e)); have y0 : w2.cell? ⟨w.heap.size, 0, none⟩ = some (.int .i64 3) := HB2.out.cell 0; clear hown2 hgrow2 hat2))
  go_wp2_with fail
  refine (HS.out _ _ _ _ HRJ.out).mono ?_
  rintro r w7 ⟨rfl, rfl⟩
  go_wp2_with fail
  refine (HF.out _).mono ?_
  rintro r w8 ⟨v8, rfl, ho8, hb8⟩
  obtain ⟨a8, c8, rfl⟩ := ho8.form
  have HSX := hid (src_bytes (own_bytes rfl ho8))
  have HO8 := hid (own_below HOJ.out hb8)
  have hb08 := below_then hb8 hbJ
  have hz08 := hb08.size
  clear ho8
  go_wp2_with (at_builtin; (refine wpList_append_src rfl _ _ _ rfl w.heap.size 5 i0 (.int .u8 0) 1 1 Tryz.underlying28 hi hz0 hz1 hz2 rfl (by decide) (.slice aJ P.length cJ) P.length (byteCells P) rfl HO8.out a8 X.length c8 (byteCells X) rfl HSX.out HONX.out (by simp only [maxLen]; omega) (by omega) hz08 ?_; intro v' w9 hown9 hgrow9 hat9; have HG := hid hgrow9; have HO9 := hid hown9; clear hgrow9 hown9 hat9))
  have hB : Below w.heap.size w w9 := Below.grown hb08 HG.out hz08 (fun g e => (HO8.out.lt g e).1)
  have hO := OwnB.app HO9.out
  rw [← hfb.out] at hO
  have HO5 := hid hO
  clear hO
  go_wp2
  go_ret
  exact ⟨_, rfl, HO5.out, hB⟩
end Go.Proofs.YtkipiefcnjfdjaaGreat
namespace Go.Proofs.YtkipiefcnjfdjaaGreat
open Go.RowKit Go.Bs Go.Maps
set_option linter.unusedVariables false
set_option linter.unusedSimpArgs false

set_option maxRecDepth 100000 in
set_option maxHeartbeats 1600000 in
theorem ref33_trailer (n : Nat) (hn : n < 18446744073709551616) (w : World) :
    Calls Tryz.prog 183 #[.int .i64 n] w fun r w' => ∃ x, r = .returned x ∧ OwnB w' w.heap.size x (trailB n) ∧ Below w.heap.size w w' := by
  obtain ⟨i0, hi, hz0, hz1, hz2⟩ := info_parts info8
  have hff : Hid (trailB n = fixedB 4 n ++ fixedB 4 (crcSum (fixedB 4 n)) ++ [76, 79, 72, 84]) := hid (by simp [trailB])
  have HF := hid (fun W : World => ref03_fixed n hn W)
  have hDl : (fixedB 4 n).length ≤ 4 := by rw [fixedB_len]; omega
  have HS := hid (fun (W : World) a n' c (h : rBytes.r (· < W.heap.size) W [.slice a n' c] (fixedB 4 n)) => ref07_sum (fixedB 4 n) a n' c W h)
  have HL := crcSum_lt (fixedB 4 n)
  have hXl : (fixedB 4 (crcSum (fixedB 4 n))).length ≤ 4 := by rw [fixedB_len]; omega
  have HX := hid (fun W : World => ref03_fixed (crcSum (fixedB 4 n)) (by omega) W)
  have HOND := hid (byteCells_one (fixedB 4 n))
  have HONX := hid (byteCells_one (fixedB 4 (crcSum (fixedB 4 n))))
  have e1 : (n : Int) % 18446744073709551616 = n := by omega
  generalize trailB n = K at *
  generalize fixedB 4 (crcSum (fixedB 4 n)) = X at *
  generalize crcSum (fixedB 4 n) = s at *
  generalize fixedB 4 n = D at *
  have e2 : (s : Int) % 18446744073709551616 = s := by omega
  go_enter Tryz.func183, Tryz.ntmps183
  go_wp2_with fail
  refine (HF.out w).mono ?_
  rintro r w1 ⟨v, rfl, ho, hb1⟩
  obtain ⟨a1, c1, rfl⟩ := ho.form
  have HO := hid ho
  have HSD := hid (src_bytes (own_bytes rfl ho))
  have hz1' := hb1.size
  clear ho
  go_wp2_with (at_builtin; (refine wpList_append_src rfl _ _ _ rfl w.heap.size 5 i0 (.int .u8 0) 1 1 Tryz.underlying28 hi hz0 hz1 hz2 rfl (by decide) (.slice none 0 0) 0 [] rfl ⟨rfl, .inl ⟨rfl, rfl⟩⟩ a1 D.length c1 (byteCells D) rfl HSD.out HOND.out (by simp only [maxLen]; omega) (by omega) hz1' ?_; intro v' w2 hown2 hgrow2 hat2; rw [Nat.zero_add, List.nil_append] at hown2; obtain ⟨aT, cT, rfl⟩ := own_form hown2; have hb12 : Below w1.heap.size w1 w2 := Below.grown (Below.refl _ _) hgrow2 (Nat.le_refl _) (fun g e => by cases e); have HB12 := hid hb12; have HOT := hid hown2; have HRD := hid (own_bytes rfl (own_below HO.out hb12)); clear hown2 hgrow2 hat2 hb12))
  refine (HS.out _ _ _ _ HRD.out).mono ?_
  rintro r w3 ⟨rfl, rfl⟩
  go_wp2_with fail
  refine (HX.out _).mono ?_
  rintro r w4 ⟨v4, rfl, ho4, hb4⟩
  obtain ⟨a4, c4, rfl⟩ := ho4.form
  have HSX := hid (src_bytes (own_bytes rfl ho4))
  have HOT4 := hid (own_below HOT.out hb4)
  have hb04 := below_then hb4 (below_then HB12.out hb1)
  have hz04 := hb04.size
  clear ho4
  go_wp2_with (first | (at_builtin; (refine wpList_append_src rfl _ _ _ rfl w.heap.size 5 i0 (.int .u8 0) 1 1 Tryz.underlying28 hi hz0 hz1 hz2 rfl (by decide) (.slice aT D.length cT) D.length (byteCells D) rfl HOT4.out a4 X.length c4 (byteCells X) rfl HSX.out HONX.out (by simp only [maxLen]; omega) (by omega) hz04 ?_; intro v5 w5 hown5 hgrow5 hat5; obtain ⟨a5, c5, rfl⟩ := own_form hown5; have hb05 : Below w.heap.size w w5 := Below.grown hb04 hgrow5 hz04 (fun g e => (HOT4.out.lt g e).1); have HO5 := hid hown5; have hz05 := hb05.size; clear hown5 hgrow5 hat5)) | (at_builtin; (have hb56 : Below w5.heap.size w5 (w5.alloc (.cells #[.int .u8 76, .int .u8 79, .int .u8 72, .int .u8 84] 5)) := below_alloc (Below.refl _ _) _; have hb06 := below_then hb56 hb05; refine wpList_append_src rfl _ _ _ rfl w.heap.size 5 i0 (.int .u8 0) 1 1 Tryz.underlying28 hi hz0 hz1 hz2 rfl (by decide) (.slice a5 (D.length + X.length) c5) (D.length + X.length) (byteCells D ++ byteCells X) rfl (own_below HO5.out hb56) (some ⟨w5.heap.size, 0, none⟩) 4 4 (byteCells [76, 79, 72, 84]) rfl (src_bytes (lit_bytes (l := [76, 79, 72, 84]) (cs := #[.int .u8 76, .int .u8 79, .int .u8 72, .int .u8 84]) rfl (by decide) (World.alloc_heap_new w5 _))) (byteCells_one _) (by simp only [maxLen]; omega) (by omega) hb06.size ?_; intro v6 w6 hown6 hgrow6 hat6; have hb07 : Below w.heap.size w w6 := Below.grown hb06 hgrow6 hb06.size (fun g e => (HO5.out.lt g e).1); have HO6 := hid hown6; clear hown6 hgrow6 hat6 hb56 hb06)))
  have hO : OwnB w6 w.heap.size v6 K := by
    rw [hff.out]
    unfold OwnB
    rw [List.length_append, List.length_append, ← byteCells_app, ← byteCells_app]
    exact HO6.out
  have HOK := hid hO
  clear hO
  go_wp2
  go_ret
  exact ⟨_, rfl, HOK.out, hb07⟩
end Go.Proofs.YtkipiefcnjfdjaaGreat
namespace Go.Proofs.YtkipiefcnjfdjaaGreat
open Go.RowKit Go.Bs Go.Maps
set_option linter.unusedVariables false
set_option linter.unusedSimpArgs false

theorem ref04_ownI (x : Int) (hx : 0 ≤ x ∧ x ≤ 18446744073709551615) (w : World) :
    Calls Tryz.prog 144 #[.int .u64 x] w fun r w' => ∃ v, r = .returned v ∧ w'.ownsRow w.heap.size 5 1 v (varB x.toNat).length (byteCells (varB x.toNat)) ∧ Below w.heap.size w w' := by
  have := ref04_own x.toNat (by omega) w
  rw [Int.toNat_of_nonneg hx.1] at this
  exact this

set_option maxRecDepth 100000 in
set_option maxHeartbeats 3200000 in
theorem ref33_payload (f : FootD) (hR : FootR f) (w : World) :
    Calls Tryz.prog 182 #[.agg f.val] w fun r w' => ∃ x, r = .returned x ∧ OwnB w' w.heap.size x (footP f) ∧ Below w.heap.size w w' := by
  obtain ⟨i0, hi, hz0, hz1, hz2⟩ := info_parts info8
  have HNB := hid hR.nums
  have hpe : Hid (footP f = [3] ++ varB f.ep.toNat ++ numsB f.nums) := hid rfl
  have hep := hR.ep
  simp only [epR, decide_eq_true_eq] at hep
  obtain ⟨_, h1, h2, h3, h4, h5, h6, h7, h8, _⟩ := hR
  have hvl := (varB_len f.ep.toNat).1
  have hnl : Hid (f.nums.length = 6) := hid rfl
  have hcs : Hid ((u64Cells f.nums).toArray = #[.int .u64 f.n, .int .u64 f.en, .int .u64 f.first, .int .u64 f.fin, .int .u64 f.at_, .int .u64 f.size]) := hid rfl
  have hst := hid (fun k h => numsB_step f.nums k h)
  have hle : Hid (∀ k, (numsB (f.nums.take k)).length ≤ 60) := hid fun k => by
    have e2 := numsB_len (f.nums.take k)
    have e3 : (f.nums.take k).length ≤ 6 := by rw [List.length_take]; simp [FootD.nums]; omega
    omega
  have HV := hid (fun W : World => ref04_ownI f.ep (by omega) W)
  have HONV := hid (byteCells_one (varB f.ep.toNat))
  generalize footP f = K at *
  generalize f.nums = xs at *
  obtain ⟨ep, n, en, fi, fe, at_, s⟩ := f
  dsimp only [FootD.val] at *
  generalize varB ep.toNat = V at *
  have e1 : n % 18446744073709551616 = n := by omega
  have e2 : en % 18446744073709551616 = en := by omega
  have e3 : at_ % 18446744073709551616 = at_ := by omega
  have e4 : s % 18446744073709551616 = s := by omega
  go_enter Tryz.func182, Tryz.ntmps182
  go_wp2_with fail
  have hbL : Below w.heap.size w ((w.alloc (.cells #[.int .u64 ep, .int .i64 n, .int .i64 en, .int .u64 fi, .int .u64 fe, .int .i64 at_, .int .i64 s] 96)).alloc (.cells #[.int .u8 3] 5)) := by (repeat (first | exact Below.refl _ _ | assumption | (refine below_alloc ?_ _) | (refine Below.setCell ?_ (by first | omega | (simp; done) | (simp; omega)) _) | (refine Below.drew ?_) | (refine below_drewN ?_ _) | (refine below_then (by assumption) ?_)))
  have hBX := (Blk.new w 96 #[.int .u64 ep, .int .i64 n, .int .i64 en, .int .u64 fi, .int .u64 fe, .int .i64 at_, .int .i64 s]).alloc (.cells #[.int .u8 3] 5)
  have hOL : ((w.alloc (.cells #[.int .u64 ep, .int .i64 n, .int .i64 en, .int .u64 fi, .int .u64 fe, .int .i64 at_, .int .i64 s] 96)).alloc (.cells #[.int .u8 3] 5)).ownsRow w.heap.size 5 1 (.slice (some ⟨w.heap.size + 1, 0, none⟩) 1 1) 1 (byteCells [3]) :=
    own_new1 (by omega) (Blk.new1 w _ _ _)
  generalize (w.alloc (.cells #[.int .u64 ep, .int .i64 n, .int .i64 en, .int .u64 fi, .int .u64 fe, .int .i64 at_, .int .i64 s] 96)).alloc (.cells #[.int .u8 3] 5) = W at *
  have HOL := hid hOL
  have HBX := hid hBX
  clear hOL hBX
  refine (HV.out W).mono ?_
  rintro r w1 ⟨v, rfl, ho, hb1⟩
  obtain ⟨a1, c1, rfl⟩ := own_form ho
  have HSV := hid (src_bytes (own_bytes rfl ho))
  have HO1 := hid (own_below HOL.out hb1)
  have hb01 := below_then hb1 hbL
  have hz01 := hb01.size
  have HB1 := hid (HBX.out.later hb1)
  clear ho
  go_wp2_with (at_builtin; (refine wpList_append_src rfl _ _ _ rfl w.heap.size 5 i0 (.int .u8 0) 1 1 Tryz.underlying28 hi hz0 hz1 hz2 rfl (by decide) (.slice (some ⟨w.heap.size + 1, 0, none⟩) 1 1) 1 (byteCells [3]) rfl HO1.out a1 V.length c1 (byteCells V) rfl HSV.out HONV.out (by simp only [maxLen]; omega) (by omega) hz01 ?_; intro v' w2 hown2 hgrow2 hat2; obtain ⟨aJ, cJ, rfl⟩ := own_form hown2; have HOJ := hid (OwnB.app (L := [3]) (D := V) hown2); have hbJ : Below w.heap.size w w2 := Below.grown hb01 hgrow2 hz01 (fun g e => (HO1.out.lt g e).1); have HB2 := hid (HB1.out.grown hgrow2 (fun e => by simp [Value.ownBlock] at e)); have k0 : w2.cell? ⟨w.heap.size, 0, none⟩ = some (.int .u64 ep) := HB2.out.cell 0; have k1 : w2.cell? ⟨w.heap.size, 1, none⟩ = some (.int .i64 n) := HB2.out.cell 1; have k2 : w2.cell? ⟨w.heap.size, 2, none⟩ = some (.int .i64 en) := HB2.out.cell 2; have k3 : w2.cell? ⟨w.heap.size, 3, none⟩ = some (.int .u64 fi) := HB2.out.cell 3; have k4 : w2.cell? ⟨w.heap.size, 4, none⟩ = some (.int .u64 fe) := HB2.out.cell 4; have k5 : w2.cell? ⟨w.heap.size, 5, none⟩ = some (.int .i64 at_) := HB2.out.cell 5; have k6 : w2.cell? ⟨w.heap.size, 6, none⟩ = some (.int .i64 s) := HB2.out.cell 6; clear hown2 hgrow2 hat2))
  refine wp_world (fun W3 => Below w2.heap.size w2 W3 ∧ Blk W3 w2.heap.size 22 (u64Cells xs).toArray) ⟨by (repeat (first | exact Below.refl _ _ | assumption | (refine below_alloc ?_ _) | (refine Below.setCell ?_ (by first | omega | (simp; done) | (simp; omega)) _) | (refine Below.drew ?_) | (refine below_drewN ?_ _) | (refine below_then (by assumption) ?_))), by rw [hcs.out]; exact Blk.new _ _ _⟩ ?_
  rintro W3 ⟨hb23, hB3⟩
  have HB3 := hid hB3
  have HB23 := hid hb23
  have HBJ := hid hbJ
  have hzJ := hbJ.size
  clear k0 k1 k2 k3 k4 k5 k6 hB3 hb23 hbJ
  have hlv : Hid ((1 : Nat) + V.length = ([3] ++ V).length) := hid (by simp; omega)
  go_loopw [3, 5] (fun o i wr => ∃ k : Nat, k ≤ 6 ∧ i = .int .i64 k ∧ (∃ a c, o = .slice a ([3] ++ V ++ numsB (xs.take k)).length c ∧ OwnB wr w.heap.size o ([3] ++ V ++ numsB (xs.take k))) ∧ Blk wr w2.heap.size 22 (u64Cells xs).toArray ∧ (∀ q, o.ownBlock = some q → q ≠ w2.heap.size) ∧ Below w.heap.size w wr) (fun _ i _ => 6 - (intOf i).toNat)
  case atStart => exact ⟨0, Nat.zero_le _, rfl, ⟨aJ, cJ, by rw [List.take_zero, numsB_nil, List.append_nil, ← hlv.out], by rw [List.take_zero, numsB_nil, List.append_nil]; exact own_below HOJ.out HB23.out⟩, HB3.out, fun q e => by have := (own_lt HOJ.out q e).2; omega, below_then HB23.out HBJ.out⟩
  case round =>
    obtain ⟨k, hk, rfl, ⟨aK, cK, rfl, hown⟩, hB, hne, hb⟩ := hrel
    have HOK := hid hown
    have hl60 := hle.out k
    have hl3 : ([3] ++ V ++ numsB (xs.take k)).length ≤ 100 := by simp; omega
    by_cases hlt : k < 6
    · have hkx : k < xs.length := by rw [hnl.out]; exact hlt
      have x0 : wr.cell? ⟨w2.heap.size, k, none⟩ = some (.int .u64 xs[k]) := by
        refine (hB.cell k).trans ?_
        simp [u64Cells, hkx]
      have HSS := hid (hst.out k hkx)
      have hbx := HNB.out _ (List.getElem_mem hkx)
      generalize xs[k] = x at *
      have i1 : (k : Int) < 6 := by omega
      have HVX := hid (ref04_ownI x hbx wr)
      have HONX := hid (byteCells_one (varB x.toNat))
      have hvx := (varB_len x.toNat).1
      generalize varB x.toNat = X at *
      generalize hJ : [3] ++ V ++ numsB (xs.take k) = J at *
      have HJ := hid hJ
      have HB := hid hB
      have HNE := hid hne
      have hzb := hb.size
      clear hJ hB hne hown hlt
      go_wp2_with fail
      refine HVX.out.mono ?_
      rintro r w5 ⟨v5, rfl, ho5, hb5⟩
      obtain ⟨a5, c5, rfl⟩ := own_form ho5
      have HSX := hid (src_bytes (own_bytes rfl ho5))
      have HO5 := hid (own_below HOK.out hb5)
      have hb05 := below_then hb5 hb
      have hz05 := hb05.size
      have HB5 := hid (HB.out.later hb5)
      clear ho5
      go_wp2_with (at_builtin; (refine wpList_append_src rfl _ _ _ rfl w.heap.size 5 i0 (.int .u8 0) 1 1 Tryz.underlying28 hi hz0 hz1 hz2 rfl (by decide) (.slice aK J.length cK) J.length (byteCells J) rfl HO5.out a5 X.length c5 (byteCells X) rfl HSX.out HONX.out (by simp only [maxLen]; omega) (by omega) hz05 ?_; intro v6 w6 hown6 hgrow6 hat6; obtain ⟨a6, c6, rfl⟩ := own_form hown6; have HO6 := hid (OwnB.app hown6); have hb06 : Below w.heap.size w w6 := Below.grown hb05 hgrow6 hz05 (fun g e => (HO5.out.lt g e).1); have HB6 := hid (HB5.out.grown hgrow6 (fun e => HNE.out _ e.symm rfl)); have HN6 : Hid (∀ q, (Value.slice a6 (J.length + X.length) c6).ownBlock = some q → q ≠ w2.heap.size) := hid (fun q e => by rcases hat6 with h | h; exact HNE.out q (h.symm.trans e); have h9 := Option.some.inj (e.symm.trans h); have := HB5.out.lt; omega); clear hown6 hgrow6 hat6))
      have hJX : Hid (J ++ X = [3] ++ V ++ numsB (xs.take (k + 1))) := hid (by rw [← HJ.out, HSS.out]; simp)
      have hJL : Hid (J.length + X.length = ([3] ++ V ++ numsB (xs.take (k + 1))).length) := hid (by rw [← hJX.out, List.length_append])
      go_wp2_with fail
      go_roundw
      case rel => exact ⟨k + 1, by omega, by go_num, ⟨a6, c6, by rw [hJL.out], by rw [← hJX.out]; exact HO6.out⟩, HB6.out, HN6.out, hb06⟩
      case measure => simp [intOf]; omega
    · obtain rfl : k = 6 := by omega
      have hK : Hid ([3] ++ V ++ numsB (xs.take 6) = K) := hid (by rw [hpe.out, List.take_of_length_le (by rw [hnl.out]; omega)])
      generalize [3] ++ V ++ numsB (xs.take 6) = J at *
      go_wp2
      go_ret
      exact ⟨_, rfl, by rw [← hK.out]; exact HOK.out, hb⟩
end Go.Proofs.YtkipiefcnjfdjaaGreat
namespace Go.Proofs.YtkipiefcnjfdjaaGreat
open Go.RowKit Go.Bs Go.Maps
set_option linter.unusedVariables false
set_option linter.unusedSimpArgs false

set_option maxRecDepth 100000 in
set_option maxHeartbeats 1600000 in
theorem ref33_bytes (f : FootD) (hR : FootR f) (w : World) :
    Calls Tryz.prog 119 #[.agg f.val] w fun r w' => ∃ x, r = .returned x ∧ OwnB w' w.heap.size x (footB f) ∧ Below w.heap.size w w' := by
  obtain ⟨i0, hi, hz0, hz1, hz2⟩ := info_parts info8
  have HP := hid (fun W : World => ref33_payload f hR W)
  have hpl := footP_len f
  have hfb : Hid (footB f = frameB (footP f) ++ trailB (frameB (footP f)).length) := hid rfl
  have hfl : (frameB (footP f)).length ≤ 100 := by
    rw [frameB_len, blobB_len]
    have := (varB_len (footP f).length).1
    omega
  have HF := hid (fun (W : World) (a : Option Addr) (n c : Nat) h => ref08_bytes (footP f) a n c W h (by omega))
  have HT := hid (fun W : World => ref33_trailer (frameB (footP f)).length (by omega) W)
  have htl : (trailB (frameB (footP f)).length).length ≤ 12 := by rw [trailB_len]; omega
  have HONE := hid (byteCells_one (trailB (frameB (footP f)).length))
  generalize footB f = K at *
  generalize trailB (frameB (footP f)).length = T at *
  generalize frameB (footP f) = D at *
  generalize footP f = P at *
  have hfv : f.val = #[.int .u64 f.ep, .int .i64 f.n, .int .i64 f.en, .int .u64 f.first, .int .u64 f.fin, .int .i64 f.at_, .int .i64 f.size] := rfl
  rw [hfv]
  rw [hfv] at HP
  clear hfv hR
  go_enter Tryz.func119, Tryz.ntmps119
  go_wp2_with fail
  refine (HP.out _).mono ?_
  rintro r w1 ⟨v, rfl, ho1, hb1⟩
  obtain ⟨a1, c1, rfl⟩ := ho1.form
  have HR := hid (own_bytes rfl ho1)
  have hbw1 : Below w.heap.size w w1 := by (repeat (first | exact Below.refl _ _ | assumption | (refine below_alloc ?_ _) | (refine Below.setCell ?_ (by first | omega | (simp; done) | (simp; omega)) _) | (refine Below.drew ?_) | (refine below_drewN ?_ _) | (refine below_then (by assumption) ?_)))
  clear ho1
  go_wp2_with fail
  refine (HF.out w1 a1 _ c1 HR.out).mono ?_
  rintro r w2 ⟨v, rfl, ho2, hb2⟩
  obtain ⟨a2, c2, rfl⟩ := ho2.form
  have hbw2 := below_then hb2 hbw1
  have HO2 := hid ho2
  clear ho2
  go_wp2_with fail
  refine (HT.out w2).mono ?_
  rintro r w3 ⟨v, rfl, ho3, hb3⟩
  obtain ⟨a3, c3, rfl⟩ := ho3.form
  have HS := hid (src_bytes (own_bytes rfl ho3))
  have HO3 : Hid (w3.ownsRow w.heap.size 5 1 (.slice a2 D.length c2) D.length (byteCells D)) := hid (own_below (HO2.out.low hbw1.size) hb3)
  have hbw3 := below_then hb3 hbw2
  have hz3 := hbw3.size
  clear ho3
  go_wp2_with (at_builtin; (refine wpList_append_src rfl _ _ _ rfl w.heap.size 5 i0 (.int .u8 0) 1 1 Tryz.underlying28 hi hz0 hz1 hz2 rfl (by decide) (.slice a2 D.length c2) D.length (byteCells D) rfl HO3.out a3 T.length c3 (byteCells T) rfl HS.out HONE.out (by simp only [maxLen]; omega) (by omega) (by omega) ?_; intro v' w4 hown4 hgrow4 hat4; have HG := hid hgrow4; have HO4 := hid hown4; clear hgrow4 hown4 hat4))
  have hB : Below w.heap.size w w4 := Below.grown hbw3 HG.out (by omega) (fun g e => (HO3.out.lt g e).1)
  have hO := OwnB.app HO4.out
  rw [← hfb.out] at hO
  have HO := hid hO
  clear hO
  go_wp2
  go_ret
  exact ⟨_, rfl, HO.out, hB⟩
end Go.Proofs.YtkipiefcnjfdjaaGreat
namespace Go.Bs
open Go.RowKit
set_option linter.unusedVariables false
theorem src_blk {w : World} {g : Nat} {t : TypeId} {cs : List Value} (h : Blk w g t cs.toArray) {sz : Nat} (hs : cs.length = sz) : Src w (some ⟨g, 0, none⟩) 1 sz cs := by
  refine ⟨by omega, .inr ⟨_, 0, rfl, fun j u hu => ?_⟩⟩
  rw [Nat.zero_add, Blk.cell h]
  simpa using hu
end Go.Bs
namespace Go.Bs
open Go.RowKit
theorem riseM_at : ∀ (l : List MarkD) (p a : Int), riseM p a l = true → ∀ m ∈ l, m.at_ ≤ 1099511627775 ∧ a < m.at_
  | [], _, _, _, m, hm => by cases hm
  | x :: l, p, a, h, m, hm => by
    simp only [riseM, Bool.and_eq_true] at h
    obtain ⟨_, _, _, _, _, h6, h7⟩ := fitsM_facts h.1
    rcases List.mem_cons.1 hm with rfl | hm
    · exact ⟨h7, h6⟩
    · have := riseM_at l _ _ h.2 m hm; exact ⟨this.1, by omega⟩
end Go.Bs
namespace Go.Proofs.YtkipiefcnjfdjaaGreat
open Go.RowKit Go.Bs Go.Maps
set_option linter.unusedVariables false
set_option linter.unusedSimpArgs false

set_option maxRecDepth 100000 in
set_option maxHeartbeats 6400000 in
theorem ref32_bytes (l : List MarkD) (al : Option Addr) (nl cl : Nat) (w : World) (hl : rMarks.r (· < w.heap.size) w [.slice al nl cl] l) (hR : marksR l = true) :
    Calls Tryz.prog 117 #[.slice al nl cl] w fun r w' => ∃ x, r = .returned x ∧ OwnB w' w.heap.size x (indexB l) ∧ Below w.heap.size w w' := by
  obtain ⟨rfl, hm, _, _⟩ := sl_len hl
  obtain ⟨i0, hi, hz0, hz1, hz2⟩ := info_parts info8
  have hlb : (indexB l).length ≤ 1024 := by
    have h1 := (varB_len l.length).1
    have h2 := marksB_len l 0 0
    have h3 := hR
    simp only [marksR, Bool.and_eq_true, decide_eq_true_eq] at h3
    simp only [indexB, List.length_append]
    omega
  have hR' := hR
  simp only [marksR, Bool.and_eq_true, decide_eq_true_eq] at hR'
  have h16 := hR'.2
  have HM := hid (fun m hm => riseM_mem l 0 0 hR'.1 m hm)
  have HA := hid (fun m hm => riseM_at l 0 0 hR'.1 m hm)
  have HRI : Hid (riseM 0 0 (l.drop 0) = true) := hid (by rw [List.drop_zero]; exact hR'.1)
  have HLN : Hid (∀ D E : List UInt8, indexB l = D ++ E → D.length + E.length ≤ 1024) := hid fun D E e => by rw [e, List.length_append] at hlb; omega
  have hix0 : Hid (indexB l = [UInt8.ofNat l.length] ++ marksB 0 0 (l.drop 0)) := hid (by rw [List.drop_zero]; simp only [indexB]; rw [varB_small (by omega)])
  have hby : Hid ((l.length : Int) = ((UInt8.ofNat l.length).toNat : Int)) := hid (byte_small (by omega))
  generalize UInt8.ofNat l.length = u0 at *
  have e0 : (l.length : Int) % 256 = l.length := by omega
  have HL := hid hl
  clear hl hR hR' hlb
  go_enter Tryz.func117, Tryz.ntmps117
  go_wp2_with fail
  have hO0 : OwnB (w.alloc (.cells #[.int .u8 (l.length : Int)] 5)) w.heap.size (.slice (some ⟨w.heap.size, 0, none⟩) 1 1) [u0] := by
    have h := own_new1 (w := w.alloc (.cells #[.int .u8 (l.length : Int)] 5)) (base := w.heap.size) (e := 5) (Nat.le_refl _) (World.alloc_heap_new w _)
    have e0 : [Value.int .u8 (l.length : Int)] = byteCells [u0] := by rw [hby.out]; rfl
    exact e0 ▸ h
  have HO0 := hid hO0
  clear hO0 hby
  go_loopw [3, 4] (fun o i wr => ∃ (k : Nat) (D : List UInt8) (pp aa : Int), k ≤ l.length ∧ i = .int .i64 k ∧ 0 ≤ pp ∧ 0 ≤ aa ∧ (k = 0 ∧ pp = 0 ∧ aa = 0 ∨ 0 < k ∧ ∃ p, l[k - 1]? = some p ∧ pp = p.pos + p.count ∧ aa = p.at_) ∧ Hid (riseM pp aa (l.drop k) = true) ∧ Hid (indexB l = D ++ marksB pp aa (l.drop k)) ∧ (∃ a c, o = .slice a D.length c ∧ OwnB wr w.heap.size o D) ∧ Below w.heap.size w wr) (fun _ i _ => l.length - (intOf i).toNat)
  case atStart => exact ⟨0, [u0], 0, 0, Nat.zero_le _, rfl, by omega, by omega, .inl ⟨rfl, rfl, rfl⟩, HRI, hix0, ⟨_, _, rfl, HO0.out⟩, by (repeat (first | exact Below.refl _ _ | assumption | (refine below_alloc ?_ _) | (refine Below.setCell ?_ (by first | omega | (simp; done) | (simp; omega)) _) | (refine Below.drew ?_) | (refine below_drewN ?_ _) | (refine below_then (by assumption) ?_)))⟩
  case round =>
    obtain ⟨k, D, pp, aa, hk, rfl, hp0, ha0, h0, hri, hix, ⟨aK, cK, rfl, hown⟩, hb⟩ := hrel
    by_cases hlt : k < l.length
    · obtain ⟨b, o, hA, hbb, x0, x1, x2, hN⟩ := mark_at (lift HL.out hb) hlt
      have hbo : b < w.heap.size := by
        obtain ⟨b2, o2, hA2, hbb2, _⟩ := mark_at HL.out hlt
        rw [hA] at hA2; simp at hA2; omega
      subst hA
      have hst := riseM_step pp aa l k hlt
      have HMS := hid (marksB_step pp aa l k hlt)
      have HME : Hid (l[k + 1 - 1]? = some l[k]) := hid (by rw [Nat.add_sub_cancel]; exact List.getElem?_eq_getElem hlt)
      rw [hri.out] at hst
      generalize l[k] = m at *
      simp only [eq_comm (a := true), Bool.and_eq_true] at hst
      obtain ⟨g1, g2, g3, g4, g5, g6, g7⟩ := fitsM_facts hst.1
      have HRI2 := hid hst.2
      clear hst hri
      have i1 : (k : Int) < (l.length : Int) := by omega
      have hN1 := hN.p
      have HN0 := hid hN
      have HCB : Hid (varB m.count.toNat = [UInt8.ofNat m.count.toNat]) := hid (varB_small (by omega))
      have HBY : Hid (m.count = ((UInt8.ofNat m.count.toNat).toNat : Int)) := hid (by have := byte_small (x := m.count.toNat) (by omega); omega)
      generalize UInt8.ofNat m.count.toNat = cb at *
      clear hN
      rcases h0 with h0 | h0
      · obtain ⟨rfl, rfl, rfl⟩ := h0
        have hX : Hid (marksB 0 0 (l.drop 0) = varB m.pos.toNat ++ ([cb] ++ (varB (m.at_ - 1).toNat ++ marksB (m.pos + m.count) m.at_ (l.drop (0 + 1))))) := hid (by rw [HMS.out, HCB.out, Int.sub_zero, Int.sub_zero])
        have x0' := x0
        have x2' := x2
        have x1' := x1
        simp only [Nat.zero_mul, Nat.add_zero] at x0' x2' x1'
        have HQ : Hid ((0 : Nat) + 1 = 0 ∧ m.pos + m.count = 0 ∧ m.at_ = 0 ∨ 0 < 0 + 1 ∧ ∃ p, l[0 + 1 - 1]? = some p ∧ m.pos + m.count = p.pos + p.count ∧ m.at_ = p.at_) := hid (.inr ⟨by omega, m, HME.out, rfl, rfl⟩)
        have hXY := hX.out
        have hlnX := HLN.out D _ (hix.out.trans (congrArg (D ++ ·) hX.out))
        simp only [List.length_append, List.length_cons, List.length_nil] at hlnX
        have hcv : Hid (Value.int .u8 m.count = .int .u8 (cb.toNat : Int)) := hid (by rw [HBY.out])
        have hix2 : Hid (indexB l = (D ++ varB m.pos.toNat ++ [cb] ++ varB (m.at_ - 1).toNat) ++ marksB (m.pos + m.count) m.at_ (l.drop (0 + 1))) := hid (by rw [hix.out, hX.out]; simp only [List.append_assoc])
        have HVX := hid (fun W : World => ref04_ownI m.pos (by omega) W)
        have HVY := hid (fun W : World => ref04_ownI (m.at_ - 1) (by omega) W)
        have HOQX := hid (byteCells_one (varB m.pos.toNat))
        have HOQY := hid (byteCells_one (varB (m.at_ - 1).toNat))
        generalize varB m.pos.toNat = VX at *
        generalize varB (m.at_ - 1).toNat = VY at *
        have HOK := hid hown
        have hzb := hb.size
        have e1 : m.count % 256 = m.count := by omega
        clear hown hXY hX HMS HME HN0
        go_wp2_with fail
        go_big_region
        go_wp2_with fail
        refine (HVX.out _).mono ?_
        rintro r w5 ⟨v5, rfl, ho5, hb5⟩
        have hb5 := below_then hb5 (show Below wr.heap.size wr wr.drew from by (repeat (first | exact Below.refl _ _ | assumption | (refine below_alloc ?_ _) | (refine Below.setCell ?_ (by first | omega | (simp; done) | (simp; omega)) _) | (refine Below.drew ?_) | (refine below_drewN ?_ _) | (refine below_then (by assumption) ?_))))
        obtain ⟨a5, c5, rfl⟩ := own_form ho5
        have HSX := hid (src_bytes (own_bytes rfl ho5))
        have HO5 := hid (own_below HOK.out hb5)
        have hb05 := below_then hb5 hb
        have hz05 := hb05.size
        have t0 := (hb5.cell (p := ⟨b, o + 1, none⟩) hbb).trans x1'
        clear ho5
        go_wp2_with (first | (at_builtin; (refine wpList_append_src rfl _ _ _ rfl w.heap.size 5 i0 (.int .u8 0) 1 1 Tryz.underlying28 hi hz0 hz1 hz2 rfl (by decide)  (.slice aK D.length cK) D.length (byteCells D) rfl HO5.out a5 VX.length c5 (byteCells VX) rfl HSX.out HOQX.out (by simp only [maxLen]; omega) (by omega) hz05 ?_; intro v6 w6 hown6 hgrow6 hat6; obtain ⟨a6, c6, rfl⟩ := own_form hown6; have hb06 : Below w.heap.size w w6 := Below.grown hb05 hgrow6 hz05 (fun g e => (HO5.out.lt g e).1); have hz06 := hb06.size; have HO6 := hid (own_below hown6 (Below.refl w6.heap.size w6 |> fun h => below_alloc h (.cells #[.int .u8 m.count] 5))); have t1 : w6.cell? ⟨b, o + 1, none⟩ = some (.int .i64 m.count) := (World.cell?_of_block (a := ⟨b, o + 1, none⟩) (hgrow6.block b (by omega) (fun e => by have := (own_lt HO5.out b e.symm).1; omega))).trans t0; clear hown6 hgrow6 hat6 t0)) | (at_builtin; (refine wpList_append_src rfl _ _ _ rfl w.heap.size 5 i0 (.int .u8 0) 1 1 Tryz.underlying28 hi hz0 hz1 hz2 rfl (by decide)  (.slice a6 (D.length + VX.length) c6) (D.length + VX.length) (byteCells D ++ byteCells VX) rfl HO6.out (some ⟨w6.heap.size, 0, none⟩) 1 1 [.int .u8 m.count] rfl (src_blk (Blk.new w6 _ _) rfl) (by intro u hu; simp at hu; subst hu; rfl) (by simp only [maxLen]; omega) (by omega) (by simp; omega) ?_; intro v7 w7 hown7 hgrow7 hat7; obtain ⟨a7, c7, rfl⟩ := own_form hown7; have hb07 : Below w.heap.size w w7 := Below.grown (below_alloc hb06 _) hgrow7 (by simp; omega) (fun g e => (HO6.out.lt g e).1); have hz07 := hb07.size; have HO7 := hid hown7; clear hown7 hgrow7 hat7)))
        refine (HVY.out w7).mono ?_
        rintro r w8 ⟨v8, rfl, ho8, hb8⟩
        obtain ⟨a8, c8, rfl⟩ := own_form ho8
        have HSY := hid (src_bytes (own_bytes rfl ho8))
        have HO8 := hid (own_below HO7.out hb8)
        have hb08 := below_then hb8 hb07
        have hz08 := hb08.size
        clear ho8
        go_wp2_with (at_builtin; (refine wpList_append_src rfl _ _ _ rfl w.heap.size 5 i0 (.int .u8 0) 1 1 Tryz.underlying28 hi hz0 hz1 hz2 rfl (by decide)  (.slice a7 (D.length + VX.length + 1) c7) (D.length + VX.length + 1) (byteCells D ++ byteCells VX ++ [.int .u8 m.count]) rfl HO8.out a8 VY.length c8 (byteCells VY) rfl HSY.out HOQY.out (by simp only [maxLen]; omega) (by omega) hz08 ?_; intro v9 w9 hown9 hgrow9 hat9; obtain ⟨a9, c9, rfl⟩ := own_form hown9; have hb09 : Below w.heap.size w w9 := Below.grown hb08 hgrow9 hz08 (fun g e => (HO8.out.lt g e).1); have HO9 := hid hown9; clear hown9 hgrow9 hat9))
        have hlen9 : Hid (D.length + VX.length + 1 + VY.length = (D ++ VX ++ [cb] ++ VY).length) := hid (by simp; omega)
        have hOB : Hid (OwnB w9 w.heap.size (.slice a9 (D ++ VX ++ [cb] ++ VY).length c9) (D ++ VX ++ [cb] ++ VY)) := hid (by
          have h := HO9.out
          rw [hcv.out, hlen9.out] at h
          have h2 : byteCells D ++ byteCells VX ++ [Value.int .u8 (cb.toNat : Int)] ++ byteCells VY = byteCells (D ++ VX ++ [cb] ++ VY) := by simp [byteCells]
          rw [h2] at h
          exact h)
        go_wp2_with fail

        rw [hlen9.out]
        go_roundw
        case rel => exact ⟨(0 + 1), _, _, _, by omega, by go_num, by omega, by omega, HQ.out, HRI2, hix2, ⟨a9, c9, rfl, hOB.out⟩, hb09⟩
        case measure => simp [intOf]; omega
      · obtain ⟨hk0, p, hp, rfl, rfl⟩ := h0
        obtain ⟨k, rfl⟩ : ∃ j, k = j + 1 := ⟨k - 1, by omega⟩
        have hlt2 : k < l.length := by omega
        obtain ⟨b2, o2, hA2, hbb2, z0, z1, z2, hN2⟩ := mark_at (lift HL.out hb) hlt2
        simp only [Option.some.injEq, Addr.mk.injEq, and_true] at hA2
        obtain ⟨rfl, rfl⟩ := hA2
        simp only [Nat.add_sub_cancel] at hp
        rw [List.getElem?_eq_getElem hlt2] at hp
        have hpp := Option.some.inj hp
        clear hp
        obtain ⟨r1, r2, r3⟩ := HM.out _ (List.getElem_mem hlt2)
        have r4 := HA.out _ (List.getElem_mem hlt2)
        generalize l[k] = p' at *
        subst hpp
        have hX : Hid (marksB (p'.pos + p'.count) p'.at_ (l.drop (k + 1)) = varB (m.pos - p'.pos - p'.count).toNat ++ ([cb] ++ (varB (m.at_ - p'.at_ - 1).toNat ++ marksB (m.pos + m.count) m.at_ (l.drop (k + 1 + 1))))) := hid (by rw [HMS.out, HCB.out, show m.pos - (p'.pos + p'.count) = m.pos - p'.pos - p'.count by omega])
        have HQ : Hid (k + 1 + 1 = 0 ∧ m.pos + m.count = 0 ∧ m.at_ = 0 ∨ 0 < k + 1 + 1 ∧ ∃ p, l[k + 1 + 1 - 1]? = some p ∧ m.pos + m.count = p.pos + p.count ∧ m.at_ = p.at_) := hid (.inr ⟨by omega, m, HME.out, rfl, rfl⟩)
        have hN2p := hN2.p
        have i3 : (k : Int) < (l.length : Int) := by omega
        have dk : ((k + 1 : Nat) : Int) = (k : Int) + 1 := by omega
        have i1' : (k : Int) + 1 < (l.length : Int) := by omega
        have dl : decide ((k : Int) + 1 < (l.length : Int)) = true := decide_eq_true i1'
        have hdk : decide ((0 : Int) < (k : Int) + 1) = true := decide_eq_true (by omega)
        have hXY := hX.out
        have hlnX := HLN.out D _ (hix.out.trans (congrArg (D ++ ·) hX.out))
        simp only [List.length_append, List.length_cons, List.length_nil] at hlnX
        have hcv : Hid (Value.int .u8 m.count = .int .u8 (cb.toNat : Int)) := hid (by rw [HBY.out])
        have hix2 : Hid (indexB l = (D ++ varB (m.pos - p'.pos - p'.count).toNat ++ [cb] ++ varB (m.at_ - p'.at_ - 1).toNat) ++ marksB (m.pos + m.count) m.at_ (l.drop (k + 1 + 1))) := hid (by rw [hix.out, hX.out]; simp only [List.append_assoc])
        have HVX := hid (fun W : World => ref04_ownI (m.pos - p'.pos - p'.count) (by omega) W)
        have HVY := hid (fun W : World => ref04_ownI (m.at_ - p'.at_ - 1) (by omega) W)
        have HOQX := hid (byteCells_one (varB (m.pos - p'.pos - p'.count).toNat))
        have HOQY := hid (byteCells_one (varB (m.at_ - p'.at_ - 1).toNat))
        generalize varB (m.pos - p'.pos - p'.count).toNat = VX at *
        generalize varB (m.at_ - p'.at_ - 1).toNat = VY at *
        have HOK := hid hown
        have hzb := hb.size
        have e1 : m.count % 256 = m.count := by omega
        clear hown hXY hX HMS HME HN0
        go_wp2_with fail
        go_big_region
        go_wp2_with fail
        go_big_region
        go_wp2_with fail
        refine (HVX.out _).mono ?_
        rintro r w5 ⟨v5, rfl, ho5, hb5⟩
        have hb5 := below_then hb5 (show Below wr.heap.size wr wr.drew.drew from by (repeat (first | exact Below.refl _ _ | assumption | (refine below_alloc ?_ _) | (refine Below.setCell ?_ (by first | omega | (simp; done) | (simp; omega)) _) | (refine Below.drew ?_) | (refine below_drewN ?_ _) | (refine below_then (by assumption) ?_))))
        obtain ⟨a5, c5, rfl⟩ := own_form ho5
        have HSX := hid (src_bytes (own_bytes rfl ho5))
        have HO5 := hid (own_below HOK.out hb5)
        have hb05 := below_then hb5 hb
        have hz05 := hb05.size
        have t0 := (hb5.cell (p := ⟨b, o + (k + 1) * 3 + 1, none⟩) hbb).trans x1
        clear ho5
        go_wp2_with (first | (at_builtin; (refine wpList_append_src rfl _ _ _ rfl w.heap.size 5 i0 (.int .u8 0) 1 1 Tryz.underlying28 hi hz0 hz1 hz2 rfl (by decide)  (.slice aK D.length cK) D.length (byteCells D) rfl HO5.out a5 VX.length c5 (byteCells VX) rfl HSX.out HOQX.out (by simp only [maxLen]; omega) (by omega) hz05 ?_; intro v6 w6 hown6 hgrow6 hat6; obtain ⟨a6, c6, rfl⟩ := own_form hown6; have hb06 : Below w.heap.size w w6 := Below.grown hb05 hgrow6 hz05 (fun g e => (HO5.out.lt g e).1); have hz06 := hb06.size; have HO6 := hid (own_below hown6 (Below.refl w6.heap.size w6 |> fun h => below_alloc h (.cells #[.int .u8 m.count] 5))); have t1 : w6.cell? ⟨b, o + (k + 1) * 3 + 1, none⟩ = some (.int .i64 m.count) := (World.cell?_of_block (a := ⟨b, o + (k + 1) * 3 + 1, none⟩) (hgrow6.block b (by omega) (fun e => by have := (own_lt HO5.out b e.symm).1; omega))).trans t0; clear hown6 hgrow6 hat6 t0)) | (at_builtin; (refine wpList_append_src rfl _ _ _ rfl w.heap.size 5 i0 (.int .u8 0) 1 1 Tryz.underlying28 hi hz0 hz1 hz2 rfl (by decide)  (.slice a6 (D.length + VX.length) c6) (D.length + VX.length) (byteCells D ++ byteCells VX) rfl HO6.out (some ⟨w6.heap.size, 0, none⟩) 1 1 [.int .u8 m.count] rfl (src_blk (Blk.new w6 _ _) rfl) (by intro u hu; simp at hu; subst hu; rfl) (by simp only [maxLen]; omega) (by omega) (by simp; omega) ?_; intro v7 w7 hown7 hgrow7 hat7; obtain ⟨a7, c7, rfl⟩ := own_form hown7; have hb07 : Below w.heap.size w w7 := Below.grown (below_alloc hb06 _) hgrow7 (by simp; omega) (fun g e => (HO6.out.lt g e).1); have hz07 := hb07.size; have HO7 := hid hown7; clear hown7 hgrow7 hat7)))
        refine (HVY.out w7).mono ?_
        rintro r w8 ⟨v8, rfl, ho8, hb8⟩
        obtain ⟨a8, c8, rfl⟩ := own_form ho8
        have HSY := hid (src_bytes (own_bytes rfl ho8))
        have HO8 := hid (own_below HO7.out hb8)
        have hb08 := below_then hb8 hb07
        have hz08 := hb08.size
        clear ho8
        go_wp2_with (at_builtin; (refine wpList_append_src rfl _ _ _ rfl w.heap.size 5 i0 (.int .u8 0) 1 1 Tryz.underlying28 hi hz0 hz1 hz2 rfl (by decide)  (.slice a7 (D.length + VX.length + 1) c7) (D.length + VX.length + 1) (byteCells D ++ byteCells VX ++ [.int .u8 m.count]) rfl HO8.out a8 VY.length c8 (byteCells VY) rfl HSY.out HOQY.out (by simp only [maxLen]; omega) (by omega) hz08 ?_; intro v9 w9 hown9 hgrow9 hat9; obtain ⟨a9, c9, rfl⟩ := own_form hown9; have hb09 : Below w.heap.size w w9 := Below.grown hb08 hgrow9 hz08 (fun g e => (HO8.out.lt g e).1); have HO9 := hid hown9; clear hown9 hgrow9 hat9))
        have hlen9 : Hid (D.length + VX.length + 1 + VY.length = (D ++ VX ++ [cb] ++ VY).length) := hid (by simp; omega)
        have hOB : Hid (OwnB w9 w.heap.size (.slice a9 (D ++ VX ++ [cb] ++ VY).length c9) (D ++ VX ++ [cb] ++ VY)) := hid (by
          have h := HO9.out
          rw [hcv.out, hlen9.out] at h
          have h2 : byteCells D ++ byteCells VX ++ [Value.int .u8 (cb.toNat : Int)] ++ byteCells VY = byteCells (D ++ VX ++ [cb] ++ VY) := by simp [byteCells]
          rw [h2] at h
          exact h)
        go_wp2_with fail

        rw [hlen9.out]
        go_roundw
        case rel => exact ⟨(k + 1 + 1), _, _, _, by omega, by go_num, by omega, by omega, HQ.out, HRI2, hix2, ⟨a9, c9, rfl, hOB.out⟩, hb09⟩
        case measure => simp [intOf]; omega
    · obtain rfl : k = l.length := by omega
      have hff : Hid (indexB l = D) := hid (by rw [hix.out, List.drop_length]; simp [marksB])
      have HOK := hid hown
      clear hown h0
      go_wp2
      go_ret
      exact ⟨_, rfl, by rw [hff.out]; exact HOK.out, hb⟩
end Go.Proofs.YtkipiefcnjfdjaaGreat
namespace Go.Bs
open Go.RowKit
set_option linter.unusedVariables false
/-- As lastB, but of the edges that bind. -/
def lastB2 (md : Region.Mode) (l : List Oper) : Bool :=
  (match l.getLast? with | none => false | some o => o.dst.isNone && o.guard.isNone) && (Region.sinkB md l.toArray (l.length - 1) && Region.chainB md l.toArray (l.length - 1)) &&
    (List.range l.length).all fun i => match l[i]? with | none => true | some o => o.after.all fun e => !Region.binds md e || decide (e.on < i)
section
variable {P : Program} {md : Region.Mode}
theorem ready_some2 {ops : Array Oper} {listed : Array Bool} (hd : ∀ (i : Nat) (o : Oper), ops[i]? = some o → ∀ e ∈ o.after, Region.binds md e = true → e.on < i) (hs : listed.size = ops.size) : ∀ (n j : Nat), j < n → j < ops.size → listed.getD j true = false → Region.ready md ops listed ≠ []
  | 0, j, h, _, _ => by omega
  | n + 1, j, h, hj, hl => by
    intro h0
    have hr : j ∉ Region.ready md ops listed := by rw [h0]; simp
    apply hr
    rw [mem_ready]
    have ho : ops[j]? = some ops[j] := Array.getElem?_eq_getElem hj
    refine ⟨hl, ops[j], ho, fun e he hb => ?_⟩
    have hlt := hd j _ ho e he hb
    cases hg : listed.getD e.on false with
    | true => rfl
    | false => exact absurd h0 (ready_some2 hd hs n e.on (by omega) (by omega) (getD_in (by omega) hg))

theorem wpAny_last2 {l : List Oper} {o : Oper} {Q : Exit → Act → World → Prop} (hlast : l[l.length - 1]? = some o) (hpos : 0 < l.length) (hdst : o.dst = none) (hgd : o.guard = none)
    (hs1 : Region.sinkB md l.toArray (l.length - 1) = true) (hc1 : Region.chainB md l.toArray (l.length - 1) = true) (hd : ∀ (i : Nat) (o : Oper), l.toArray[i]? = some o → ∀ e ∈ o.after, Region.binds md e = true → e.on < i) :
    ∀ (fuel : Nat) (listed : Array Bool) (a : Act) (w : World), HeadInv md l.toArray (l.length - 1) listed →
      wpAny P md (noopLast l).toArray (lastQ P l o Q) fuel listed a w → wpAny P md l.toArray Q fuel listed a w
  | 0, listed, a, w, inv, h => by
    have hs : listed.size = l.length := by simpa using inv.size
    have hl := inv.tail (l.length - 1) (Nat.le_refl _) (by simp; omega)
    exact absurd (by rw [← ready_noop]; exact h.1) (ready_some2 (md := md) hd (by simpa using hs) _ _ (Nat.lt_succ_self _) (by simp; omega) hl)
  | fuel + 1, listed, a, w, inv, h => by
    have hs : listed.size = l.length := by simpa using inv.size
    have hl := inv.tail (l.length - 1) (Nat.le_refl _) (by simp; omega)
    have hne := ready_some2 (md := md) hd (by simpa using hs) _ _ (Nat.lt_succ_self _) (by simp; omega) hl
    refine ⟨fun h0 => absurd h0 hne, fun i hi => ?_⟩
    have h2 := h.2 i (by rw [ready_noop]; exact hi)
    by_cases hin : i + 1 = l.length
    · -- the last one: all others have come up
      obtain rfl : i = l.length - 1 := by omega
      have hr := mem_ready.1 hi
      have hall : ∀ j, j < l.length → (listed.setIfInBounds (l.length - 1) true).getD j true = true := by
        intro j hj
        by_cases hjl : j = l.length - 1
        · subst hjl; simp [hs]
        · rw [getD_set_ne true (by omega)]
          cases hg : listed.getD j true with
          | true => rfl
          | false => exact absurd hi (tail_waits hs1 hc1 (by simp; omega) inv _ j rfl (by omega) hg _ (Nat.le_refl _))
      have hrd : Region.ready md l.toArray (listed.setIfInBounds (l.length - 1) true) = [] := by
        rw [List.eq_nil_iff_forall_not_mem]
        intro j hj
        obtain ⟨h1, o', ho', _⟩ := mem_ready.1 hj
        have hjl : j < l.length := by
          have := (Array.getElem?_eq_some_iff.1 ho').1
          simpa using this
        rw [hall j hjl] at h1
        cases h1
      have hQ : wpList P l.toArray Q [o] a w := by
        unfold wpOp at h2
        simp only [List.getElem?_toArray, noopLast_get, if_pos (show l.length - 1 + 1 = l.length by omega), hlast, Option.map_some] at h2
        have hwant : Region.wanted (noopOf o) (yielded (noopLast l).toArray a.tmps) = true := rfl
        rw [if_pos hwant] at h2
        rcases h2 with h2 | ⟨h2, _⟩
        · have h3 : wpAny P md (noopLast l).toArray (lastQ P l o Q) fuel (listed.setIfInBounds (l.length - 1) true) (a.put (noopOf o).dst (.bool true)) w := h2
          have h4 : (noopOf o).dst = none := hdst
          rw [h4] at h3
          cases fuel with
          | zero => exact h3.2
          | succ f => exact h3.1 (by rw [ready_noop]; exact hrd)
        · exfalso
          simp only [Oper.asks, noopOf, execOp] at h2
          have h5 := h2.1
          have h6 : noRoomEvent ∈ (#[] : Array Event) := h5
          simp at h6
      unfold wpOp
      simp only [List.getElem?_toArray, hlast]
      have hwant : Region.wanted o (yielded l.toArray a.tmps) = true := by simp [Region.wanted, hgd]
      rw [if_pos hwant]
      unfold wpList at hQ
      rw [if_pos hwant] at hQ
      refine hQ.imp (fun h => Oper.wp_mono (fun a' w' h' => ?_) h) id
      cases fuel with
      | zero => exact ⟨hrd, h'⟩
      | succ f => exact ⟨fun _ => h', by rw [hrd]; simp⟩
    · refine wpOp_exits (fun e a w he h => lastQ_other he h) (wpOp_noop hin (wpOp_mono (fun a' w' h' => ?_) h2))
      exact wpAny_last2 hlast hpos hdst hgd hs1 hc1 hd fuel _ a' w' (inv.set hi (by
        have := (mem_ready.1 hi).2
        obtain ⟨o', ho', _⟩ := this
        have := (Array.getElem?_eq_some_iff.1 ho').1
        simp at this
        omega)) h'

theorem wp_region_last2 {id : Nat} {Q : Exit → Act → World → Prop} {a : Act} {w : World} {l : List Oper} (o : Oper) (hm : P.follows .mixedOrders = true) (ho : l[l.length - 1]? = some o) (hB : lastB2 .any l = true)
    (h : wpAny P .any (noopLast l).toArray (lastQ P l o Q) (noopLast l).toArray.size (Array.replicate (noopLast l).toArray.size false) a { w with drawn := w.drawn + 1 }) : (Code.region id l.toArray true).wp P Q a w := by
  have hpos : 0 < l.length := by
    rcases Nat.eq_zero_or_pos l.length with h | h
    · rw [List.eq_nil_of_length_eq_zero h] at ho; simp at ho
    · exact h
  simp only [lastB2, Bool.and_eq_true] at hB
  obtain ⟨⟨h1, h2, h2'⟩, h3⟩ := hB
  rw [List.getLast?_eq_getElem?, ho] at h1
  simp only [Bool.and_eq_true, Option.isNone_iff_eq_none] at h1
  have inv0 : HeadInv .any l.toArray (l.length - 1) (Array.replicate l.toArray.size false) :=
    ⟨by simp, fun j oj _ hl => (by rw [getD_replicate_false] at hl; cases hl), fun t _ ht => getD_in (by simpa using ht) (getD_replicate_false _ _)⟩
  refine wp_region_any hm (wpAny_last2 ho hpos h1.1 h1.2 h2 h2' ?_ _ _ a _ inv0 (by simpa [noopLast_length] using h))
  intro i o' ho' e he hb
  have hi : i < l.length := by
    have := (Array.getElem?_eq_some_iff.1 ho').1
    simpa using this
  have := List.all_eq_true.1 h3 i (List.mem_range.2 hi)
  simp only [List.getElem?_toArray] at ho'
  rw [ho'] at this
  have h4 := Array.all_eq_true'.1 this e he
  simpa [hb] using h4

/-- The others under a condition on the world, loads first (Derived/OrdersHeld.lean), then that one. -/
theorem wp_region_lastq_held {id : Nat} {Q : Exit → Act → World → Prop} {a : Act} {w : World} {l : List Oper} (S : World → Prop) (o : Oper) (hm : P.follows .mixedOrders = true) (ho : l[l.length - 1]? = some o) (hB : lastB2 .any l = true)
    (hS : S w.drew) (h : S w.drew → wpAnyH P .any (noopLast l).toArray (lastQ P l o Q) S l.length (Array.replicate l.length false) a w.drew) : (Code.region id l.toArray true).wp P Q a w :=
  wp_region_last2 o hm ho hB (wpAny_of_held _ _ _ _ (by simpa [noopLast_length] using h hS))
end
end Go.Bs
namespace Go.Proofs.YtkipiefcnjfdjaaGreat
open Go.RowKit Go.Bs Go.Maps
set_option linter.unusedVariables false
set_option linter.unusedSimpArgs false

def footZ : Array Value := #[.int .u64 0, .int .i64 0, .int .i64 0, .int .u64 0, .int .u64 0, .int .i64 0, .int .i64 0]
/-- The document's writer's memory. -/
structure WrI (w W : World) (ep : Int) (a : Option Addr) (n c : Nat) (J : List UInt8) (M : List MarkD) (aJ : Option Addr) (cJ : Nat) (aM : Option Addr) (cM : Nat) : Prop where
  below : Below w.heap.size w W
  bx : Blk W w.heap.size 62 #[.int .u64 ep, .slice a n c]
  br : Blk W (w.heap.size + 1) 96 footZ
  j : OwnB W (w.heap.size + 2) (.slice aJ J.length cJ) J
  m : MarksAt W (w.heap.size + 2) (.slice aM M.length cM) M
section
variable {w W : World} {ep : Int} {a : Option Addr} {n c : Nat} {J : List UInt8} {M : List MarkD} {aJ : Option Addr} {cJ : Nat} {aM : Option Addr} {cM : Nat}
theorem WrI.later (h : WrI w W ep a n c J M aJ cJ aM cM) {W' : World} (hb : Below W.heap.size W W') : WrI w W' ep a n c J M aJ cJ aM cM :=
  ⟨below_then hb h.below, h.bx.later hb, h.br.later hb, own_below h.j hb, h.m.below hb⟩
theorem WrI.ne (h : WrI w W ep a n c J M aJ cJ aM cM) : ∀ b, (Value.slice aJ J.length cJ).ownBlock = some b → (Value.slice aM M.length cM).ownBlock ≠ some b := own_ne h.j h.m.own (by decide)
theorem WrI.far {v : Value} {u : Nat} {xs : List Value} {e : TypeId} {sz : Nat} (h : W.ownsRow (w.heap.size + 2) e sz v u xs) {b : Nat} (hb : b < w.heap.size + 2) : v.ownBlock ≠ some b := fun e => by have := (own_lt h b e).1; omega
/-- The marks grow by one. -/
theorem WrI.mark (h : WrI w W ep a n c J M aJ cJ aM cM) {W2 : World} {m : MarkD} (hm : MarkN m) {aM' : Option Addr} {cM' : Nat}
    (hown : W2.ownsRow (w.heap.size + 2) 160 3 (.slice aM' (M.length + 1) cM') (M.length + 1) ((M.map markC).flatten ++ markC m)) (hg : W.grownBy W2 (Value.slice aM M.length cM).ownBlock) :
    WrI w W2 ep a n c J (M ++ [m]) aJ cJ aM' cM' := by
  have hz := h.below.size
  refine ⟨h.below.grown hg hz (fun g e => by have := (own_lt h.m.own g e).1; omega), h.bx.grown hg (fun e => WrI.far h.m.own (by omega) e.symm), h.br.grown hg (fun e => WrI.far h.m.own (by omega) e.symm),
    own_stays h.j fun b hv hl => hg.block b hl (fun e => h.ne b hv e.symm), ⟨?_, fun x hx => ?_⟩⟩
  · rw [List.length_append, List.map_append, List.flatten_append]
    simpa using hown
  · rcases List.mem_append.1 hx with hx | hx
    · exact h.m.nat x hx
    · rw [List.mem_singleton.1 hx]; exact hm
/-- The bytes grow. -/
theorem WrI.more (h : WrI w W ep a n c J M aJ cJ aM cM) {W2 : World} {D : List UInt8} {aJ' : Option Addr} {cJ' : Nat}
    (hown : W2.ownsRow (w.heap.size + 2) 5 1 (.slice aJ' (J.length + D.length) cJ') (J.length + D.length) (byteCells J ++ byteCells D)) (hg : W.grownBy W2 (Value.slice aJ J.length cJ).ownBlock) :
    WrI w W2 ep a n c (J ++ D) M aJ' cJ' aM cM := by
  have hz := h.below.size
  refine ⟨h.below.grown hg hz (fun g e => by have := (own_lt h.j g e).1; omega), h.bx.grown hg (fun e => WrI.far h.j (by omega) e.symm), h.br.grown hg (fun e => WrI.far h.j (by omega) e.symm), ?_,
    ⟨own_stays h.m.own fun b hv hl => hg.block b hl (fun e => h.ne b e.symm hv), h.m.nat⟩⟩
  unfold OwnB
  rw [List.length_append, ← byteCells_app]
  exact hown
theorem WrI.more2 (h : WrI w W ep a n c J M aJ cJ aM cM) {W2 : World} {D X : List UInt8} {aJ' : Option Addr} {cJ' : Nat} (hX : J ++ D = X)
    (hown : W2.ownsRow (w.heap.size + 2) 5 1 (.slice aJ' X.length cJ') X.length (byteCells J ++ byteCells D)) (hg : W.grownBy W2 (Value.slice aJ J.length cJ).ownBlock) :
    WrI w W2 ep a n c X M aJ' cJ' aM cM := by
  subst hX
  rw [List.length_append] at hown
  exact h.more hown hg
end

set_option maxRecDepth 100000 in
set_option maxHeartbeats 6400000 in
theorem ref34_write (ep : Int) (l : List Batch) (a : Option Addr) (n c : Nat) (w : World) (hl : rBatches.r (· < w.heap.size) w [.slice a n c] l) (hR : segR ⟨ep, l⟩ = true) (hbn : ∀ b ∈ l, batchN b) (htm : ∀ b ∈ l, TameE b.entries) :
    Calls Tryz.prog 61 #[.agg #[.int .u64 ep, .slice a n c]] w fun r w' => ∃ v u, r = .returned (.tuple #[v, u, .agg (segF ep l).val]) ∧ rBytes.r (fun q => w.heap.size ≤ q ∧ q < w'.heap.size) w' [v] (segB ep l) ∧ rMarks.r (fun q => w.heap.size ≤ q ∧ q < w'.heap.size) w' [u] (segW ep l).2 ∧ Below w.heap.size w w' := by
  obtain ⟨rfl, hm, _, _⟩ := sl_len hl
  obtain ⟨i0, hi, hz0, hz1, hz2⟩ := info_parts info8
  obtain ⟨j0, hj, hy0, hy1, hy2⟩ := info_parts infoMark
  have hl16 : l.length ≤ 16 := (segR_facts hR).2.1
  have HBR := hid (segR_facts hR).2.2
  have HBN := hid hbn
  have HTM := hid htm
  have HL := hid hl
  have HRR := hid hR
  have he : epR ep = true := by simp only [segR, Bool.and_eq_true] at hR; exact hR.1
  have he' := he
  simp only [epR, decide_eq_true_eq] at he'
  have hte : (ep.toNat : Int) = ep := by omega
  have HH := hid (fun W : World => (by
    have := ref31_bytes ep.toNat (by omega) W
    rw [hte] at this
    exact this : Calls Tryz.prog 115 #[.agg #[.int .i64 3, .int .u64 ep, .int .u64 0]] W fun r w' => ∃ x, r = .returned x ∧ OwnB w' W.heap.size x (headHB 3 ep.toNat 0) ∧ Below W.heap.size W w'))
  have hhl := headHB_len (v := 3) (ep := ep.toNat) (bs := 0) (by omega) (by omega)
  have HW0 : Hid (segW ep l = segGo (headHB 3 ep.toNat 0) [] l) := hid rfl
  generalize headHB 3 ep.toNat 0 = H at *
  clear hR hbn htm hl he hte
  go_enter Tryz.func61, Tryz.ntmps61
  go_wp2_with fail
  refine (HH.out _).mono ?_
  rintro r w1 ⟨v1, rfl, ho1, hb1⟩
  obtain ⟨a1, c1, rfl⟩ := ho1.form
  have hSI : WrI w w1 ep a l.length c H [] a1 c1 none 0 :=
    ⟨below_then hb1 (by (repeat (first | exact Below.refl _ _ | assumption | (refine below_alloc ?_ _) | (refine Below.setCell ?_ (by first | omega | (simp; done) | (simp; omega)) _) | (refine Below.drew ?_) | (refine below_drewN ?_ _) | (refine below_then (by assumption) ?_)))), ((Blk.new w _ _).alloc _).later hb1, (Blk.new1 w _ _ _).later hb1, ho1.low (by simp), MarksAt.nil⟩
  have HSI := hid hSI
  clear ho1 hb1 hSI
  go_wp2_with fail
  refine wp_world (fun W => WrI w W ep a l.length c H [] a1 c1 none 0) HSI.out ?_
  intro W hSI
  have HSI := hid hSI
  clear hSI
  go_loopw [5, 6, 7] (fun vj vm i wr => ∃ (k : Nat) (J : List UInt8) (M : List MarkD) (aJ : Option Addr) (cJ : Nat) (aM : Option Addr) (cM : Nat), k ≤ l.length ∧ i = .int .i64 k ∧ vj = .slice aJ J.length cJ ∧ vm = .slice aM M.length cM ∧ WrI w wr ep a l.length c J M aJ cJ aM cM ∧ Hid (segW ep l = segGo J M (l.drop k)) ∧ M.length ≤ k ∧ J.length ≤ 27 + 1200000 * k) (fun _ _ i _ => l.length - (intOf i).toNat)
  case atStart => exact ⟨0, H, [], a1, c1, none, 0, Nat.zero_le _, rfl, rfl, rfl, HSI.out, hid HW0.out, Nat.le_refl _, by omega⟩
  case round =>
    obtain ⟨k, J, M, aJ, cJ, aM, cM, hk, rfl, rfl, rfl, hsi, hgo, hMk, hJk⟩ := hrel
    have HSI := hid hsi
    have hzr : w.heap.size + 1 < wr.heap.size := hsi.br.lt
    have g1 : wr.cell? ⟨w.heap.size, 1, none⟩ = some (.slice a l.length c) := hsi.bx.cell 1
    by_cases hlt : k < l.length
    · obtain ⟨b, o, hA, hbb, a1, c1, X0, X1, X2, n0, n1, hd⟩ := batch_at HL.out hlt
      subst hA
      have x0 := (hsi.below.cell (p := ⟨b, o + k * 3, none⟩) hbb).trans X0
      have x1 := (hsi.below.cell (p := ⟨b, o + k * 3 + 1, none⟩) hbb).trans X1
      have x2 := (hsi.below.cell (p := ⟨b, o + k * 3 + 2, none⟩) hbb).trans X2
      clear X0 X1 X2
      have hmem := List.getElem_mem hlt
      have hbr := HBR.out _ hmem
      have hbn := HBN.out _ hmem
      have htm := HTM.out _ hmem
      have hst := hid (segGo_step J M l k hlt)
      obtain ⟨_, _, e1, e2, e3, _⟩ := batchR_facts hbr
      have hble := batchB_le hbr
      have HRD := hid hd
      generalize l[k] = z at *
      have HBB := hid (fun (W : World) (hW : Below w.heap.size w W) => ref25_bytes W z a1 _ c1 hbn (lift HRD.out hW) hbr htm)
      have HRC1 := hid (fun (W : World) (a : Option Addr) (n c : Nat) h => ref34_record 1 (by decide) (batchB z) a n c W h (by omega))
      have hrl := recB_len 1 (batchB z)
      have hMN : MarkN ⟨z.base, z.entries.length, J.length⟩ := ⟨n1, by dsimp only; omega, by dsimp only; omega⟩
      have HON := hid (byteCells_one (recB 1 (batchB z)))
      have i1 : (k : Int) < (l.length : Int) := by omega
      generalize hre : recB (UInt8.ofNat 1) (batchB z) = RB at *
      have HRE := hid hre
      generalize batchB z = BZ at *
      have HMN := hid hMN
      have HML : Hid (∀ q, (Value.slice aM M.length cM).ownBlock = some q → w.heap.size + 2 ≤ q ∧ q < wr.heap.size) := hid fun q e => own_lt HSI.out.m.own q e
      clear hd hmem hbr hbn htm hsi hre hMN
      go_wp2_with (at_builtin; (have hb12 : Below wr.heap.size wr ((wr.alloc (.cells #[.int .u64 z.epoch, .int .u64 z.base, .slice a1 z.entries.length c1] 25)).alloc (.cells #[.int .u64 z.base, .int .i64 z.entries.length, .int .i64 J.length] 160)) := below_alloc (below_alloc (Below.refl _ _) _) _; have hbx := (Blk.new wr 25 #[.int .u64 z.epoch, .int .u64 z.base, .slice a1 z.entries.length c1]).alloc (.cells #[.int .u64 z.base, .int .i64 z.entries.length, .int .i64 J.length] 160); have HSI2 := hid (HSI.out.later hb12); refine wpList_append_src rfl _ _ _ rfl (w.heap.size + 2) 160 j0 (.agg #[.int .u64 0, .int .i64 0, .int .i64 0]) 3 24 Tryz.underlying87 hj hy0 hy1 hy2 rfl (by decide) (.slice aM M.length cM) M.length _ rfl HSI2.out.m.own (some ⟨wr.heap.size + 1, 0, none⟩) 1 1 [.int .u64 z.base, .int .i64 z.entries.length, .int .i64 J.length] rfl (src_blk (Blk.new1 wr _ _ _) rfl) (by intro u hu; simp at hu; rcases hu with rfl | rfl | rfl <;> rfl) (by simp only [maxLen]; omega) (by omega) (by have := HSI2.out.br.lt; omega) ?_; intro v2 w2 hown2 hgrow2 hat2; obtain ⟨a2, c2, rfl⟩ := own_form hown2; have HSI3 := hid (HSI2.out.mark HMN.out hown2 hgrow2); have hbx2 := hbx.grown hgrow2 (fun e => by have := (HML.out _ e.symm).2; omega); have q0 : w2.cell? ⟨wr.heap.size, 0, none⟩ = some (.int .u64 z.epoch) := hbx2.cell 0; have q1 : w2.cell? ⟨wr.heap.size, 1, none⟩ = some (.int .u64 z.base) := hbx2.cell 1; have q2 : w2.cell? ⟨wr.heap.size, 2, none⟩ = some (.slice a1 z.entries.length c1) := hbx2.cell 2; clear hown2 hgrow2 hat2 hbx hbx2 hb12))
      refine (HBB.out _ HSI3.out.below).mono ?_
      rintro r w3 ⟨v3, rfl, ho3, hb3⟩
      obtain ⟨a6, c6, rfl⟩ := ho3.form
      have HSI4 := hid (HSI3.out.later hb3)
      have HR3 := hid (rBytes.mono (S' := (· < w3.heap.size)) ho3.read fun q hq => hq.2)
      clear ho3 hb3 q0 q1 q2 x0 x1 x2 g1
      go_wp2_with fail
      refine (HRC1.out w3 a6 _ c6 HR3.out).mono ?_
      rintro r w4 ⟨v4, rfl, ho4, hb4⟩
      have ho4' : OwnB w4 w3.heap.size v4 RB := ho4
      obtain ⟨a7, c7, rfl⟩ := ho4'.form
      have HSI5 := hid (HSI4.out.later hb4)
      have HS7 := hid (src_bytes (own_bytes rfl ho4'))
      clear ho4 ho4' hb4
      go_wp2_with (at_builtin; (refine wpList_append_src rfl _ _ _ rfl (w.heap.size + 2) 5 i0 (.int .u8 0) 1 1 Tryz.underlying28 hi hz0 hz1 hz2 rfl (by decide) (.slice aJ J.length cJ) J.length (byteCells J) rfl HSI5.out.j a7 RB.length c7 (byteCells RB) rfl HS7.out HON.out (by simp only [maxLen]; omega) (by omega) (by have := HSI5.out.br.lt; omega) ?_; intro v8 w8 hown8 hgrow8 hat8; obtain ⟨a8, c8, rfl⟩ := own_form hown8; have HSI6 := hid (HSI5.out.more hown8 hgrow8); clear hown8 hgrow8 hat8))
      go_roundw
      case rel => exact ⟨k + 1, J ++ RB, M ++ [⟨z.base, z.entries.length, J.length⟩], a8, c8, a2, c2, by omega, by go_num, by rw [List.length_append], by rw [List.length_append]; rfl, HSI6.out, hid (hgo.out.trans hst.out), by rw [List.length_append]; simp; omega, by rw [List.length_append]; omega⟩
      case measure => simp [intOf]; omega
    · obtain rfl : k = l.length := by omega
      have hJM : segW ep l = (J, M) := by have := hgo.out; rw [List.drop_length] at this; exact this
      obtain ⟨hMR, hJ5, hJ20, hMN⟩ := segW_right HRR.out HBN.out
      have hFR := segF_right HRR.out HBN.out
      have hX : segX ep l = recB 2 (indexB M) := by unfold segX; rw [hJM]
      have hF : segF ep l = footM ep M J.length (recB 2 (indexB M)).length := by unfold segF; rw [hJM, hX]
      have hB : segB ep l = J ++ recB 2 (indexB M) ++ footB (segF ep l) := by unfold segB; rw [hJM, hX]
      rw [hJM] at hMR hJ20 ⊢
      dsimp only at hMR hJ20 ⊢
      have HFB := hid (fun W : World => ref33_bytes (segF ep l) hFR W)
      have HI := hid (fun (W : World) h => ref32_bytes M aM M.length cM W h hMR)
      have hil := indexB_len hMR
      have HRC := hid (fun (W : World) (a : Option Addr) (n c : Nat) h => ref34_record 2 (by decide) (indexB M) a n c W h (by omega))
      have hxl := recB_len 2 (indexB M)
      have HFO := hid (fun (W : World) h => ref34_foot ep M J.length (recB 2 (indexB M)).length aM M.length cM W h hMR)
      rw [← hF] at HFO
      have hse := hid hB
      have hfl : (footB (segF ep l)).length ≤ 200 := by
        simp only [footB, List.length_append, trailB_len, frameB_len, blobB_len]
        have h1 := footP_len (segF ep l)
        have h2 := (varB_len (footP (segF ep l)).length).1
        omega
      have HON1 := hid (byteCells_one (recB 2 (indexB M)))
      have HON2 := hid (byteCells_one (footB (segF ep l)))
      generalize hKE : segB ep l = K at *
      have HKE := hid hKE
      generalize footB (segF ep l) = FB at *
      generalize hFE : (segF ep l) = F at *
      obtain ⟨f0, f1, f2, f3, f4, f5, f6⟩ := F
      have HFE := hid hFE
      clear hKE hFE
      simp only [FootD.val] at HFB HFO ⊢
      generalize indexB M = IB at *
      generalize hrx : recB 2 IB = RX at *
      have HRX := hid hrx
      obtain ⟨JX, hjx⟩ : ∃ JX, J ++ RX = JX := ⟨_, rfl⟩
      rw [hjx] at hse
      have HX1 := hid hjx
      have HL1 : Hid (J.length + RX.length = JX.length) := hid (by rw [← hjx, List.length_append])
      have HX2 : Hid (JX ++ FB = K) := hid hse.out.symm
      have HL2 : Hid (JX.length + FB.length = K.length) := hid (by rw [hse.out, List.length_append])
      have hJXl : JX.length = J.length + RX.length := HL1.out.symm
      have hJXm : JX.length ≤ 30000000 := by omega
      clear hjx hJXl
      have HJM := hid hJM
      clear hFR hX hF hB hrx hJM hMN hgo hMk hsi
      go_wp2_with fail
      refine (HI.out _ (rMarks.mono HSI.out.m.read fun q hq => hq.2)).mono ?_
      rintro r w2 ⟨v2, rfl, ho2, hb2⟩
      obtain ⟨a2, c2, rfl⟩ := ho2.form
      have HSI2 := hid (HSI.out.later hb2)
      have HR2 := hid (rBytes.mono (S' := (· < w2.heap.size)) ho2.read fun q hq => hq.2)
      clear ho2 hb2 g1
      go_wp2_with fail
      refine (HRC.out w2 a2 _ c2 HR2.out).mono ?_
      rintro r w3 ⟨v3, rfl, ho3, hb3⟩
      have ho3' : OwnB w3 w2.heap.size v3 RX := ho3
      obtain ⟨a3, c3, rfl⟩ := ho3'.form
      have HSI3 := hid (HSI2.out.later hb3)
      have HO3 := hid ho3'
      have x3 : w3.cell? ⟨w.heap.size, 0, none⟩ = some (.int .u64 ep) := HSI3.out.bx.cell 0
      clear ho3 ho3' hb3
      go_wp2_with fail
      refine (HFO.out w3 (rMarks.mono HSI3.out.m.read fun q hq => hq.2)).mono ?_
      rintro r w4 ⟨rfl, hb4⟩
      have HSI4 := hid (HSI3.out.later hb4)
      have HO4 := hid (own_below HO3.out hb4)
      clear x3 hb4
      go_wp2_with (at_builtin; (have hb45 : Below w4.heap.size w4 (w4.alloc (.cells #[.int .u64 f0, .int .i64 f1, .int .i64 f2, .int .u64 f3, .int .u64 f4, .int .i64 f5, .int .i64 f6] 96)) := below_alloc (Below.refl _ _) _; have hfx := Blk.new w4 96 #[.int .u64 f0, .int .i64 f1, .int .i64 f2, .int .u64 f3, .int .u64 f4, .int .i64 f5, .int .i64 f6]; have HSI5 := hid (HSI4.out.later hb45); have HS5 := hid (src_bytes (own_bytes rfl (own_below HO4.out hb45))); refine wpList_append_src rfl _ _ _ rfl (w.heap.size + 2) 5 i0 (.int .u8 0) 1 1 Tryz.underlying28 hi hz0 hz1 hz2 rfl (by decide) (.slice aJ J.length cJ) J.length (byteCells J) rfl HSI5.out.j a3 RX.length c3 (byteCells RX) rfl HS5.out HON1.out (by simp only [maxLen]; omega) (by omega) (by have := HSI5.out.br.lt; omega) ?_; intro v6 w6 hown6 hgrow6 hat6; rw [HL1.out] at hown6; obtain ⟨a6, c6, rfl⟩ := own_form hown6; have HSI6 := hid (HSI5.out.more2 HX1.out hown6 hgrow6); have HF6 := hid (hfx.grown hgrow6 (fun e => by have := (own_lt HSI4.out.j _ e.symm).2; omega)); have HN6 : Hid ((Value.slice a6 JX.length c6).ownBlock ≠ some w4.heap.size) := hid (fun e => by rcases hat6 with h | h; (have := (own_lt HSI4.out.j _ (h.symm.trans e)).2; omega); (have := Option.some.inj (e.symm.trans h); simp at this)); clear hown6 hgrow6 hat6 hfx hb45))
      have hz46 : w4.heap.size < w6.heap.size := HF6.out.lt
      have HSI7 := HSI6
      obtain ⟨t0, t1, t2, t3, t4, t5, t6, _⟩ := foot_blk HF6.out
      refine wp_region_lastq_held (fun w' => w'.cell? ⟨w4.heap.size, 0, none⟩ = some (.int .u64 f0) ∧ w'.cell? ⟨w4.heap.size, 1, none⟩ = some (.int .i64 f1) ∧ w'.cell? ⟨w4.heap.size, 2, none⟩ = some (.int .i64 f2) ∧ w'.cell? ⟨w4.heap.size, 3, none⟩ = some (.int .u64 f3) ∧ w'.cell? ⟨w4.heap.size, 4, none⟩ = some (.int .u64 f4) ∧ w'.cell? ⟨w4.heap.size, 5, none⟩ = some (.int .i64 f5) ∧ w'.cell? ⟨w4.heap.size, 6, none⟩ = some (.int .i64 f6)) _ (by kernel_rfl) rfl (by kernel_rfl) ⟨t0, t1, t2, t3, t4, t5, t6⟩ (fun hHeld => ?_)
      simp only [noopLast, noopOf]
      refine wpAnyH_take (i := 0) (oi := _) (v := ?_) rfl (by decide +kernel) (by decide +kernel) (by decide +kernel) (fun _ _ _ h => h) (Or.inl ⟨by rfl, ?_⟩) (by assumption) ?_
      rotate_left
      · (intro w hSw; (try dsimp only at hSw); go_simp <;> with_reducible rfl)
      (try simp only [Act.put, List.setIfInBounds_toArray, List.set_cons_zero, List.set_cons_succ])
      refine wpAnyH_take (i := 1) (oi := _) (v := ?_) rfl (by decide +kernel) (by decide +kernel) (by decide +kernel) (fun _ _ _ h => h) (Or.inl ⟨by rfl, ?_⟩) (by assumption) ?_
      rotate_left
      · (intro w hSw; (try dsimp only at hSw); go_simp <;> with_reducible rfl)
      (try simp only [Act.put, List.setIfInBounds_toArray, List.set_cons_zero, List.set_cons_succ])
      refine wpAnyH_take (i := 4) (oi := _) (v := ?_) rfl (by decide +kernel) (by decide +kernel) (by decide +kernel) (fun _ _ _ h => h) (Or.inl ⟨by rfl, ?_⟩) (by assumption) ?_
      rotate_left
      · (intro w hSw; (try dsimp only at hSw); go_simp <;> with_reducible rfl)
      (try simp only [Act.put, List.setIfInBounds_toArray, List.set_cons_zero, List.set_cons_succ])
      refine wpAnyH_take (i := 5) (oi := _) (v := ?_) rfl (by decide +kernel) (by decide +kernel) (by decide +kernel) (fun _ _ _ h => h) (Or.inl ⟨by rfl, ?_⟩) (by assumption) ?_
      rotate_left
      · (intro w hSw; (try dsimp only at hSw); go_simp <;> with_reducible rfl)
      (try simp only [Act.put, List.setIfInBounds_toArray, List.set_cons_zero, List.set_cons_succ])
      clear t0 t1 t2 t3 t4 t5 t6
      refine wpAnyH_ready (rs := [2]) (by decide +kernel) (by simp) ?_
      refine AllReadyH.cons (o := _) rfl (fun K hK => ?_) AllReadyH.nil
      (go_simp; go_at_call 119; refine (HFB.out w6.drew).mono ?_; rintro e1 w7 ⟨v7, rfl, ho7, hb7⟩; obtain ⟨a7, c7, rfl⟩ := ho7.form; have hb67 : Below w6.heap.size w6 w7 := below_then hb7 (Below.refl _ _).drew; have HSI8 := hid (HSI7.out.later hb67); have HF7 := hid (HF6.out.later hb67); have HS8 := hid (src_bytes (own_bytes rfl ho7)); obtain ⟨t0, t1, t2, t3, t4, t5, t6, _⟩ := foot_blk HF7.out; clear ho7 hb7 hb67; (try dsimp only))
      refine hK.out _ _ ?_ (fun hHeld => ?_)
      · ((try dsimp only); refine ⟨?_, ?_, ?_, ?_, ?_, ?_, ?_⟩ <;> (first | assumption | (go_keep; done)))
      clear hK K
      (try simp only [Act.put, List.setIfInBounds_toArray, List.set_cons_zero, List.set_cons_succ])
      clear t0 t1 t2 t3 t4 t5 t6
      refine wpAnyH_ready (rs := [3]) (by decide +kernel) (by simp) ?_
      refine AllReadyH.cons (o := _) rfl (fun K hK => ?_) AllReadyH.nil
      (refine step_append_src (by rfl) _ _ _ (by rfl) (w.heap.size + 2) 5 i0 (.int .u8 0) 1 1 Tryz.underlying28 hi hz0 hz1 hz2 rfl (by decide) (.slice a6 JX.length c6) JX.length (byteCells JX) (by rfl) HSI8.out.j a7 FB.length c7 (byteCells FB) (by rfl) HS8.out HON2.out (by simp only [maxLen]; omega) (by omega) (by have := HSI8.out.br.lt; omega) ?_; intro a9 c9 w9 hown9 hgrow9 hat9; rw [HL2.out] at hown9; have HSI9 := hid (HSI8.out.more2 HX2.out hown9 hgrow9); have HF9 := hid (HF7.out.grown hgrow9 (fun e => HN6.out e.symm)); obtain ⟨t0, t1, t2, t3, t4, t5, t6, _⟩ := foot_blk HF9.out; clear hown9 hgrow9 hat9)
      refine hK.out _ _ ?_ (fun hHeld => ?_)
      · ((try dsimp only); refine ⟨?_, ?_, ?_, ?_, ?_, ?_, ?_⟩ <;> (first | assumption | (go_keep; done)))
      clear hK K
      (try simp only [Act.put, List.setIfInBounds_toArray, List.set_cons_zero, List.set_cons_succ])
      refine wpAnyH_take (i := 6) (oi := _) (v := ?_) rfl (by decide +kernel) (by decide +kernel) (by decide +kernel) (fun _ _ _ h => h) (Or.inl ⟨by rfl, ?_⟩) (by assumption) ?_
      rotate_left
      · (intro w hSw; (try dsimp only at hSw); go_simp <;> with_reducible rfl)
      (try simp only [Act.put, List.setIfInBounds_toArray, List.set_cons_zero, List.set_cons_succ])
      refine wpAnyH_take (i := 7) (oi := _) (v := ?_) rfl (by decide +kernel) (by decide +kernel) (by decide +kernel) (fun _ _ _ h => h) (Or.inl ⟨by rfl, ?_⟩) (by assumption) ?_
      rotate_left
      · (intro w hSw; (try dsimp only at hSw); go_simp <;> with_reducible rfl)
      (try simp only [Act.put, List.setIfInBounds_toArray, List.set_cons_zero, List.set_cons_succ])
      refine wpAnyH_take (i := 8) (oi := _) (v := ?_) rfl (by decide +kernel) (by decide +kernel) (by decide +kernel) (fun _ _ _ h => h) (Or.inl ⟨by rfl, ?_⟩) (by assumption) ?_
      rotate_left
      · (intro w hSw; (try dsimp only at hSw); go_simp <;> with_reducible rfl)
      (try simp only [Act.put, List.setIfInBounds_toArray, List.set_cons_zero, List.set_cons_succ])
      refine wpAnyH_done (by kernel_rfl) ?_ _
      show wpList _ _ _ _ _ _
      obtain ⟨z0, z1, z2, z3, z4, z5, z6, y0, y1, y2, y3, y4, y5, y6⟩ := foot_blk HSI9.out.br
      go_wp2_with fail
      have ZB := ((((((HSI9.out.br.set 0 (.int .u64 f0)).set 1 (.int .i64 f1)).set 2 (.int .i64 f2)).set 3 (.int .u64 f3)).set 4 (.int .u64 f4)).set 5 (.int .i64 f5)).set 6 (.int .i64 f6)
      simp only [footZ, List.setIfInBounds_toArray, List.set_cons_zero, List.set_cons_succ] at ZB
      obtain ⟨p0, p1, p2, p3, p4, p5, p6, _⟩ := foot_blk ZB
      refine bodyPost_ret (v := .tuple #[.slice a9 (JX.length + FB.length) c9, .slice aM M.length cM, .agg #[.int .u64 f0, .int .i64 f1, .int .i64 f2, .int .u64 f3, .int .u64 f4, .int .i64 f5, .int .i64 f6]]) (by simp [results, Tryz.results61, go_sem, p0, p1, p2, p3, p4, p5, p6]) rfl ?_
      have hz9 := HSI9.out.br.lt
      refine ⟨_, _, by rw [HFE.out]; rfl, ?_, ?_, by have := HSI9.out.below; (repeat (first | with_reducible exact Below.refl _ _ | with_reducible assumption | (with_reducible refine below_alloc ?_ _) | (with_reducible refine Below.setCell ?_ (by first | omega | (simp; done) | (simp; omega)) _) | (with_reducible refine Below.drew ?_) | (with_reducible refine below_drewN ?_ _) | (refine below_then (by with_reducible assumption) ?_)))⟩
      · rw [HL2.out, HKE.out]
        refine rBytes.mono (rBytes.keep HSI9.out.j.read fun q hq => ?_) fun q hq => ⟨by have := hq.1; omega, by have := hq.2; simpa using this⟩
        have hq1 := hq.1
        repeat rw [Below.heap_setCell _ _ _ _ (by dsimp only; omega)]
      · rw [HJM.out]
        refine rMarks.mono (rMarks.keep HSI9.out.m.read fun q hq => ?_) fun q hq => ⟨by have := hq.1; omega, by have := hq.2; simpa using this⟩
        have hq1 := hq.1
        repeat rw [Below.heap_setCell _ _ _ _ (by dsimp only; omega)]
end Go.Proofs.YtkipiefcnjfdjaaGreat
namespace Go.Proofs.YtkipiefcnjfdjaaGreat
open Go.RowKit Go.Bs Go.Maps
set_option linter.unusedVariables false
set_option linter.unusedSimpArgs false

structure LawW (w W : World) (ep : Int) (a : Option Addr) (n c : Nat) (eo : Int) (ao : Option Addr) (no co : Nat) : Prop where
  below : Below w.heap.size w W
  g : Blk W w.heap.size 62 #[.int .u64 ep, .slice a n c]
  o : Blk W (w.heap.size + 1) 62 #[.int .u64 eo, .slice ao no co]
theorem LawW.later {w W W' : World} {ep : Int} {a : Option Addr} {n c : Nat} {eo : Int} {ao : Option Addr} {no co : Nat} (h : LawW w W ep a n c eo ao no co) (hb : Below W.heap.size W W') : LawW w W' ep a n c eo ao no co :=
  ⟨below_then hb h.below, h.g.later hb, h.o.later hb⟩
theorem tame_seg {l : List Batch} (h : ∀ b ∈ l, b.entries.length ≤ 30 ∧ total b.entries ≤ 300 ∧ ∀ x ∈ b.entries, x.data.length ≤ 500 ∧ x.links.length ≤ 50 ∧ ∀ y ∈ x.links, y.backs.length ≤ 50) : ∀ b ∈ l, TameE b.entries := fun b hb => by
  obtain ⟨h1, h2, h3⟩ := h b hb
  exact ⟨by omega, by omega, fun e he x hx => by have := (h3 e he).2.2 x hx; omega⟩
theorem batchN_seg {S : Nat → Prop} {w : World} {a : Option Addr} {n c : Nat} {l : List Batch} (h : rBatches.r S w [.slice a n c] l) : ∀ b ∈ l, batchN b := by
  intro b hb
  obtain ⟨i, hi, rfl⟩ := List.getElem_of_mem hb
  obtain ⟨g, o, _, _, a1, c1, _, _, _, n0, n1, hd⟩ := batch_at h hi
  refine ⟨n0, n1, fun e he => ?_⟩
  obtain ⟨k, hk, rfl⟩ := List.getElem_of_mem he
  obtain ⟨_, _, _, _, a2, c2, a3, c3, _, _, hl, _⟩ := entry_at hd hk
  exact links_bounds hl
theorem foot_val {R : Bool} {f : FootD} : ∃ F : FootD, (if R = true then f.val else #[.int .u64 0, .int .i64 0, .int .i64 0, .int .u64 0, .int .u64 0, .int .i64 0, .int .i64 0]) = F.val ∧ (R = true → F = f) ∧ (R = false → F = ⟨0, 0, 0, 0, 0, 0, 0⟩) := by
  cases R
  · exact ⟨⟨0, 0, 0, 0, 0, 0, 0⟩, rfl, fun h => (by cases h), fun _ => rfl⟩
  · exact ⟨f, rfl, fun _ => rfl, fun h => (by cases h)⟩

set_option maxRecDepth 100000 in
set_option maxHeartbeats 12800000 in
theorem segmentWrites_c (ep eo : Int) (l lo : List Batch) (a ao : Option Addr) (n c no co : Nat) (w : World) (h0 : 0 ≤ ep ∧ ep ≤ 18446744073709551615) (hl : rBatches.r (· < w.heap.size) w [.slice a n c] l) (hlo : rBatches.r (· < w.heap.size) w [.slice ao no co] lo) :
    Calls Tryz.prog 11 #[.agg #[.int .u64 ep, .slice a n c], .agg #[.int .u64 eo, .slice ao no co]] w fun r w' => r = .returned (.bool true) ∧ Below w.heap.size w w' := by
  obtain ⟨rfl, hm, _, _⟩ := sl_len hl
  obtain ⟨rfl, hmo, _, _⟩ := sl_len hlo
  have HLG := hid (fun (W : World) (hW : Below w.heap.size w W) => law34_long ep l a _ c W (lift hl hW))
  have HLO := hid (fun (W : World) (hW : Below w.heap.size w W) => law34_long eo lo ao _ co W (lift hlo hW))
  have HL := hid hl
  have HO := hid hlo
  have HI0 : Hid (LawW w ((w.alloc (.cells #[.int .u64 ep, .slice a l.length c] 62)).alloc (.cells #[.int .u64 eo, .slice ao lo.length co] 62)) ep a l.length c eo ao lo.length co) := hid
    ⟨below_alloc (below_alloc (Below.refl _ _) _) _, (Blk.new w _ _).alloc _, Blk.new1 w _ _ _⟩
  have HBN := hid (batchN_seg hl)
  clear hl hlo
  cases hl1 : long34 l
  · rw [hl1] at HLG
    cases hl2 : long34 lo
    · rw [hl2] at HLO
      obtain ⟨hL20, hLs⟩ := long34_no hl1
      have hfair : ∀ x ∈ l, Fair x.entries := fun x hx => (tame_fair (hLs x hx)).1
      have hmild : ∀ x ∈ l, MildB x := fun x hx => (tame_fair (hLs x hx)).2
      have htame := tame_seg hLs
      have HBY := hid (fun (W : World) (hW : Below w.heap.size w W) => segment_bytes ep l a _ c W h0 (lift HL.out hW) HBN.out htame)
      have HMK := hid (fun (W : World) (hW : Below w.heap.size w W) => segment_marks ep l a _ c W h0 (lift HL.out hW) HBN.out htame)
      have HFT := hid (fun (W : World) (hW : Below w.heap.size w W) => segment_footer ep l a _ c W h0 (lift HL.out hW) HBN.out htame)
      have HRT := hid (fun (W : World) (hW : Below w.heap.size w W) => segment_right ep l a _ c W h0 (lift HL.out hW) hfair)
      have HRR := hid (fun (W : World) (hW : Below w.heap.size w W) => ref34_right ep l a _ c W h0 (lift HL.out hW) hfair)
      have HSM := hid (fun (W : World) (hW : Below w.heap.size w W) => segment_same ep eo l lo a ao _ c _ co W (lift HL.out hW) (lift HO.out hW))
      have HSR := hid (fun (W : World) (hW : Below w.heap.size w W) => ref34_same ep eo l lo a ao _ c _ co W (lift HL.out hW) (lift HO.out hW))
      have HCP := hid (fun (W : World) (hW : Below w.heap.size w W) => segment_copy ep l a _ c W (lift HL.out hW) (by omega) hmild)
      have HSC := hid (fun (W : World) (hW : Below w.heap.size w W) (aC : Option Addr) (cC : Nat) (hC : rBatches.r (· < W.heap.size) W [.slice aC l.length cC] l) => (by have := ref34_same ep ep l l aC a _ cC _ c W hC (lift HL.out hW); rw [decide_eq_true (rfl : (⟨ep, l⟩ : Seg) = ⟨ep, l⟩)] at this; exact this : Calls Tryz.prog 43 #[.agg #[.int .u64 ep, .slice aC l.length cC], .agg #[.int .u64 ep, .slice a l.length c]] W fun r w' => r = .returned (.bool true) ∧ Below W.heap.size W w'))
      have HWR := hid (fun (hR : segR ⟨ep, l⟩ = true) (W : World) (hW : Below w.heap.size w W) => ref34_write ep l a _ c W (lift HL.out hW) hR HBN.out htame)
      obtain ⟨FD, hFv, hFy, hFn⟩ := foot_val (R := segR ⟨ep, l⟩) (f := segF ep l)
      rw [hFv] at HFT
      clear hFv hl1 hl2 hLs hfair hmild htame
      generalize hBL : (if segR ⟨ep, l⟩ = true then segB ep l else []) = BL at *
      generalize hML : (if segR ⟨ep, l⟩ = true then (segW ep l).2 else []) = ML at *
      generalize hCD : (if segR ⟨ep, l⟩ = true then (0 : Int) else 3) = CD at *
      generalize hR : segR ⟨ep, l⟩ = R at *
      generalize decide ((⟨ep, l⟩ : Seg) = ⟨eo, lo⟩) = Q at *
      have HBL := hid hBL
      have HML := hid hML
      have HCD := hid hCD
      have HR := hid hR
      have HFY := hid hFy
      have HFN := hid hFn
      clear hBL hML hCD hR hFy hFn
      obtain ⟨f0, f1, f2, f3, f4, f5, f6⟩ := FD
      simp only [FootD.val] at HFT
      go_enter Tryz.func11, Tryz.ntmps11
      go_wp2_with fail
      refine (HLG.out _ HI0.out.below).mono ?_
      rintro r w1 ⟨rfl, hb1⟩
      have HI1 := hid (HI0.out.later hb1)
      have x0 : w1.cell? ⟨w.heap.size + 1, 0, none⟩ = some (.int .u64 eo) := HI1.out.o.cell 0
      have x1 : w1.cell? ⟨w.heap.size + 1, 1, none⟩ = some (.slice ao lo.length co) := HI1.out.o.cell 1
      clear hb1
      go_wp2_with fail
      refine (HLO.out _ HI1.out.below).mono ?_
      rintro r w2 ⟨rfl, hb2⟩
      have HI2 := hid (HI1.out.later hb2)
      have g0 : w2.cell? ⟨w.heap.size, 0, none⟩ = some (.int .u64 ep) := HI2.out.g.cell 0
      have g1 : w2.cell? ⟨w.heap.size, 1, none⟩ = some (.slice a l.length c) := HI2.out.g.cell 1
      clear hb2 x0 x1
      go_wp2_with fail
      refine (HBY.out _ HI2.out.below).mono ?_
      rintro r w3 ⟨v3, rfl, hr3, hb3⟩
      obtain ⟨a3, c3, hv3, hr3', _⟩ := sl_form hr3
      simp only [List.cons.injEq, and_true] at hv3
      subst hv3
      have HX3 := hid (rBytes.mono hr3' (S' := (· < w3.heap.size)) fun q hq => hq.2)
      have HI3 := hid (HI2.out.later hb3)
      clear hr3 hr3' hb3 g0 g1
      have g0 : w3.cell? ⟨w.heap.size, 0, none⟩ = some (.int .u64 ep) := HI3.out.g.cell 0
      have g1 : w3.cell? ⟨w.heap.size, 1, none⟩ = some (.slice a l.length c) := HI3.out.g.cell 1
      go_wp2_with fail
      refine (HMK.out _ HI3.out.below).mono ?_
      rintro r w4 ⟨v4, rfl, hr4, hb4⟩
      obtain ⟨a4, c4, hv4, hr4', _⟩ := sl_form hr4
      simp only [List.cons.injEq, and_true] at hv4
      subst hv4
      have HX4 := hid (rMarks.mono hr4' (S' := (· < w4.heap.size)) fun q hq => hq.2)
      have HI4 := hid (HI3.out.later hb4)
      have HX34 := hid (lift HX3.out hb4)
      clear hr4 hr4' hb4 g0 g1 HX3
      have g0 : w4.cell? ⟨w.heap.size, 0, none⟩ = some (.int .u64 ep) := HI4.out.g.cell 0
      have g1 : w4.cell? ⟨w.heap.size, 1, none⟩ = some (.slice a l.length c) := HI4.out.g.cell 1
      go_wp2_with fail
      refine (HFT.out _ HI4.out.below).mono ?_
      rintro r w5 ⟨rfl, hb5⟩
      have HI5 := hid (HI4.out.later hb5)
      have HX35 := hid (lift HX34.out hb5)
      have HX45 := hid (lift HX4.out hb5)
      clear hb5 g0 g1 HX34 HX4
      go_wp2_with fail
      have hb56 : Below w5.heap.size w5 (w5.alloc (.cells #[.int .u64 f0, .int .i64 f1, .int .i64 f2, .int .u64 f3, .int .u64 f4, .int .i64 f5, .int .i64 f6] 91)) := by (repeat (first | with_reducible exact Below.refl _ _ | with_reducible assumption | (with_reducible refine below_alloc ?_ _) | (with_reducible refine Below.setCell ?_ (by first | omega | (simp; done) | (simp; omega)) _) | (with_reducible refine Below.drew ?_) | (with_reducible refine below_drewN ?_ _) | (refine below_then (by with_reducible assumption) ?_)))
      have hF6 := Blk.new w5 91 #[.int .u64 f0, .int .i64 f1, .int .i64 f2, .int .u64 f3, .int .u64 f4, .int .i64 f5, .int .i64 f6]
      generalize w5.alloc (.cells #[.int .u64 f0, .int .i64 f1, .int .i64 f2, .int .u64 f3, .int .u64 f4, .int .i64 f5, .int .i64 f6] 91) = w6 at *
      have HI6 := hid (HI5.out.later hb56)
      have HF6 := hid hF6
      have HX36 := hid (lift HX35.out hb56)
      have HX46 := hid (lift HX45.out hb56)
      have HB66 := hid (Below.refl w6.heap.size w6)
      have B6 := HI6.out.g
      have O6 := HI6.out.o
      have hgF : w5.heap.size < w6.heap.size := hF6.lt
      clear hb56 hF6 HX35 HX45
      have SK := hid (fun (w' : World) (h2 : Blk w' w.heap.size 62 #[.int .u64 ep, .slice a l.length c]) (h3 : Blk w' (w.heap.size + 1) 62 #[.int .u64 eo, .slice ao lo.length co]) => (⟨h2.cell 0, h2.cell 1, h3.cell 0, h3.cell 1⟩ : w'.cell? ⟨w.heap.size, 0, none⟩ = some (.int .u64 ep) ∧ w'.cell? ⟨w.heap.size, 1, none⟩ = some (.slice a l.length c) ∧ w'.cell? ⟨w.heap.size + 1, 0, none⟩ = some (.int .u64 eo) ∧ w'.cell? ⟨w.heap.size + 1, 1, none⟩ = some (.slice ao lo.length co)))
      refine wp_region_held_drew (S := fun w' => w'.cell? ⟨w.heap.size, 0, none⟩ = some (.int .u64 ep) ∧ w'.cell? ⟨w.heap.size, 1, none⟩ = some (.slice a l.length c) ∧ w'.cell? ⟨w.heap.size + 1, 0, none⟩ = some (.int .u64 eo) ∧ w'.cell? ⟨w.heap.size + 1, 1, none⟩ = some (.slice ao lo.length co)) (by kernel_rfl) (SK.out w6 B6 O6) (fun hHeld => ?_)
      refine wpAnyH_take (i := 0) (oi := _) (v := ?_) rfl (by decide +kernel) (by decide +kernel) (by decide +kernel) (fun _ _ _ h => h) (Or.inl ⟨by rfl, ?_⟩) (by assumption) ?_
      rotate_left
      · (intro w hSw; (try dsimp only at hSw); go_simp <;> with_reducible rfl)
      (try simp only [Act.put, List.setIfInBounds_toArray, List.set_cons_zero, List.set_cons_succ])
      refine wpAnyH_take (i := 2) (oi := _) (v := ?_) rfl (by decide +kernel) (by decide +kernel) (by decide +kernel) (fun _ _ _ h => h) (Or.inl ⟨by rfl, ?_⟩) (by assumption) ?_
      rotate_left
      · (intro w hSw; (try dsimp only at hSw); go_simp <;> with_reducible rfl)
      (try simp only [Act.put, List.setIfInBounds_toArray, List.set_cons_zero, List.set_cons_succ])
      refine wpAnyH_ready (rs := [1]) (by decide +kernel) (by simp) ?_
      refine AllReadyH.cons (o := _) rfl (fun K hK => ?_) AllReadyH.nil
      (go_simp; go_at_call 44; refine (HRT.out w6.drew (below_then (Below.refl _ _).drew HI6.out.below)).mono ?_; rintro e1 w7 ⟨rfl, hb7⟩; have hb7 : Below w6.heap.size w6 w7 := below_then hb7 (Below.refl _ _).drew; have HI7 := hid (HI6.out.later hb7); have HB67 := hid (below_then hb7 HB66.out); have B7 := HI7.out.g; have O7 := HI7.out.o; clear hb7; (try dsimp only))
      refine hK.out _ _ ?_ (fun hHeld => ?_)
      · ((try dsimp only); first | exact SK.out _ (by assumption) (by assumption) | assumption)
      clear hK K
      (try simp only [Act.put, List.setIfInBounds_toArray, List.set_cons_zero, List.set_cons_succ])
      refine wpAnyH_ready (rs := [3]) (by decide +kernel) (by simp) ?_
      refine AllReadyH.cons (o := _) rfl (fun K hK => ?_) AllReadyH.nil
      (go_simp; go_at_call 41; refine (HRR.out w7 HI7.out.below).mono ?_; rintro e1 w8 ⟨rfl, hb8⟩; have HI8 := hid (HI7.out.later hb8); have HB68 := hid (below_then hb8 HB67.out); have B8 := HI8.out.g; have O8 := HI8.out.o; clear hb8; (try dsimp only))
      refine hK.out _ _ ?_ (fun hHeld => ?_)
      · ((try dsimp only); first | exact SK.out _ (by assumption) (by assumption) | assumption)
      clear hK K
      (try simp only [Act.put, List.setIfInBounds_toArray, List.set_cons_zero, List.set_cons_succ])
      refine wpAnyH_take (i := 4) (oi := _) (v := ?_) rfl (by decide +kernel) (by decide +kernel) (by decide +kernel) (fun _ _ _ h => h) (Or.inl ⟨by rfl, ?_⟩) (by assumption) ?_
      rotate_left
      · (intro w hSw; (try dsimp only at hSw); go_simp <;> with_reducible rfl)
      (try simp only [Act.put, List.setIfInBounds_toArray, List.set_cons_zero, List.set_cons_succ])
      refine wpAnyH_take (i := 5) (oi := _) (v := ?_) rfl (by decide +kernel) (by decide +kernel) (by decide +kernel) (fun _ _ _ h => h) (Or.inl ⟨by rfl, ?_⟩) (by assumption) ?_
      rotate_left
      · (intro w hSw; (try dsimp only at hSw); go_simp <;> with_reducible rfl)
      (try simp only [Act.put, List.setIfInBounds_toArray, List.set_cons_zero, List.set_cons_succ])
      refine wpAnyH_take (i := 6) (oi := _) (v := ?_) rfl (by decide +kernel) (by decide +kernel) (by decide +kernel) (fun _ _ _ h => h) (Or.inl ⟨by kernel_rfl, ?_⟩) (by assumption) ?_
      rotate_left
      · (intro w hSw; (try dsimp only at hSw); go_simp <;> with_reducible rfl)
      (try simp only [Act.put, List.setIfInBounds_toArray, List.set_cons_zero, List.set_cons_succ])
      refine wpAnyH_take (i := 7) (oi := _) (v := ?_) rfl (by decide +kernel) (by decide +kernel) (by decide +kernel) (fun _ _ _ h => h) (Or.inl ⟨by kernel_rfl, ?_⟩) (by assumption) ?_
      rotate_left
      · (intro w hSw; (try dsimp only at hSw); go_simp <;> with_reducible rfl)
      (try simp only [Act.put, List.setIfInBounds_toArray, List.set_cons_zero, List.set_cons_succ])
      refine wpAnyH_take (i := 9) (oi := _) (v := ?_) rfl (by decide +kernel) (by decide +kernel) (by decide +kernel) (fun _ _ _ h => h) (Or.inl ⟨by kernel_rfl, ?_⟩) (by assumption) ?_
      rotate_left
      · (intro w hSw; (try dsimp only at hSw); go_simp <;> with_reducible rfl)
      (try simp only [Act.put, List.setIfInBounds_toArray, List.set_cons_zero, List.set_cons_succ])
      refine wpAnyH_take (i := 10) (oi := _) (v := ?_) rfl (by decide +kernel) (by decide +kernel) (by decide +kernel) (fun _ _ _ h => h) (Or.inl ⟨by kernel_rfl, ?_⟩) (by assumption) ?_
      rotate_left
      · (intro w hSw; (try dsimp only at hSw); go_simp <;> with_reducible rfl)
      (try simp only [Act.put, List.setIfInBounds_toArray, List.set_cons_zero, List.set_cons_succ])
      refine wpAnyH_ready (rs := [8]) (by decide +kernel) (by simp) ?_
      refine AllReadyH.cons (o := _) rfl (fun K hK => ?_) AllReadyH.nil
      (go_simp; go_at_call 59; refine (HSM.out w8 HI8.out.below).mono ?_; rintro e1 w9 ⟨rfl, hb9⟩; have HI9 := hid (HI8.out.later hb9); have HB69 := hid (below_then hb9 HB68.out); have B9 := HI9.out.g; have O9 := HI9.out.o; clear hb9; (try dsimp only))
      refine hK.out _ _ ?_ (fun hHeld => ?_)
      · ((try dsimp only); first | exact SK.out _ (by assumption) (by assumption) | assumption)
      clear hK K
      (try simp only [Act.put, List.setIfInBounds_toArray, List.set_cons_zero, List.set_cons_succ])
      refine wpAnyH_ready (rs := [11]) (by decide +kernel) (by simp) ?_
      refine AllReadyH.cons (o := _) rfl (fun K hK => ?_) AllReadyH.nil
      (go_simp; go_at_call 43; refine (HSR.out w9 HI9.out.below).mono ?_; rintro e1 w10 ⟨rfl, hb10⟩; have HI10 := hid (HI9.out.later hb10); have HB610 := hid (below_then hb10 HB69.out); have B10 := HI10.out.g; have O10 := HI10.out.o; clear hb10; (try dsimp only))
      refine hK.out _ _ ?_ (fun hHeld => ?_)
      · ((try dsimp only); first | exact SK.out _ (by assumption) (by assumption) | assumption)
      clear hK K
      (try simp only [Act.put, List.setIfInBounds_toArray, List.set_cons_zero, List.set_cons_succ])
      refine wpAnyH_take (i := 12) (oi := _) (v := ?_) rfl (by decide +kernel) (by decide +kernel) (by decide +kernel) (fun _ _ _ h => h) (Or.inl ⟨by kernel_rfl, ?_⟩) (by assumption) ?_
      rotate_left
      · (intro w hSw; (try dsimp only at hSw); go_simp <;> with_reducible rfl)
      (try simp only [Act.put, List.setIfInBounds_toArray, List.set_cons_zero, List.set_cons_succ])
      refine wpAnyH_take (i := 13) (oi := _) (v := ?_) rfl (by decide +kernel) (by decide +kernel) (by decide +kernel) (fun _ _ _ h => h) (Or.inl ⟨by kernel_rfl, ?_⟩) (by assumption) ?_
      rotate_left
      · (intro w hSw; (try dsimp only at hSw); go_simp <;> with_reducible rfl)
      (try simp only [Act.put, List.setIfInBounds_toArray, List.set_cons_zero, List.set_cons_succ])
      refine wpAnyH_take (i := 14) (oi := _) (v := ?_) rfl (by decide +kernel) (by decide +kernel) (by decide +kernel) (fun _ _ _ h => h) (Or.inl ⟨by kernel_rfl, ?_⟩) (by assumption) ?_
      rotate_left
      · (intro w hSw; (try dsimp only at hSw); go_simp <;> with_reducible rfl)
      (try simp only [Act.put, List.setIfInBounds_toArray, List.set_cons_zero, List.set_cons_succ])
      refine wpAnyH_take (i := 15) (oi := _) (v := ?_) rfl (by decide +kernel) (by decide +kernel) (by decide +kernel) (fun _ _ _ h => h) (Or.inl ⟨by kernel_rfl, ?_⟩) (by assumption) ?_
      rotate_left
      · (intro w hSw; (try dsimp only at hSw); go_simp <;> with_reducible rfl)
      (try simp only [Act.put, List.setIfInBounds_toArray, List.set_cons_zero, List.set_cons_succ])
      refine wpAnyH_take (i := 17) (oi := _) (v := ?_) rfl (by decide +kernel) (by decide +kernel) (by decide +kernel) (fun _ _ _ h => h) (Or.inl ⟨by kernel_rfl, ?_⟩) (by assumption) ?_
      rotate_left
      · (intro w hSw; (try dsimp only at hSw); go_simp <;> with_reducible rfl)
      (try simp only [Act.put, List.setIfInBounds_toArray, List.set_cons_zero, List.set_cons_succ])
      refine wpAnyH_ready (rs := [16]) (by decide +kernel) (by simp) ?_
      refine AllReadyH.cons (o := _) rfl (fun K hK => ?_) AllReadyH.nil
      (go_simp; go_at_call 60; refine (HCP.out w10 HI10.out.below).mono ?_; rintro e1 w11 ⟨v11, rfl, hr11, hb11⟩; have HI11 := hid (HI10.out.later hb11); have HB611 := hid (below_then hb11 HB610.out); have B11 := HI11.out.g; have O11 := HI11.out.o; obtain ⟨a11, c11, hv11, hr11', _⟩ := sl_form hr11; simp only [List.cons.injEq, and_true] at hv11; subst hv11; have HC11 := hid (rBatches.mono hr11' (S' := (· < w11.heap.size)) fun q hq => hq.2); clear hr11 hr11'; clear hb11; (try dsimp only))
      refine hK.out _ _ ?_ (fun hHeld => ?_)
      · ((try dsimp only); first | exact SK.out _ (by assumption) (by assumption) | assumption)
      clear hK K
      (try simp only [Act.put, List.setIfInBounds_toArray, List.set_cons_zero, List.set_cons_succ])
      refine wpAnyH_ready (rs := [18]) (by decide +kernel) (by simp) ?_
      refine AllReadyH.cons (o := _) rfl (fun K hK => ?_) AllReadyH.nil
      (go_simp; go_at_call 43; refine (HSC.out w11 HI11.out.below a11 c11 HC11.out).mono ?_; rintro e1 w12 ⟨rfl, hb12⟩; have HI12 := hid (HI11.out.later hb12); have HB612 := hid (below_then hb12 HB611.out); have B12 := HI12.out.g; have O12 := HI12.out.o; clear hb12; (try dsimp only))
      refine hK.out _ _ ?_ (fun hHeld => ?_)
      · ((try dsimp only); first | exact SK.out _ (by assumption) (by assumption) | assumption)
      clear hK K
      (try simp only [Act.put, List.setIfInBounds_toArray, List.set_cons_zero, List.set_cons_succ])
      refine wpAnyH_take (i := 19) (oi := _) (v := ?_) rfl (by decide +kernel) (by decide +kernel) (by decide +kernel) (fun _ _ _ h => h) (Or.inl ⟨by kernel_rfl, ?_⟩) (by assumption) ?_
      rotate_left
      · (intro w hSw; (try dsimp only at hSw); go_simp <;> with_reducible rfl)
      (try simp only [Act.put, List.setIfInBounds_toArray, List.set_cons_zero, List.set_cons_succ])
      refine wpAnyH_take (i := 20) (oi := _) (v := ?_) rfl (by decide +kernel) (by decide +kernel) (by decide +kernel) (fun _ _ _ h => h) (Or.inl ⟨by kernel_rfl, ?_⟩) (by assumption) ?_
      rotate_left
      · (intro w hSw; (try dsimp only at hSw); go_simp <;> with_reducible rfl)
      (try simp only [Act.put, List.setIfInBounds_toArray, List.set_cons_zero, List.set_cons_succ])
      simp only [List.getElem_toArray, List.getElem_cons_zero, List.getElem_cons_succ, Act.put, List.setIfInBounds_toArray, List.set_cons_zero, List.set_cons_succ]
      refine wpAnyH_done (by kernel_rfl) ?_ _
      have g0 : w12.cell? ⟨w.heap.size, 0, none⟩ = some (.int .u64 ep) := HI12.out.g.cell 0
      have g1 : w12.cell? ⟨w.heap.size, 1, none⟩ = some (.slice a l.length c) := HI12.out.g.cell 1
      clear SK HRT HSM HSR HCP HSC
      go_wp2_with fail
      refine (HRR.out _ HI12.out.below).mono ?_
      rintro r w13 ⟨rfl, hb13⟩
      have HI13 := hid (HI12.out.later hb13)
      have HB613 := hid (below_then hb13 HB612.out)
      have HF13 := hid (HF6.out.later HB613.out)
      have HX33 := hid (lift HX36.out HB613.out)
      have HX43 := hid (lift HX46.out HB613.out)
      clear hb13 g0 g1 HF6 HX36 HX46
      cases R
      · obtain rfl : (3 : Int) = CD := HCD.out
        obtain rfl : ([] : List UInt8) = BL := HBL.out
        obtain rfl : ([] : List MarkD) = ML := HML.out
        have hF := HFN.out rfl
        simp only [FootD.mk.injEq] at hF
        obtain ⟨rfl, rfl, rfl, rfl, rfl, rfl, rfl⟩ := hF
        have t0 : w13.cell? ⟨w5.heap.size, 0, none⟩ = some (.int .u64 0) := HF13.out.cell 0
        have t1 : w13.cell? ⟨w5.heap.size, 1, none⟩ = some (.int .i64 0) := HF13.out.cell 1
        have t2 : w13.cell? ⟨w5.heap.size, 2, none⟩ = some (.int .i64 0) := HF13.out.cell 2
        have t3 : w13.cell? ⟨w5.heap.size, 3, none⟩ = some (.int .u64 0) := HF13.out.cell 3
        have t4 : w13.cell? ⟨w5.heap.size, 4, none⟩ = some (.int .u64 0) := HF13.out.cell 4
        have t5 : w13.cell? ⟨w5.heap.size, 5, none⟩ = some (.int .i64 0) := HF13.out.cell 5
        have t6 : w13.cell? ⟨w5.heap.size, 6, none⟩ = some (.int .i64 0) := HF13.out.cell 6
        clear HWR HFY HFN HBL HML HCD
        go_wp2_with fail
        refine (live34 _).mono ?_
        rintro r w14 ⟨rfl, hb14⟩
        have hbe := below_then hb14 HI13.out.below
        go_wp2
        go_ret
        exact ⟨rfl, hbe⟩
      · obtain rfl : (0 : Int) = CD := HCD.out
        have hF := HFY.out rfl
        have hB : segB ep l = BL := HBL.out
        have hM : (segW ep l).2 = ML := HML.out
        have HW := HWR.out rfl w13 HI13.out.below
        rw [hB, hM, ← hF] at HW
        simp only [FootD.val] at HW
        have HW := hid HW
        clear HWR HFY HFN HBL HML HCD hF hB hM
        have g0 : w13.cell? ⟨w.heap.size, 0, none⟩ = some (.int .u64 ep) := HI13.out.g.cell 0
        have g1 : w13.cell? ⟨w.heap.size, 1, none⟩ = some (.slice a l.length c) := HI13.out.g.cell 1
        go_wp2_with fail
        refine HW.out.mono ?_
        rintro r w14 ⟨v14, u14, rfl, hr14, hm14, hb14⟩
        obtain ⟨a14, c14, hv14, hr14', _⟩ := sl_form hr14
        simp only [List.cons.injEq, and_true] at hv14
        subst hv14
        obtain ⟨a15, c15, hv15, hm14', _⟩ := sl_form hm14
        simp only [List.cons.injEq, and_true] at hv15
        subst hv15
        have HY14 := hid (rBytes.mono hr14' (S' := (· < w14.heap.size)) fun q hq => hq.2)
        have HZ14 := hid (rMarks.mono hm14' (S' := (· < w14.heap.size)) fun q hq => hq.2)
        have HI14 := hid (HI13.out.later hb14)
        have HF14 := hid (HF13.out.later hb14)
        have HX34 := hid (lift HX33.out hb14)
        have HX44 := hid (lift HX43.out hb14)
        clear hr14 hr14' hm14 hm14' hb14 g0 g1 HF13 HX33 HX43
        go_wp2_with fail
        have hb145 : Below w14.heap.size w14 (w14.alloc (.cells #[.int .u64 f0, .int .i64 f1, .int .i64 f2, .int .u64 f3, .int .u64 f4, .int .i64 f5, .int .i64 f6] 96)) := by (repeat (first | with_reducible exact Below.refl _ _ | with_reducible assumption | (with_reducible refine below_alloc ?_ _) | (with_reducible refine Below.setCell ?_ (by first | omega | (simp; done) | (simp; omega)) _) | (with_reducible refine Below.drew ?_) | (with_reducible refine below_drewN ?_ _) | (refine below_then (by with_reducible assumption) ?_)))
        have hG15 := Blk.new w14 96 #[.int .u64 f0, .int .i64 f1, .int .i64 f2, .int .u64 f3, .int .u64 f4, .int .i64 f5, .int .i64 f6]
        generalize w14.alloc (.cells #[.int .u64 f0, .int .i64 f1, .int .i64 f2, .int .u64 f3, .int .u64 f4, .int .i64 f5, .int .i64 f6] 96) = w15 at *
        have HI15 := hid (HI14.out.later hb145)
        have HF15 := hid (HF14.out.later hb145)
        have HG15 := hid hG15
        have HX35 := hid (lift HX34.out hb145)
        have HX45 := hid (lift HX44.out hb145)
        have HY15 := hid (lift HY14.out hb145)
        have HZ15 := hid (lift HZ14.out hb145)
        clear hb145 hG15 HX34 HX44 HY14 HZ14
        have t0 : w15.cell? ⟨w5.heap.size, 0, none⟩ = some (.int .u64 f0) := HF15.out.cell 0
        have t1 : w15.cell? ⟨w5.heap.size, 1, none⟩ = some (.int .i64 f1) := HF15.out.cell 1
        have t2 : w15.cell? ⟨w5.heap.size, 2, none⟩ = some (.int .i64 f2) := HF15.out.cell 2
        have t3 : w15.cell? ⟨w5.heap.size, 3, none⟩ = some (.int .u64 f3) := HF15.out.cell 3
        have t4 : w15.cell? ⟨w5.heap.size, 4, none⟩ = some (.int .u64 f4) := HF15.out.cell 4
        have t5 : w15.cell? ⟨w5.heap.size, 5, none⟩ = some (.int .i64 f5) := HF15.out.cell 5
        have t6 : w15.cell? ⟨w5.heap.size, 6, none⟩ = some (.int .i64 f6) := HF15.out.cell 6
        have z0 : w15.cell? ⟨w14.heap.size, 0, none⟩ = some (.int .u64 f0) := HG15.out.cell 0
        have z1 : w15.cell? ⟨w14.heap.size, 1, none⟩ = some (.int .i64 f1) := HG15.out.cell 1
        have z2 : w15.cell? ⟨w14.heap.size, 2, none⟩ = some (.int .i64 f2) := HG15.out.cell 2
        have z3 : w15.cell? ⟨w14.heap.size, 3, none⟩ = some (.int .u64 f3) := HG15.out.cell 3
        have z4 : w15.cell? ⟨w14.heap.size, 4, none⟩ = some (.int .u64 f4) := HG15.out.cell 4
        have z5 : w15.cell? ⟨w14.heap.size, 5, none⟩ = some (.int .i64 f5) := HG15.out.cell 5
        have z6 : w15.cell? ⟨w14.heap.size, 6, none⟩ = some (.int .i64 f6) := HG15.out.cell 6
        have T0 := fun s : Later w15 => s.cell t0
        have T1 := fun s : Later w15 => s.cell t1
        have T2 := fun s : Later w15 => s.cell t2
        have T3 := fun s : Later w15 => s.cell t3
        have T4 := fun s : Later w15 => s.cell t4
        have T5 := fun s : Later w15 => s.cell t5
        have T6 := fun s : Later w15 => s.cell t6
        have Z0 := fun s : Later w15 => s.cell z0
        have Z1 := fun s : Later w15 => s.cell z1
        have Z2 := fun s : Later w15 => s.cell z2
        have Z3 := fun s : Later w15 => s.cell z3
        have Z4 := fun s : Later w15 => s.cell z4
        have Z5 := fun s : Later w15 => s.cell z5
        have Z6 := fun s : Later w15 => s.cell z6
        clear t0 t1 t2 t3 t4 t5 t6 z0 z1 z2 z3 z4 z5 z6
        have HS2 := hid (fun s : Later w15 => same_bytes BL BL a3 a14 _ c3 _ c14 s.at_ (lift HX35.out s.below) (lift HY15.out s.below))
        rw [decide_eq_true (rfl : BL = BL)] at HS2
        have HM2 := hid (fun s : Later w15 => ref32_same ML ML a4 a15 _ c4 _ c15 s.at_ (lift HX45.out s.below) (lift HZ15.out s.below) rfl)
        have HAS := hid (fun s : Later w15 => law34_as f0 f1 f2 f3 f4 f5 f6 s.at_)
        have HLV := hid (fun s : Later w15 => live34 s.at_)
        refine wp_region_later (by kernel_rfl) (by kernel_rfl) ?_
        repeat (go_big_quiet_step ((first | (go_at_call 21; with_reducible exact later_same (HS2.out _)) | (go_at_call 62; with_reducible exact later_of (HM2.out _)) | (go_at_call 63; with_reducible exact later_of (HAS.out _)) | (go_at_call 39; with_reducible exact later_of (HLV.out _)))))
        refine wpQuiet_nil ?_
        rintro V ⟨⟨V', hbV⟩, rfl⟩
        have hbe := below_then hbV HI15.out.below
        go_wp2
        go_ret
        exact ⟨rfl, hbe⟩
    · rw [hl2] at HLO
      clear hl1 hl2
      go_enter Tryz.func11, Tryz.ntmps11
      go_wp2_with fail
      refine (HLG.out _ HI0.out.below).mono ?_
      rintro r w1 ⟨rfl, hb1⟩
      have HI1 := hid (HI0.out.later hb1)
      have x0 : w1.cell? ⟨w.heap.size + 1, 0, none⟩ = some (.int .u64 eo) := HI1.out.o.cell 0
      have x1 : w1.cell? ⟨w.heap.size + 1, 1, none⟩ = some (.slice ao lo.length co) := HI1.out.o.cell 1
      clear hb1
      go_wp2_with fail
      refine (HLO.out _ HI1.out.below).mono ?_
      rintro r w2 ⟨rfl, hb2⟩
      have HI2 := hid (HI1.out.later hb2)
      clear hb2 x0 x1
      go_wp2_with fail
      refine (live34 _).mono ?_
      rintro r w9 ⟨rfl, hb9⟩
      have hbe := below_then hb9 HI2.out.below
      go_wp2
      go_ret
      exact ⟨rfl, hbe⟩
  · rw [hl1] at HLG
    clear hl1
    go_enter Tryz.func11, Tryz.ntmps11
    go_wp2_with fail
    refine (HLG.out _ HI0.out.below).mono ?_
    rintro r w1 ⟨rfl, hb1⟩
    have HI1 := hid (HI0.out.later hb1)
    go_wp2_with fail
    refine (live34 _).mono ?_
    rintro r w9 ⟨rfl, hb9⟩
    have hbe := below_then hb9 HI1.out.below
    go_wp2
    go_ret
    exact ⟨rfl, hbe⟩

set_option maxRecDepth 100000 in
theorem segmentWrites_walk {H : Type} (enc : TypeId × Value → H) (W : World) (base : Nat) (v0 v1 : Value) (d0 d1 : DataW H) (p0 p1 : List MemPlace)
    (k0 : DataW.Trod enc Tryz.prog W 0 (fun _ => true) true 62 v0 d0 p0) (k1 : DataW.Trod enc Tryz.prog W 0 (fun _ => true) true 62 v1 d1 p1)
    (o0 : Value.okWide Tryz.prog W .any base 62 v0) (o1 : Value.okWide Tryz.prog W .any base 62 v1) :
    Calls Tryz.prog 11 #[v0, v1] W fun e w' => e = .returned (.bool true) ∧ Below W.heap.size W w' := by
  obtain ⟨ep, l, a, n, c, rfl, h0, hl⟩ := seg_arg enc W base v0 d0 p0 k0 o0
  obtain ⟨eo, lo, ao, no, co, rfl, _, hlo⟩ := seg_arg enc W base v1 d1 p1 k1 o1
  exact segmentWrites_c ep eo l lo a ao n c no co W h0 hl hlo
end Go.Proofs.YtkipiefcnjfdjaaGreat
