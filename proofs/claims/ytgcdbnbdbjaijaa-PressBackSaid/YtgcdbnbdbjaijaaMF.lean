/- The document's expanding, plain; a token's bytes behind some others. A token's bytes behind some others. What written tokens make: the document's. What is put is read: plain. What is wrong with a token, and how many bytes it makes; press.Check. Tokens, expanded. Tokens, compared; whether tokens are those that are written. PressBack: for every input the law returns true. -/
import Derived.Test.YtgcdbnbdbjaijaaMB
import Derived.Test.YtgcdbnbdbjaijaaMC
import Derived.RegionTactic
namespace Go.Proofs.Ytgcdbnbdbjaijaa
open Go.RowKit Go.Bs Go.Maps
set_option linter.unusedVariables false
set_option linter.unusedSimpArgs false

theorem head_ofR {B : List UInt8} {s : Rs} (h : (s.num B).1.k = 0) (h1 : 0 < headR (s.num B).2) : (s.head B).1 = (s.num B).1 ∧ (s.head B).2.2 = headR (s.num B).2 ∧ ((s.head B).2.1 = true ↔ (s.num B).2 % 2 = 1) := by
  unfold Rs.head headR at *
  rw [if_pos h]
  by_cases h2 : (s.num B).2 % 2 = 0
  · rw [if_neg (by omega : ¬ (s.num B).2 % 2 = 1)]
    by_cases h3 : (s.num B).2 / 2 < 1048576
    · rw [if_neg (by omega : ¬ 1048575 < (s.num B).2 / 2), if_pos ⟨h2, h3⟩]
      exact ⟨rfl, rfl, by simp; omega⟩
    · rw [if_neg (by omega), if_neg (by omega)] at h1; omega
  · have h2' : (s.num B).2 % 2 = 1 := by omega
    rw [if_pos h2']
    by_cases h3 : (s.num B).2 / 2 ≤ 1048572
    · rw [if_neg (by omega : ¬ 1048572 < (s.num B).2 / 2), if_neg (by omega), if_pos ⟨h2', h3⟩]
      exact ⟨rfl, rfl, by simp [h2']⟩
    · rw [if_neg (by omega), if_neg (by omega)] at h1; omega
theorem head_of0 {B : List UInt8} {s : Rs} (h : (s.num B).1.k = 0) (h1 : headR (s.num B).2 = 0) : s.head B = ((s.num B).1.fail 2 s.p, false, 0) ∧ (s.tok B).1 = (s.num B).1.fail 2 s.p := by
  unfold Rs.head Rs.tok headR at *
  rw [if_pos h, if_pos h]
  by_cases h2 : (s.num B).2 % 2 = 0
  · rw [if_neg (by omega : ¬ (s.num B).2 % 2 = 1), if_pos h2]
    by_cases h3 : (s.num B).2 / 2 < 1048576
    · rw [if_pos ⟨h2, h3⟩] at h1; omega
    · rw [if_pos (by omega : 1048575 < (s.num B).2 / 2), if_pos (by omega : 1048576 < (s.num B).2 / 2 + 1)]
      exact ⟨rfl, rfl⟩
  · have h2' : (s.num B).2 % 2 = 1 := by omega
    rw [if_pos h2', if_neg h2]
    by_cases h3 : (s.num B).2 / 2 ≤ 1048572
    · rw [if_neg (by omega), if_pos ⟨h2', h3⟩] at h1; omega
    · rw [if_pos (by omega : 1048572 < (s.num B).2 / 2), if_pos (by omega : 1048572 < (s.num B).2 / 2)]
      exact ⟨rfl, rfl⟩
/-- A step of the program's, by the document's token. -/
def bndF (B : List UInt8) (bound : Int) (s : Rs) (out : List UInt8) : Prop := (s.num B).1.k = 0 ∧ 0 < headR (s.num B).2 ∧ bound < (out.length : Int) + (headR (s.num B).2 : Int)
theorem refA {B : List UInt8} {bound : Int} {s : Rs} {out : List UInt8} (h : bndF B bound s out) : (exStep B bound s out).1.k = 11 ∧ (exStep B bound s out).1.f = s.p := by
  obtain ⟨h0, h1, h2⟩ := h
  have hh := head_ofR h0 h1
  unfold exStep
  rw [if_pos (by rw [hh.2.1]; omega), hh.1]
  unfold Rs.fail
  rw [if_pos h0]
  exact ⟨rfl, rfl⟩
theorem ref_num_bad {B : List UInt8} {bound : Int} {s : Rs} {out : List UInt8} (h : (s.num B).1.k ≠ 0) : (exStep B bound s out).1 = (s.tok B).1 ∧ (s.tok B).1 = (s.num B).1 := by
  have e : s.head B = ((s.num B).1, false, 0) := by unfold Rs.head; rw [if_neg h]
  have e2 : s.tok B = ((s.num B).1, ⟨[], 0, 0⟩) := by unfold Rs.tok; rw [if_neg h]
  unfold exStep
  rw [e, e2]
  dsimp only
  rw [Rs.fail_of_bad h, Rs.take_of_bad h]
  simp
theorem ref_long {B : List UInt8} {bound : Int} {s : Rs} {out : List UInt8} (h : (s.num B).1.k = 0) (h1 : headR (s.num B).2 = 0) : (exStep B bound s out).1 = (s.tok B).1 ∧ (s.tok B).1.k ≠ 0 := by
  have hh := head_of0 h h1
  have hk := Rs.fail_k (s := (s.num B).1) (c := 2) (at_ := (s.p : Int)) (by omega)
  unfold exStep
  rw [hh.1, hh.2]
  dsimp only
  rw [Rs.fail_of_bad hk, Rs.take_of_bad hk]
  refine ⟨?_, hk⟩
  split <;> simp
theorem ref_good {B : List UInt8} {bound : Int} {s : Rs} {out : List UInt8} (h : (s.num B).1.k = 0) (h1 : 0 < headR (s.num B).2) (h2 : (out.length : Int) + (headR (s.num B).2 : Int) ≤ bound) :
    if (s.tok B).1.k = 0 then (if (out.length : Int) < (s.tok B).2.off then (exStep B bound s out).1.k = 10 ∧ (exStep B bound s out).1.f = (s.num B).1.p else exStep B bound s out = ((s.tok B).1, againL (s.tok B).2.off.toNat (s.tok B).2.len.toNat (out ++ (s.tok B).2.lit)) ∧ (((s.tok B).2.len = 0 ∧ (s.tok B).2.off = 0 ∧ 1 ≤ (s.tok B).2.lit.length ∧ (s.tok B).2.lit.length ≤ 1048576) ∨ ((s.tok B).2.lit = [] ∧ 1 ≤ (s.tok B).2.off ∧ (s.tok B).2.off ≤ out.length ∧ 1 ≤ (s.tok B).2.len ∧ (s.tok B).2.len ≤ 1048576)))
    else (exStep B bound s out).1 = (s.tok B).1 := by
  have hh := head_ofR h h1
  unfold exStep
  rw [hh.2.1, if_neg (by omega : ¬ bound - (out.length : Int) < (headR (s.num B).2 : Int)), hh.1]
  unfold Rs.tok
  rw [if_pos h]
  by_cases hp : (s.num B).2 % 2 = 0
  · have e1 : (s.head B).2.1 = false := by
      cases hb : (s.head B).2.1
      · rfl
      · have := hh.2.2.1 hb; omega
    have hR : headR (s.num B).2 = (s.num B).2 / 2 + 1 := by
      unfold headR at h1 ⊢
      split
      · rfl
      · rename_i hc; rw [if_neg hc, if_neg (by omega)] at h1; omega
    have hx : (s.num B).2 / 2 < 1048576 := by
      unfold headR at h1
      by_cases hc : (s.num B).2 / 2 < 1048576
      · exact hc
      · rw [if_neg (by omega), if_neg (by omega)] at h1; omega
    rw [if_pos e1, if_pos hp, if_neg (by omega : ¬ 1048576 < (s.num B).2 / 2 + 1), hR]
    by_cases hk : ((s.num B).1.take B (((s.num B).2 / 2 + 1 : Nat) : Int)).1.k = 0
    · have hl := (Rs.take_more hk).2.2
      rw [if_pos hk]
      dsimp only
      rw [if_pos hk, if_neg (by omega : ¬ (out.length : Int) < 0)]
      refine ⟨by simp [againL], .inl ⟨rfl, rfl, by rw [hl]; omega, by rw [hl]; omega⟩⟩
    · rw [if_neg hk]
      dsimp only
      rw [if_neg hk]
  · have hp' : (s.num B).2 % 2 = 1 := by omega
    have e1 : ¬ (s.head B).2.1 = false := by rw [hh.2.2.2 hp']; simp
    have hx : (s.num B).2 / 2 ≤ 1048572 := by
      unfold headR at h1
      by_cases hc : (s.num B).2 / 2 ≤ 1048572
      · exact hc
      · rw [if_neg (by omega), if_neg (by omega)] at h1; omega
    have hR : headR (s.num B).2 = (s.num B).2 / 2 + 4 := by
      unfold headR
      rw [if_neg (by omega), if_pos ⟨hp', hx⟩]
    rw [if_neg e1, if_neg hp, if_neg (by omega : ¬ 1048572 < (s.num B).2 / 2), hR]
    by_cases hk : ((s.num B).1.num B).1.k = 0
    · rw [if_pos hk]
      by_cases hy : 65535 < ((s.num B).1.num B).2
      · have ho : (s.num B).1.offset B = (((s.num B).1.num B).1.fail 10 (s.num B).1.p, 0) := by
          unfold Rs.offset
          dsimp only
          rw [if_pos (by omega : 65536 ≤ ((s.num B).1.num B).2), if_neg (Rs.fail_k (by omega))]
        rw [if_pos hy, ho]
        dsimp only
        rw [if_neg (Rs.fail_k (s := ((s.num B).1.num B).1) (c := 10) (at_ := ((s.num B).1.p : Int)) (by omega)), if_neg (by omega : ¬ out.length < 0), if_neg (Rs.fail_k (s := ((s.num B).1.num B).1) (c := 10) (at_ := ((s.num B).1.p : Int)) (by omega))]
      · have ho : (s.num B).1.offset B = (((s.num B).1.num B).1, ((s.num B).1.num B).2 + 1) := by
          unfold Rs.offset
          dsimp only
          rw [if_neg (by omega : ¬ 65536 ≤ ((s.num B).1.num B).2), if_pos hk]
        rw [if_neg hy, ho]
        dsimp only
        rw [if_pos hk]
        by_cases hl : out.length < ((s.num B).1.num B).2 + 1
        · rw [if_pos hl, if_pos (by omega : (out.length : Int) < ((((s.num B).1.num B).2 + 1 : Nat) : Int))]
          unfold Rs.fail
          rw [if_pos hk]
          exact ⟨rfl, rfl⟩
        · rw [if_neg hl, if_neg (by omega), if_pos hk]
          exact ⟨by rw [List.append_nil]; rfl, .inr ⟨rfl, by omega, by omega, by omega, by omega⟩⟩
    · have ho : (s.num B).1.offset B = (((s.num B).1.num B).1, 0) := by
        unfold Rs.offset
        dsimp only
        rw [Rs.num_bad hk, if_neg (by omega : ¬ 65536 ≤ 0), if_neg hk]
      rw [if_neg hk, ho]
      dsimp only
      rw [if_neg hk, if_neg (by omega : ¬ out.length < 0), if_neg hk]
end Go.Proofs.Ytgcdbnbdbjaijaa
namespace Go.Proofs.Ytgcdbnbdbjaijaa
open Go.RowKit Go.Bs Go.Maps
set_option linter.unusedVariables false
set_option linter.unusedSimpArgs false

theorem byteCells_app2 (l l' : List UInt8) : byteCells l ++ byteCells l' = byteCells (l ++ l') := by simp [byteCells]
set_option maxRecDepth 100000 in
set_option maxHeartbeats 3200000 in
theorem ref12_with (w : World) (out : List UInt8) (aO : Option Addr) (nO cO : Nat) (hl : rBytes.r (· < w.heap.size) w [.slice aO nO cO] out) (D : List UInt8) (aD : Option Addr) (nD cD : Nat) (hD : rBytes.r (· < w.heap.size) w [.slice aD nD cD] D) (off n : Nat)
    (hc : n = 0 ∨ (D = [] ∧ 1 ≤ off ∧ off ≤ out.length)) (hlen : out.length + D.length + n ≤ 1000000000) :
    Calls Try.prog 74 #[.slice aO nO cO, .agg #[.slice aD nD cD, .int .i64 (off : Int), .int .i64 (n : Int)]] w fun r w' => ∃ v, r = .returned v ∧ rBytes.r (fun q => w.heap.size ≤ q ∧ q < w'.heap.size) w' [v] (againL off n (out ++ D)) ∧ Below w.heap.size w w' := by
  obtain ⟨rfl, hm, _, _⟩ := sl_len hl
  obtain ⟨rfl, hm', _, _⟩ := sl_len hD
  obtain ⟨i0, hi, hz0, hz1, hz2⟩ := info_parts info8
  have HL := hid hl
  have HD := hid hD
  have HC := hid hc
  have HONE := hid (byteCells_one out)
  have HONED := hid (byteCells_one D)
  have HS := hid (fun (W : World) (hW : Below w.heap.size w W) => src_bytes (lift HL.out hW))
  have HSD := hid (fun (W : World) (hW : Below w.heap.size w W) => src_bytes (lift HD.out hW))
  clear hl hD hc
  go_enter Try.func74, Try.ntmps74
  go_wp2_with (first
    | (at_builtin; go_loud (refine wpList_append_src rfl _ _ _ rfl (w.heap.size + 1) 5 i0 (.int .u8 0) 1 1 Try.underlying22 hi hz0 hz1 hz2 rfl (by decide) (.slice none 0 0) 0 [] rfl ⟨rfl, .inl ⟨rfl, rfl⟩⟩ aO out.length cO (byteCells out) rfl (HS.out _ (by (repeat (first | with_reducible exact Below.refl _ _ | with_reducible assumption | (with_reducible refine below_alloc ?_ _) | (with_reducible refine Below.setCell ?_ (by first | omega | (simp; done) | (simp; omega)) _) | (with_reducible refine Below.drew ?_) | (with_reducible refine below_drewN ?_ _) | (refine below_then (by with_reducible assumption) ?_))))) HONE.out (by simp only [maxLen]; omega) (by omega) (by first | omega | (simp; done) | (simp; omega)) ?_; intro v' w2 hown2 hgrow2 hat2; rw [Nat.zero_add, List.nil_append] at hown2; obtain ⟨a2, c2, rfl⟩ := own_form hown2; have k2 := Below.grown (Below.refl _ _) hgrow2 (Nat.le_refl _) (fun g e => by cases e); have B0 : Blk w2 w.heap.size 30 #[.slice aD D.length cD, .int .i64 (off : Int), .int .i64 (n : Int)] := Blk.later (by (repeat (first | assumption | exact Blk.newAt _ _ _ (by first | (simp; done) | (simp; omega)) | refine Blk.alloc ?_ _ | refine Blk.drew ?_ | refine Blk.drewN ?_ _ | refine Blk.far ?_ (by first | (simp; done) | (simp; omega)) _))) k2; obtain ⟨x0, x1, x2, e0, e1, e2, l0⟩ := t_blk B0; have hbw : Below w.heap.size w w2 := by {(repeat (first | with_reducible exact Below.refl _ _ | with_reducible assumption | (with_reducible refine below_alloc ?_ _) | (with_reducible refine Below.setCell ?_ (by first | omega | (simp; done) | (simp; omega)) _) | (with_reducible refine Below.drew ?_) | (with_reducible refine below_drewN ?_ _) | (refine below_then (by with_reducible assumption) ?_)))}; have hs2 : w.heap.size + 1 ≤ w2.heap.size := l0; have HO2 := hid hown2; have HB0 := hid B0; clear hown2 hgrow2 hat2 k2 B0))
    | (at_builtin; go_loud (refine wpList_append_src rfl _ _ _ rfl (w.heap.size + 1) 5 i0 (.int .u8 0) 1 1 Try.underlying22 hi hz0 hz1 hz2 rfl (by decide) (.slice a2 out.length c2) out.length (byteCells out) rfl HO2.out aD D.length cD (byteCells D) rfl (HSD.out _ hbw) HONED.out (by simp only [maxLen]; omega) (by omega) (by omega) ?_; intro v' w3 hown3 hgrow3 hat3; rw [byteCells_app2] at hown3; obtain ⟨a3, c3, rfl⟩ := own_form hown3; have k3 := Below.grown (B := w.heap.size + 1) (Below.refl _ _) hgrow3 (by omega) (fun g e => (HO2.out.lt g e).1); have hb3 := hbw.trans (k3.mono (by omega)); have HB3 := hid (HB0.out.below k3 (by omega)); have HO3 := hid hown3; have hs3 := k3.size; clear hown3 hgrow3 hat3 k3 x0 x1 x2 e0 e1 e2 l0)))
  go_loopw [5, 6] (fun o i wr => ∃ (k : Nat) (J : List UInt8) (aJ : Option Addr) (cJ : Nat), k ≤ n ∧ i = .int .i64 k ∧ o = .slice aJ J.length cJ ∧ wr.ownsRow (w.heap.size + 1) 5 1 (.slice aJ J.length cJ) J.length (byteCells J) ∧ Hid (againL off n (out ++ D) = againL off (n - k) J) ∧ Hid (J.length = out.length + D.length + k) ∧ Below w.heap.size w wr ∧ w.heap.size + 1 ≤ wr.heap.size ∧ Blk wr w.heap.size 30 #[.slice aD D.length cD, .int .i64 (off : Int), .int .i64 (n : Int)]) (fun _ i _ => n - (intOf i).toNat)
  case atStart => exact ⟨0, out ++ D, a3, c3, Nat.zero_le _, rfl, by simp, by simpa using HO3.out, hid rfl, hid (by simp), hb3, by omega, HB3.out⟩
  case round =>
    obtain ⟨k, J, aJ, cJ, hk, rfl, rfl, ho, hJ, hln, hb, hbs, hB⟩ := hrel
    have HJO := hid ho
    obtain ⟨x0, x1, x2, e0, e1, e2, l0⟩ := t_blk hB
    have HB := hid hB
    clear hB
    rcases Nat.lt_or_ge k n with hlt | hge
    · have d1 : decide ((k : Int) < (n : Int)) = true := decide_eq_true (by omega)
      have d1' : decide (k < n) = true := decide_eq_true hlt
      have hcc : 1 ≤ off ∧ off ≤ out.length ∧ J.length = out.length + k := by
        rcases HC.out with h | ⟨h, h1, h2⟩
        · omega
        · have := hln.out; rw [h] at this; simp at this; exact ⟨h1, h2, this⟩
      have hml : off ≤ J.length := by omega
      have hJm : J.length + 1 ≤ 1000000000000 := by omega
      have hst : Hid (againL off (n - k) J = againL off (n - (k + 1)) (J ++ [J.getD (J.length - off) 0])) := hid (by rw [show n - k = (n - (k + 1)) + 1 by omega]; rfl)
      have hgd : J.getD (J.length - off) 0 = J[J.length - off]'(by omega) := by rw [List.getD_eq_getElem?_getD, List.getElem?_eq_getElem (by omega)]; rfl
      rw [hgd] at hst
      obtain ⟨gb, ob, hA, hgb, hc⟩ := byte_at (own_bytes rfl ho) (i := J.length - off) (by omega)
      subst hA
      obtain ⟨m, hm⟩ : ∃ m, m = J.length - off := ⟨_, rfl⟩
      have e1' : (out.length : Int) + (k : Int) - (off : Int) = (m : Int) := by omega
      generalize J[J.length - off]'(by omega) = x at *
      rw [← hm] at hc
      have i1 : (m : Int) < (J.length : Int) := by omega
      have i2 : (0 : Int) ≤ (m : Int) := by omega
      have HCC := hid hcc
      clear ho hgd hm hcc
      go_wp2_with (at_builtin; go_loud (refine wpList_append_src rfl _ _ _ rfl (w.heap.size + 1) 5 i0 (.int .u8 0) 1 1 Try.underlying22 hi hz0 hz1 hz2 rfl (by decide) (.slice (some ⟨gb, ob, none⟩) J.length cJ) J.length (byteCells J) rfl (own_below HJO.out (by (repeat (first | exact Below.refl _ _ | assumption | (refine below_alloc ?_ _) | (refine Below.setCell ?_ (by first | omega | (simp; done) | (simp; omega)) _) | (refine Below.drew ?_) | (refine below_drewN ?_ _) | (refine below_then (by assumption) ?_))))) (some ⟨wr.heap.size, 0, none⟩) 1 1 [.int .u8 (x.toNat : Int)] rfl (src_new1 wr 5 _ rfl rfl rfl) (byteCells_one1 x) (by simp only [maxLen]; omega) (by omega) (by simp; omega) ?_; intro v' w3 hown3 hgrow3 hat3; obtain ⟨a3, c3, rfl⟩ := own_form hown3; have HO3 := hid hown3; have HG3 := hid hgrow3; clear hown3 hgrow3 hat3))
      have ho3 := HO3.out
      rw [byteCells_snoc, show J.length + 1 = (J ++ [x]).length by simp] at ho3
      have hb3 : Below (w.heap.size + 1) wr w3 := (Below.grown (Below.refl _ _) HG3.out (by simp; omega) (fun g e => (HJO.out.lt g e).1)) |> (fun h => (below_alloc (Below.refl _ _) _ |>.mono hbs).trans h)
      have HO4 := hid ho3
      have hs3 := hb3.size
      have HB4 := hid (HB.out.below hb3 (by omega))
      clear ho3 hc
      go_roundw
      case rel => exact ⟨k + 1, J ++ [x], a3, c3, by omega, by go_num, by simp, HO4.out, hid (hJ.out.trans hst.out), hid (by simp; have := hln.out; omega), hb.trans (hb3.mono (by omega)), by omega, HB4.out⟩
      case measure => simp [intOf]; omega
    · obtain rfl : k = n := by omega
      have d1 : decide ((k : Int) < (k : Int)) = false := decide_eq_false (by omega)
      have hfin : Hid (againL off k (out ++ D) = J) := hid (by rw [hJ.out, Nat.sub_self]; rfl)
      have HV := hid (own_bytes2 rfl ho)
      clear ho
      go_wp2
      go_ret
      rw [hfin.out]
      exact ⟨_, rfl, rBytes.mono HV.out fun q hq => ⟨by omega, hq.2⟩, hb⟩
end Go.Proofs.Ytgcdbnbdbjaijaa
namespace Go.Proofs.Ytgcdbnbdbjaijaa
open Go.RowKit Go.Bs Go.Maps
set_option linter.unusedVariables false
set_option linter.unusedSimpArgs false

theorem headR_le (x : Nat) : headR x ≤ 1048576 := by
  unfold headR
  split
  · omega
  · split
    · omega
    · omega
structure YInv (w W : World) (B : List UInt8) (a : Option Addr) (c : Nat) (s : Rs) (out : List UInt8) (aO : Option Addr) (cO : Nat) : Prop where
  cb : Blk W (w.heap.size + 1) 61 #[.slice a B.length c, .int .i64 (s.p : Int), .int .i64 s.k, .int .i64 s.f]
  fl : Blk W w.heap.size 48 #[.int .i64 0, .int .i64 0]
  ok : s.ok B.length
  k : s.k = 0
  own : rBytes.r (fun q => w.heap.size + 2 ≤ q ∧ q < W.heap.size) W [.slice aO out.length cO] out
  be : Below w.heap.size w W
def exMuC (L g : Nat) (W : World) : Nat := L - (cellI W g 1).toNat
theorem YInv.mu {w W : World} {B : List UInt8} {a : Option Addr} {c : Nat} {s : Rs} {out : List UInt8} {aO : Option Addr} {cO : Nat} (h : YInv w W B a c s out aO cO) : exMuC B.length (w.heap.size + 1) W = B.length - s.p := by
  have c1 := h.cb.cell 1
  simp at c1
  unfold exMuC cellI
  rw [c1]
  simp [intOf]

set_option maxRecDepth 100000 in
set_option maxHeartbeats 12800000 in
theorem ref12_bytes (w : World) (B : List UInt8) (a : Option Addr) (n c : Nat) (hl : rBytes.r (· < w.heap.size) w [.slice a n c] B) (hB : B.length ≤ 1000000000) (bound : Int) (hbd : -9223372036854775808 ≤ bound ∧ bound ≤ 1048576) :
    Calls Try.prog 41 #[.slice a n c, .int .i64 bound] w fun r w' => ∃ v, r = .returned (.tuple #[v, .agg #[.int .i64 (exB B bound).2.1, .int .i64 (exB B bound).2.2]]) ∧ rBytes.r (fun q => w.heap.size ≤ q ∧ q < w'.heap.size) w' [v] (exB B bound).1 ∧ Below w.heap.size w w' := by
  obtain ⟨rfl, hm, hcc, hcm⟩ := sl_len hl
  have HL := hid hl
  have HEB := hid (exB_is B bound)
  clear hl
  go_enter Try.func41, Try.ntmps41
  go_wp2_with fail
  refine wp_world (fun W => YInv w W B a c ⟨0, 0, 0⟩ [] none 0) ⟨by (repeat (first | assumption | exact Blk.newAt _ _ _ (by first | (simp; done) | (simp; omega)) | refine Blk.alloc ?_ _ | refine Blk.drew ?_ | refine Blk.drewN ?_ _ | refine Blk.far ?_ (by first | (simp; done) | (simp; omega)) _)), by (repeat (first | assumption | exact Blk.newAt _ _ _ (by first | (simp; done) | (simp; omega)) | refine Blk.alloc ?_ _ | refine Blk.drew ?_ | refine Blk.drewN ?_ _ | refine Blk.far ?_ (by first | (simp; done) | (simp; omega)) _)), ⟨Nat.zero_le _, fun _ => rfl⟩, rfl, empty_bytes rfl rfl (by omega), by (repeat (first | with_reducible exact Below.refl _ _ | with_reducible assumption | (with_reducible refine below_alloc ?_ _) | (with_reducible refine Below.setCell ?_ (by first | omega | (simp; done) | (simp; omega)) _) | (with_reducible refine Below.drew ?_) | (with_reducible refine below_drewN ?_ _) | (refine below_then (by with_reducible assumption) ?_)))⟩ ?_
  intro W0 hW0
  have HW0 := hid hW0
  clear hW0
  go_loopw [7] (fun o wr => ∃ (s : Rs) (out : List UInt8) (aO : Option Addr) (cO : Nat), o = .slice aO out.length cO ∧ YInv w wr B a c s out aO cO ∧ Hid (exR B bound s out = exR B bound ⟨0, 0, 0⟩ []) ∧ exIn bound out) (fun _ wr => exMuC B.length (w.heap.size + 1) wr)
  case atStart => exact ⟨⟨0, 0, 0⟩, [], none, 0, rfl, HW0.out, hid rfl, .inl rfl⟩
  case round =>
    obtain ⟨s, out, aO, cO, rfl, hI, hex, hin⟩ := hrel
    have hlen := exIn_len hin hbd
    have hok := hI.ok
    have hk := hI.k
    have hpl := hok.le
    have HI := hid hI
    have HIN := hid hin
    obtain ⟨x0, x1, x2, x3, e0, e1, e2, e3, l0⟩ := c_blk hI.cb
    have hbw := hI.be
    have hzw : w.heap.size + 1 < wr.heap.size := hI.cb.lt
    clear hI hin
    by_cases hp : s.p < B.length
    · have d0 : decide ((s.p : Int) < (B.length : Int)) = true := decide_eq_true (by omega)
      have d0' : decide (s.p < B.length) = true := decide_eq_true hp
      have hgo := exR_go (bound := bound) (out := out) hok hp hk
      rw [hex.out] at hgo
      have HGO := hid hgo
      have HMORE := hid (exStep_more (B := B) (bound := bound) (s := s) (out := out))
      have hin2 := hid (exIn_step (B := B) (s := s) HIN.out)
      have hA := refA (B := B) (bound := bound) (s := s) (out := out)
      have hNB := ref_num_bad (B := B) (bound := bound) (s := s) (out := out)
      have hLG := ref_long (B := B) (bound := bound) (s := s) (out := out)
      have hGD := ref_good (B := B) (bound := bound) (s := s) (out := out)
      have hesok := exStep_ok (B := B) (bound := bound) (s := s) (out := out) hok
      unfold bndF at hA
      have hsm := Rs.num_small (B := B) (s := s)
      have hR := hid (fun (W : World) (hW : Below w.heap.size w W) => ref04_read W a c B (lift HL.out hW) s hok (by omega))
      have hT := hid (fun (W : World) (hW : Below w.heap.size w W) => ref11_read W a c B (lift HL.out hW) s hok (by omega))
      have hHD := hid (fun (W : World) => ref12_head W (s.num B).2 hsm)
      have HBAD : Hid ((exStep B bound s out).1.k ≠ 0 → exB B bound = ([], (exStep B bound s out).1.k, (exStep B bound s out).1.f)) := hid fun h => by
        rw [HEB.out, HGO.out, exR_stop (fun e => h e.2), if_neg h]
      generalize exStep B bound s out = ES at *
      generalize s.tok B = T at *
      generalize s.num B = N at *
      obtain ⟨s1, x⟩ := N
      obtain ⟨s2, tk⟩ := T
      obtain ⟨D, off, ln⟩ := tk
      dsimp only at *
      have hRle := headR_le x
      generalize hRx : headR x = R at *
      have HK := hid hk
      unfold CV at *
      clear hgo hk hok hRx
      by_cases hk1 : s1.k = 0
      · have dk : (s1.k == (0 : Int)) = true := by simp [hk1]
        by_cases hR0 : 0 < R
        · have dR : decide ((0 : Int) < (R : Int)) = true := decide_eq_true (by omega)
          have dR' : decide (0 < R) = true := decide_eq_true hR0
          by_cases hb : bound < (out.length : Int) + (R : Int)
          · have db : decide (bound < (out.length : Int) + (R : Int)) = true := decide_eq_true hb
            have hes := hA ⟨hk1, hR0, hb⟩
            have hbad := HBAD.out (by rw [hes.1]; omega)
            rw [hes.1, hes.2] at hbad
            have HX := hid hbad
            clear hA hNB hLG hGD hk1 hR0 hb hes hbad
            go_wp2_with fail
            refine (hR.out _ (by (repeat (first | with_reducible exact Below.refl _ _ | with_reducible assumption | (with_reducible refine below_alloc ?_ _) | (with_reducible refine Below.setCell ?_ (by first | omega | (simp; done) | (simp; omega)) _) | (with_reducible refine Below.drew ?_) | (with_reducible refine below_drewN ?_ _) | (refine below_then (by with_reducible assumption) ?_))))).mono ?_
            rintro r w1 ⟨rfl, hb1⟩
            have hbw1 : Below w.heap.size w w1 := below_then hb1 hbw
            have B1 := HI.out.cb.later hb1
            have F1 := HI.out.fl.later hb1
            obtain ⟨v0, v1, v2, v3, q0, q1, q2, q3, l1⟩ := c_blk B1
            clear x0 x1 x2 x3 e0 e1 e2 e3 l0

            go_wp2_with fail
            refine (hHD.out _).mono ?_
            rintro r w1' ⟨rfl, rfl⟩

            go_wp2_with fail
            refine (hHD.out _).mono ?_
            rintro r w1' ⟨rfl, rfl⟩

            go_wp2_with fail
            refine (ref01_at _ 11 _ (by omega)).mono ?_
            rintro r w2 ⟨rfl, hb2⟩
            have hbw2 : Below w.heap.size w w2 := by (repeat (first | with_reducible exact Below.refl _ _ | with_reducible assumption | (with_reducible refine below_alloc ?_ _) | (with_reducible refine Below.setCell ?_ (by first | omega | (simp; done) | (simp; omega)) _) | (with_reducible refine Below.drew ?_) | (with_reducible refine below_drewN ?_ _) | (refine below_then (by with_reducible assumption) ?_)))
            obtain ⟨y0, y1, g0, g1, l2⟩ := f_blk ((F1.alloc _).later hb2)
            clear B1 F1
            go_wp2
            refine bodyPost_ret (v := .tuple #[.slice none 0 0, .agg #[.int .i64 11, .int .i64 (s.p : Int)]]) (by simp [results, Try.results41, go_sem, y0, y1, l2]) rfl ⟨_, by rw [HX.out], by rw [HX.out]; exact empty_bytes rfl rfl (by omega), by (repeat (first | with_reducible exact Below.refl _ _ | with_reducible assumption | (with_reducible refine below_alloc ?_ _) | (with_reducible refine Below.setCell ?_ (by first | omega | (simp; done) | (simp; omega)) _) | (with_reducible refine Below.drew ?_) | (with_reducible refine below_drewN ?_ _) | (refine below_then (by with_reducible assumption) ?_)))⟩
          · have db : decide (bound < (out.length : Int) + (R : Int)) = false := decide_eq_false hb
            have hgd := hGD hk1 hR0 (by omega)
            clear hA hNB hLG hGD hk1
            by_cases hk2 : s2.k = 0
            · have dk2 : (s2.k != (0 : Int)) = false := by simp [hk2]
              rw [if_pos hk2] at hgd
              by_cases ho : (out.length : Int) < off
              · have dho : decide ((out.length : Int) < off) = true := decide_eq_true ho
                rw [if_pos ho] at hgd
                have hbad := HBAD.out (by rw [hgd.1]; omega)
                rw [hgd.1, hgd.2] at hbad
                have HX := hid hbad
                clear hgd hbad hR0 hb hk2 ho
                go_wp2_with fail
                refine (hR.out _ (by (repeat (first | with_reducible exact Below.refl _ _ | with_reducible assumption | (with_reducible refine below_alloc ?_ _) | (with_reducible refine Below.setCell ?_ (by first | omega | (simp; done) | (simp; omega)) _) | (with_reducible refine Below.drew ?_) | (with_reducible refine below_drewN ?_ _) | (refine below_then (by with_reducible assumption) ?_))))).mono ?_
                rintro r w1 ⟨rfl, hb1⟩
                have hbw1 : Below w.heap.size w w1 := below_then hb1 hbw
                have B1 := HI.out.cb.later hb1
                have F1 := HI.out.fl.later hb1
                obtain ⟨v0, v1, v2, v3, q0, q1, q2, q3, l1⟩ := c_blk B1
                clear x0 x1 x2 x3 e0 e1 e2 e3 l0

                go_wp2_with fail
                refine (hHD.out _).mono ?_
                rintro r w1' ⟨rfl, rfl⟩

                go_wp2_with fail
                refine (hHD.out _).mono ?_
                rintro r w1' ⟨rfl, rfl⟩

                go_wp2_with fail
                refine (hT.out _ (by (repeat (first | with_reducible exact Below.refl _ _ | with_reducible assumption | (with_reducible refine below_alloc ?_ _) | (with_reducible refine Below.setCell ?_ (by first | omega | (simp; done) | (simp; omega)) _) | (with_reducible refine Below.drew ?_) | (with_reducible refine below_drewN ?_ _) | (refine below_then (by with_reducible assumption) ?_))))).mono ?_
                rintro r w2 ⟨v, rfl, hr, hb2⟩
                have hbw2 : Below w.heap.size w w2 := by (repeat (first | with_reducible exact Below.refl _ _ | with_reducible assumption | (with_reducible refine below_alloc ?_ _) | (with_reducible refine Below.setCell ?_ (by first | omega | (simp; done) | (simp; omega)) _) | (with_reducible refine Below.drew ?_) | (with_reducible refine below_drewN ?_ _) | (refine below_then (by with_reducible assumption) ?_)))
                have B2 := (B1.alloc _).later hb2
                have F2 := (F1.alloc _).later hb2
                have H2 := Blk.later (Blk.newAt w1 _ _ rfl) hb2
                have hz2 := hb2.size
                simp at hz2
                obtain ⟨aD, cD, hv, hr2, _⟩ := sl_form hr
                simp only [List.cons.injEq, and_true] at hv
                subst hv
                have HR := hid (rBytes.mono (S' := (· < w2.heap.size)) hr2 fun q hq => hq.2)
                have HB1 := hid hb1
                have HB2 := hid hb2
                clear hr hr2 v0 v1 v2 v3 q0 q1 q2 q3 hb1 hb2

                obtain ⟨v0, v1, v2, v3, q0, q1, q2, q3, l4⟩ := c_blk H2
                go_wp2_with fail
                refine (ref01_at _ 10 _ (by omega)).mono ?_
                rintro r w3 ⟨rfl, hb3⟩
                have hbw3 : Below w.heap.size w w3 := by (repeat (first | with_reducible exact Below.refl _ _ | with_reducible assumption | (with_reducible refine below_alloc ?_ _) | (with_reducible refine Below.setCell ?_ (by first | omega | (simp; done) | (simp; omega)) _) | (with_reducible refine Below.drew ?_) | (with_reducible refine below_drewN ?_ _) | (refine below_then (by with_reducible assumption) ?_)))
                obtain ⟨y0, y1, g0, g1, l3⟩ := f_blk (((F2.alloc _).alloc _).later hb3)
                clear B1 F1 B2 F2 H2
                go_wp2
                refine bodyPost_ret (v := .tuple #[.slice none 0 0, .agg #[.int .i64 10, .int .i64 (s1.p : Int)]]) (by simp [results, Try.results41, go_sem, y0, y1, l3]) rfl ⟨_, by rw [HX.out], by rw [HX.out]; exact empty_bytes rfl rfl (by omega), by (repeat (first | with_reducible exact Below.refl _ _ | with_reducible assumption | (with_reducible refine below_alloc ?_ _) | (with_reducible refine Below.setCell ?_ (by first | omega | (simp; done) | (simp; omega)) _) | (with_reducible refine Below.drew ?_) | (with_reducible refine below_drewN ?_ _) | (refine below_then (by with_reducible assumption) ?_)))⟩
              · have dho : decide ((out.length : Int) < off) = false := decide_eq_false ho
                rw [if_neg ho] at hgd
                obtain ⟨hes, hcs⟩ := hgd
                subst hes
                dsimp only at *
                obtain ⟨offn, rfl⟩ : ∃ k : Nat, off = k := ⟨off.toNat, by omega⟩
                obtain ⟨lnn, rfl⟩ : ∃ k : Nat, ln = k := ⟨ln.toNat, by omega⟩
                rw [show ((offn : Int)).toNat = offn by omega, show ((lnn : Int)).toNat = lnn by omega] at *
                have dho' : decide (out.length < offn) = false := decide_eq_false (by omega)
                have hc2 : lnn = 0 ∨ (D = [] ∧ 1 ≤ offn ∧ offn ≤ out.length) := by
                  rcases hcs with h | h
                  · left; omega
                  · right; exact ⟨h.1, by omega, by omega⟩
                have hsz : out.length + D.length + lnn ≤ 1000000000 := by
                  rcases hcs with h | h
                  · omega
                  · rw [h.1]; simp; omega
                have HC2 := hid hc2
                have HK2 := hid hk2
                clear hR0 hb hk2 ho hcs hc2
                go_wp2_with fail
                refine (hR.out _ (by (repeat (first | with_reducible exact Below.refl _ _ | with_reducible assumption | (with_reducible refine below_alloc ?_ _) | (with_reducible refine Below.setCell ?_ (by first | omega | (simp; done) | (simp; omega)) _) | (with_reducible refine Below.drew ?_) | (with_reducible refine below_drewN ?_ _) | (refine below_then (by with_reducible assumption) ?_))))).mono ?_
                rintro r w1 ⟨rfl, hb1⟩
                have hbw1 : Below w.heap.size w w1 := below_then hb1 hbw
                have B1 := HI.out.cb.later hb1
                have F1 := HI.out.fl.later hb1
                obtain ⟨v0, v1, v2, v3, q0, q1, q2, q3, l1⟩ := c_blk B1
                clear x0 x1 x2 x3 e0 e1 e2 e3 l0

                go_wp2_with fail
                refine (hHD.out _).mono ?_
                rintro r w1' ⟨rfl, rfl⟩

                go_wp2_with fail
                refine (hHD.out _).mono ?_
                rintro r w1' ⟨rfl, rfl⟩

                go_wp2_with fail
                refine (hT.out _ (by (repeat (first | with_reducible exact Below.refl _ _ | with_reducible assumption | (with_reducible refine below_alloc ?_ _) | (with_reducible refine Below.setCell ?_ (by first | omega | (simp; done) | (simp; omega)) _) | (with_reducible refine Below.drew ?_) | (with_reducible refine below_drewN ?_ _) | (refine below_then (by with_reducible assumption) ?_))))).mono ?_
                rintro r w2 ⟨v, rfl, hr, hb2⟩
                have hbw2 : Below w.heap.size w w2 := by (repeat (first | with_reducible exact Below.refl _ _ | with_reducible assumption | (with_reducible refine below_alloc ?_ _) | (with_reducible refine Below.setCell ?_ (by first | omega | (simp; done) | (simp; omega)) _) | (with_reducible refine Below.drew ?_) | (with_reducible refine below_drewN ?_ _) | (refine below_then (by with_reducible assumption) ?_)))
                have B2 := (B1.alloc _).later hb2
                have F2 := (F1.alloc _).later hb2
                have H2 := Blk.later (Blk.newAt w1 _ _ rfl) hb2
                have hz2 := hb2.size
                simp at hz2
                obtain ⟨aD, cD, hv, hr2, _⟩ := sl_form hr
                simp only [List.cons.injEq, and_true] at hv
                subst hv
                have HR := hid (rBytes.mono (S' := (· < w2.heap.size)) hr2 fun q hq => hq.2)
                have HB1 := hid hb1
                have HB2 := hid hb2
                clear hr hr2 v0 v1 v2 v3 q0 q1 q2 q3 hb1 hb2

                have hown2 : rBytes.r (· < w2.heap.size) w2 [.slice aO out.length cO] out := rBytes.mono (rBytes.keep HI.out.own fun q hq => (HB2.out.block q (by have := HB1.out.size; simp; omega)).trans ((Below.heap_alloc _ _ q (by have := HB1.out.size; omega)).trans (HB1.out.block q hq.2))) fun q hq => by have := HB1.out.size; omega
                have HO2 := hid hown2
                clear hown2
                go_wp2_with fail
                refine (ref12_with _ out aO _ cO (lift HO2.out (by (repeat (first | with_reducible exact Below.refl _ _ | with_reducible assumption | (with_reducible refine below_alloc ?_ _) | (with_reducible refine Below.setCell ?_ (by first | omega | (simp; done) | (simp; omega)) _) | (with_reducible refine Below.drew ?_) | (with_reducible refine below_drewN ?_ _) | (refine below_then (by with_reducible assumption) ?_))))) D aD _ cD (lift HR.out (by (repeat (first | with_reducible exact Below.refl _ _ | with_reducible assumption | (with_reducible refine below_alloc ?_ _) | (with_reducible refine Below.setCell ?_ (by first | omega | (simp; done) | (simp; omega)) _) | (with_reducible refine Below.drew ?_) | (with_reducible refine below_drewN ?_ _) | (refine below_then (by with_reducible assumption) ?_))))) offn lnn HC2.out hsz).mono ?_
                rintro r w3 ⟨v, rfl, hr, hb3⟩
                have hbw3 : Below w.heap.size w w3 := by (repeat (first | with_reducible exact Below.refl _ _ | with_reducible assumption | (with_reducible refine below_alloc ?_ _) | (with_reducible refine Below.setCell ?_ (by first | omega | (simp; done) | (simp; omega)) _) | (with_reducible refine Below.drew ?_) | (with_reducible refine below_drewN ?_ _) | (refine below_then (by with_reducible assumption) ?_)))
                have B3 := ((B2.alloc _).alloc _).later hb3
                have F3 := ((F2.alloc _).alloc _).later hb3
                have G3 : Blk w3 w2.heap.size 61 #[.slice a B.length c, .int .i64 (s2.p : Int), .int .i64 s2.k, .int .i64 s2.f] := Blk.later (Blk.alloc (Blk.newAt w2 _ _ rfl) _) hb3
                have hz3 := hb3.size
                simp at hz3
                obtain ⟨a3, c3, hv, hr2, _⟩ := sl_form hr
                simp only [List.cons.injEq, and_true] at hv
                subst hv
                have HR3 := hid hr2
                obtain ⟨x0, x1, x2, x3, e0, e1, e2, e3, l0⟩ := c_blk B3
                obtain ⟨v0, v1, v2, v3, q0, q1, q2, q3, l4⟩ := c_blk G3
                have HB3 := hid B3
                have HF3 := hid F3
                clear hr hr2 B1 F1 B2 F2 H2 B3 F3 G3 hb3
                have hpx : s.p < s2.p := (HMORE.out HK2.out).1
                go_wp2
                have hI4 : YInv w ((((w3.setCell ⟨w.heap.size + 1, 0, none⟩ (.slice a B.length c)).setCell ⟨w.heap.size + 1, 1, none⟩ (.int .i64 (s2.p : Int))).setCell ⟨w.heap.size + 1, 2, none⟩ (.int .i64 s2.k)).setCell ⟨w.heap.size + 1, 3, none⟩ (.int .i64 s2.f)) B a c s2 (againL offn lnn (out ++ D)) a3 c3 := by
                  refine ⟨Blk.set (Blk.set (Blk.set (Blk.set HB3.out 0 _) 1 _) 2 _) 3 _, ?_, hesok, HK2.out, ?_, by (repeat (first | with_reducible exact Below.refl _ _ | with_reducible assumption | (with_reducible refine below_alloc ?_ _) | (with_reducible refine Below.setCell ?_ (by first | omega | (simp; done) | (simp; omega)) _) | (with_reducible refine Below.drew ?_) | (with_reducible refine below_drewN ?_ _) | (refine below_then (by with_reducible assumption) ?_)))⟩
                  · exact Blk.far (Blk.far (Blk.far (Blk.far HF3.out (by simp) _) (by simp) _) (by simp) _) (by simp) _
                  · refine rBytes.mono (rBytes.keep HR3.out fun q hq => ?_) fun q hq => ⟨by have := hq.1; simp at this; omega, by have := hq.2; simp [World.setCell]; omega⟩
                    have hq1 := hq.1
                    simp at hq1
                    repeat (rw [Below.heap_setCell _ _ _ _ (by dsimp only; omega)])
                have HI4 := hid hI4
                clear hI4
                go_roundw
                case rel => exact ⟨s2, _, a3, c3, rfl, HI4.out, hid HGO.out.symm, hin2.out⟩
                case measure =>
                  rw [HI4.out.mu, HI.out.mu]
                  omega
            · have dk2 : (s2.k != (0 : Int)) = true := by simp [hk2]
              rw [if_neg hk2] at hgd
              have hbad := HBAD.out (by rw [hgd]; exact hk2)
              rw [hgd] at hbad
              have HX := hid hbad
              clear hgd hbad hR0 hb hk2
              go_wp2_with fail
              refine (hR.out _ (by (repeat (first | with_reducible exact Below.refl _ _ | with_reducible assumption | (with_reducible refine below_alloc ?_ _) | (with_reducible refine Below.setCell ?_ (by first | omega | (simp; done) | (simp; omega)) _) | (with_reducible refine Below.drew ?_) | (with_reducible refine below_drewN ?_ _) | (refine below_then (by with_reducible assumption) ?_))))).mono ?_
              rintro r w1 ⟨rfl, hb1⟩
              have hbw1 : Below w.heap.size w w1 := below_then hb1 hbw
              have B1 := HI.out.cb.later hb1
              have F1 := HI.out.fl.later hb1
              obtain ⟨v0, v1, v2, v3, q0, q1, q2, q3, l1⟩ := c_blk B1
              clear x0 x1 x2 x3 e0 e1 e2 e3 l0

              go_wp2_with fail
              refine (hHD.out _).mono ?_
              rintro r w1' ⟨rfl, rfl⟩

              go_wp2_with fail
              refine (hHD.out _).mono ?_
              rintro r w1' ⟨rfl, rfl⟩

              go_wp2_with fail
              refine (hT.out _ (by (repeat (first | with_reducible exact Below.refl _ _ | with_reducible assumption | (with_reducible refine below_alloc ?_ _) | (with_reducible refine Below.setCell ?_ (by first | omega | (simp; done) | (simp; omega)) _) | (with_reducible refine Below.drew ?_) | (with_reducible refine below_drewN ?_ _) | (refine below_then (by with_reducible assumption) ?_))))).mono ?_
              rintro r w2 ⟨v, rfl, hr, hb2⟩
              have hbw2 : Below w.heap.size w w2 := by (repeat (first | with_reducible exact Below.refl _ _ | with_reducible assumption | (with_reducible refine below_alloc ?_ _) | (with_reducible refine Below.setCell ?_ (by first | omega | (simp; done) | (simp; omega)) _) | (with_reducible refine Below.drew ?_) | (with_reducible refine below_drewN ?_ _) | (refine below_then (by with_reducible assumption) ?_)))
              have B2 := (B1.alloc _).later hb2
              have F2 := (F1.alloc _).later hb2
              have H2 := Blk.later (Blk.newAt w1 _ _ rfl) hb2
              have hz2 := hb2.size
              simp at hz2
              obtain ⟨aD, cD, hv, hr2, _⟩ := sl_form hr
              simp only [List.cons.injEq, and_true] at hv
              subst hv
              have HR := hid (rBytes.mono (S' := (· < w2.heap.size)) hr2 fun q hq => hq.2)
              have HB1 := hid hb1
              have HB2 := hid hb2
              clear hr hr2 v0 v1 v2 v3 q0 q1 q2 q3 hb1 hb2

              obtain ⟨y0, y1, g0, g1, l3⟩ := f_blk F2
              clear B2 F2 H2 B1 F1
              go_wp2_with fail
              go_region
              all_goals
                go_wp2
                refine bodyPost_ret (v := .tuple #[.slice none 0 0, .agg #[.int .i64 s2.k, .int .i64 s2.f]]) (by simp [results, Try.results41, go_sem, y0, y1, l3]) rfl ⟨_, by rw [HX.out], by rw [HX.out]; exact empty_bytes rfl rfl (by omega), by (repeat (first | with_reducible exact Below.refl _ _ | with_reducible assumption | (with_reducible refine below_alloc ?_ _) | (with_reducible refine Below.setCell ?_ (by first | omega | (simp; done) | (simp; omega)) _) | (with_reducible refine Below.drew ?_) | (with_reducible refine below_drewN ?_ _) | (refine below_then (by with_reducible assumption) ?_)))⟩
        · have dR : decide ((0 : Int) < (R : Int)) = false := decide_eq_false (by omega)
          have dR' : decide (0 < R) = false := decide_eq_false hR0
          have hes := hLG hk1 (by omega)
          have hk2 := hes.2
          have dk2 : (s2.k != (0 : Int)) = true := by simp [hk2]
          have hbad := HBAD.out (by rw [hes.1]; exact hk2)
          rw [hes.1] at hbad
          have HX := hid hbad
          clear hA hNB hLG hGD hk1 hR0 hes hbad hk2
          go_wp2_with fail
          refine (hR.out _ (by (repeat (first | with_reducible exact Below.refl _ _ | with_reducible assumption | (with_reducible refine below_alloc ?_ _) | (with_reducible refine Below.setCell ?_ (by first | omega | (simp; done) | (simp; omega)) _) | (with_reducible refine Below.drew ?_) | (with_reducible refine below_drewN ?_ _) | (refine below_then (by with_reducible assumption) ?_))))).mono ?_
          rintro r w1 ⟨rfl, hb1⟩
          have hbw1 : Below w.heap.size w w1 := below_then hb1 hbw
          have B1 := HI.out.cb.later hb1
          have F1 := HI.out.fl.later hb1
          obtain ⟨v0, v1, v2, v3, q0, q1, q2, q3, l1⟩ := c_blk B1
          clear x0 x1 x2 x3 e0 e1 e2 e3 l0

          go_wp2_with fail
          refine (hHD.out _).mono ?_
          rintro r w1' ⟨rfl, rfl⟩

          go_wp2_with fail
          refine (hT.out _ (by (repeat (first | with_reducible exact Below.refl _ _ | with_reducible assumption | (with_reducible refine below_alloc ?_ _) | (with_reducible refine Below.setCell ?_ (by first | omega | (simp; done) | (simp; omega)) _) | (with_reducible refine Below.drew ?_) | (with_reducible refine below_drewN ?_ _) | (refine below_then (by with_reducible assumption) ?_))))).mono ?_
          rintro r w2 ⟨v, rfl, hr, hb2⟩
          have hbw2 : Below w.heap.size w w2 := by (repeat (first | with_reducible exact Below.refl _ _ | with_reducible assumption | (with_reducible refine below_alloc ?_ _) | (with_reducible refine Below.setCell ?_ (by first | omega | (simp; done) | (simp; omega)) _) | (with_reducible refine Below.drew ?_) | (with_reducible refine below_drewN ?_ _) | (refine below_then (by with_reducible assumption) ?_)))
          have B2 := (B1.alloc _).later hb2
          have F2 := (F1.alloc _).later hb2
          have H2 := Blk.later (Blk.newAt w1 _ _ rfl) hb2
          have hz2 := hb2.size
          simp at hz2
          obtain ⟨aD, cD, hv, hr2, _⟩ := sl_form hr
          simp only [List.cons.injEq, and_true] at hv
          subst hv
          have HR := hid (rBytes.mono (S' := (· < w2.heap.size)) hr2 fun q hq => hq.2)
          have HB1 := hid hb1
          have HB2 := hid hb2
          clear hr hr2 v0 v1 v2 v3 q0 q1 q2 q3 hb1 hb2

          obtain ⟨y0, y1, g0, g1, l3⟩ := f_blk F2
          clear B2 F2 H2 B1 F1
          go_wp2_with fail
          go_region
          all_goals
            go_wp2
            refine bodyPost_ret (v := .tuple #[.slice none 0 0, .agg #[.int .i64 s2.k, .int .i64 s2.f]]) (by simp [results, Try.results41, go_sem, y0, y1, l3]) rfl ⟨_, by rw [HX.out], by rw [HX.out]; exact empty_bytes rfl rfl (by omega), by (repeat (first | with_reducible exact Below.refl _ _ | with_reducible assumption | (with_reducible refine below_alloc ?_ _) | (with_reducible refine Below.setCell ?_ (by first | omega | (simp; done) | (simp; omega)) _) | (with_reducible refine Below.drew ?_) | (with_reducible refine below_drewN ?_ _) | (refine below_then (by with_reducible assumption) ?_)))⟩
      · have dk : (s1.k == (0 : Int)) = false := by simp [hk1]
        have hes := hNB hk1
        have hk2 : s2.k ≠ 0 := by rw [hes.2]; exact hk1
        have dk2 : (s2.k != (0 : Int)) = true := by simp [hk2]
        have hbad := HBAD.out (by rw [hes.1]; exact hk2)
        rw [hes.1] at hbad
        have HX := hid hbad
        clear hA hNB hLG hGD hk1 hes hbad hk2
        go_wp2_with fail
        refine (hR.out _ (by (repeat (first | with_reducible exact Below.refl _ _ | with_reducible assumption | (with_reducible refine below_alloc ?_ _) | (with_reducible refine Below.setCell ?_ (by first | omega | (simp; done) | (simp; omega)) _) | (with_reducible refine Below.drew ?_) | (with_reducible refine below_drewN ?_ _) | (refine below_then (by with_reducible assumption) ?_))))).mono ?_
        rintro r w1 ⟨rfl, hb1⟩
        have hbw1 : Below w.heap.size w w1 := below_then hb1 hbw
        have B1 := HI.out.cb.later hb1
        have F1 := HI.out.fl.later hb1
        obtain ⟨v0, v1, v2, v3, q0, q1, q2, q3, l1⟩ := c_blk B1
        clear x0 x1 x2 x3 e0 e1 e2 e3 l0

        go_wp2_with fail
        refine (hT.out _ (by (repeat (first | with_reducible exact Below.refl _ _ | with_reducible assumption | (with_reducible refine below_alloc ?_ _) | (with_reducible refine Below.setCell ?_ (by first | omega | (simp; done) | (simp; omega)) _) | (with_reducible refine Below.drew ?_) | (with_reducible refine below_drewN ?_ _) | (refine below_then (by with_reducible assumption) ?_))))).mono ?_
        rintro r w2 ⟨v, rfl, hr, hb2⟩
        have hbw2 : Below w.heap.size w w2 := by (repeat (first | with_reducible exact Below.refl _ _ | with_reducible assumption | (with_reducible refine below_alloc ?_ _) | (with_reducible refine Below.setCell ?_ (by first | omega | (simp; done) | (simp; omega)) _) | (with_reducible refine Below.drew ?_) | (with_reducible refine below_drewN ?_ _) | (refine below_then (by with_reducible assumption) ?_)))
        have B2 := (B1.alloc _).later hb2
        have F2 := (F1.alloc _).later hb2
        have H2 := Blk.later (Blk.newAt w1 _ _ rfl) hb2
        have hz2 := hb2.size
        simp at hz2
        obtain ⟨aD, cD, hv, hr2, _⟩ := sl_form hr
        simp only [List.cons.injEq, and_true] at hv
        subst hv
        have HR := hid (rBytes.mono (S' := (· < w2.heap.size)) hr2 fun q hq => hq.2)
        have HB1 := hid hb1
        have HB2 := hid hb2
        clear hr hr2 v0 v1 v2 v3 q0 q1 q2 q3 hb1 hb2

        obtain ⟨y0, y1, g0, g1, l3⟩ := f_blk F2
        clear B2 F2 H2 B1 F1
        go_wp2_with fail
        go_region
        all_goals
          go_wp2
          refine bodyPost_ret (v := .tuple #[.slice none 0 0, .agg #[.int .i64 s2.k, .int .i64 s2.f]]) (by simp [results, Try.results41, go_sem, y0, y1, l3]) rfl ⟨_, by rw [HX.out], by rw [HX.out]; exact empty_bytes rfl rfl (by omega), by (repeat (first | with_reducible exact Below.refl _ _ | with_reducible assumption | (with_reducible refine below_alloc ?_ _) | (with_reducible refine Below.setCell ?_ (by first | omega | (simp; done) | (simp; omega)) _) | (with_reducible refine Below.drew ?_) | (with_reducible refine below_drewN ?_ _) | (refine below_then (by with_reducible assumption) ?_)))⟩
    · have d0 : decide ((s.p : Int) < (B.length : Int)) = false := decide_eq_false (by omega)
      have d0' : decide (s.p < B.length) = false := decide_eq_false hp
      have hx := HEB.out
      rw [← hex.out, exR_stop (fun e => hp e.1), if_pos hk] at hx
      have HX := hid hx
      clear hx hex hk hok
      obtain ⟨y0, y1, g0, g1, l1⟩ := f_blk HI.out.fl
      go_wp2
      refine bodyPost_ret (v := .tuple #[.slice aO out.length cO, .agg #[.int .i64 0, .int .i64 0]]) (by simp [results, Try.results41, go_sem, y0, y1, l1]) rfl ⟨_, by rw [HX.out], ?_, by (repeat (first | with_reducible exact Below.refl _ _ | with_reducible assumption | (with_reducible refine below_alloc ?_ _) | (with_reducible refine Below.setCell ?_ (by first | omega | (simp; done) | (simp; omega)) _) | (with_reducible refine Below.drew ?_) | (with_reducible refine below_drewN ?_ _) | (refine below_then (by with_reducible assumption) ?_)))⟩
      rw [HX.out]
      refine rBytes.mono (rBytes.keep HI.out.own fun q hq => ?_) fun q hq => ⟨by omega, by simp [World.setCell]; exact hq.2⟩
      repeat (rw [Below.heap_setCell _ _ _ _ (by dsimp only; omega)])
end Go.Proofs.Ytgcdbnbdbjaijaa
namespace Go.Proofs.Ytgcdbnbdbjaijaa
open Go.RowKit Go.Bs Go.Maps
set_option linter.unusedVariables false
set_option linter.unusedSimpArgs false

theorem vget_varF (rest : List UInt8) : ∀ (f i x y : Nat), f + i = 9 → (0 < i → 0 < x) → x * 128 ^ i < 18446744073709551616 → vget i y (varF f x ++ rest) = (y + x * 128 ^ i, i + (varF f x).length, 0)
  | 0, i, x, y, h, hp, hx => by
    obtain rfl : i = 9 := by omega
    have hx2 : x < 2 := by omega
    have ht : (UInt8.ofNat x).toNat = x := by simp; omega
    have := hp (by omega)
    simp only [varF, List.cons_append, List.nil_append, List.length_cons, List.length_nil]
    unfold vget
    rw [ht, if_neg (by omega), if_neg (by omega), if_pos (by omega)]
  | f + 1, i, x, y, h, hp, hx => by
    simp only [varF]
    by_cases h128 : x < 128
    · rw [if_pos h128]
      have ht : (UInt8.ofNat x).toNat = x := by simp; omega
      simp only [List.cons_append, List.nil_append, List.length_cons, List.length_nil]
      unfold vget
      rw [ht, if_neg (by omega), if_neg (by omega), if_pos (by omega)]
    · rw [if_neg h128]
      have ht : (UInt8.ofNat (128 + x % 128)).toNat = 128 + x % 128 := by simp; omega
      simp only [List.cons_append, List.length_cons]
      unfold vget
      rw [ht, if_neg (by omega), if_neg (by omega), if_neg (by omega)]
      have hdm : x = 128 * (x / 128) + x % 128 := (Nat.div_add_mod x 128).symm
      have he : x / 128 * 128 ^ (i + 1) + x % 128 * 128 ^ i = x * 128 ^ i := by
        rw [Nat.pow_succ]
        generalize 128 ^ i = k
        conv => rhs; rw [hdm]
        rw [Nat.add_mul, Nat.mul_comm k 128, ← Nat.mul_assoc, Nat.mul_comm 128]
      rw [vget_varF rest f (i + 1) (x / 128) _ (by omega) (fun _ => by omega) (by omega)]
      refine Prod.ext ?_ (Prod.ext ?_ rfl)
      · dsimp only
        rw [show (128 + x % 128) % 128 = x % 128 by omega]
        omega
      · dsimp only; omega
theorem vget_varB (x : Nat) (rest : List UInt8) (hx : x < 18446744073709551616) : vget 0 0 (varB x ++ rest) = (x, (varB x).length, 0) := by
  have := vget_varF rest 9 0 x 0 rfl (fun h => by omega) (by simpa using hx)
  unfold varB
  rw [this]; simp
theorem Rs.num_varB {B rest : List UInt8} {p x : Nat} (hx : x < 18446744073709551616) (h : B.drop p = varB x ++ rest) : (⟨p, 0, 0⟩ : Rs).num B = (⟨p + (varB x).length, 0, 0⟩, x) := by
  unfold Rs.num
  rw [if_pos rfl]
  dsimp only
  rw [h, vget_varB x rest hx]
  rfl
theorem drop_more {B D rest : List UInt8} {p : Nat} (h : B.drop p = D ++ rest) : B.drop (p + D.length) = rest := by
  rw [← List.drop_drop, h]; simp
theorem drop_room {B D rest : List UInt8} {p : Nat} (h : B.drop p = D ++ rest) (hp : p ≤ B.length) : p + D.length + rest.length = B.length := by
  have := congrArg List.length h
  simp at this
  omega
theorem Rs.take_pre {B D rest : List UInt8} {p : Nat} (h : B.drop p = D ++ rest) (hp : p ≤ B.length) : (⟨p, 0, 0⟩ : Rs).take B (D.length : Int) = (⟨p + D.length, 0, 0⟩, D) := by
  have hr := drop_room h hp
  unfold Rs.take Rs.skip
  rw [if_pos rfl, if_neg (by omega), if_neg (by dsimp only; omega)]
  simp [h]
theorem Rs.byte_pre {B rest : List UInt8} {p : Nat} {x : UInt8} (h : B.drop p = x :: rest) (hp : p ≤ B.length) : (⟨p, 0, 0⟩ : Rs).byte B = (⟨p + 1, 0, 0⟩, x) := by
  have hr := drop_room (D := [x]) h hp
  simp at hr
  have hx : B.getD p 0 = x := by
    have : (B.drop p)[0]? = some x := by rw [h]; rfl
    simp at this
    simp [List.getD, this]
  unfold Rs.byte Rs.skip
  rw [if_pos rfl, if_neg (by omega), if_neg (by dsimp only; omega)]
  dsimp only
  rw [if_pos rfl, hx]
  rfl
theorem Rs.int_pre {B rest : List UInt8} {p x : Nat} {m : Int} (hx : x < 18446744073709551616) (h : B.drop p = varB x ++ rest) (hm : (x : Int) ≤ m) : (⟨p, 0, 0⟩ : Rs).int B m = (⟨p + (varB x).length, 0, 0⟩, x) := by
  unfold Rs.int Rs.most
  rw [if_pos (by omega), Rs.num_varB hx h, if_neg (by dsimp only; omega)]
theorem Rs.blob_pre {B D rest : List UInt8} {p : Nat} {m : Int} (hx : D.length < 18446744073709551616) (h : B.drop p = blobB D ++ rest) (hp : p ≤ B.length) (hm : (D.length : Int) ≤ m) : (⟨p, 0, 0⟩ : Rs).blob B m = (⟨p + (blobB D).length, 0, 0⟩, D) := by
  unfold blobB at h
  rw [List.append_assoc] at h
  have h2 := drop_more h
  have hr := drop_room h hp
  unfold Rs.blob
  rw [Rs.int_pre hx h hm]
  dsimp only
  rw [Rs.take_pre h2 (by omega)]
  simp [blobB, Nat.add_assoc]

theorem againL_take {b : List UInt8} {o : Nat} : ∀ (m p : Nat), p + m ≤ b.length → 1 ≤ o → o ≤ p → (∀ k, k < m → b[p + k]? = b[p + k - o]?) → againL o m (b.take p) = b.take (p + m)
  | 0, p, _, _, _, _ => rfl
  | m + 1, p, h, h1, h2, hs => by
    have h0 := hs 0 (by omega)
    have hb : b[p]? = some b[p] := by simp
    simp only [Nat.add_zero] at h0
    have e : b.take p ++ [(b.take p).getD ((b.take p).length - o) 0] = b.take (p + 1) := by
      rw [List.length_take, Nat.min_eq_left (by omega)]
      have : (b.take p).getD (p - o) 0 = b[p] := by
        have : (b.take p)[p - o]? = some b[p] := by rw [List.getElem?_take_of_lt (by omega), ← h0, hb]
        simp [List.getD, this]
      rw [this]
      rw [List.take_add_one, hb]; rfl
    simp only [againL]
    rw [e, againL_take m (p + 1) (by omega) h1 (by omega) (fun k hk => by
      have := hs (k + 1) (by omega)
      rw [show p + 1 + k = p + (k + 1) by omega]
      exact this)]
    rw [show p + 1 + m = p + (m + 1) by omega]

theorem exR_good {b B : List UInt8} {bound : Int} (hb : b.length ≤ 1048576) (hbd : (b.length : Int) ≤ bound) {f : Bool} {p : Nat} {ts : List Tok} (hg : Good b f p ts) : p ≤ b.length → ∀ q, q ≤ B.length → B.drop q = tokensB ts → exR B bound ⟨q, 0, 0⟩ (b.take p) = (⟨B.length, 0, 0⟩, b) := by
  induction hg with
  | nil =>
    intro _ q hq h
    have : B.length ≤ q := by simpa [tokensB] using h
    obtain rfl : q = B.length := by omega
    rw [exR_stop (by simp)]
    simp
  | @copy f p o m rest hp hbe hm hg ih =>
    intro _ q hq h
    rcases bestR_facts b p with h0 | ⟨o', m', he, h1, h2, h4, hml, _, _⟩
    · rw [hbe] at h0; simp at h0; omega
    · rw [hbe] at he
      simp only [Prod.mk.injEq] at he
      obtain ⟨rfl, rfl⟩ := he
      have hmb := mlen_le b p o
      have hre : reach p ≤ p ∧ reach p ≤ 65536 := by unfold reach; omega
      have ht : tokensB (⟨[], (o : Int), (m : Int)⟩ :: rest) = varB (2 * m - 7) ++ (varB (o - 1) ++ tokensB rest) := by
        simp only [tokensB, List.map_cons, List.flatten_cons]
        rw [tokB_copy o m h1, List.append_assoc]
      rw [ht] at h
      have hd1 := drop_more h
      have hr1 := drop_room h hq
      have hd2 := drop_more hd1
      have hr2 := drop_room hd1 (by omega)
      have hl1 := (varB_len (2 * m - 7)).2
      have hN := Rs.num_varB (by omega) h
      have hN2 := Rs.num_varB (p := q + (varB (2 * m - 7)).length) (by omega) hd1
      have hH : (⟨q, 0, 0⟩ : Rs).head B = (⟨q + (varB (2 * m - 7)).length, 0, 0⟩, true, m) := by
        unfold Rs.head
        rw [hN]
        dsimp only
        rw [if_pos rfl, if_pos (by omega), if_neg (by omega), show (2 * m - 7) / 2 + 4 = m by omega]
      have hO : (⟨q + (varB (2 * m - 7)).length, 0, 0⟩ : Rs).offset B = (⟨q + (varB (2 * m - 7)).length + (varB (o - 1)).length, 0, 0⟩, o) := by
        unfold Rs.offset
        rw [hN2]
        dsimp only
        rw [if_neg (by omega), if_pos rfl, show o - 1 + 1 = o by omega]
      have hlen : (b.take p).length = p := by simp; omega
      have hS : exStep B bound ⟨q, 0, 0⟩ (b.take p) = (⟨q + (varB (2 * m - 7)).length + (varB (o - 1)).length, 0, 0⟩, b.take (p + m)) := by
        unfold exStep
        rw [hH]
        dsimp only
        rw [hlen, if_neg (by omega), if_neg (by simp), hO]
        dsimp only
        rw [if_neg (by omega), if_pos rfl, againL_take m p (by omega) h1 (by omega) (fun k hk => (mlen_same (by omega)).2.2.2)]
      rw [exR_go ⟨hq, fun _ => rfl⟩ (by dsimp only; omega) rfl, hS]
      exact ih (by omega) _ (by omega) hd2
  | @run p q' rest hlt hle hno hg ih =>
    intro _ q hq h
    have hD : ((b.drop p).take (q' - p)).length = q' - p := by simp; omega
    generalize hDe : (b.drop p).take (q' - p) = D at *
    have ht : tokensB (⟨D, 0, 0⟩ :: rest) = varB (2 * D.length - 2) ++ (D ++ tokensB rest) := by
      simp only [tokensB, List.map_cons, List.flatten_cons]
      rw [tokB_run D (by omega) (by omega), List.append_assoc]
    rw [ht] at h
    have hd1 := drop_more h
    have hr1 := drop_room h hq
    have hd2 := drop_more hd1
    have hr2 := drop_room hd1 (by omega)
    have hl1 := (varB_len (2 * D.length - 2)).2
    have hN := Rs.num_varB (by omega) h
    have hH : (⟨q, 0, 0⟩ : Rs).head B = (⟨q + (varB (2 * D.length - 2)).length, 0, 0⟩, false, D.length) := by
      unfold Rs.head
      rw [hN]
      dsimp only
      rw [if_pos rfl, if_neg (by omega), if_neg (by omega), show (2 * D.length - 2) / 2 + 1 = D.length by omega]
    have hlen : (b.take p).length = p := by simp; omega
    have hS : exStep B bound ⟨q, 0, 0⟩ (b.take p) = (⟨q + (varB (2 * D.length - 2)).length + D.length, 0, 0⟩, b.take q') := by
      unfold exStep
      rw [hH]
      dsimp only
      rw [hlen, if_neg (by omega), if_pos rfl, Rs.take_pre hd1 (by omega)]
      rw [← hDe]
      refine Prod.ext rfl ?_
      dsimp only
      have : b.take q' = b.take p ++ (b.drop p).take (q' - p) := by
        rw [← List.take_append_drop p (b.take q'), List.take_take, Nat.min_eq_left (by omega), List.drop_take]
      exact this.symm
    rw [exR_go ⟨hq, fun _ => rfl⟩ (by dsimp only; omega) rfl, hS]
    exact ih (by omega) _ (by omega) hd2
/-- What is compressed is expanded to what it was. -/
theorem exB_press {b : List UInt8} {bound : Int} (hb : b.length ≤ 1048576) (hbd : (b.length : Int) ≤ bound) : exB (pressB b) bound = (b, 0, 0) := by
  have := exR_good (B := pressB b) hb hbd (good_toksR b) (by omega) 0 (by omega) rfl
  rw [exB_is]
  simp only [List.take_zero] at this
  rw [this, if_pos rfl]
/-- What is put is read. -/
theorem Rs.loose_block {B D rest : List UInt8} {p : Nat} {most : Int} (h : B.drop p = blockB D ++ rest) (hp : p ≤ B.length) (hD : D.length ≤ 1048576) (hm : (D.length : Int) ≤ most) :
    (⟨p, 0, 0⟩ : Rs).loose B most = (⟨p + (blockB D).length, 0, 0⟩, D, true) := by
  have htk : (B.drop p).take (blockB D).length = blockB D := by rw [h]; simp
  have h' := h
  unfold blockB at h
  rw [List.append_assoc] at h
  have hd1 := drop_more h
  have hr1 := drop_room h hp
  have hI := Rs.int_pre (m := min most 1048576) (by omega) h (by omega)
  unfold Rs.loose
  rw [hI]
  dsimp only
  cases hpk : packR D
  · rw [hpk] at hd1
    rw [if_neg (by simp)] at hd1
    have hd2 := drop_more (D := [0]) hd1
    have hr2 := drop_room (D := [0]) hd1 (by omega)
    simp only [List.length_cons, List.length_nil, Nat.zero_add] at hd2 hr2
    rw [Rs.byte_pre hd1 (by omega)]
    dsimp only
    rw [if_pos rfl, if_pos (by rfl), Rs.take_pre hd2 (by omega)]
    dsimp only
    rw [if_pos rfl]
    have hl : (blockB D).length = (varB D.length).length + (1 + D.length) := by simp [blockB, hpk]; omega
    rw [show p + (varB D.length).length + 1 + D.length = p + (blockB D).length by omega, show p + (blockB D).length - p = (blockB D).length by omega, htk]
    simp
  · have hpl : (blobB (pressB D)).length < D.length := of_decide_eq_true hpk
    have hpl2 := blobB_len (pressB D)
    rw [hpk] at hd1
    rw [if_pos rfl] at hd1
    have hd2 := drop_more (D := [1]) hd1
    have hr2 := drop_room (D := [1]) hd1 (by omega)
    simp only [List.length_cons, List.length_nil, Nat.zero_add] at hd2 hr2
    rw [Rs.byte_pre hd1 (by omega)]
    dsimp only
    rw [if_pos rfl, if_neg (by decide), if_pos (by rfl)]
    have hB := Rs.blob_pre (m := 1048576) (by omega) hd2 (by omega) (by omega)
    have hU : (⟨p + (varB D.length).length + 1, 0, 0⟩ : Rs).unp B D.length = (⟨p + (varB D.length).length + 1 + (blobB (pressB D)).length, 0, 0⟩, D) := by
      unfold Rs.unp
      rw [hB]
      dsimp only
      rw [exB_press hD (Int.le_refl _)]
      dsimp only
      rw [if_pos rfl, if_pos rfl, if_neg (by omega)]
    rw [hU]
    dsimp only
    rw [if_pos rfl]
    have hl : (blockB D).length = (varB D.length).length + (1 + (blobB (pressB D)).length) := by simp [blockB, hpk]; omega
    rw [show p + (varB D.length).length + 1 + (blobB (pressB D)).length = p + (blockB D).length by omega, show p + (blockB D).length - p = (blockB D).length by omega, htk]
    simp
end Go.Proofs.Ytgcdbnbdbjaijaa
namespace Go.Proofs.Ytgcdbnbdbjaijaa
open Go.RowKit Go.Bs Go.Maps
set_option linter.unusedVariables false
set_option linter.unusedSimpArgs false

def tokN (t : Tok) : Int := if rightB t = true then (if t.off = 0 then (t.lit.length : Int) else t.len) else 0
def wrongR (t : Tok) (made bound : Int) : Int := if rightB t = true then (if bound - made < tokN t then 11 else if made < t.off then 10 else 0) else 3
theorem tokN_le (t : Tok) : 0 ≤ tokN t ∧ tokN t ≤ 1048576 := by
  unfold tokN
  by_cases h : rightB t = true
  · rw [if_pos h]
    rcases right_forms h with ⟨D, rfl, h1, h2⟩ | ⟨o, m, rfl, h1, h2, h3, h4⟩
    · rw [if_pos rfl]; dsimp only; omega
    · rw [if_neg (by dsimp only; omega)]; dsimp only; omega
  · rw [if_neg h]; omega
theorem run_off {t : Tok} (h : runB t = true) : t.off = 0 ∧ rightB t = true := by
  refine ⟨?_, by simp [rightB, h]⟩
  simp only [runB, Bool.and_eq_true, decide_eq_true_eq] at h
  first | exact h.1.1.1 | omega | (simp at h; omega)
theorem copy_off {t : Tok} (h : copyB t = true) : t.off ≠ 0 ∧ rightB t = true := by
  refine ⟨?_, by simp [rightB, h]⟩
  simp only [copyB, Bool.and_eq_true, decide_eq_true_eq] at h
  omega
set_option maxRecDepth 100000 in
theorem token_len (x : Tok) (a : Option Addr) (c : Nat) (w : World) (hl : x.lit.length ≤ 9223372036854775807) (h1 : -9223372036854775808 ≤ x.off ∧ x.off ≤ 9223372036854775807) (h2 : -9223372036854775808 ≤ x.len ∧ x.len ≤ 9223372036854775807) :
    Calls Try.prog 131 #[.agg #[.slice a x.lit.length c, .int .i64 x.off, .int .i64 x.len]] w fun r w' => r = .returned (.int .i64 (tokN x)) ∧ Below w.heap.size w w' := by
  have HR := hid (fun (W : World) => token_right x a c W hl h1 h2)
  unfold tokN
  generalize rightB x = R at *
  obtain ⟨D, o, m⟩ := x
  dsimp only at *
  cases R
  · rw [if_neg (by simp)]
    go_enter Try.func131, Try.ntmps131
    go_wp2_with fail
    refine (HR.out _).mono ?_
    rintro r w1 ⟨rfl, hb1⟩
    go_wp2
    go_ret
    exact ⟨rfl, by (repeat (first | with_reducible exact Below.refl _ _ | with_reducible assumption | (with_reducible refine below_alloc ?_ _) | (with_reducible refine Below.setCell ?_ (by first | omega | (simp; done) | (simp; omega)) _) | (with_reducible refine Below.drew ?_) | (with_reducible refine below_drewN ?_ _) | (refine below_then (by with_reducible assumption) ?_)))⟩
  · rw [if_pos rfl]
    by_cases h0 : o = 0
    · rw [if_pos h0]
      subst h0
      go_enter Try.func131, Try.ntmps131
      go_wp2_with fail
      refine (HR.out _).mono ?_
      rintro r w1 ⟨rfl, hb1⟩
      have B0 : Blk w1 w.heap.size 30 #[.slice a D.length c, .int .i64 0, .int .i64 m] := Blk.later (by (repeat (first | assumption | exact Blk.newAt _ _ _ (by first | (simp; done) | (simp; omega)) | refine Blk.alloc ?_ _ | refine Blk.drew ?_ | refine Blk.drewN ?_ _ | refine Blk.far ?_ (by first | (simp; done) | (simp; omega)) _))) hb1
      obtain ⟨x0, x1, x2, e0, e1, e2, l0⟩ := t_blk B0
      have hbw : Below w.heap.size w w1 := by (repeat (first | with_reducible exact Below.refl _ _ | with_reducible assumption | (with_reducible refine below_alloc ?_ _) | (with_reducible refine Below.setCell ?_ (by first | omega | (simp; done) | (simp; omega)) _) | (with_reducible refine Below.drew ?_) | (with_reducible refine below_drewN ?_ _) | (refine below_then (by with_reducible assumption) ?_)))
      clear hb1 B0
      go_wp2
      go_ret
      exact ⟨rfl, by (repeat (first | with_reducible exact Below.refl _ _ | with_reducible assumption | (with_reducible refine below_alloc ?_ _) | (with_reducible refine Below.setCell ?_ (by first | omega | (simp; done) | (simp; omega)) _) | (with_reducible refine Below.drew ?_) | (with_reducible refine below_drewN ?_ _) | (refine below_then (by with_reducible assumption) ?_)))⟩
    · rw [if_neg h0]
      have d1 : (o == 0) = false := by simp [h0]
      clear h0
      go_enter Try.func131, Try.ntmps131
      go_wp2_with fail
      refine (HR.out _).mono ?_
      rintro r w1 ⟨rfl, hb1⟩
      have B0 : Blk w1 w.heap.size 30 #[.slice a D.length c, .int .i64 o, .int .i64 m] := Blk.later (by (repeat (first | assumption | exact Blk.newAt _ _ _ (by first | (simp; done) | (simp; omega)) | refine Blk.alloc ?_ _ | refine Blk.drew ?_ | refine Blk.drewN ?_ _ | refine Blk.far ?_ (by first | (simp; done) | (simp; omega)) _))) hb1
      obtain ⟨x0, x1, x2, e0, e1, e2, l0⟩ := t_blk B0
      have hbw : Below w.heap.size w w1 := by (repeat (first | with_reducible exact Below.refl _ _ | with_reducible assumption | (with_reducible refine below_alloc ?_ _) | (with_reducible refine Below.setCell ?_ (by first | omega | (simp; done) | (simp; omega)) _) | (with_reducible refine Below.drew ?_) | (with_reducible refine below_drewN ?_ _) | (refine below_then (by with_reducible assumption) ?_)))
      clear hb1 B0
      go_wp2
      go_ret
      exact ⟨rfl, by (repeat (first | with_reducible exact Below.refl _ _ | with_reducible assumption | (with_reducible refine below_alloc ?_ _) | (with_reducible refine Below.setCell ?_ (by first | omega | (simp; done) | (simp; omega)) _) | (with_reducible refine Below.drew ?_) | (with_reducible refine below_drewN ?_ _) | (refine below_then (by with_reducible assumption) ?_)))⟩
set_option maxRecDepth 100000 in
theorem expand_wrong (x : Tok) (a : Option Addr) (c : Nat) (w : World) (hl : x.lit.length ≤ 9223372036854775807) (h1 : -9223372036854775808 ≤ x.off ∧ x.off ≤ 9223372036854775807) (h2 : -9223372036854775808 ≤ x.len ∧ x.len ≤ 9223372036854775807) (made bound : Int) (hm : 0 ≤ made ∧ made ≤ 4611686018427387904) (hb : -4611686018427387904 ≤ bound ∧ bound ≤ 4611686018427387904) :
    Calls Try.prog 117 #[.agg #[.slice a x.lit.length c, .int .i64 x.off, .int .i64 x.len], .int .i64 made, .int .i64 bound] w fun r w' => r = .returned (.int .i64 (wrongR x made bound)) ∧ Below w.heap.size w w' := by
  have HR := hid (fun (W : World) => token_right x a c W hl h1 h2)
  have HN := hid (fun (W : World) => token_len x a c W hl h1 h2)
  have hnl := tokN_le x
  unfold wrongR
  generalize rightB x = R at *
  generalize tokN x = N at *
  obtain ⟨D, o, m⟩ := x
  dsimp only at *
  cases R
  · rw [if_neg (by simp)]
    go_enter Try.func117, Try.ntmps117
    go_wp2_with fail
    refine (HR.out _).mono ?_
    rintro r w1 ⟨rfl, hb1⟩
    go_wp2
    go_ret
    exact ⟨rfl, by (repeat (first | with_reducible exact Below.refl _ _ | with_reducible assumption | (with_reducible refine below_alloc ?_ _) | (with_reducible refine Below.setCell ?_ (by first | omega | (simp; done) | (simp; omega)) _) | (with_reducible refine Below.drew ?_) | (with_reducible refine below_drewN ?_ _) | (refine below_then (by with_reducible assumption) ?_)))⟩
  · rw [if_pos rfl]
    by_cases hN : bound - made < N
    · rw [if_pos hN]
      have d1 : decide (bound - made < N) = true := decide_eq_true hN
      go_enter Try.func117, Try.ntmps117
      go_wp2_with fail
      refine (HR.out _).mono ?_
      rintro r w1 ⟨rfl, hb1⟩
      have B0 : Blk w1 w.heap.size 30 #[.slice a D.length c, .int .i64 o, .int .i64 m] := Blk.later (by (repeat (first | assumption | exact Blk.newAt _ _ _ (by first | (simp; done) | (simp; omega)) | refine Blk.alloc ?_ _ | refine Blk.drew ?_ | refine Blk.drewN ?_ _ | refine Blk.far ?_ (by first | (simp; done) | (simp; omega)) _))) hb1
      obtain ⟨x0, x1, x2, e0, e1, e2, l0⟩ := t_blk B0
      have hbw : Below w.heap.size w w1 := by (repeat (first | with_reducible exact Below.refl _ _ | with_reducible assumption | (with_reducible refine below_alloc ?_ _) | (with_reducible refine Below.setCell ?_ (by first | omega | (simp; done) | (simp; omega)) _) | (with_reducible refine Below.drew ?_) | (with_reducible refine below_drewN ?_ _) | (refine below_then (by with_reducible assumption) ?_)))
      clear hb1 B0
      go_wp2_with fail
      refine (HN.out _).mono ?_
      rintro r w2 ⟨rfl, hb2⟩
      go_wp2
      go_ret
      exact ⟨rfl, by (repeat (first | with_reducible exact Below.refl _ _ | with_reducible assumption | (with_reducible refine below_alloc ?_ _) | (with_reducible refine Below.setCell ?_ (by first | omega | (simp; done) | (simp; omega)) _) | (with_reducible refine Below.drew ?_) | (with_reducible refine below_drewN ?_ _) | (refine below_then (by with_reducible assumption) ?_)))⟩
    · rw [if_neg hN]
      have d1 : decide (bound - made < N) = false := decide_eq_false hN
      by_cases ho : made < o
      · rw [if_pos ho]
        have d2 : decide (made < o) = true := decide_eq_true ho
        go_enter Try.func117, Try.ntmps117
        go_wp2_with fail
        refine (HR.out _).mono ?_
        rintro r w1 ⟨rfl, hb1⟩
        have B0 : Blk w1 w.heap.size 30 #[.slice a D.length c, .int .i64 o, .int .i64 m] := Blk.later (by (repeat (first | assumption | exact Blk.newAt _ _ _ (by first | (simp; done) | (simp; omega)) | refine Blk.alloc ?_ _ | refine Blk.drew ?_ | refine Blk.drewN ?_ _ | refine Blk.far ?_ (by first | (simp; done) | (simp; omega)) _))) hb1
        obtain ⟨x0, x1, x2, e0, e1, e2, l0⟩ := t_blk B0
        have hbw : Below w.heap.size w w1 := by (repeat (first | with_reducible exact Below.refl _ _ | with_reducible assumption | (with_reducible refine below_alloc ?_ _) | (with_reducible refine Below.setCell ?_ (by first | omega | (simp; done) | (simp; omega)) _) | (with_reducible refine Below.drew ?_) | (with_reducible refine below_drewN ?_ _) | (refine below_then (by with_reducible assumption) ?_)))
        clear hb1
        go_wp2_with fail
        refine (HN.out _).mono ?_
        rintro r w2 ⟨rfl, hb2⟩
        obtain ⟨y0, y1, y2, f0, f1, f2, l1⟩ := t_blk (B0.later hb2)
        have hbw2 := below_then hb2 hbw
        clear hb2 B0
        go_wp2
        go_ret
        exact ⟨rfl, by (repeat (first | with_reducible exact Below.refl _ _ | with_reducible assumption | (with_reducible refine below_alloc ?_ _) | (with_reducible refine Below.setCell ?_ (by first | omega | (simp; done) | (simp; omega)) _) | (with_reducible refine Below.drew ?_) | (with_reducible refine below_drewN ?_ _) | (refine below_then (by with_reducible assumption) ?_)))⟩
      · rw [if_neg ho]
        have d2 : decide (made < o) = false := decide_eq_false ho
        go_enter Try.func117, Try.ntmps117
        go_wp2_with fail
        refine (HR.out _).mono ?_
        rintro r w1 ⟨rfl, hb1⟩
        have B0 : Blk w1 w.heap.size 30 #[.slice a D.length c, .int .i64 o, .int .i64 m] := Blk.later (by (repeat (first | assumption | exact Blk.newAt _ _ _ (by first | (simp; done) | (simp; omega)) | refine Blk.alloc ?_ _ | refine Blk.drew ?_ | refine Blk.drewN ?_ _ | refine Blk.far ?_ (by first | (simp; done) | (simp; omega)) _))) hb1
        obtain ⟨x0, x1, x2, e0, e1, e2, l0⟩ := t_blk B0
        have hbw : Below w.heap.size w w1 := by (repeat (first | with_reducible exact Below.refl _ _ | with_reducible assumption | (with_reducible refine below_alloc ?_ _) | (with_reducible refine Below.setCell ?_ (by first | omega | (simp; done) | (simp; omega)) _) | (with_reducible refine Below.drew ?_) | (with_reducible refine below_drewN ?_ _) | (refine below_then (by with_reducible assumption) ?_)))
        clear hb1
        go_wp2_with fail
        refine (HN.out _).mono ?_
        rintro r w2 ⟨rfl, hb2⟩
        obtain ⟨y0, y1, y2, f0, f1, f2, l1⟩ := t_blk (B0.later hb2)
        have hbw2 := below_then hb2 hbw
        clear hb2 B0
        go_wp2
        go_ret
        exact ⟨rfl, by (repeat (first | with_reducible exact Below.refl _ _ | with_reducible assumption | (with_reducible refine below_alloc ?_ _) | (with_reducible refine Below.setCell ?_ (by first | omega | (simp; done) | (simp; omega)) _) | (with_reducible refine Below.drew ?_) | (with_reducible refine below_drewN ?_ _) | (refine below_then (by with_reducible assumption) ?_)))⟩
set_option maxRecDepth 100000 in
theorem ref11_right (x : Tok) (a : Option Addr) (c : Nat) (w : World) (hl : x.lit.length ≤ 9223372036854775807) (h1 : -9223372036854775808 ≤ x.off ∧ x.off ≤ 9223372036854775807) (h2 : -9223372036854775808 ≤ x.len ∧ x.len ≤ 9223372036854775807) :
    Calls Try.prog 39 #[.agg #[.slice a x.lit.length c, .int .i64 x.off, .int .i64 x.len]] w fun r w' => r = .returned (.bool (rightB x)) ∧ Below w.heap.size w w' := by
  have HR := hid (fun (W : World) => ref11_run x a c W hl h1 h2)
  have HC := hid (fun (W : World) => ref11_copy x a c W hl h1 h2)
  unfold rightB
  generalize runB x = R at *
  generalize copyB x = C at *
  obtain ⟨D, o, m⟩ := x
  dsimp only at *
  cases R
  · go_enter Try.func39, Try.ntmps39
    go_wp2_with fail
    refine (HR.out _).mono ?_
    rintro r w1 ⟨rfl, hb1⟩
    have B0 : Blk w1 w.heap.size 30 #[.slice a D.length c, .int .i64 o, .int .i64 m] := Blk.later (by (repeat (first | assumption | exact Blk.newAt _ _ _ (by first | (simp; done) | (simp; omega)) | refine Blk.alloc ?_ _ | refine Blk.drew ?_ | refine Blk.drewN ?_ _ | refine Blk.far ?_ (by first | (simp; done) | (simp; omega)) _))) hb1
    obtain ⟨x0, x1, x2, e0, e1, e2, l0⟩ := t_blk B0
    have hbw : Below w.heap.size w w1 := by (repeat (first | with_reducible exact Below.refl _ _ | with_reducible assumption | (with_reducible refine below_alloc ?_ _) | (with_reducible refine Below.setCell ?_ (by first | omega | (simp; done) | (simp; omega)) _) | (with_reducible refine Below.drew ?_) | (with_reducible refine below_drewN ?_ _) | (refine below_then (by with_reducible assumption) ?_)))
    clear hb1
    go_wp2_with fail
    refine (HC.out _).mono ?_
    rintro r w2 ⟨rfl, hb2⟩
    go_wp2
    go_ret
    exact ⟨by simp, by (repeat (first | with_reducible exact Below.refl _ _ | with_reducible assumption | (with_reducible refine below_alloc ?_ _) | (with_reducible refine Below.setCell ?_ (by first | omega | (simp; done) | (simp; omega)) _) | (with_reducible refine Below.drew ?_) | (with_reducible refine below_drewN ?_ _) | (refine below_then (by with_reducible assumption) ?_)))⟩
  · go_enter Try.func39, Try.ntmps39
    go_wp2_with fail
    refine (HR.out _).mono ?_
    rintro r w1 ⟨rfl, hb1⟩
    go_wp2
    go_ret
    exact ⟨by simp, by (repeat (first | with_reducible exact Below.refl _ _ | with_reducible assumption | (with_reducible refine below_alloc ?_ _) | (with_reducible refine Below.setCell ?_ (by first | omega | (simp; done) | (simp; omega)) _) | (with_reducible refine Below.drew ?_) | (with_reducible refine below_drewN ?_ _) | (refine below_then (by with_reducible assumption) ?_)))⟩
set_option maxRecDepth 100000 in
theorem ref11_len (x : Tok) (a : Option Addr) (c : Nat) (w : World) (hl : x.lit.length ≤ 9223372036854775807) (h1 : -9223372036854775808 ≤ x.off ∧ x.off ≤ 9223372036854775807) (h2 : -9223372036854775808 ≤ x.len ∧ x.len ≤ 9223372036854775807) :
    Calls Try.prog 73 #[.agg #[.slice a x.lit.length c, .int .i64 x.off, .int .i64 x.len]] w fun r w' => r = .returned (.int .i64 (tokN x)) ∧ Below w.heap.size w w' := by
  have HR := hid (fun (W : World) => ref11_run x a c W hl h1 h2)
  have HC := hid (fun (W : World) => ref11_copy x a c W hl h1 h2)
  have e1 := run_off (t := x)
  have e2 := copy_off (t := x)
  have e3 : runB x = false → copyB x = false → rightB x = false := by intro h h'; simp [rightB, h, h']
  unfold tokN
  generalize runB x = R at *
  generalize copyB x = C at *
  generalize rightB x = I at *
  obtain ⟨D, o, m⟩ := x
  dsimp only at *
  cases R
  · cases C
    · have := e3 rfl rfl
      subst this
      rw [if_neg (by simp)]
      clear e1 e2 e3
      go_enter Try.func73, Try.ntmps73
      go_wp2_with fail
      refine (HR.out _).mono ?_
      rintro r w1 ⟨rfl, hb1⟩
      have B0 : Blk w1 w.heap.size 30 #[.slice a D.length c, .int .i64 o, .int .i64 m] := Blk.later (by (repeat (first | assumption | exact Blk.newAt _ _ _ (by first | (simp; done) | (simp; omega)) | refine Blk.alloc ?_ _ | refine Blk.drew ?_ | refine Blk.drewN ?_ _ | refine Blk.far ?_ (by first | (simp; done) | (simp; omega)) _))) hb1
      obtain ⟨x0, x1, x2, e0, e1, e2, l0⟩ := t_blk B0
      have hbw : Below w.heap.size w w1 := by (repeat (first | with_reducible exact Below.refl _ _ | with_reducible assumption | (with_reducible refine below_alloc ?_ _) | (with_reducible refine Below.setCell ?_ (by first | omega | (simp; done) | (simp; omega)) _) | (with_reducible refine Below.drew ?_) | (with_reducible refine below_drewN ?_ _) | (refine below_then (by with_reducible assumption) ?_)))
      clear hb1
      go_wp2_with fail
      refine (HC.out _).mono ?_
      rintro r w2 ⟨rfl, hb2⟩
      go_wp2
      go_ret
      exact ⟨rfl, by (repeat (first | with_reducible exact Below.refl _ _ | with_reducible assumption | (with_reducible refine below_alloc ?_ _) | (with_reducible refine Below.setCell ?_ (by first | omega | (simp; done) | (simp; omega)) _) | (with_reducible refine Below.drew ?_) | (with_reducible refine below_drewN ?_ _) | (refine below_then (by with_reducible assumption) ?_)))⟩
    · obtain ⟨h0, rfl⟩ := e2 rfl
      rw [if_pos rfl, if_neg h0]
      clear e1 e2 e3 h0
      go_enter Try.func73, Try.ntmps73
      go_wp2_with fail
      refine (HR.out _).mono ?_
      rintro r w1 ⟨rfl, hb1⟩
      have B0 : Blk w1 w.heap.size 30 #[.slice a D.length c, .int .i64 o, .int .i64 m] := Blk.later (by (repeat (first | assumption | exact Blk.newAt _ _ _ (by first | (simp; done) | (simp; omega)) | refine Blk.alloc ?_ _ | refine Blk.drew ?_ | refine Blk.drewN ?_ _ | refine Blk.far ?_ (by first | (simp; done) | (simp; omega)) _))) hb1
      obtain ⟨x0, x1, x2, e0, e1, e2, l0⟩ := t_blk B0
      have hbw : Below w.heap.size w w1 := by (repeat (first | with_reducible exact Below.refl _ _ | with_reducible assumption | (with_reducible refine below_alloc ?_ _) | (with_reducible refine Below.setCell ?_ (by first | omega | (simp; done) | (simp; omega)) _) | (with_reducible refine Below.drew ?_) | (with_reducible refine below_drewN ?_ _) | (refine below_then (by with_reducible assumption) ?_)))
      clear hb1
      go_wp2_with fail
      refine (HC.out _).mono ?_
      rintro r w2 ⟨rfl, hb2⟩
      obtain ⟨y0, y1, y2, f0, f1, f2, l1⟩ := t_blk (B0.later hb2)
      have hbw2 := below_then hb2 hbw
      clear hb2 B0
      go_wp2
      go_ret
      exact ⟨rfl, by (repeat (first | with_reducible exact Below.refl _ _ | with_reducible assumption | (with_reducible refine below_alloc ?_ _) | (with_reducible refine Below.setCell ?_ (by first | omega | (simp; done) | (simp; omega)) _) | (with_reducible refine Below.drew ?_) | (with_reducible refine below_drewN ?_ _) | (refine below_then (by with_reducible assumption) ?_)))⟩
  · obtain ⟨h0, rfl⟩ := e1 rfl
    rw [if_pos rfl, if_pos h0]
    clear e1 e2 e3 h0
    go_enter Try.func73, Try.ntmps73
    go_wp2_with fail
    refine (HR.out _).mono ?_
    rintro r w1 ⟨rfl, hb1⟩
    have B0 : Blk w1 w.heap.size 30 #[.slice a D.length c, .int .i64 o, .int .i64 m] := Blk.later (by (repeat (first | assumption | exact Blk.newAt _ _ _ (by first | (simp; done) | (simp; omega)) | refine Blk.alloc ?_ _ | refine Blk.drew ?_ | refine Blk.drewN ?_ _ | refine Blk.far ?_ (by first | (simp; done) | (simp; omega)) _))) hb1
    obtain ⟨x0, x1, x2, e0, e1, e2, l0⟩ := t_blk B0
    have hbw : Below w.heap.size w w1 := by (repeat (first | with_reducible exact Below.refl _ _ | with_reducible assumption | (with_reducible refine below_alloc ?_ _) | (with_reducible refine Below.setCell ?_ (by first | omega | (simp; done) | (simp; omega)) _) | (with_reducible refine Below.drew ?_) | (with_reducible refine below_drewN ?_ _) | (refine below_then (by with_reducible assumption) ?_)))
    clear hb1 B0
    go_wp2
    go_ret
    exact ⟨rfl, by (repeat (first | with_reducible exact Below.refl _ _ | with_reducible assumption | (with_reducible refine below_alloc ?_ _) | (with_reducible refine Below.setCell ?_ (by first | omega | (simp; done) | (simp; omega)) _) | (with_reducible refine Below.drew ?_) | (with_reducible refine below_drewN ?_ _) | (refine below_then (by with_reducible assumption) ?_)))⟩
set_option maxRecDepth 100000 in
set_option maxHeartbeats 3200000 in
theorem press_check (w : World) (B : List UInt8) (a : Option Addr) (n c : Nat) (hl : rBytes.r (· < w.heap.size) w [.slice a n c] B) (hB : B.length ≤ 1000000000) (bound : Int) (hbd : -9223372036854775808 ≤ bound ∧ bound ≤ 1048576) :
    Calls Try.prog 42 #[.slice a n c, .int .i64 bound] w fun r w' => ∃ v, r = .returned (.tuple #[v, .bool (decide ((exB B bound).2.1 = 0) && decide (pressB (exB B bound).1 = B)), .agg #[.int .i64 (exB B bound).2.1, .int .i64 (exB B bound).2.2]]) ∧ rBytes.r (fun q => w.heap.size ≤ q ∧ q < w'.heap.size) w' [v] (exB B bound).1 ∧ Below w.heap.size w w' := by
  obtain ⟨rfl, hm, hcc, hcm⟩ := sl_len hl
  have HE := hid (expand_bytes (w.alloc (.cells #[.int .i64 0, .int .i64 0] 48)) B a _ c (lift hl (by (repeat (first | with_reducible exact Below.refl _ _ | with_reducible assumption | (with_reducible refine below_alloc ?_ _) | (with_reducible refine Below.setCell ?_ (by first | omega | (simp; done) | (simp; omega)) _) | (with_reducible refine Below.drew ?_) | (with_reducible refine below_drewN ?_ _) | (refine below_then (by with_reducible assumption) ?_))))) hB bound hbd)
  have hmin : (if bound ≤ 1048576 then bound else 1048576) = bound := if_pos hbd.2
  have hmin2 : (if (1048576 : Int) < bound then (1048576 : Int) else bound) = bound := if_neg (by omega)
  have hmin3 : min bound 1048576 = bound := by omega
  have hEF := exB_facts B bound
  have HL := hid hl
  have hz : (exB B bound).2.1 = 0 → (exB B bound).2.2 = 0 := by
    unfold exB
    split
    · intro; rfl
    · rename_i h; intro h2; exact absurd h2 h
  generalize exB B bound = X at *
  obtain ⟨D, k, f⟩ := X
  dsimp only at *
  clear hl
  by_cases hk : k = 0
  · subst hk
    obtain rfl := hz rfl
    have HP := hid (fun (W : World) (aD : Option Addr) (cD : Nat) (h : rBytes.r (· < W.heap.size) W [.slice aD D.length cD] D) => press_bytes W D aD _ cD h (by omega))
    clear hEF hz
    go_enter Try.func42, Try.ntmps42
    go_wp2_with fail
    refine HE.out.mono ?_
    rintro r w1 ⟨v1, rfl, hr1, hb1⟩
    obtain ⟨a1, c1, hv1, hr1', _⟩ := sl_form hr1
    simp only [List.cons.injEq, and_true] at hv1
    subst hv1
    have hr1'' := hr1'
    have HP1 := hid (rBytes.mono (S' := fun q => w.heap.size ≤ q ∧ q < w1.heap.size) hr1' fun q hq => ⟨by have := hq.1; simp at this; omega, hq.2⟩)
    have F1 : Blk w1 w.heap.size 48 #[.int .i64 0, .int .i64 0] := Blk.later (by (repeat (first | assumption | exact Blk.newAt _ _ _ (by first | (simp; done) | (simp; omega)) | refine Blk.alloc ?_ _ | refine Blk.drew ?_ | refine Blk.drewN ?_ _ | refine Blk.far ?_ (by first | (simp; done) | (simp; omega)) _))) hb1
    have hbw1 : Below w.heap.size w w1 := by (repeat (first | with_reducible exact Below.refl _ _ | with_reducible assumption | (with_reducible refine below_alloc ?_ _) | (with_reducible refine Below.setCell ?_ (by first | omega | (simp; done) | (simp; omega)) _) | (with_reducible refine Below.drew ?_) | (with_reducible refine below_drewN ?_ _) | (refine below_then (by with_reducible assumption) ?_)))
    have HG := hid (fault_good (w1.alloc (.cells #[.int .i64 0, .int .i64 0] 48)) 0 0)
    clear hr1 hr1' hb1
    go_wp2_with fail
    refine HG.out.mono ?_
    rintro r w2 ⟨rfl, hb2⟩
    have F2 := (F1.alloc _).later hb2
    have hb12 : Below w1.heap.size w1 w2 := by clear hbw1; (repeat (first | with_reducible exact Below.refl _ _ | with_reducible assumption | (with_reducible refine below_alloc ?_ _) | (with_reducible refine Below.setCell ?_ (by first | omega | (simp; done) | (simp; omega)) _) | (with_reducible refine Below.drew ?_) | (with_reducible refine below_drewN ?_ _) | (refine below_then (by with_reducible assumption) ?_)))
    have hbw2 := below_then hb12 hbw1
    clear F1 hb2
    go_wp2_with fail
    refine (HP.out _ a1 c1 (lift (rBytes.mono HP1.out fun q hq => hq.2) hb12)).mono ?_
    rintro r w3 ⟨v3, rfl, hr3, hb3⟩
    obtain ⟨a3, c3, hv3, hr3', _⟩ := sl_form hr3
    simp only [List.cons.injEq, and_true] at hv3
    subst hv3
    have hb13 := below_then hb3 hb12
    have hbw3 := below_then hb13 hbw1
    have hs := bytes_equal (tokensB (toksR D)) B a3 a _ c3 _ c w3 (rBytes.mono hr3' fun q hq => hq.2) (lift HL.out hbw3)
    rw [show (tokensB (toksR D)) = pressB D from rfl] at hs
    have HS := hid hs
    have F3 := F2.later hb3
    obtain ⟨y0, y1, g0, g1, l1⟩ := f_blk F3
    have HPW : Hid (rBytes.r (fun q => w.heap.size + 1 ≤ q ∧ q < w3.heap.size) w3 [.slice a1 D.length c1] D) := hid (rBytes.mono (rBytes.keep hr1'' fun q hq => hb13.block q hq.2) fun q hq => ⟨by have := hq.1; simp at this; omega, by have := hb13.size; omega⟩)
    clear hr3 hr3' hb3 F2 F3 hs
    go_wp2_with fail
    refine HS.out.mono ?_
    rintro r w3' ⟨rfl, rfl⟩
    go_wp2
    refine bodyPost_ret (v := .tuple #[.slice a1 D.length c1, .bool (decide (pressB D = B)), .agg #[.int .i64 0, .int .i64 0]]) (by simp [results, Try.results42, go_sem, y0, y1, l1]) rfl ⟨_, rfl, ?_, by (repeat (first | with_reducible exact Below.refl _ _ | with_reducible assumption | (with_reducible refine below_alloc ?_ _) | (with_reducible refine Below.setCell ?_ (by first | omega | (simp; done) | (simp; omega)) _) | (with_reducible refine Below.drew ?_) | (with_reducible refine below_drewN ?_ _) | (refine below_then (by with_reducible assumption) ?_)))⟩
    refine rBytes.mono (rBytes.keep HPW.out fun q hq => ?_) fun q hq => ⟨by omega, by simp [World.setCell]; exact hq.2⟩
    repeat (rw [Below.heap_setCell _ _ _ _ (by dsimp only; omega)])
  · have d1 : decide (k = 0) = false := decide_eq_false hk
    have hD := hEF.2.2.2 hk
    subst hD
    rw [d1]
    clear hk hEF hz
    go_enter Try.func42, Try.ntmps42
    go_wp2_with fail
    refine HE.out.mono ?_
    rintro r w1 ⟨v1, rfl, hr1, hb1⟩
    obtain ⟨a1, c1, hv1, hr1', _⟩ := sl_form hr1
    simp only [List.cons.injEq, and_true] at hv1
    subst hv1
    have F1 : Blk w1 w.heap.size 48 #[.int .i64 0, .int .i64 0] := Blk.later (by (repeat (first | assumption | exact Blk.newAt _ _ _ (by first | (simp; done) | (simp; omega)) | refine Blk.alloc ?_ _ | refine Blk.drew ?_ | refine Blk.drewN ?_ _ | refine Blk.far ?_ (by first | (simp; done) | (simp; omega)) _))) hb1
    have hbw1 : Below w.heap.size w w1 := by (repeat (first | with_reducible exact Below.refl _ _ | with_reducible assumption | (with_reducible refine below_alloc ?_ _) | (with_reducible refine Below.setCell ?_ (by first | omega | (simp; done) | (simp; omega)) _) | (with_reducible refine Below.drew ?_) | (with_reducible refine below_drewN ?_ _) | (refine below_then (by with_reducible assumption) ?_)))
    have hg := fault_good (w1.alloc (.cells #[.int .i64 k, .int .i64 f] 48)) k f
    rw [d1] at hg
    have HG := hid hg
    clear hr1 hr1' hb1 hg d1
    go_wp2_with fail
    refine HG.out.mono ?_
    rintro r w2 ⟨rfl, hb2⟩
    have F2 := (F1.alloc _).later hb2
    obtain ⟨z0, z1, e0, e1, l2⟩ := f_blk (Blk.later (Blk.newAt w1 _ _ rfl) hb2)
    obtain ⟨y0, y1, g0, g1, l1⟩ := f_blk F2
    have hb12 : Below w1.heap.size w1 w2 := by clear hbw1; (repeat (first | with_reducible exact Below.refl _ _ | with_reducible assumption | (with_reducible refine below_alloc ?_ _) | (with_reducible refine Below.setCell ?_ (by first | omega | (simp; done) | (simp; omega)) _) | (with_reducible refine Below.drew ?_) | (with_reducible refine below_drewN ?_ _) | (refine below_then (by with_reducible assumption) ?_)))
    have hbw2 := below_then hb12 hbw1
    clear F1 F2 hb2
    go_wp2_with fail
    go_region
    all_goals
      go_wp2
      refine bodyPost_ret (v := .tuple #[.slice none 0 0, .bool false, .agg #[.int .i64 k, .int .i64 f]]) (by simp [results, Try.results42, go_sem, y0, y1, l1]) rfl ⟨_, rfl, empty_bytes rfl rfl (by omega), by (repeat (first | with_reducible exact Below.refl _ _ | with_reducible assumption | (with_reducible refine below_alloc ?_ _) | (with_reducible refine Below.setCell ?_ (by first | omega | (simp; done) | (simp; omega)) _) | (with_reducible refine Below.drew ?_) | (with_reducible refine below_drewN ?_ _) | (refine below_then (by with_reducible assumption) ?_)))⟩
end Go.Proofs.Ytgcdbnbdbjaijaa
namespace Go.Proofs.Ytgcdbnbdbjaijaa
open Go.RowKit Go.Bs Go.Maps
set_option linter.unusedVariables false
set_option linter.unusedSimpArgs false

set_option maxRecDepth 100000 in
set_option maxHeartbeats 1600000 in
theorem expand_again2 (w : World) {base : Nat} {a : Option Addr} {c : Nat} (out : List UInt8) (hown : w.ownsRow base 5 1 (.slice a out.length c) out.length (byteCells out)) (hbase : base ≤ w.heap.size) (off n : Nat) (hc : n = 0 ∨ (1 ≤ off ∧ off ≤ out.length)) (hn : out.length + n ≤ 1000000000000) :
    Calls Try.prog 116 #[.slice a out.length c, .int .i64 (off : Int), .int .i64 (n : Int)] w fun r w' => ∃ a' c', r = .returned (.slice a' (out.length + n) c') ∧ w'.ownsRow base 5 1 (.slice a' (out.length + n) c') (out.length + n) (byteCells (againL off n out)) ∧ Below base w w' := by
  obtain ⟨i0, hi, hz0, hz1, hz2⟩ := info_parts info8
  have HO := hid hown
  clear hown
  go_enter Try.func116, Try.ntmps116
  go_wp2_with fail
  go_loopw [0, 8] (fun o i wr => ∃ (k : Nat) (J : List UInt8) (aJ : Option Addr) (cJ : Nat), k ≤ n ∧ i = .int .i64 k ∧ o = .slice aJ J.length cJ ∧ wr.ownsRow base 5 1 (.slice aJ J.length cJ) J.length (byteCells J) ∧ Hid (againL off n out = againL off (n - k) J) ∧ Hid (J.length = out.length + k) ∧ Below base w wr ∧ base ≤ wr.heap.size) (fun _ i _ => n - (intOf i).toNat)
  case atStart => exact ⟨0, out, a, c, Nat.zero_le _, rfl, rfl, HO.out, hid rfl, hid rfl, Below.refl _ _, hbase⟩
  case round =>
    obtain ⟨k, J, aJ, cJ, hk, rfl, rfl, ho, hJ, hln, hb, hbs⟩ := hrel
    have HJO := hid ho
    rcases Nat.lt_or_ge k n with hlt | hge
    · obtain ⟨h1, h2⟩ : 1 ≤ off ∧ off ≤ out.length := by rcases hc with h | h; exact absurd h (by omega); exact h
      have d1 : decide ((k : Int) < (n : Int)) = true := decide_eq_true (by omega)
      have d1' : decide (k < n) = true := decide_eq_true hlt
      have hml : off ≤ J.length := by have := hln.out; omega
      have hJm : J.length + 1 ≤ 1000000000000 := by have := hln.out; omega
      have hst : Hid (againL off (n - k) J = againL off (n - (k + 1)) (J ++ [J.getD (J.length - off) 0])) := hid (by rw [show n - k = (n - (k + 1)) + 1 by omega]; rfl)
      have hgd : J.getD (J.length - off) 0 = J[J.length - off]'(by omega) := by rw [List.getD_eq_getElem?_getD, List.getElem?_eq_getElem (by omega)]; rfl
      rw [hgd] at hst
      obtain ⟨gb, ob, hA, hgb, hc⟩ := byte_at (own_bytes rfl ho) (i := J.length - off) (by omega)
      subst hA
      obtain ⟨m, hm⟩ : ∃ m, m = J.length - off := ⟨_, rfl⟩
      have e1 : (J.length : Int) - (off : Int) = (m : Int) := by omega
      generalize J[J.length - off]'(by omega) = x at *
      rw [← hm] at hc
      have i1 : (m : Int) < (J.length : Int) := by omega
      have i2 : (0 : Int) ≤ (m : Int) := by omega
      clear ho hgd hm
      go_wp2_with (at_builtin; go_loud (refine wpList_append_src rfl _ _ _ rfl base 5 i0 (.int .u8 0) 1 1 Try.underlying22 hi hz0 hz1 hz2 rfl (by decide) (.slice (some ⟨gb, ob, none⟩) J.length cJ) J.length (byteCells J) rfl (own_below HJO.out (by (repeat (first | exact Below.refl _ _ | assumption | (refine below_alloc ?_ _) | (refine Below.setCell ?_ (by first | omega | (simp; done) | (simp; omega)) _) | (refine Below.drew ?_) | (refine below_drewN ?_ _) | (refine below_then (by assumption) ?_))))) (some ⟨wr.heap.size, 0, none⟩) 1 1 [.int .u8 (x.toNat : Int)] rfl (src_new1 wr 5 _ rfl rfl rfl) (byteCells_one1 x) (by simp only [maxLen]; omega) (by omega) (by simp; omega) ?_; intro v' w3 hown3 hgrow3 hat3; obtain ⟨a3, c3, rfl⟩ := own_form hown3; have HO3 := hid hown3; have HG3 := hid hgrow3; clear hown3 hgrow3 hat3))
      have ho3 := HO3.out
      rw [byteCells_snoc, show J.length + 1 = (J ++ [x]).length by simp] at ho3
      have hb3 : Below base wr w3 := (Below.grown (Below.refl _ _) HG3.out (by simp; omega) (fun g e => (HJO.out.lt g e).1)) |> (fun h => (below_alloc (Below.refl _ _) _ |>.mono hbs).trans h)
      have HO4 := hid ho3
      have hs3 := hb3.size
      clear ho3 hc
      go_roundw
      case rel => exact ⟨k + 1, J ++ [x], a3, c3, by omega, by go_num, by simp, HO4.out, hid (hJ.out.trans hst.out), hid (by simp; have := hln.out; omega), hb.trans hb3, by omega⟩
      case measure => simp [intOf]; omega
    · obtain rfl : k = n := by omega
      have d1 : decide ((k : Int) < (k : Int)) = false := decide_eq_false (by omega)
      have hfin : Hid (againL off k out = J) := hid (by rw [hJ.out, Nat.sub_self]; rfl)
      clear ho
      go_wp2
      go_ret
      have hl : J.length = out.length + k := hln.out
      rw [hfin.out, ← hl]
      exact ⟨_, _, rfl, HJO.out, hb⟩


/-- What tokens make: the bytes, the code, the place. -/
def exT (bound : Int) : Nat → List UInt8 → List Tok → List UInt8 × Int × Int
  | _, out, [] => (out, 0, 0)
  | i, out, t :: ts => if wrongR t out.length bound = 0 then exT bound (i + 1) (againL t.off.toNat t.len.toNat (out ++ t.lit)) ts else ([], wrongR t out.length bound, i)
theorem wrong_zero {t : Tok} {made : Nat} {bound : Int} (h : wrongR t made bound = 0) : ∃ (D : List UInt8) (o m : Nat), t = ⟨D, (o : Int), (m : Int)⟩ ∧ (m = 0 ∨ (D = [] ∧ 1 ≤ o ∧ o ≤ made)) ∧ tokN t = D.length + m ∧ (made : Int) + D.length + m ≤ bound ∧ D.length ≤ 1048576 ∧ m ≤ 1048576 ∧ rightB t = true := by
  unfold wrongR at h
  by_cases hr : rightB t = true
  · rw [if_pos hr] at h
    by_cases h1 : bound - made < tokN t
    · rw [if_pos h1] at h; simp at h
    · rw [if_neg h1] at h
      by_cases h2 : (made : Int) < t.off
      · rw [if_pos h2] at h; simp at h
      · rcases right_forms hr with ⟨D, rfl, k1, k2⟩ | ⟨o, m, rfl, k1, k2, k3, k4⟩
        · have e : tokN ⟨D, 0, 0⟩ = D.length := by unfold tokN; rw [if_pos hr, if_pos rfl]
          exact ⟨D, 0, 0, rfl, .inl rfl, by rw [e]; simp, by omega, by omega, by omega, hr⟩
        · have e : tokN ⟨[], (o : Int), (m : Int)⟩ = m := by unfold tokN; rw [if_pos hr, if_neg (by dsimp only; omega)]
          dsimp only at h2
          exact ⟨[], o, m, rfl, .inr ⟨rfl, k1, by omega⟩, by rw [e]; simp, by simp; omega, by simp, by omega, hr⟩
  · rw [if_neg hr] at h; simp at h
theorem exT_step {xs : List Tok} {bound : Int} {k : Nat} {out : List UInt8} (hk : k < xs.length) : exT bound k out (xs.drop k) = if wrongR xs[k] out.length bound = 0 then exT bound (k + 1) (againL xs[k].off.toNat xs[k].len.toNat (out ++ xs[k].lit)) (xs.drop (k + 1)) else ([], wrongR xs[k] out.length bound, k) := by
  rw [List.drop_eq_getElem_cons hk]; rfl
theorem exT_last {xs : List Tok} {bound : Int} {out : List UInt8} : exT bound xs.length out (xs.drop xs.length) = (out, 0, 0) := by
  rw [List.drop_length]; rfl

set_option maxRecDepth 100000 in
set_option maxHeartbeats 6400000 in
theorem expand_tokens (w : World) (xs : List Tok) (a : Option Addr) (n c : Nat) (hl : rToks.r (· < w.heap.size) w [.slice a n c] xs) (bound : Int) (hbd : -4611686018427387904 ≤ bound ∧ bound ≤ 1048576) :
    Calls Try.prog 81 #[.slice a n c, .int .i64 bound] w fun r w' => ∃ v, r = .returned (.tuple #[v, .agg #[.int .i64 (exT bound 0 [] xs).2.1, .int .i64 (exT bound 0 [] xs).2.2]]) ∧ rBytes.r (fun q => w.heap.size ≤ q ∧ q < w'.heap.size) w' [v] (exT bound 0 [] xs).1 ∧ Below w.heap.size w w' := by
  obtain ⟨rfl, hm, _, _⟩ := sl_len hl
  obtain ⟨i0, hi, hz0, hz1, hz2⟩ := info_parts info8
  have HL := hid hl; clear hl
  go_enter Try.func81, Try.ntmps81
  go_wp2_with fail
  go_loopw [6, 12] (fun o i wr => ∃ (k : Nat) (J : List UInt8) (aJ : Option Addr) (cJ : Nat), k ≤ xs.length ∧ i = .int .i64 k ∧ o = .slice aJ J.length cJ ∧ wr.ownsRow (w.heap.size + 1) 5 1 (.slice aJ J.length cJ) J.length (byteCells J) ∧ Hid (exT bound 0 [] xs = exT bound k J (xs.drop k)) ∧ J.length ≤ 1048576 ∧ Below w.heap.size w wr ∧ w.heap.size + 1 ≤ wr.heap.size ∧ Blk wr w.heap.size 48 #[.int .i64 0, .int .i64 0]) (fun _ i _ => xs.length - (intOf i).toNat)
  case atStart => exact ⟨0, [], none, 0, Nat.zero_le _, rfl, rfl, ⟨rfl, .inl ⟨rfl, rfl⟩⟩, hid rfl, by simp, by (repeat (first | with_reducible exact Below.refl _ _ | with_reducible assumption | (with_reducible refine below_alloc ?_ _) | (with_reducible refine Below.setCell ?_ (by first | omega | (simp; done) | (simp; omega)) _) | (with_reducible refine Below.drew ?_) | (with_reducible refine below_drewN ?_ _) | (refine below_then (by with_reducible assumption) ?_))), by simp, by (repeat (first | assumption | exact Blk.newAt _ _ _ (by first | (simp; done) | (simp; omega)) | refine Blk.alloc ?_ _ | refine Blk.drew ?_ | refine Blk.drewN ?_ _ | refine Blk.far ?_ (by first | (simp; done) | (simp; omega)) _))⟩
  case round =>
    obtain ⟨k, J, aJ, cJ, hk, rfl, rfl, ho, hJ, hln, hb, hbs, hF⟩ := hrel
    rcases Nat.lt_or_ge k xs.length with hlt | hge
    · obtain ⟨b, o, hA, hbb, a2, c2, x0, x1, x2, hb1, hb2, hD⟩ := tok_at HL.out hlt
      subst hA
      have X0 := (hb.cell (p := ⟨b, o + k * 3, none⟩) hbb).trans x0
      have X1 := (hb.cell (p := ⟨b, o + k * 3 + 1, none⟩) hbb).trans x1
      have X2 := (hb.cell (p := ⟨b, o + k * 3 + 2, none⟩) hbb).trans x2
      have hst := exT_step (bound := bound) (out := J) hlt
      have HW := hid (fun (W : World) => expand_wrong xs[k] a2 c2 W (by have := (sl_len hD).2.1; omega) hb1 hb2 (J.length : Int) bound (by omega) (by omega))
      have HDD := hid (lift hD hb)
      have i1 : (k : Int) < (xs.length : Int) := by omega
      have d1 : decide ((k : Int) < (xs.length : Int)) = true := decide_eq_true i1
      clear x0 x1 x2 hD
      by_cases hz : wrongR xs[k] J.length bound = 0
      · rw [if_pos hz] at hst
        obtain ⟨D, of, m, ht, hc, htn, hfit, hDl, hml, hrt⟩ := wrong_zero hz
        rw [hz] at HW
        generalize xs[k] = y at *
        subst ht
        dsimp only at *
        rw [Int.toNat_natCast, Int.toNat_natCast] at hst
        have hall := againL_len of m (J ++ D)
        have HSRC := hid (src_bytes HDD.out)
        have HOJ := hid ho
        have HST := hid (hJ.out.trans hst)
        have HONE := hid (byteCells_one D)
        have hcc : m = 0 ∨ (1 ≤ of ∧ of ≤ (J ++ D).length) := by rcases hc with h | ⟨h, h1, h2⟩; exact .inl h; exact .inr ⟨h1, by simp; omega⟩
        simp only [List.length_append] at hall
        clear hst hz hc htn hrt ho hJ
        go_wp2_with fail
        refine (HW.out _).mono ?_
        rintro r w4 ⟨rfl, hb4⟩
        have hb04 : Below wr.heap.size wr w4 := by clear hb; (repeat (first | with_reducible exact Below.refl _ _ | with_reducible assumption | (with_reducible refine below_alloc ?_ _) | (with_reducible refine Below.setCell ?_ (by first | omega | (simp; done) | (simp; omega)) _) | (with_reducible refine Below.drew ?_) | (with_reducible refine below_drewN ?_ _) | (refine below_then (by with_reducible assumption) ?_)))
        have B4 := Blk.later (Blk.newAt wr 30 #[.slice a2 D.length c2, .int .i64 (of : Int), .int .i64 (m : Int)] rfl) hb4
        obtain ⟨y0, y1, y2, f0, f1, f2, l1⟩ := t_blk B4
        have HF4 := hid (hF.later hb04)
        have HO4 := hid (own_below HOJ.out hb04)
        have HS4 := hid (src_bytes (lift HDD.out hb04))
        have hbw4 := below_then hb04 hb
        have hs4 := hb04.size
        clear hb4 X0 X1 X2 hF
        go_wp2_with (at_builtin; go_loud (refine wpList_append_src rfl _ _ _ rfl (w.heap.size + 1) 5 i0 (.int .u8 0) 1 1 Try.underlying22 hi hz0 hz1 hz2 rfl (by decide) (.slice aJ J.length cJ) J.length (byteCells J) rfl HO4.out a2 D.length c2 (byteCells D) rfl HS4.out HONE.out (by simp only [maxLen]; omega) (by omega) (by omega) ?_; intro v' w5 hown5 hgrow5 hat5; obtain ⟨a5, c5, rfl⟩ := own_form hown5; have HO5 := hid hown5; have HG5 := hid hgrow5; have hb5 : Below (w.heap.size + 1) w4 w5 := (Below.grown (Below.refl _ _) hgrow5 (by omega) (fun g e => (HO4.out.lt g e).1)); have hbw5 := hbw4.trans (hb5.mono (by omega)); have HF5 := hid (HF4.out.below hb5 (by omega)); have B5 := Blk.grown B4 hgrow5 (fun e => by have := (HO4.out.lt _ e.symm).1; first | omega | (have h9 := HOJ.out.lt _ e.symm; omega)); obtain ⟨z0, z1, z2, e0, e1, e2, l2⟩ := t_blk B5; have hs5 := hb5.size; clear hown5 hgrow5 hat5 hb5 y0 y1 y2 f0 f1 f2))
        have ho5 := HO5.out
        rw [byteCells_app2, ← List.length_append] at ho5
        have HAG := hid (expand_again2 w5 (J ++ D) ho5 (by omega) of m hcc (by simp; omega))
        rw [List.length_append] at HAG
        clear ho5
        refine HAG.out.mono ?_
        rintro r w6 ⟨a6, c6, rfl, ho6, hb6⟩
        have HO6 := hid ho6
        have HF6 := hid (HF5.out.below hb6 (by omega))
        have hbw6 := hbw5.trans (hb6.mono (by omega))
        have hs6 := hb6.size
        clear ho6 hb6 z0 z1 z2 e0 e1 e2
        go_wp2
        go_roundw
        case rel => exact ⟨k + 1, againL of m (J ++ D), a6, c6, by omega, by go_num, by rw [hall], by rw [hall]; exact HO6.out, HST, by omega, hbw6, by omega, HF6.out⟩
        case measure => simp [intOf]; omega
      · rw [if_neg hz] at hst
        have hgt : (wrongR xs[k] J.length bound == (0 : Int)) = false := by simp [hz]
        have hgt2 : (wrongR xs[k] J.length bound != (0 : Int)) = true := by simp [hz]
        have HFA := hid (fun (W : World) => fault_at W _ (k : Int) hz)
        have HST := hid (hJ.out.trans hst)
        generalize wrongR xs[k] J.length bound = V at *
        generalize xs[k] = y at *
        obtain ⟨D, of, m⟩ := y
        dsimp only at *
        clear hst hz hJ ho
        go_wp2_with fail
        refine (HW.out _).mono ?_
        rintro r w4 ⟨rfl, hb4⟩
        have hb04 : Below wr.heap.size wr w4 := by clear hb; (repeat (first | with_reducible exact Below.refl _ _ | with_reducible assumption | (with_reducible refine below_alloc ?_ _) | (with_reducible refine Below.setCell ?_ (by first | omega | (simp; done) | (simp; omega)) _) | (with_reducible refine Below.drew ?_) | (with_reducible refine below_drewN ?_ _) | (refine below_then (by with_reducible assumption) ?_)))
        have HF4 := hid (hF.later hb04)
        have hbw4 := below_then hb04 hb
        clear hb4 X0 X1 X2 hF
        go_wp2_with fail
        refine (HFA.out _).mono ?_
        rintro r w5 ⟨rfl, hb5⟩
        have F5 := HF4.out.later hb5
        obtain ⟨y0, y1, g0, g1, l1⟩ := f_blk F5
        have hbw5 := below_then hb5 hbw4
        clear F5 hb5
        go_wp2
        rw [HST.out]
        refine bodyPost_ret (v := .tuple #[.slice none 0 0, .agg #[.int .i64 V, .int .i64 (k : Int)]]) (by simp [results, Try.results81, go_sem, y0, y1, l1]) rfl ⟨_, rfl, empty_bytes rfl rfl (by omega), by (repeat (first | with_reducible exact Below.refl _ _ | with_reducible assumption | (with_reducible refine below_alloc ?_ _) | (with_reducible refine Below.setCell ?_ (by first | omega | (simp; done) | (simp; omega)) _) | (with_reducible refine Below.drew ?_) | (with_reducible refine below_drewN ?_ _) | (refine below_then (by with_reducible assumption) ?_)))⟩
    · obtain rfl : k = xs.length := by omega
      have d1 : decide ((xs.length : Int) < (xs.length : Int)) = false := decide_eq_false (by omega)
      have hfin : Hid (exT bound 0 [] xs = (J, 0, 0)) := hid (hJ.out.trans exT_last)
      have HV := hid (own_bytes2 rfl ho)
      obtain ⟨y0, y1, g0, g1, l1⟩ := f_blk hF
      clear ho hJ hF
      go_wp2
      rw [hfin.out]
      refine bodyPost_ret (v := .tuple #[.slice aJ J.length cJ, .agg #[.int .i64 0, .int .i64 0]]) (by simp [results, Try.results81, go_sem, y0, y1, l1]) rfl ⟨_, rfl, ?_, by (repeat (first | with_reducible exact Below.refl _ _ | with_reducible assumption | (with_reducible refine below_alloc ?_ _) | (with_reducible refine Below.setCell ?_ (by first | omega | (simp; done) | (simp; omega)) _) | (with_reducible refine Below.drew ?_) | (with_reducible refine below_drewN ?_ _) | (refine below_then (by with_reducible assumption) ?_)))⟩
      refine rBytes.mono (rBytes.keep HV.out fun q hq => ?_) fun q hq => ⟨by omega, by simp [World.setCell]; exact hq.2⟩
      repeat (rw [Below.heap_setCell _ _ _ _ (by dsimp only; omega)])

set_option maxRecDepth 100000 in
set_option maxHeartbeats 6400000 in
theorem ref12_tokens (w : World) (xs : List Tok) (a : Option Addr) (n c : Nat) (hl : rToks.r (· < w.heap.size) w [.slice a n c] xs) (bound : Int) (hbd : -4611686018427387904 ≤ bound ∧ bound ≤ 1048576) :
    Calls Try.prog 40 #[.slice a n c, .int .i64 bound] w fun r w' => ∃ v, r = .returned (.tuple #[v, .agg #[.int .i64 (exT bound 0 [] xs).2.1, .int .i64 (exT bound 0 [] xs).2.2]]) ∧ rBytes.r (fun q => w.heap.size ≤ q ∧ q < w'.heap.size) w' [v] (exT bound 0 [] xs).1 ∧ Below w.heap.size w w' := by
  obtain ⟨rfl, hm, _, _⟩ := sl_len hl
  have HL := hid hl; clear hl
  go_enter Try.func40, Try.ntmps40
  go_wp2_with fail
  go_loopw [6, 7] (fun o i wr => ∃ (k : Nat) (J : List UInt8) (aJ : Option Addr) (cJ : Nat), k ≤ xs.length ∧ i = .int .i64 k ∧ o = .slice aJ J.length cJ ∧ rBytes.r (fun q => w.heap.size + 1 ≤ q ∧ q < wr.heap.size) wr [.slice aJ J.length cJ] J ∧ Hid (exT bound 0 [] xs = exT bound k J (xs.drop k)) ∧ J.length ≤ 1048576 ∧ Below w.heap.size w wr ∧ w.heap.size + 1 ≤ wr.heap.size ∧ Blk wr w.heap.size 48 #[.int .i64 0, .int .i64 0]) (fun _ i _ => xs.length - (intOf i).toNat)
  case atStart => exact ⟨0, [], none, 0, Nat.zero_le _, rfl, rfl, empty_bytes rfl rfl (by omega), hid rfl, by simp, by (repeat (first | with_reducible exact Below.refl _ _ | with_reducible assumption | (with_reducible refine below_alloc ?_ _) | (with_reducible refine Below.setCell ?_ (by first | omega | (simp; done) | (simp; omega)) _) | (with_reducible refine Below.drew ?_) | (with_reducible refine below_drewN ?_ _) | (refine below_then (by with_reducible assumption) ?_))), by simp, by (repeat (first | assumption | exact Blk.newAt _ _ _ (by first | (simp; done) | (simp; omega)) | refine Blk.alloc ?_ _ | refine Blk.drew ?_ | refine Blk.drewN ?_ _ | refine Blk.far ?_ (by first | (simp; done) | (simp; omega)) _))⟩
  case round =>
    obtain ⟨k, J, aJ, cJ, hk, rfl, rfl, ho, hJ, hln, hb, hbs, hF⟩ := hrel
    rcases Nat.lt_or_ge k xs.length with hlt | hge
    · obtain ⟨b, o, hA, hbb, a2, c2, x0, x1, x2, hb1, hb2, hD⟩ := tok_at HL.out hlt
      subst hA
      have X0 := (hb.cell (p := ⟨b, o + k * 3, none⟩) hbb).trans x0
      have X1 := (hb.cell (p := ⟨b, o + k * 3 + 1, none⟩) hbb).trans x1
      have X2 := (hb.cell (p := ⟨b, o + k * 3 + 2, none⟩) hbb).trans x2
      have hst := exT_step (bound := bound) (out := J) hlt
      have HRT := hid (fun (W : World) => ref11_right xs[k] a2 c2 W (by have := (sl_len hD).2.1; omega) hb1 hb2)
      have HLN := hid (fun (W : World) => ref11_len xs[k] a2 c2 W (by have := (sl_len hD).2.1; omega) hb1 hb2)
      have hnl := tokN_le xs[k]
      have HDD := hid (lift hD hb)
      have i1 : (k : Int) < (xs.length : Int) := by omega
      have d1 : decide ((k : Int) < (xs.length : Int)) = true := decide_eq_true i1
      clear x0 x1 x2 hD
      by_cases hr : rightB xs[k] = true
      · by_cases hN : bound - J.length < tokN xs[k]
        · have hw : wrongR xs[k] J.length bound = 11 := by unfold wrongR; rw [if_pos hr, if_pos hN]
          rw [hw, if_neg (by omega)] at hst
          rw [hr] at HRT
          have d2 : decide (bound < (J.length : Int) + tokN xs[k]) = true := decide_eq_true (by omega)
          have HFA := hid (fun (W : World) => ref01_at W 11 (k : Int) (by omega))
          have HST := hid (hJ.out.trans hst)
          generalize tokN xs[k] = N at *
          generalize xs[k] = y at *
          obtain ⟨D, of, m⟩ := y
          dsimp only at *
          clear hst hJ ho hr hN hw
          go_wp2_with fail
          refine (HRT.out _).mono ?_
          rintro r w4 ⟨rfl, hb4⟩
          have Y0 := (hb4.cell (p := ⟨b, o + k * 3, none⟩) (World.block_lt_of_cell? _ _ X0)).trans X0
          have Y1 := (hb4.cell (p := ⟨b, o + k * 3 + 1, none⟩) (World.block_lt_of_cell? _ _ X1)).trans X1
          have Y2 := (hb4.cell (p := ⟨b, o + k * 3 + 2, none⟩) (World.block_lt_of_cell? _ _ X2)).trans X2
          have HF4 := hid (hF.later hb4)
          have hbw4 := below_then hb4 hb
          clear hb4 X0 X1 X2 hF
          go_wp2_with fail
          refine (HLN.out _).mono ?_
          rintro r w5 ⟨rfl, hb5⟩
          have HF5 := hid (HF4.out.later hb5)
          have hbw5 := below_then hb5 hbw4
          clear hb5 Y0 Y1 Y2
          go_wp2_with fail
          refine (HFA.out _).mono ?_
          rintro r w6 ⟨rfl, hb6⟩
          have F6 := HF5.out.later hb6
          obtain ⟨y0, y1, g0, g1, l1⟩ := f_blk F6
          have hbw6 := below_then hb6 hbw5
          clear F6 hb6
          go_wp2
          rw [HST.out]
          refine bodyPost_ret (v := .tuple #[.slice none 0 0, .agg #[.int .i64 11, .int .i64 (k : Int)]]) (by simp [results, Try.results40, go_sem, y0, y1, l1]) rfl ⟨_, rfl, empty_bytes rfl rfl (by omega), by (repeat (first | with_reducible exact Below.refl _ _ | with_reducible assumption | (with_reducible refine below_alloc ?_ _) | (with_reducible refine Below.setCell ?_ (by first | omega | (simp; done) | (simp; omega)) _) | (with_reducible refine Below.drew ?_) | (with_reducible refine below_drewN ?_ _) | (refine below_then (by with_reducible assumption) ?_)))⟩
        · by_cases hof : (J.length : Int) < xs[k].off
          · have hw : wrongR xs[k] J.length bound = 10 := by unfold wrongR; rw [if_pos hr, if_neg hN, if_pos hof]
            rw [hw, if_neg (by omega)] at hst
            rw [hr] at HRT
            have d2 : decide (bound < (J.length : Int) + tokN xs[k]) = false := decide_eq_false (by omega)
            have d3 : decide ((J.length : Int) < xs[k].off) = true := decide_eq_true hof
            have HFA := hid (fun (W : World) => ref01_at W 10 (k : Int) (by omega))
            have HST := hid (hJ.out.trans hst)
            generalize tokN xs[k] = N at *
            generalize xs[k] = y at *
            obtain ⟨D, of, m⟩ := y
            dsimp only at *
            clear hst hJ ho hr hN hw
            go_wp2_with fail
            refine (HRT.out _).mono ?_
            rintro r w4 ⟨rfl, hb4⟩
            have Y0 := (hb4.cell (p := ⟨b, o + k * 3, none⟩) (World.block_lt_of_cell? _ _ X0)).trans X0
            have Y1 := (hb4.cell (p := ⟨b, o + k * 3 + 1, none⟩) (World.block_lt_of_cell? _ _ X1)).trans X1
            have Y2 := (hb4.cell (p := ⟨b, o + k * 3 + 2, none⟩) (World.block_lt_of_cell? _ _ X2)).trans X2
            have HF4 := hid (hF.later hb4)
            have hbw4 := below_then hb4 hb
            clear hb4 X0 X1 X2 hF
            go_wp2_with fail
            refine (HLN.out _).mono ?_
            rintro r w5 ⟨rfl, hb5⟩
            have HF5 := hid (HF4.out.later hb5)
            have hbw5 := below_then hb5 hbw4
            have Z1 := (hb5.cell (p := ⟨b, o + k * 3 + 1, none⟩) (World.block_lt_of_cell? _ _ Y1)).trans Y1
            clear hb5 Y0 Y1 Y2
            go_wp2_with fail
            refine (HFA.out _).mono ?_
            rintro r w6 ⟨rfl, hb6⟩
            have F6 := HF5.out.later hb6
            obtain ⟨y0, y1, g0, g1, l1⟩ := f_blk F6
            have hbw6 := below_then hb6 hbw5
            clear F6 hb6 Z1
            go_wp2
            rw [HST.out]
            refine bodyPost_ret (v := .tuple #[.slice none 0 0, .agg #[.int .i64 10, .int .i64 (k : Int)]]) (by simp [results, Try.results40, go_sem, y0, y1, l1]) rfl ⟨_, rfl, empty_bytes rfl rfl (by omega), by (repeat (first | with_reducible exact Below.refl _ _ | with_reducible assumption | (with_reducible refine below_alloc ?_ _) | (with_reducible refine Below.setCell ?_ (by first | omega | (simp; done) | (simp; omega)) _) | (with_reducible refine Below.drew ?_) | (with_reducible refine below_drewN ?_ _) | (refine below_then (by with_reducible assumption) ?_)))⟩
          · have hw : wrongR xs[k] J.length bound = 0 := by unfold wrongR; rw [if_pos hr, if_neg hN, if_neg hof]
            rw [if_pos hw] at hst
            rw [hr] at HRT
            obtain ⟨D, of, m, ht, hc, htn, hfit, hDl, hml, hrt⟩ := wrong_zero hw
            have d2 : decide (bound < (J.length : Int) + tokN xs[k]) = false := decide_eq_false (by omega)
            have d3 : decide ((J.length : Int) < xs[k].off) = false := decide_eq_false hof
            generalize tokN xs[k] = N at *
            generalize xs[k] = y at *
            subst ht
            dsimp only at *
            rw [Int.toNat_natCast, Int.toNat_natCast] at hst
            have hall := againL_len of m (J ++ D)
            have HST := hid (hJ.out.trans hst)
            have HJR := hid (rBytes.mono (S' := (· < wr.heap.size)) ho fun q hq => hq.2)
            have HWI := hid (fun (W : World) (hW : Below wr.heap.size wr W) => ref12_with W J aJ _ cJ (lift HJR.out hW) D a2 _ c2 (lift HDD.out hW) of m hc (by omega))
            simp only [List.length_append] at hall
            have d3' : decide (J.length < of) = false := decide_eq_false (by omega)
            clear hst hJ ho hr hN hw hc hof hrt htn
            go_wp2_with fail
            refine (HRT.out _).mono ?_
            rintro r w4 ⟨rfl, hb4⟩
            have Y0 := (hb4.cell (p := ⟨b, o + k * 3, none⟩) (World.block_lt_of_cell? _ _ X0)).trans X0
            have Y1 := (hb4.cell (p := ⟨b, o + k * 3 + 1, none⟩) (World.block_lt_of_cell? _ _ X1)).trans X1
            have Y2 := (hb4.cell (p := ⟨b, o + k * 3 + 2, none⟩) (World.block_lt_of_cell? _ _ X2)).trans X2
            clear X0 X1 X2
            go_wp2_with fail
            refine (HLN.out _).mono ?_
            rintro r w5 ⟨rfl, hb5⟩
            have hb05 := below_then hb5 hb4
            have Z0 := (hb5.cell (p := ⟨b, o + k * 3, none⟩) (World.block_lt_of_cell? _ _ Y0)).trans Y0
            have Z1 := (hb5.cell (p := ⟨b, o + k * 3 + 1, none⟩) (World.block_lt_of_cell? _ _ Y1)).trans Y1
            have Z2 := (hb5.cell (p := ⟨b, o + k * 3 + 2, none⟩) (World.block_lt_of_cell? _ _ Y2)).trans Y2
            have HF5 := hid (hF.later hb05)
            have hbw5 := below_then hb05 hb
            clear hb5 hb4 Y0 Y1 Y2 hF
            go_wp2_with fail
            refine (HWI.out _ hb05).mono ?_
            rintro r w6 ⟨v6, rfl, hr6, hb6⟩
            obtain ⟨a6, c6, hv6, hr6', _⟩ := sl_form hr6
            simp only [List.cons.injEq, and_true] at hv6
            subst hv6
            have HF6 := hid (HF5.out.later hb6)
            have hbw6 := below_then hb6 hbw5
            have hs5 := hb05.size
            have hs6 := hb6.size
            have HR6 := hid (rBytes.mono (S' := fun q => w.heap.size + 1 ≤ q ∧ q < w6.heap.size) hr6' fun q hq => ⟨by omega, hq.2⟩)
            clear hr6 hr6' hb6 Z0 Z1 Z2
            go_wp2
            go_roundw
            case rel => exact ⟨k + 1, againL of m (J ++ D), a6, c6, by omega, by go_num, by rw [hall], HR6.out, HST, by omega, hbw6, by omega, HF6.out⟩
            case measure => simp [intOf]; omega
      · have hw : wrongR xs[k] J.length bound = 3 := by unfold wrongR; rw [if_neg hr]
        rw [hw, if_neg (by omega)] at hst
        rw [Bool.eq_false_iff.2 hr] at HRT
        have HFA := hid (fun (W : World) => ref01_at W 3 (k : Int) (by omega))
        have HST := hid (hJ.out.trans hst)
        generalize xs[k] = y at *
        obtain ⟨D, of, m⟩ := y
        dsimp only at *
        clear hst hJ ho hr hw
        go_wp2_with fail
        refine (HRT.out _).mono ?_
        rintro r w4 ⟨rfl, hb4⟩
        have HF4 := hid (hF.later hb4)
        have hbw4 := below_then hb4 hb
        clear hb4 X0 X1 X2 hF
        go_wp2_with fail
        refine (HFA.out _).mono ?_
        rintro r w6 ⟨rfl, hb6⟩
        have F6 := HF4.out.later hb6
        obtain ⟨y0, y1, g0, g1, l1⟩ := f_blk F6
        have hbw6 := below_then hb6 hbw4
        clear F6 hb6
        go_wp2
        rw [HST.out]
        refine bodyPost_ret (v := .tuple #[.slice none 0 0, .agg #[.int .i64 3, .int .i64 (k : Int)]]) (by simp [results, Try.results40, go_sem, y0, y1, l1]) rfl ⟨_, rfl, empty_bytes rfl rfl (by omega), by (repeat (first | with_reducible exact Below.refl _ _ | with_reducible assumption | (with_reducible refine below_alloc ?_ _) | (with_reducible refine Below.setCell ?_ (by first | omega | (simp; done) | (simp; omega)) _) | (with_reducible refine Below.drew ?_) | (with_reducible refine below_drewN ?_ _) | (refine below_then (by with_reducible assumption) ?_)))⟩
    · obtain rfl : k = xs.length := by omega
      have d1 : decide ((xs.length : Int) < (xs.length : Int)) = false := decide_eq_false (by omega)
      have hfin : Hid (exT bound 0 [] xs = (J, 0, 0)) := hid (hJ.out.trans exT_last)
      have HV := hid ho
      obtain ⟨y0, y1, g0, g1, l1⟩ := f_blk hF
      clear ho hJ hF
      go_wp2
      rw [hfin.out]
      refine bodyPost_ret (v := .tuple #[.slice aJ J.length cJ, .agg #[.int .i64 0, .int .i64 0]]) (by simp [results, Try.results40, go_sem, y0, y1, l1]) rfl ⟨_, rfl, ?_, by (repeat (first | with_reducible exact Below.refl _ _ | with_reducible assumption | (with_reducible refine below_alloc ?_ _) | (with_reducible refine Below.setCell ?_ (by first | omega | (simp; done) | (simp; omega)) _) | (with_reducible refine Below.drew ?_) | (with_reducible refine below_drewN ?_ _) | (refine below_then (by with_reducible assumption) ?_)))⟩
      refine rBytes.mono (rBytes.keep HV.out fun q hq => ?_) fun q hq => ⟨by omega, by simp [World.setCell]; exact hq.2⟩
      repeat (rw [Below.heap_setCell _ _ _ _ (by dsimp only; omega)])
end Go.Proofs.Ytgcdbnbdbjaijaa
namespace Go.Proofs.Ytgcdbnbdbjaijaa
open Go.RowKit Go.Bs Go.Maps
set_option linter.unusedVariables false
set_option linter.unusedSimpArgs false

set_option maxRecDepth 100000 in
set_option maxHeartbeats 3200000 in
theorem token_same1 (x y : Tok) (a a' : Option Addr) (c c' : Nat) (w : World) (hx : rBytes.r (· < w.heap.size) w [.slice a x.lit.length c] x.lit) (hy : rBytes.r (· < w.heap.size) w [.slice a' y.lit.length c'] y.lit) :
    Calls Try.prog 119 #[.agg #[.slice a x.lit.length c, .int .i64 x.off, .int .i64 x.len], .agg #[.slice a' y.lit.length c', .int .i64 y.off, .int .i64 y.len]] w fun r w' => r = .returned (.bool (decide (x = y))) ∧ Below w.heap.size w w' := by
  obtain ⟨D, p, q⟩ := x
  obtain ⟨D', p', q'⟩ := y
  dsimp only at *
  have HB := hid (fun (W : World) (hW : Below w.heap.size w W) => bytes_equal D D' a a' _ c _ c' W (lift hx hW) (lift hy hW))
  by_cases hp : p = p'
  · subst hp
    have e1 : (p == p) = true := by simp
    by_cases hq : q = q'
    · subst hq
      have e2 : (q == q) = true := by simp
      have hfin : Hid (decide ((⟨D, p, q⟩ : Tok) = ⟨D', p, q⟩) = decide (D = D')) := hid (by by_cases h : D = D' <;> simp [h])
      generalize decide (D = D') = R at *
      clear hx hy
      cases R
      all_goals
        go_enter Try.func119, Try.ntmps119
        go_wp2_with fail
        refine (HB.out _ (by (repeat (first | with_reducible exact Below.refl _ _ | with_reducible assumption | (with_reducible refine below_alloc ?_ _) | (with_reducible refine Below.setCell ?_ (by first | omega | (simp; done) | (simp; omega)) _) | (with_reducible refine Below.drew ?_) | (with_reducible refine below_drewN ?_ _) | (refine below_then (by with_reducible assumption) ?_))))).mono ?_
        rintro r w1 ⟨rfl, rfl⟩
        go_wp2
        go_ret
        exact ⟨by rw [hfin.out]; rfl, by (repeat (first | with_reducible exact Below.refl _ _ | with_reducible assumption | (with_reducible refine below_alloc ?_ _) | (with_reducible refine Below.setCell ?_ (by first | omega | (simp; done) | (simp; omega)) _) | (with_reducible refine Below.drew ?_) | (with_reducible refine below_drewN ?_ _) | (refine below_then (by with_reducible assumption) ?_)))⟩
    · have e2 : (q == q') = false := by simpa using hq
      have hfin : Hid (decide ((⟨D, p, q⟩ : Tok) = ⟨D', p, q'⟩) = false) := hid (by simp [hq])
      clear hx hy
      go_enter Try.func119, Try.ntmps119
      go_wp2
      go_ret
      exact ⟨by rw [hfin.out]; rfl, by (repeat (first | with_reducible exact Below.refl _ _ | with_reducible assumption | (with_reducible refine below_alloc ?_ _) | (with_reducible refine Below.setCell ?_ (by first | omega | (simp; done) | (simp; omega)) _) | (with_reducible refine Below.drew ?_) | (with_reducible refine below_drewN ?_ _) | (refine below_then (by with_reducible assumption) ?_)))⟩
  · have e1 : (p == p') = false := by simpa using hp
    have hfin : Hid (decide ((⟨D, p, q⟩ : Tok) = ⟨D', p', q'⟩) = false) := hid (by simp [hp])
    clear hx hy
    go_enter Try.func119, Try.ntmps119
    go_wp2
    go_ret
    exact ⟨by rw [hfin.out]; rfl, by (repeat (first | with_reducible exact Below.refl _ _ | with_reducible assumption | (with_reducible refine below_alloc ?_ _) | (with_reducible refine Below.setCell ?_ (by first | omega | (simp; done) | (simp; omega)) _) | (with_reducible refine Below.drew ?_) | (with_reducible refine below_drewN ?_ _) | (refine below_then (by with_reducible assumption) ?_)))⟩

set_option maxRecDepth 100000 in
set_option maxHeartbeats 3200000 in
theorem equal_toks (xs ys : List Tok) (a a' : Option Addr) (n c n' c' : Nat) (w : World) (hl : rToks.r (· < w.heap.size) w [.slice a n c] xs) (hl' : rToks.r (· < w.heap.size) w [.slice a' n' c'] ys) :
    Calls Try.prog 118 #[.slice a n c, .slice a' n' c', .func (Fn.func 119) #[] #[]] w fun r w' => r = .returned (.bool (decide (xs = ys))) ∧ Below w.heap.size w w' := by
  obtain ⟨rfl, hm, _, _⟩ := sl_len hl
  obtain ⟨rfl, hm', _, _⟩ := sl_len hl'
  have HL := hid hl; have HL' := hid hl'; clear hl hl'
  by_cases hlen : xs.length = ys.length
  · have e0 : ((xs.length : Int) != (ys.length : Int)) = false := by rw [hlen]; simp
    have HLN := hid hlen; clear hlen
    go_enter Try.func118, Try.ntmps118
    go_wp2_with fail
    go_loopw [17] (fun i wr => ∃ k : Nat, k ≤ xs.length ∧ i = .int .i64 k ∧ Hid (xs.take k = ys.take k) ∧ Below w.heap.size w wr) (fun i _ => xs.length - (intOf i).toNat)
    case atStart => exact ⟨0, Nat.zero_le _, rfl, hid rfl, Below.refl _ _⟩
    case round =>
      obtain ⟨k, hk, rfl, heq, hb⟩ := hrel
      rcases Nat.lt_or_ge k xs.length with hlt | hge
      · have hlt' : k < ys.length := by rw [← HLN.out]; exact hlt
        obtain ⟨b, o, hA, hbb, a2, c2, x0, x1, x2, _, _, xl⟩ := tok_at HL.out hlt
        obtain ⟨b', o', hA', hbb', a3, c3, y0, y1, y2, _, _, yl⟩ := tok_at HL'.out hlt'
        subst hA
        subst hA'
        have X0 := (hb.cell (p := ⟨b, o + k * 3, none⟩) hbb).trans x0
        have X1 := (hb.cell (p := ⟨b, o + k * 3 + 1, none⟩) hbb).trans x1
        have X2 := (hb.cell (p := ⟨b, o + k * 3 + 2, none⟩) hbb).trans x2
        have Y0 := (hb.cell (p := ⟨b', o' + k * 3, none⟩) hbb').trans y0
        have Y1 := (hb.cell (p := ⟨b', o' + k * 3 + 1, none⟩) hbb').trans y1
        have Y2 := (hb.cell (p := ⟨b', o' + k * 3 + 2, none⟩) hbb').trans y2
        have hbl' : b' < wr.heap.size := World.block_lt_of_cell? _ _ Y0
        have hbl : b < wr.heap.size := World.block_lt_of_cell? _ _ X0
        have hno := hid (tok_ne hlt hlt')
        have hyes := hid (tok_take_eq heq.out hlt hlt')
        have HS := hid (fun (W : World) (hW : Below wr.heap.size wr W) => token_same1 xs[k] ys[k] a2 a3 c2 c3 W (lift xl (below_then hW hb)) (lift yl (below_then hW hb)))
        clear x0 x1 x2 y0 y1 y2 xl yl
        generalize xs[k] = x at *
        generalize ys[k] = y at *
        have i1 : (k : Int) < (xs.length : Int) := by omega
        have i2 : (k : Int) < (ys.length : Int) := by omega
        have d1 : decide ((k : Int) < (xs.length : Int)) = true := decide_eq_true i1
        have d1' : decide (k < xs.length) = true := decide_eq_true hlt
        by_cases hxy : x = y
        · have hdd : decide (x = y) = true := decide_eq_true hxy
          rw [hdd] at HS
          have hnx : Hid (xs.take (k + 1) = ys.take (k + 1)) := hid (hyes.out hxy)
          obtain ⟨D, p, q⟩ := x
          obtain ⟨D', p', q'⟩ := y
          dsimp only at *
          clear hno hyes hxy hdd
          go_wp2_with fail
          refine (HS.out _ (by (repeat (first | with_reducible exact Below.refl _ _ | with_reducible assumption | (with_reducible refine below_alloc ?_ _) | (with_reducible refine Below.setCell ?_ (by first | omega | (simp; done) | (simp; omega)) _) | (with_reducible refine Below.drew ?_) | (with_reducible refine below_drewN ?_ _) | (refine below_then (by with_reducible assumption) ?_))))).mono ?_
          rintro r w5 ⟨rfl, hb5⟩
          have hbw5 : Below w.heap.size w w5 := by (repeat (first | with_reducible exact Below.refl _ _ | with_reducible assumption | (with_reducible refine below_alloc ?_ _) | (with_reducible refine Below.setCell ?_ (by first | omega | (simp; done) | (simp; omega)) _) | (with_reducible refine Below.drew ?_) | (with_reducible refine below_drewN ?_ _) | (refine below_then (by with_reducible assumption) ?_)))
          go_wp2
          go_roundw
          case rel => exact ⟨k + 1, by omega, by go_num, hnx, hbw5⟩
          case measure => simp [intOf]; omega
        · have hdd : decide (x = y) = false := decide_eq_false hxy
          rw [hdd] at HS
          have hfin : Hid (decide (xs = ys) = false) := hid (decide_eq_false (hno.out hxy))
          obtain ⟨D, p, q⟩ := x
          obtain ⟨D', p', q'⟩ := y
          dsimp only at *
          clear hno hyes hxy hdd
          go_wp2_with fail
          refine (HS.out _ (by (repeat (first | with_reducible exact Below.refl _ _ | with_reducible assumption | (with_reducible refine below_alloc ?_ _) | (with_reducible refine Below.setCell ?_ (by first | omega | (simp; done) | (simp; omega)) _) | (with_reducible refine Below.drew ?_) | (with_reducible refine below_drewN ?_ _) | (refine below_then (by with_reducible assumption) ?_))))).mono ?_
          rintro r w5 ⟨rfl, hb5⟩
          have hbw5 : Below w.heap.size w w5 := by (repeat (first | with_reducible exact Below.refl _ _ | with_reducible assumption | (with_reducible refine below_alloc ?_ _) | (with_reducible refine Below.setCell ?_ (by first | omega | (simp; done) | (simp; omega)) _) | (with_reducible refine Below.drew ?_) | (with_reducible refine below_drewN ?_ _) | (refine below_then (by with_reducible assumption) ?_)))
          go_wp2
          go_ret
          exact ⟨by rw [hfin.out]; rfl, hbw5⟩
      · obtain rfl : k = xs.length := by omega
        have hfin : Hid (decide (xs = ys) = true) := hid (decide_eq_true (by have h := heq.out; rw [List.take_length, HLN.out, List.take_length] at h; exact h))
        go_wp2
        go_ret
        exact ⟨by rw [hfin.out]; rfl, hb⟩
  · have e0 : ((xs.length : Int) != (ys.length : Int)) = true := by simp; omega
    have hfin : Hid (decide (xs = ys) = false) := hid (decide_eq_false (fun e => hlen (by rw [e])))
    clear hlen
    go_enter Try.func118, Try.ntmps118
    go_wp2
    go_ret
    exact ⟨by rw [hfin.out]; rfl, by (repeat (first | exact Below.refl _ _ | assumption | (refine below_alloc ?_ _) | (refine Below.setCell ?_ (by first | omega | (simp; done) | (simp; omega)) _) | (refine Below.drew ?_) | (refine below_drewN ?_ _) | (refine below_then (by assumption) ?_)))⟩
theorem token_same (xs ys : List Tok) (a a' : Option Addr) (n c n' c' : Nat) (w : World) (hl : rToks.r (· < w.heap.size) w [.slice a n c] xs) (hl' : rToks.r (· < w.heap.size) w [.slice a' n' c'] ys) :
    Calls Try.prog 82 #[.slice a n c, .slice a' n' c'] w fun r w' => r = .returned (.bool (decide (xs = ys))) ∧ Below w.heap.size w w' := by
  obtain ⟨rfl, hm, _, _⟩ := sl_len hl
  obtain ⟨rfl, hm', _, _⟩ := sl_len hl'
  have HE := hid (equal_toks xs ys a a' _ c _ c' w hl hl')
  generalize decide (xs = ys) = R at *
  clear hl hl'
  go_enter Try.func82, Try.ntmps82
  go_wp2_with fail
  refine HE.out.mono ?_
  rintro r w5 ⟨rfl, hb5⟩
  go_wp2
  go_ret
  exact ⟨rfl, by (repeat (first | with_reducible exact Below.refl _ _ | with_reducible assumption | (with_reducible refine below_alloc ?_ _) | (with_reducible refine Below.setCell ?_ (by first | omega | (simp; done) | (simp; omega)) _) | (with_reducible refine Below.drew ?_) | (with_reducible refine below_drewN ?_ _) | (refine below_then (by with_reducible assumption) ?_)))⟩

/-- Whether tokens are those that are written, when they make so many bytes at most. -/
def writtenR (bound : Int) (xs : List Tok) : Bool := decide ((exT bound 0 [] xs).2.1 = 0) && decide (toksR (exT bound 0 [] xs).1 = xs)
theorem exT_facts (bound : Int) (hb : bound ≤ 1048576) : ∀ (xs : List Tok) (i : Nat) (out : List UInt8), out.length ≤ 1048576 → (exT bound i out xs).1.length ≤ 1048576 ∧ ((exT bound i out xs).2.1 = 0 → (exT bound i out xs).2.2 = 0)
  | [], i, out, h => ⟨h, fun _ => rfl⟩
  | t :: ts, i, out, h => by
    simp only [exT]
    by_cases hw : wrongR t out.length bound = 0
    · rw [if_pos hw]
      obtain ⟨D, o, m, rfl, _, _, hfit, _, _, _⟩ := wrong_zero hw
      refine exT_facts bound hb ts _ _ ?_
      rw [againL_len]
      simp
      omega
    · rw [if_neg hw]
      exact ⟨by simp, fun e => absurd e hw⟩
set_option maxRecDepth 100000 in
set_option maxHeartbeats 3200000 in
theorem press_written (w : World) (xs : List Tok) (a : Option Addr) (n c : Nat) (hl : rToks.r (· < w.heap.size) w [.slice a n c] xs) :
    Calls Try.prog 43 #[.slice a n c] w fun r w' => r = .returned (.bool (writtenR 1048576 xs)) ∧ Below w.heap.size w w' := by
  obtain ⟨rfl, hm, _, _⟩ := sl_len hl
  have HE := hid (expand_tokens w xs a _ c hl 1048576 (by omega))
  have hf := exT_facts 1048576 (by omega) xs 0 [] (by simp)
  have HL := hid hl
  unfold writtenR
  generalize exT 1048576 0 [] xs = X at *
  obtain ⟨D, k, f⟩ := X
  dsimp only at *
  clear hl
  by_cases hk : k = 0
  · subst hk
    obtain rfl := hf.2 rfl
    have HT := hid (fun (W : World) (aD : Option Addr) (cD : Nat) (h : rBytes.r (· < W.heap.size) W [.slice aD D.length cD] D) => press_tokens W D aD _ cD h hf.1)
    have HS := hid (fun (W : World) (aT : Option Addr) (cT : Nat) (h : rToks.r (· < W.heap.size) W [.slice aT (toksR D).length cT] (toksR D)) (hW : Below w.heap.size w W) => token_same (toksR D) xs aT a _ cT _ c W h (lift HL.out hW))
    rw [show decide ((0 : Int) = 0) = true from rfl, Bool.true_and]
    generalize decide (toksR D = xs) = R at *
    clear hf
    go_enter Try.func43, Try.ntmps43
    go_wp2_with fail
    refine HE.out.mono ?_
    rintro r w1 ⟨v1, rfl, hr1, hb1⟩
    obtain ⟨a1, c1, hv1, hr1', _⟩ := sl_form hr1
    simp only [List.cons.injEq, and_true] at hv1
    subst hv1
    have HP1 := hid (rBytes.mono (S' := (· < w1.heap.size)) hr1' fun q hq => hq.2)
    have HG := hid (fault_good (w1.alloc (.cells #[.int .i64 0, .int .i64 0] 48)) 0 0)
    clear hr1 hr1'
    have hbw1 := hb1
    go_wp2_with fail
    refine HG.out.mono ?_
    rintro r w2 ⟨rfl, hb2⟩
    have hb12 : Below w1.heap.size w1 w2 := by clear hbw1 hb1; (repeat (first | with_reducible exact Below.refl _ _ | with_reducible assumption | (with_reducible refine below_alloc ?_ _) | (with_reducible refine Below.setCell ?_ (by first | omega | (simp; done) | (simp; omega)) _) | (with_reducible refine Below.drew ?_) | (with_reducible refine below_drewN ?_ _) | (refine below_then (by with_reducible assumption) ?_)))
    have hbw2 := below_then hb12 hbw1
    clear hb2
    go_wp2_with fail
    refine (HT.out _ a1 c1 (lift HP1.out hb12)).mono ?_
    rintro r w3 ⟨v3, rfl, hr3, hb3⟩
    obtain ⟨a3, c3, hv3, hr3', _⟩ := sl_form hr3
    simp only [List.cons.injEq, and_true] at hv3
    subst hv3
    have hbw3 := below_then hb3 hbw2
    have HS3 := hid (HS.out w3 a3 c3 (rToks.mono hr3' fun q hq => hq.2) hbw3)
    clear hr3 hr3' hb3
    go_wp2_with fail
    refine HS3.out.mono ?_
    rintro r w4 ⟨rfl, hb4⟩
    have hbw4 := below_then hb4 hbw3
    go_wp2
    go_ret
    exact ⟨rfl, hbw4⟩
  · have d1 : decide (k = 0) = false := decide_eq_false hk
    rw [d1, Bool.false_and]
    clear hf hk
    go_enter Try.func43, Try.ntmps43
    go_wp2_with fail
    refine HE.out.mono ?_
    rintro r w1 ⟨v1, rfl, hr1, hb1⟩
    obtain ⟨a1, c1, hv1, hr1', _⟩ := sl_form hr1
    simp only [List.cons.injEq, and_true] at hv1
    subst hv1
    have hg := fault_good (w1.alloc (.cells #[.int .i64 k, .int .i64 f] 48)) k f
    rw [d1] at hg
    have HG := hid hg
    clear hr1 hr1' hg d1
    go_wp2_with fail
    refine HG.out.mono ?_
    rintro r w2 ⟨rfl, hb2⟩
    go_wp2
    go_ret
    exact ⟨rfl, by (repeat (first | with_reducible exact Below.refl _ _ | with_reducible assumption | (with_reducible refine below_alloc ?_ _) | (with_reducible refine Below.setCell ?_ (by first | omega | (simp; done) | (simp; omega)) _) | (with_reducible refine Below.drew ?_) | (with_reducible refine below_drewN ?_ _) | (refine below_then (by with_reducible assumption) ?_)))⟩
set_option maxRecDepth 100000 in
set_option maxHeartbeats 3200000 in
theorem ref15_written (w : World) (xs : List Tok) (a : Option Addr) (n c : Nat) (hl : rToks.r (· < w.heap.size) w [.slice a n c] xs) (bound : Int) (hbd : -4611686018427387904 ≤ bound ∧ bound ≤ 1048576) :
    Calls Try.prog 45 #[.slice a n c, .int .i64 bound] w fun r w' => r = .returned (.bool (writtenR bound xs)) ∧ Below w.heap.size w w' := by
  obtain ⟨rfl, hm, _, _⟩ := sl_len hl
  have HE := hid (ref12_tokens w xs a _ c hl bound hbd)
  have hf := exT_facts bound hbd.2 xs 0 [] (by simp)
  have HL := hid hl
  unfold writtenR
  generalize exT bound 0 [] xs = X at *
  obtain ⟨D, k, f⟩ := X
  dsimp only at *
  clear hl
  by_cases hk : k = 0
  · subst hk
    obtain rfl := hf.2 rfl
    have HT := hid (fun (W : World) (aD : Option Addr) (cD : Nat) (h : rBytes.r (· < W.heap.size) W [.slice aD D.length cD] D) => ref15_tokens D aD _ cD W h hf.1)
    have HS := hid (fun (W : World) (aT : Option Addr) (cT : Nat) (h : rToks.r (· < W.heap.size) W [.slice aT (toksR D).length cT] (toksR D)) (hW : Below w.heap.size w W) => ref11_same (toksR D) xs aT a _ cT _ c W h (lift HL.out hW))
    rw [show decide ((0 : Int) = 0) = true from rfl, Bool.true_and]
    generalize decide (toksR D = xs) = R at *
    clear hf
    go_enter Try.func45, Try.ntmps45
    go_wp2_with fail
    refine HE.out.mono ?_
    rintro r w1 ⟨v1, rfl, hr1, hb1⟩
    obtain ⟨a1, c1, hv1, hr1', _⟩ := sl_form hr1
    simp only [List.cons.injEq, and_true] at hv1
    subst hv1
    have hb12 : Below w1.heap.size w1 (w1.alloc (.cells #[.int .i64 0, .int .i64 0] 48)) := by clear hb1; (repeat (first | with_reducible exact Below.refl _ _ | with_reducible assumption | (with_reducible refine below_alloc ?_ _) | (with_reducible refine Below.setCell ?_ (by first | omega | (simp; done) | (simp; omega)) _) | (with_reducible refine Below.drew ?_) | (with_reducible refine below_drewN ?_ _) | (refine below_then (by with_reducible assumption) ?_)))
    have HP1 := hid (lift (rBytes.mono (S' := (· < w1.heap.size)) hr1' fun q hq => hq.2) hb12)
    clear hr1 hr1'
    have hbw2 := below_then hb12 hb1
    go_wp2_with fail
    refine (HT.out _ a1 c1 HP1.out).mono ?_
    rintro r w3 ⟨v3, rfl, hr3, hb3⟩
    obtain ⟨a3, c3, hv3, hr3', _⟩ := sl_form hr3
    simp only [List.cons.injEq, and_true] at hv3
    subst hv3
    have hbw3 := below_then hb3 hbw2
    have HS3 := hid (HS.out w3 a3 c3 (rToks.mono hr3' fun q hq => hq.2) hbw3)
    clear hr3 hr3' hb3
    go_wp2_with fail
    refine HS3.out.mono ?_
    rintro r w4 ⟨rfl, hb4⟩
    have hbw4 := below_then hb4 hbw3
    go_wp2
    go_ret
    exact ⟨rfl, hbw4⟩
  · have d1 : decide (k = 0) = false := decide_eq_false hk
    have d2 : (k == 0) = false := by simp [hk]
    rw [d1, Bool.false_and]
    clear hf hk d1
    go_enter Try.func45, Try.ntmps45
    go_wp2_with fail
    refine HE.out.mono ?_
    rintro r w1 ⟨v1, rfl, hr1, hb1⟩
    obtain ⟨a1, c1, hv1, hr1', _⟩ := sl_form hr1
    simp only [List.cons.injEq, and_true] at hv1
    subst hv1
    clear hr1 hr1'
    go_wp2
    go_ret
    exact ⟨rfl, by (repeat (first | with_reducible exact Below.refl _ _ | with_reducible assumption | (with_reducible refine below_alloc ?_ _) | (with_reducible refine Below.setCell ?_ (by first | omega | (simp; done) | (simp; omega)) _) | (with_reducible refine Below.drew ?_) | (with_reducible refine below_drewN ?_ _) | (refine below_then (by with_reducible assumption) ?_)))⟩
def longT (xs : List Tok) : Bool := decide (100 < xs.length) || (xs.take 100).any fun t => decide (300 < t.lit.length)
theorem longT_no {xs : List Tok} (h : longT xs = false) : xs.length ≤ 100 := by
  unfold longT at h
  simp at h
  exact h.1
theorem any_step {xs : List Tok} {p : Tok → Bool} {k : Nat} (hk : k < xs.length) : (xs.take (k + 1)).any p = ((xs.take k).any p || p xs[k]) := by
  rw [List.take_succ_eq_append_getElem hk]; simp only [List.any_append, List.any_cons, List.any_nil, Bool.or_false]
set_option maxRecDepth 100000 in
set_option maxHeartbeats 3200000 in
theorem law11_long (w : World) (xs : List Tok) (a : Option Addr) (n c : Nat) (hl : rToks.r (· < w.heap.size) w [.slice a n c] xs) :
    Calls Try.prog 44 #[.slice a n c] w fun r w' => r = .returned (.bool (longT xs)) ∧ Below w.heap.size w w' := by
  obtain ⟨rfl, hm, _, _⟩ := sl_len hl
  have HL := hid hl; clear hl
  go_enter Try.func44, Try.ntmps44
  go_wp2_with fail
  go_loopw [3] (fun i wr => ∃ k : Nat, k ≤ xs.length ∧ k ≤ 100 ∧ i = .int .i64 k ∧ Hid ((xs.take k).any (fun t => decide (300 < t.lit.length)) = false) ∧ Below w.heap.size w wr) (fun i _ => xs.length - (intOf i).toNat)
  case atStart => exact ⟨0, Nat.zero_le _, by omega, rfl, hid rfl, Below.refl _ _⟩
  case round =>
    obtain ⟨k, hk, hk2, rfl, han, hb⟩ := hrel
    by_cases hlt : k < xs.length
    · by_cases h100 : k < 100
      · obtain ⟨b, o, hA, hbb, a2, c2, x0, x1, x2, _, _, _⟩ := tok_at HL.out hlt
        subst hA
        have X0 := (hb.cell (p := ⟨b, o + k * 3, none⟩) hbb).trans x0
        have hst := any_step (p := fun t => decide (300 < t.lit.length)) hlt
        rw [han.out, Bool.false_or] at hst
        have hin : xs[k] ∈ xs.take 100 := by
          have : (xs.take 100)[k]? = some xs[k] := by rw [List.getElem?_take_of_lt h100]; simp
          exact List.mem_of_getElem? this
        clear x0 x1 x2
        have i1 : (k : Int) < (xs.length : Int) := by omega
        have d1 : decide ((k : Int) < (xs.length : Int)) = true := decide_eq_true i1
        have d2 : decide ((k : Int) < 100) = true := decide_eq_true (by omega)
        by_cases h300 : 300 < xs[k].lit.length
        · have hfin : Hid (longT xs = true) := hid (by unfold longT; rw [Bool.or_eq_true, List.any_eq_true]; exact .inr ⟨_, hin, decide_eq_true h300⟩)
          have d3 : decide ((300 : Int) < (xs[k].lit.length : Int)) = true := decide_eq_true (by omega)
          generalize xs[k] = y at *
          clear hst hin h300
          go_wp2
          go_ret
          exact ⟨by rw [hfin.out]; rfl, hb⟩
        · have d3 : decide ((300 : Int) < (xs[k].lit.length : Int)) = false := decide_eq_false (by omega)
          rw [decide_eq_false h300] at hst
          have HST := hid hst
          generalize xs[k] = y at *
          clear hst hin h300
          go_wp2
          go_roundw
          case rel => exact ⟨k + 1, by omega, by omega, by go_num, HST, hb⟩
          case measure => simp [intOf]; omega
      · obtain rfl : k = 100 := by omega
        have d1 : decide (((100 : Nat) : Int) < (xs.length : Int)) = true := decide_eq_true (by omega)
        have d1' : decide ((100 : Int) < (xs.length : Int)) = true := decide_eq_true (by omega)
        have hfin : Hid (longT xs = true) := hid (by unfold longT; rw [Bool.or_eq_true]; exact .inl (decide_eq_true hlt))
        go_wp2
        go_ret
        exact ⟨by rw [hfin.out]; rfl, hb⟩
    · obtain rfl : k = xs.length := by omega
      have d1 : decide ((xs.length : Int) < (xs.length : Int)) = false := decide_eq_false (by omega)
      have d1' : decide ((100 : Int) < (xs.length : Int)) = false := decide_eq_false (by omega)
      have hfin : Hid (longT xs = false) := hid (by unfold longT; rw [decide_eq_false (by omega), Bool.false_or, List.take_of_length_le (by omega)]; have := han.out; rwa [List.take_length] at this)
      go_wp2
      go_ret
      exact ⟨by rw [hfin.out]; rfl, hb⟩
end Go.Proofs.Ytgcdbnbdbjaijaa
namespace Go.Proofs.Ytgcdbnbdbjaijaa
open Go.RowKit Go.Bs Go.Maps
set_option linter.unusedVariables false
set_option linter.unusedSimpArgs false

theorem tok_run_n {D : List UInt8} (h1 : 1 ≤ D.length) (h2 : D.length ≤ 1048576) : rightB ⟨D, 0, 0⟩ = true ∧ tokN ⟨D, 0, 0⟩ = D.length := by
  have hr : rightB ⟨D, 0, 0⟩ = true := by simp [rightB, runB]; omega
  exact ⟨hr, by unfold tokN; rw [if_pos hr, if_pos rfl]⟩
theorem tok_copy_n {o m : Nat} (h1 : 1 ≤ o) (h2 : o ≤ 65536) (h3 : 4 ≤ m) (h4 : m ≤ 1048576) : rightB ⟨[], (o : Int), (m : Int)⟩ = true ∧ tokN ⟨[], (o : Int), (m : Int)⟩ = m := by
  have hr : rightB ⟨[], (o : Int), (m : Int)⟩ = true := by simp [rightB, copyB]; omega
  exact ⟨hr, by unfold tokN; rw [if_pos hr, if_neg (by dsimp only; omega)]⟩
theorem exT_good {b : List UInt8} {bound : Int} (hb : b.length ≤ 1048576) (hbd : (b.length : Int) ≤ bound) {f : Bool} {p : Nat} {ts : List Tok} (hg : Good b f p ts) : p ≤ b.length → ∀ i, exT bound i (b.take p) ts = (b, 0, 0) := by
  induction hg with
  | nil => intro _ i; simp [exT]
  | @copy f p o m rest hp hbe hm hg ih =>
    intro _ i
    rcases bestR_facts b p with h0 | ⟨o', m', he, h1, h2, h4, hml, _, _⟩
    · rw [hbe] at h0; simp at h0; omega
    · rw [hbe] at he
      simp only [Prod.mk.injEq] at he
      obtain ⟨rfl, rfl⟩ := he
      have hmb := mlen_le b p o
      have hre : reach p ≤ p ∧ reach p ≤ 65536 := by unfold reach; omega
      have hlen : (b.take p).length = p := by simp; omega
      obtain ⟨hr, hn⟩ := tok_copy_n (o := o) (m := m) h1 (by omega) h4 (by omega)
      have hw : wrongR ⟨[], (o : Int), (m : Int)⟩ ((b.take p).length : Int) bound = 0 := by
        unfold wrongR
        rw [if_pos hr, hn, hlen, if_neg (by omega), if_neg (by dsimp only; omega)]
      simp only [exT]
      rw [if_pos hw, Int.toNat_natCast, Int.toNat_natCast, List.append_nil, againL_take m p (by omega) h1 (by omega) (fun k hk => (mlen_same (by omega)).2.2.2)]
      exact ih (by omega) _
  | @run p q' rest hlt hle hno hg ih =>
    intro _ i
    have hD : ((b.drop p).take (q' - p)).length = q' - p := by simp; omega
    have hlen : (b.take p).length = p := by simp; omega
    have hte : b.take p ++ (b.drop p).take (q' - p) = b.take q' := by
      rw [← List.take_append_drop p (b.take q'), List.take_take, Nat.min_eq_left (by omega), List.drop_take]
    obtain ⟨hr, hn⟩ := tok_run_n (D := (b.drop p).take (q' - p)) (by omega) (by omega)
    have hw : wrongR ⟨(b.drop p).take (q' - p), 0, 0⟩ ((b.take p).length : Int) bound = 0 := by
      unfold wrongR
      rw [if_pos hr, hn, hlen, hD, if_neg (by omega), if_neg (by dsimp only; omega)]
    simp only [exT]
    rw [if_pos hw, hte]
    exact ih (by omega) _
theorem exT_toks {b : List UInt8} {bound : Int} (hb : b.length ≤ 1048576) (hbd : (b.length : Int) ≤ bound) : exT bound 0 [] (toksR b) = (b, 0, 0) := by
  have := exT_good hb hbd (good_toksR b) (by omega) 0
  simpa using this
theorem written_toks {b : List UInt8} (hb : b.length ≤ 1048576) : writtenR 1048576 (toksR b) = true := by
  unfold writtenR
  rw [exT_toks hb (by omega)]
  simp
theorem tokensB_good {b : List UInt8} (hb : b.length ≤ 1048576) {f : Bool} {p : Nat} {ts : List Tok} (hg : Good b f p ts) : p ≤ b.length → (tokensB ts).length ≤ 11 * (b.length - p) := by
  induction hg with
  | nil => intro _; simp [tokensB]
  | @copy f p o m rest hp hbe hm hg ih =>
    intro _
    have h2 := (bestR_room b p).1
    have h1 := bestR_facts b p
    rw [hbe] at h1 h2
    dsimp only at h1 h2
    have h4 : 4 ≤ m := by
      rcases h1 with h1 | ⟨o', m', h1, _, _, h4, _⟩
      · simp only [Prod.mk.injEq] at h1; omega
      · simp only [Prod.mk.injEq] at h1; omega
    have := ih (by omega)
    have ht := tokB_len ⟨[], (o : Int), (m : Int)⟩
    simp only [List.length_nil] at ht
    simp only [tokensB, List.map_cons, List.flatten_cons, List.length_append] at this ⊢
    omega
  | @run p q' rest hlt hle hno hg ih =>
    intro _
    have := ih (by omega)
    have hD : ((b.drop p).take (q' - p)).length = q' - p := by simp; omega
    have ht : (tokB ⟨(b.drop p).take (q' - p), 0, 0⟩).length ≤ 10 + (q' - p) := by
      unfold tokB
      split
      · rw [List.length_append, hD]; have := (varB_len (2 * (q' - p) - 2)).1; omega
      · rename_i hr
        exfalso
        apply hr
        simp [runB]
        omega
    simp only [tokensB, List.map_cons, List.flatten_cons, List.length_append] at this ⊢
    omega
theorem pressB_len {b : List UInt8} (hb : b.length ≤ 1048576) : (pressB b).length ≤ 11 * b.length := by
  have := tokensB_good hb (good_toksR b) (by omega)
  exact this

set_option maxRecDepth 100000 in
set_option maxHeartbeats 6400000 in
theorem pressBack_c (b : List UInt8) (a : Option Addr) (n c : Nat) (w : World) (hl : rBytes.r (· < w.heap.size) w [.slice a n c] b) :
    Calls Try.prog 7 #[.slice a n c] w fun r w' => r = .returned (.bool true) ∧ Below w.heap.size w w' := by
  obtain ⟨rfl, hm, _, _⟩ := sl_len hl
  by_cases h400 : b.length ≤ 400
  · have d0 : decide ((400 : Int) < (b.length : Int)) = false := decide_eq_false (by omega)
    have hlen : b.length ≤ 1048576 := by omega
    have hpl := pressB_len hlen
    have HL := hid hl
    have HB := hid (press_bytes w b a _ c hl hlen)
    have hEX := exB_press hlen (Int.le_refl (b.length : Int))
    have hR := hid (fun (W : World) (aD : Option Addr) (cD : Nat) (h : rBytes.r (· < W.heap.size) W [.slice aD (pressB b).length cD] (pressB b)) => ref12_bytes W (pressB b) aD _ cD h (by omega) (b.length : Int) (by omega))
    have hC := hid (fun (W : World) (aD : Option Addr) (cD : Nat) (h : rBytes.r (· < W.heap.size) W [.slice aD (pressB b).length cD] (pressB b)) => press_check W (pressB b) aD _ cD h (by omega) (b.length : Int) (by omega))
    rw [hEX] at hR hC
    dsimp only at hR hC
    rw [decide_eq_true (rfl : pressB b = pressB b), show (decide ((0 : Int) = 0) && true) = true from rfl] at hC
    have HT := hid (fun (W : World) (hW : Below w.heap.size w W) => press_tokens W b a _ c (lift HL.out hW) hlen)
    have HWR := hid (fun (W : World) (aT : Option Addr) (cT : Nat) (h : rToks.r (· < W.heap.size) W [.slice aT (toksR b).length cT] (toksR b)) => press_written W (toksR b) aT _ cT h)
    rw [written_toks hlen] at HWR
    rw [show tokensB (toksR b) = pressB b from rfl] at HB
    generalize toksR b = T at *
    generalize pressB b = K at *
    clear hl hEX
    go_enter Try.func7, Try.ntmps7
    go_wp2_with fail
    refine HB.out.mono ?_
    rintro r w1 ⟨v1, rfl, hr1, hb1⟩
    obtain ⟨a1, c1, hv1, hr1', _⟩ := sl_form hr1
    simp only [List.cons.injEq, and_true] at hv1
    subst hv1
    have HK1 := hid (rBytes.mono hr1' (S' := (· < w1.heap.size)) fun q hq => hq.2)
    clear hr1 hr1'
    go_wp2_with fail
    refine (hR.out w1 a1 c1 HK1.out).mono ?_
    rintro r w2 ⟨v2, rfl, hr2, hb2⟩
    obtain ⟨a2, c2, hv2, hr2', _⟩ := sl_form hr2
    simp only [List.cons.injEq, and_true] at hv2
    subst hv2
    have HP2 := hid (rBytes.mono hr2' (S' := (· < w2.heap.size)) fun q hq => hq.2)
    have hb12 : Below w1.heap.size w1 (w2.alloc (.cells #[.int .i64 0, .int .i64 0] 48)) := by clear hb1; (repeat (first | with_reducible exact Below.refl _ _ | with_reducible assumption | (with_reducible refine below_alloc ?_ _) | (with_reducible refine Below.setCell ?_ (by first | omega | (simp; done) | (simp; omega)) _) | (with_reducible refine Below.drew ?_) | (with_reducible refine below_drewN ?_ _) | (refine below_then (by with_reducible assumption) ?_)))
    have hbw2 := below_then hb12 hb1
    clear hr2 hr2'
    go_wp2_with fail
    refine (hC.out _ a1 c1 (lift HK1.out hb12)).mono ?_
    rintro r w3 ⟨v3, rfl, hr3, hb3⟩
    obtain ⟨a3, c3, hv3, hr3', _⟩ := sl_form hr3
    simp only [List.cons.injEq, and_true] at hv3
    subst hv3
    have HP3 := hid (rBytes.mono hr3' (S' := (· < w3.heap.size)) fun q hq => hq.2)
    have F2 := Blk.later (Blk.newAt w2 _ _ rfl) hb3
    have hbw3 : Below w.heap.size w (w3.alloc (.cells #[.int .i64 0, .int .i64 0] 48)) := below_alloc (below_then hb3 hbw2) _
    have hb23 : Below w2.heap.size w2 (w3.alloc (.cells #[.int .i64 0, .int .i64 0] 48)) := by clear hb1 hb12 hbw2 hbw3; (repeat (first | with_reducible exact Below.refl _ _ | with_reducible assumption | (with_reducible refine below_alloc ?_ _) | (with_reducible refine Below.setCell ?_ (by first | omega | (simp; done) | (simp; omega)) _) | (with_reducible refine Below.drew ?_) | (with_reducible refine below_drewN ?_ _) | (refine below_then (by with_reducible assumption) ?_)))
    have F3 := F2.alloc (.cells #[.int .i64 0, .int .i64 0] 48)
    have G3 := Blk.newAt w3 48 #[.int .i64 0, .int .i64 0] rfl
    clear hr3 hr3' F2
    go_wp2_with fail
    refine (HT.out _ hbw3).mono ?_
    rintro r w4 ⟨v4, rfl, hr4, hb4⟩
    obtain ⟨a4, c4, hv4, hr4', _⟩ := sl_form hr4
    simp only [List.cons.injEq, and_true] at hv4
    subst hv4
    have HT4 := hid (rToks.mono hr4' (S' := (· < w4.heap.size)) fun q hq => hq.2)
    obtain ⟨x0, x1, e0, e1, l1⟩ := f_blk (F3.later hb4)
    obtain ⟨y0, y1, g0, g1, l2⟩ := f_blk (G3.later hb4)
    have hbw4 := below_then hb4 hbw3
    have hb24 := below_then hb4 hb23
    have hb34 := below_then hb4 (below_alloc (Below.refl w3.heap.size w3) (.cells #[.int .i64 0, .int .i64 0] 48))
    have hs1 := same_bytes b b a2 a _ c2 _ c w4 (lift HP2.out hb24) (lift HL.out hbw4)
    have hs2 := same_bytes b b a3 a _ c3 _ c w4 (lift HP3.out hb34) (lift HL.out hbw4)
    simp only [decide_true] at hs1 hs2
    have HS1 := hid hs1
    have HS2 := hid hs2
    have HW4 := hid (HWR.out w4 a4 c4 HT4.out)
    clear hr4 hr4' F3 G3 hs1 hs2 hb4
    go_wp2_with fail
    refine HS1.out.mono ?_
    rintro r w4' ⟨rfl, rfl⟩
    go_wp2_with fail
    refine HS2.out.mono ?_
    rintro r w4' ⟨rfl, rfl⟩
    go_wp2_with fail
    refine HW4.out.mono ?_
    rintro r w5 ⟨rfl, hb5⟩
    have hbw5 := below_then hb5 hbw4
    go_wp2_with fail
    refine (live15 _).mono ?_
    rintro r w9 ⟨rfl, hb9⟩
    have hbe := below_then hb9 hbw5
    go_wp2
    go_ret
    exact ⟨rfl, hbe⟩
  · have d0 : decide ((400 : Int) < (b.length : Int)) = true := decide_eq_true (by omega)
    go_enter Try.func7, Try.ntmps7
    go_wp2_with fail
    refine (live15 _).mono ?_
    rintro r w9 ⟨rfl, hb9⟩
    go_wp2
    go_ret
    exact ⟨rfl, hb9⟩

set_option maxRecDepth 100000 in
theorem pressBack_walk {H : Type} (enc : TypeId × Value → H) (W : World) (base : Nat) (v0 : Value) (d0 : DataW H) (p0 : List MemPlace)
    (k0 : DataW.Trod enc Try.prog W 0 (fun _ => true) true 22 v0 d0 p0) (o0 : Value.okWide Try.prog W .any base 22 v0) :
    Calls Try.prog 7 #[v0] W fun e w' => e = .returned (.bool true) ∧ Below W.heap.size W w' := by
  obtain ⟨fuel, hf⟩ := k0
  obtain ⟨a, len, cap, rfl⟩ := Go.WideShapes.okWide_slice Try.underlying22 o0
  obtain ⟨b, hb⟩ := o_bytes enc W fuel _ _ hf
  exact pressBack_c b a len cap W hb
end Go.Proofs.Ytgcdbnbdbjaijaa
