/- What is put is read: plain. BlockBack: for every input the law returns true. -/
import Derived.Test.YtgcdbnbdbjaijaaMC
import Derived.Test.YtgcdbnbdbjaijaaGrd
namespace Go.Proofs.Ytgcdbnbdbjaijaa
open Go.RowKit Go.Bs Go.Maps
set_option linter.unusedVariables false
set_option linter.unusedSimpArgs false

theorem vget_varF (rest : List UInt8) : ∀ (f i x y : Nat), f + i = 9 → (0 < i → 0 < x) → x * 128 ^ i < 18446744073709551616 → vget i y (varF f x ++ rest) = (y + x * 128 ^ i, i + (varF f x).length, 0)
  | 0, i, x, y, h, hp, hx => by
    obtain rfl : i = 9 := by omega
    have hx2 : x < 2 := by omega
    have ht : (UInt8.ofNat x).toNat = x := by simp; omega
    have := hp (by omega)
    simp only [varF, List.cons_append, List.nil_append, List.length_cons, List.length_nil]
    unfold vget
    rw [ht, if_neg (by omega), if_neg (by omega), if_pos (by omega)]
  | f + 1, i, x, y, h, hp, hx => by
    simp only [varF]
    by_cases h128 : x < 128
    · rw [if_pos h128]
      have ht : (UInt8.ofNat x).toNat = x := by simp; omega
      simp only [List.cons_append, List.nil_append, List.length_cons, List.length_nil]
      unfold vget
      rw [ht, if_neg (by omega), if_neg (by omega), if_pos (by omega)]
    · rw [if_neg h128]
      have ht : (UInt8.ofNat (128 + x % 128)).toNat = 128 + x % 128 := by simp; omega
      simp only [List.cons_append, List.length_cons]
      unfold vget
      rw [ht, if_neg (by omega), if_neg (by omega), if_neg (by omega)]
      have hdm : x = 128 * (x / 128) + x % 128 := (Nat.div_add_mod x 128).symm
      have he : x / 128 * 128 ^ (i + 1) + x % 128 * 128 ^ i = x * 128 ^ i := by
        rw [Nat.pow_succ]
        generalize 128 ^ i = k
        conv => rhs; rw [hdm]
        rw [Nat.add_mul, Nat.mul_comm k 128, ← Nat.mul_assoc, Nat.mul_comm 128]
      rw [vget_varF rest f (i + 1) (x / 128) _ (by omega) (fun _ => by omega) (by omega)]
      refine Prod.ext ?_ (Prod.ext ?_ rfl)
      · dsimp only
        rw [show (128 + x % 128) % 128 = x % 128 by omega]
        omega
      · dsimp only; omega
theorem vget_varB (x : Nat) (rest : List UInt8) (hx : x < 18446744073709551616) : vget 0 0 (varB x ++ rest) = (x, (varB x).length, 0) := by
  have := vget_varF rest 9 0 x 0 rfl (fun h => by omega) (by simpa using hx)
  unfold varB
  rw [this]; simp
theorem Rs.num_varB {B rest : List UInt8} {p x : Nat} (hx : x < 18446744073709551616) (h : B.drop p = varB x ++ rest) : (⟨p, 0, 0⟩ : Rs).num B = (⟨p + (varB x).length, 0, 0⟩, x) := by
  unfold Rs.num
  rw [if_pos rfl]
  dsimp only
  rw [h, vget_varB x rest hx]
  rfl
theorem drop_more {B D rest : List UInt8} {p : Nat} (h : B.drop p = D ++ rest) : B.drop (p + D.length) = rest := by
  rw [← List.drop_drop, h]; simp
theorem drop_room {B D rest : List UInt8} {p : Nat} (h : B.drop p = D ++ rest) (hp : p ≤ B.length) : p + D.length + rest.length = B.length := by
  have := congrArg List.length h
  simp at this
  omega
theorem Rs.take_pre {B D rest : List UInt8} {p : Nat} (h : B.drop p = D ++ rest) (hp : p ≤ B.length) : (⟨p, 0, 0⟩ : Rs).take B (D.length : Int) = (⟨p + D.length, 0, 0⟩, D) := by
  have hr := drop_room h hp
  unfold Rs.take Rs.skip
  rw [if_pos rfl, if_neg (by omega), if_neg (by dsimp only; omega)]
  simp [h]
theorem Rs.byte_pre {B rest : List UInt8} {p : Nat} {x : UInt8} (h : B.drop p = x :: rest) (hp : p ≤ B.length) : (⟨p, 0, 0⟩ : Rs).byte B = (⟨p + 1, 0, 0⟩, x) := by
  have hr := drop_room (D := [x]) h hp
  simp at hr
  have hx : B.getD p 0 = x := by
    have : (B.drop p)[0]? = some x := by rw [h]; rfl
    simp at this
    simp [List.getD, this]
  unfold Rs.byte Rs.skip
  rw [if_pos rfl, if_neg (by omega), if_neg (by dsimp only; omega)]
  dsimp only
  rw [if_pos rfl, hx]
  rfl
theorem Rs.int_pre {B rest : List UInt8} {p x : Nat} {m : Int} (hx : x < 18446744073709551616) (h : B.drop p = varB x ++ rest) (hm : (x : Int) ≤ m) : (⟨p, 0, 0⟩ : Rs).int B m = (⟨p + (varB x).length, 0, 0⟩, x) := by
  unfold Rs.int Rs.most
  rw [if_pos (by omega), Rs.num_varB hx h, if_neg (by dsimp only; omega)]
theorem Rs.blob_pre {B D rest : List UInt8} {p : Nat} {m : Int} (hx : D.length < 18446744073709551616) (h : B.drop p = blobB D ++ rest) (hp : p ≤ B.length) (hm : (D.length : Int) ≤ m) : (⟨p, 0, 0⟩ : Rs).blob B m = (⟨p + (blobB D).length, 0, 0⟩, D) := by
  unfold blobB at h
  rw [List.append_assoc] at h
  have h2 := drop_more h
  have hr := drop_room h hp
  unfold Rs.blob
  rw [Rs.int_pre hx h hm]
  dsimp only
  rw [Rs.take_pre h2 (by omega)]
  simp [blobB, Nat.add_assoc]

theorem againL_take {b : List UInt8} {o : Nat} : ∀ (m p : Nat), p + m ≤ b.length → 1 ≤ o → o ≤ p → (∀ k, k < m → b[p + k]? = b[p + k - o]?) → againL o m (b.take p) = b.take (p + m)
  | 0, p, _, _, _, _ => rfl
  | m + 1, p, h, h1, h2, hs => by
    have h0 := hs 0 (by omega)
    have hb : b[p]? = some b[p] := by simp
    simp only [Nat.add_zero] at h0
    have e : b.take p ++ [(b.take p).getD ((b.take p).length - o) 0] = b.take (p + 1) := by
      rw [List.length_take, Nat.min_eq_left (by omega)]
      have : (b.take p).getD (p - o) 0 = b[p] := by
        have : (b.take p)[p - o]? = some b[p] := by rw [List.getElem?_take_of_lt (by omega), ← h0, hb]
        simp [List.getD, this]
      rw [this]
      rw [List.take_add_one, hb]; rfl
    simp only [againL]
    rw [e, againL_take m (p + 1) (by omega) h1 (by omega) (fun k hk => by
      have := hs (k + 1) (by omega)
      rw [show p + 1 + k = p + (k + 1) by omega]
      exact this)]
    rw [show p + 1 + m = p + (m + 1) by omega]

theorem exR_good {b B : List UInt8} {bound : Int} (hb : b.length ≤ 1048576) (hbd : (b.length : Int) ≤ bound) {f : Bool} {p : Nat} {ts : List Tok} (hg : Good b f p ts) : p ≤ b.length → ∀ q, q ≤ B.length → B.drop q = tokensB ts → exR B bound ⟨q, 0, 0⟩ (b.take p) = (⟨B.length, 0, 0⟩, b) := by
  induction hg with
  | nil =>
    intro _ q hq h
    have : B.length ≤ q := by simpa [tokensB] using h
    obtain rfl : q = B.length := by omega
    rw [exR_stop (by simp)]
    simp
  | @copy f p o m rest hp hbe hm hg ih =>
    intro _ q hq h
    rcases bestR_facts b p with h0 | ⟨o', m', he, h1, h2, h4, hml, _, _⟩
    · rw [hbe] at h0; simp at h0; omega
    · rw [hbe] at he
      simp only [Prod.mk.injEq] at he
      obtain ⟨rfl, rfl⟩ := he
      have hmb := mlen_le b p o
      have hre : reach p ≤ p ∧ reach p ≤ 65536 := by unfold reach; omega
      have ht : tokensB (⟨[], (o : Int), (m : Int)⟩ :: rest) = varB (2 * m - 7) ++ (varB (o - 1) ++ tokensB rest) := by
        simp only [tokensB, List.map_cons, List.flatten_cons]
        rw [tokB_copy o m h1, List.append_assoc]
      rw [ht] at h
      have hd1 := drop_more h
      have hr1 := drop_room h hq
      have hd2 := drop_more hd1
      have hr2 := drop_room hd1 (by omega)
      have hl1 := (varB_len (2 * m - 7)).2
      have hN := Rs.num_varB (by omega) h
      have hN2 := Rs.num_varB (p := q + (varB (2 * m - 7)).length) (by omega) hd1
      have hH : (⟨q, 0, 0⟩ : Rs).head B = (⟨q + (varB (2 * m - 7)).length, 0, 0⟩, true, m) := by
        unfold Rs.head
        rw [hN]
        dsimp only
        rw [if_pos rfl, if_pos (by omega), if_neg (by omega), show (2 * m - 7) / 2 + 4 = m by omega]
      have hO : (⟨q + (varB (2 * m - 7)).length, 0, 0⟩ : Rs).offset B = (⟨q + (varB (2 * m - 7)).length + (varB (o - 1)).length, 0, 0⟩, o) := by
        unfold Rs.offset
        rw [hN2]
        dsimp only
        rw [if_neg (by omega), if_pos rfl, show o - 1 + 1 = o by omega]
      have hlen : (b.take p).length = p := by simp; omega
      have hS : exStep B bound ⟨q, 0, 0⟩ (b.take p) = (⟨q + (varB (2 * m - 7)).length + (varB (o - 1)).length, 0, 0⟩, b.take (p + m)) := by
        unfold exStep
        rw [hH]
        dsimp only
        rw [hlen, if_neg (by omega), if_neg (by simp), hO]
        dsimp only
        rw [if_neg (by omega), if_pos rfl, againL_take m p (by omega) h1 (by omega) (fun k hk => (mlen_same (by omega)).2.2.2)]
      rw [exR_go ⟨hq, fun _ => rfl⟩ (by dsimp only; omega) rfl, hS]
      exact ih (by omega) _ (by omega) hd2
  | @run p q' rest hlt hle hno hg ih =>
    intro _ q hq h
    have hD : ((b.drop p).take (q' - p)).length = q' - p := by simp; omega
    generalize hDe : (b.drop p).take (q' - p) = D at *
    have ht : tokensB (⟨D, 0, 0⟩ :: rest) = varB (2 * D.length - 2) ++ (D ++ tokensB rest) := by
      simp only [tokensB, List.map_cons, List.flatten_cons]
      rw [tokB_run D (by omega) (by omega), List.append_assoc]
    rw [ht] at h
    have hd1 := drop_more h
    have hr1 := drop_room h hq
    have hd2 := drop_more hd1
    have hr2 := drop_room hd1 (by omega)
    have hl1 := (varB_len (2 * D.length - 2)).2
    have hN := Rs.num_varB (by omega) h
    have hH : (⟨q, 0, 0⟩ : Rs).head B = (⟨q + (varB (2 * D.length - 2)).length, 0, 0⟩, false, D.length) := by
      unfold Rs.head
      rw [hN]
      dsimp only
      rw [if_pos rfl, if_neg (by omega), if_neg (by omega), show (2 * D.length - 2) / 2 + 1 = D.length by omega]
    have hlen : (b.take p).length = p := by simp; omega
    have hS : exStep B bound ⟨q, 0, 0⟩ (b.take p) = (⟨q + (varB (2 * D.length - 2)).length + D.length, 0, 0⟩, b.take q') := by
      unfold exStep
      rw [hH]
      dsimp only
      rw [hlen, if_neg (by omega), if_pos rfl, Rs.take_pre hd1 (by omega)]
      rw [← hDe]
      refine Prod.ext rfl ?_
      dsimp only
      have : b.take q' = b.take p ++ (b.drop p).take (q' - p) := by
        rw [← List.take_append_drop p (b.take q'), List.take_take, Nat.min_eq_left (by omega), List.drop_take]
      exact this.symm
    rw [exR_go ⟨hq, fun _ => rfl⟩ (by dsimp only; omega) rfl, hS]
    exact ih (by omega) _ (by omega) hd2
/-- What is compressed is expanded to what it was. -/
theorem exB_press {b : List UInt8} {bound : Int} (hb : b.length ≤ 1048576) (hbd : (b.length : Int) ≤ bound) : exB (pressB b) bound = (b, 0, 0) := by
  have := exR_good (B := pressB b) hb hbd (good_toksR b) (by omega) 0 (by omega) rfl
  rw [exB_is]
  simp only [List.take_zero] at this
  rw [this, if_pos rfl]
/-- What is put is read. -/
theorem Rs.loose_block {B D rest : List UInt8} {p : Nat} {most : Int} (h : B.drop p = blockB D ++ rest) (hp : p ≤ B.length) (hD : D.length ≤ 1048576) (hm : (D.length : Int) ≤ most) :
    (⟨p, 0, 0⟩ : Rs).loose B most = (⟨p + (blockB D).length, 0, 0⟩, D, true) := by
  have htk : (B.drop p).take (blockB D).length = blockB D := by rw [h]; simp
  have h' := h
  unfold blockB at h
  rw [List.append_assoc] at h
  have hd1 := drop_more h
  have hr1 := drop_room h hp
  have hI := Rs.int_pre (m := min most 1048576) (by omega) h (by omega)
  unfold Rs.loose
  rw [hI]
  dsimp only
  cases hpk : packR D
  · rw [hpk] at hd1
    rw [if_neg (by simp)] at hd1
    have hd2 := drop_more (D := [0]) hd1
    have hr2 := drop_room (D := [0]) hd1 (by omega)
    simp only [List.length_cons, List.length_nil, Nat.zero_add] at hd2 hr2
    rw [Rs.byte_pre hd1 (by omega)]
    dsimp only
    rw [if_pos rfl, if_pos (by rfl), Rs.take_pre hd2 (by omega)]
    dsimp only
    rw [if_pos rfl]
    have hl : (blockB D).length = (varB D.length).length + (1 + D.length) := by simp [blockB, hpk]; omega
    rw [show p + (varB D.length).length + 1 + D.length = p + (blockB D).length by omega, show p + (blockB D).length - p = (blockB D).length by omega, htk]
    simp
  · have hpl : (blobB (pressB D)).length < D.length := of_decide_eq_true hpk
    have hpl2 := blobB_len (pressB D)
    rw [hpk] at hd1
    rw [if_pos rfl] at hd1
    have hd2 := drop_more (D := [1]) hd1
    have hr2 := drop_room (D := [1]) hd1 (by omega)
    simp only [List.length_cons, List.length_nil, Nat.zero_add] at hd2 hr2
    rw [Rs.byte_pre hd1 (by omega)]
    dsimp only
    rw [if_pos rfl, if_neg (by decide), if_pos (by rfl)]
    have hB := Rs.blob_pre (m := 1048576) (by omega) hd2 (by omega) (by omega)
    have hU : (⟨p + (varB D.length).length + 1, 0, 0⟩ : Rs).unp B D.length = (⟨p + (varB D.length).length + 1 + (blobB (pressB D)).length, 0, 0⟩, D) := by
      unfold Rs.unp
      rw [hB]
      dsimp only
      rw [exB_press hD (Int.le_refl _)]
      dsimp only
      rw [if_pos rfl, if_pos rfl, if_neg (by omega)]
    rw [hU]
    dsimp only
    rw [if_pos rfl]
    have hl : (blockB D).length = (varB D.length).length + (1 + (blobB (pressB D)).length) := by simp [blockB, hpk]; omega
    rw [show p + (varB D.length).length + 1 + (blobB (pressB D)).length = p + (blockB D).length by omega, show p + (blockB D).length - p = (blockB D).length by omega, htk]
    simp
end Go.Proofs.Ytgcdbnbdbjaijaa
namespace Go.Proofs.Ytgcdbnbdbjaijaa
open Go.RowKit Go.Bs Go.Maps
set_option linter.unusedVariables false
set_option linter.unusedSimpArgs false

set_option maxRecDepth 100000 in
set_option maxHeartbeats 6400000 in
theorem blockBack_c (p bh : List UInt8) (a a' : Option Addr) (n c n' c' : Nat) (w : World) (hl : rBytes.r (· < w.heap.size) w [.slice a n c] p) (hl' : rBytes.r (· < w.heap.size) w [.slice a' n' c'] bh) :
    Calls Try.prog 10 #[.slice a n c, .slice a' n' c'] w fun r w' => r = .returned (.bool true) ∧ Below w.heap.size w w' := by
  obtain ⟨rfl, hm, _, _⟩ := sl_len hl
  obtain ⟨rfl, hm', _, _⟩ := sl_len hl'
  by_cases h150 : p.length ≤ 300
  · by_cases h300 : bh.length ≤ 300
    · have d1 : decide ((300 : Int) < (p.length : Int)) = false := decide_eq_false (by omega)
      have d2 : decide ((300 : Int) < (bh.length : Int)) = false := decide_eq_false (by omega)
      obtain ⟨i0, hi, hz0, hz1, hz2⟩ := info_parts info8
      have HL := hid hl
      have HL' := hid hl'
      have hlen : p.length ≤ 1048576 := by omega
      have hbl := blockB_len p
      have hvl := varB_len p.length
      have hK : (blockB p).length ≤ 311 := by omega
      have HB := hid (block_bytes w p a _ c hl hlen)
      have hLS : (⟨0, 0, 0⟩ : Rs).loose (blockB p ++ bh) 300 = (⟨(blockB p).length, 0, 0⟩, p, true) := by
        have := Rs.loose_block (B := blockB p ++ bh) (D := p) (rest := bh) (p := 0) (most := 300) rfl (by omega) hlen (by omega)
        rw [Nat.zero_add] at this
        exact this
      have hGT := hid (fun (W : World) (aD : Option Addr) (cD : Nat) (h : rBytes.r (· < W.heap.size) W [.slice aD (blockB p ++ bh).length cD] (blockB p ++ bh)) => block_get W (blockB p ++ bh) aD _ cD h (by simp; omega) 300 (by omega))
      have hGL := hid (fun (W : World) (aD : Option Addr) (cD : Nat) (h : rBytes.r (· < W.heap.size) W [.slice aD (blockB p ++ bh).length cD] (blockB p ++ bh)) => block_getloose W (blockB p ++ bh) aD _ cD h (by simp; omega) 300 (by omega))
      rw [hLS] at hGT hGL
      unfold Rs.strict at hGT
      dsimp only at hGT
      rw [if_pos rfl, if_pos rfl] at hGT
      unfold getR at hGT
      unfold getL at hGL
      dsimp only at hGT hGL
      rw [if_pos rfl] at hGT hGL
      dsimp only at hGT hGL
      have HONEP := hid (byteCells_one bh)
      generalize blockB p = K at *
      have HONEK := hid (byteCells_one K)
      clear hl hl' hLS hbl hvl
      go_enter Try.func10, Try.ntmps10
      go_wp2_with fail
      refine HB.out.mono ?_
      rintro r w1 ⟨v1, rfl, hr1, hb1⟩
      obtain ⟨a1, c1, hv1, hr1', _⟩ := sl_form hr1
      simp only [List.cons.injEq, and_true] at hv1
      subst hv1
      have HB1 := hid (rBytes.mono hr1' (S' := (· < w1.heap.size)) fun q hq => hq.2)
      clear hr1 hr1'
      have hs1 := hb1.size
      have HSA := hid (src_bytes (lift HB1.out (below_alloc (Below.refl w1.heap.size w1) (.cells #[] 5))))
      have HL1 := hid (lift HL'.out hb1)
      go_wp2_with (first
        | (at_builtin; go_loud (refine wpList_append_src (by first | rfl | (go_simp; done)) _ _ _ rfl w1.heap.size 5 i0 (.int .u8 0) 1 1 Try.underlying22 hi hz0 hz1 hz2 rfl (by decide) _ 0 [] rfl (own_empty _ (Nat.le_refl _) rfl) a1 K.length c1 (byteCells K) rfl HSA.out HONEK.out (by simp only [maxLen]; omega) (by omega) (by simp) ?_; intro v' w8 hown8 hgrow8 hat8; rw [Nat.zero_add, List.nil_append] at hown8; obtain ⟨a8, c8, rfl⟩ := own_form hown8; have HO8 := hid hown8; have hb8 : Below w1.heap.size w1 w8 := (Below.grown (by (repeat (first | exact Below.refl _ _ | assumption | (refine below_alloc ?_ _) | (refine Below.setCell ?_ (by first | omega | (simp; done) | (simp; omega)) _) | (refine Below.drew ?_) | (refine below_drewN ?_ _) | (refine below_then (by assumption) ?_)))) hgrow8 (by simp) (fun g e => by have e' : some w1.heap.size = some g := e; injection e' with e'; omega)); have hs8 := hb8.size; have HS8 := hid (src_bytes (lift HL1.out hb8)); clear hgrow8 hown8 hat8))
        | (at_builtin; go_loud (refine wpList_append_src (by first | rfl | (go_simp; done)) _ _ _ rfl w1.heap.size 5 i0 (.int .u8 0) 1 1 Try.underlying22 hi hz0 hz1 hz2 rfl (by decide) (.slice a8 K.length c8) K.length (byteCells K) rfl HO8.out a' bh.length c' (byteCells bh) rfl HS8.out HONEP.out (by simp only [maxLen]; omega) (by omega) (by omega) ?_; intro v' w9 hown9 hgrow9 hat9; obtain ⟨a9, c9, rfl⟩ := own_form hown9; have HG9 := hid hgrow9; have HO9 := hid hown9; clear hgrow9 hown9 hat9)))
      have hb9 : Below w1.heap.size w1 w9 := Below.grown hb8 HG9.out (by omega) (fun g e => (HO8.out.lt g e).1)
      have ho := HO9.out
      rw [byteCells_app] at ho
      have hall := own_bytes (by simp) ho
      have hbw9 := below_then hb9 hb1
      have HA9 := hid hall
      have hG := hGT.out w9 a9 c9 (by rw [List.length_append]; exact hall)
      rw [List.length_append] at hG
      have HG := hid hG
      clear ho hall hG
      go_wp2_with fail
      refine HG.out.mono ?_
      rintro r w2 ⟨v2, rfl, hr2, hb2⟩
      obtain ⟨a2, c2, hv2, hr2', _⟩ := sl_form hr2
      simp only [List.cons.injEq, and_true] at hv2
      subst hv2
      have HP2 := hid (rBytes.mono (S' := (· < w2.heap.size)) hr2' fun q hq => hq.2)
      clear hr2 hr2'
      have hb92 : Below w9.heap.size w9 (w2.alloc (.cells #[.int .i64 0, .int .i64 0] 48)) := by clear hb1 hb9 hbw9 hb8; (repeat (first | with_reducible exact Below.refl _ _ | with_reducible assumption | (with_reducible refine below_alloc ?_ _) | (with_reducible refine Below.setCell ?_ (by first | omega | (simp; done) | (simp; omega)) _) | (with_reducible refine Below.drew ?_) | (with_reducible refine below_drewN ?_ _) | (refine below_then (by with_reducible assumption) ?_)))
      have hG := hGL.out _ a9 c9 (by rw [List.length_append]; exact lift HA9.out hb92)
      rw [List.length_append] at hG
      have HG2 := hid hG
      have hbw2 := below_then hb92 hbw9
      clear hG
      go_wp2_with fail
      refine HG2.out.mono ?_
      rintro r w3 ⟨v3, rfl, hr3, hb3⟩
      obtain ⟨a3, c3, hv3, hr3', _⟩ := sl_form hr3
      simp only [List.cons.injEq, and_true] at hv3
      subst hv3
      have HP3 := hid (rBytes.mono (S' := (· < w3.heap.size)) hr3' fun q hq => hq.2)
      have F2 := Blk.later (Blk.newAt w2 _ _ rfl) hb3
      have F3 := F2.alloc (.cells #[.int .i64 0, .int .i64 0] 48)
      have F4 := Blk.newAt w3 48 #[.int .i64 0, .int .i64 0] rfl
      have hbw3 := below_then hb3 hbw2
      have hb24 : Below w2.heap.size w2 (w3.alloc (.cells #[.int .i64 0, .int .i64 0] 48)) := by clear hb1 hb9 hbw9 hb8 hbw2 hb92 hbw3; (repeat (first | with_reducible exact Below.refl _ _ | with_reducible assumption | (with_reducible refine below_alloc ?_ _) | (with_reducible refine Below.setCell ?_ (by first | omega | (simp; done) | (simp; omega)) _) | (with_reducible refine Below.drew ?_) | (with_reducible refine below_drewN ?_ _) | (refine below_then (by with_reducible assumption) ?_)))
      have hbw4 : Below w.heap.size w (w3.alloc (.cells #[.int .i64 0, .int .i64 0] 48)) := below_alloc hbw3 _
      obtain ⟨x0, x1, e0, e1, l1⟩ := f_blk F3
      obtain ⟨y0, y1, g0, g1, l2⟩ := f_blk F4
      have hs1 := same_bytes p p a2 a _ c2 _ c _ (lift HP2.out hb24) (lift HL.out hbw4)
      have hs2 := same_bytes p p a3 a _ c3 _ c _ (lift HP3.out (below_alloc (Below.refl _ _) (.cells #[.int .i64 0, .int .i64 0] 48))) (lift HL.out hbw4)
      simp only [decide_true] at hs1 hs2
      have HS1 := hid hs1
      have HS2 := hid hs2
      clear F2 F3 F4 hr3 hr3' hb3 hs1 hs2
      go_wp2_with fail
      refine HS1.out.mono ?_
      rintro r w4' ⟨rfl, rfl⟩
      go_wp2_with fail
      refine HS2.out.mono ?_
      rintro r w4' ⟨rfl, rfl⟩
      go_wp2_with fail
      refine (live16 _).mono ?_
      rintro r w12 ⟨rfl, hb12⟩
      have hbe := below_then hb12 hbw4
      go_wp2
      go_ret
      exact ⟨rfl, hbe⟩
    · have d1 : decide ((300 : Int) < (p.length : Int)) = false := decide_eq_false (by omega)
      have d2 : decide ((300 : Int) < (bh.length : Int)) = true := decide_eq_true (by omega)
      go_enter Try.func10, Try.ntmps10
      go_wp2_with fail
      refine (live16 _).mono ?_
      rintro r w9 ⟨rfl, hb9⟩
      go_wp2
      go_ret
      exact ⟨rfl, hb9⟩
  · have d1 : decide ((300 : Int) < (p.length : Int)) = true := decide_eq_true (by omega)
    go_enter Try.func10, Try.ntmps10
    go_wp2_with fail
    refine (live16 _).mono ?_
    rintro r w9 ⟨rfl, hb9⟩
    go_wp2
    go_ret
    exact ⟨rfl, hb9⟩

set_option maxRecDepth 100000 in
theorem blockBack_walk {H : Type} (enc : TypeId × Value → H) (W : World) (base : Nat) (v0 v1 : Value) (d0 d1 : DataW H) (p0 p1 : List MemPlace)
    (k0 : DataW.Trod enc Try.prog W 0 (fun _ => true) true 22 v0 d0 p0) (k1 : DataW.Trod enc Try.prog W 0 (fun _ => true) true 22 v1 d1 p1)
    (o0 : Value.okWide Try.prog W .any base 22 v0) (o1 : Value.okWide Try.prog W .any base 22 v1) :
    Calls Try.prog 10 #[v0, v1] W fun e w' => e = .returned (.bool true) ∧ Below W.heap.size W w' := by
  obtain ⟨fuel, hf⟩ := k0
  obtain ⟨fuel', hf'⟩ := k1
  obtain ⟨a, len, cap, rfl⟩ := Go.WideShapes.okWide_slice Try.underlying22 o0
  obtain ⟨a', len', cap', rfl⟩ := Go.WideShapes.okWide_slice Try.underlying22 o1
  obtain ⟨b, hb⟩ := o_bytes enc W fuel _ _ hf
  obtain ⟨b', hb'⟩ := o_bytes enc W fuel' _ _ hf'
  exact blockBack_c b b' a a' len cap len' cap' W hb hb'
end Go.Proofs.Ytgcdbnbdbjaijaa
