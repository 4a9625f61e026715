/- Needed by bodyOnce_walk, part 5: texts put together by shake.py; no condition. -/
import Derived.Lib.SlBytesConst
import Derived.Test.YtlbffbkbkajciaaGreatZd4
import Derived.RegionTactic
import Derived.Test.YtlbffbkbkajciaaGreatZd3
import Derived.Test.YtlbffbkbkajciaaGreatZd1
import Derived.Deep.AppendLies
import Derived.Deep.RegionLaw
import Derived.Laws.MakeOwn
namespace Go.Proofs.YtlbffbkbkajciaaGreat
open Go.RowKit Go.Bs Go.Maps
set_option linter.unusedVariables false
set_option linter.unusedSimpArgs false

/-- The fault's place lies within. -/
def Rs.inn (s : Rs) (L : Nat) : Prop := 0 ≤ s.f ∧ s.f ≤ L
theorem Rs.fail_in {s : Rs} {L : Nat} (h : s.inn L) {c at_ : Int} (h1 : 0 ≤ at_) (h2 : at_ ≤ L) : (s.fail c at_).inn L := by
  unfold Rs.fail; split
  · exact ⟨h1, h2⟩
  · exact h
theorem Rs.skip_in {s : Rs} {L : Nat} (h : s.ok L) (hi : s.inn L) (n : Int) : (s.skip L n).2.inn L := by
  have := h.le
  unfold Rs.skip Rs.inn at *
  split
  · split
    · dsimp only; omega
    · split
      · dsimp only; omega
      · dsimp only; omega
  · exact hi
theorem Rs.num_in {B : List UInt8} {s : Rs} (h : s.ok B.length) (hi : s.inn B.length) : (s.num B).1.inn B.length := by
  have hu := vget_used (B.drop s.p) 0 0
  have hl : (B.drop s.p).length = B.length - s.p := by simp
  have := h.le
  unfold Rs.num Rs.inn at *
  split
  · dsimp only
    split
    · omega
    · split
      · omega
      · rename_i h1 h2
        have := hu.2.2.2.2 h2
        omega
  · exact hi
theorem Rs.head_in {B : List UInt8} {s : Rs} (h : s.ok B.length) (hi : s.inn B.length) : (s.head B).1.inn B.length := by
  have hle := h.le
  have hn := Rs.num_in h hi
  unfold Rs.head; split
  · split
    · split
      · exact Rs.fail_in hn (by omega) (by omega)
      · exact hn
    · split
      · exact Rs.fail_in hn (by omega) (by omega)
      · exact hn
  · exact hn
theorem Rs.offset_in {B : List UInt8} {s : Rs} (h : s.ok B.length) (hi : s.inn B.length) : (s.offset B).1.inn B.length := by
  have hle := h.le
  have hn := Rs.num_in h hi
  unfold Rs.offset; dsimp only; split
  · exact Rs.fail_in hn (by omega) (by omega)
  · exact hn
theorem exStep_in {B : List UInt8} {bound : Int} {s : Rs} {out : List UInt8} (h : s.ok B.length) (hi : s.inn B.length) : (exStep B bound s out).1.inn B.length := by
  have hle := h.le
  have hh := Rs.head_in h hi
  have ho := Rs.head_ok h
  have hle2 := ho.le
  unfold exStep; split
  · exact Rs.fail_in hh (by omega) (by omega)
  · split
    · exact Rs.skip_in ho hh _
    · split
      · exact Rs.fail_in (Rs.offset_in ho hh) (by omega) (by omega)
      · split
        · exact Rs.offset_in ho hh
        · exact Rs.offset_in ho hh
theorem exF_in {B : List UInt8} {bound : Int} : ∀ (f : Nat) (s : Rs) (out : List UInt8), s.ok B.length → s.inn B.length → (exF B bound f s out).1.inn B.length
  | 0, s, out, _, h => h
  | f + 1, s, out, h1, h2 => by
    simp only [exF]; split
    · exact exF_in f _ _ (exStep_ok h1) (exStep_in h1 h2)
    · exact h2
theorem exF_fits {B : List UInt8} {bound : Int} : ∀ (f : Nat) (s : Rs) (out : List UInt8), exIn bound out → exIn bound (exF B bound f s out).2
  | 0, s, out, h => h
  | f + 1, s, out, h => by
    simp only [exF]; split
    · exact exF_fits f _ _ (exIn_step h)
    · exact h
theorem exB_facts (B : List UInt8) (bound : Int) : (exB B bound).1.length ≤ bound.toNat ∧ 0 ≤ (exB B bound).2.2 ∧ (exB B bound).2.2 ≤ B.length ∧ ((exB B bound).2.1 ≠ 0 → (exB B bound).1 = []) := by
  have h1 := exF_in (B := B) (bound := bound) B.length ⟨0, 0, 0⟩ [] ⟨Nat.zero_le _, fun _ => rfl⟩ ⟨by simp, by simp⟩
  have h2 := exF_fits (B := B) (bound := bound) B.length ⟨0, 0, 0⟩ [] (.inl rfl)
  unfold exB
  split
  · refine ⟨?_, by simp, by simp, by simp⟩
    rcases h2 with h | h
    · rw [h]; simp
    · dsimp only; omega
  · exact ⟨by simp, h1.1, h1.2, by simp⟩
theorem Rs.int_p {B : List UInt8} {s : Rs} {m : Int} : s.p ≤ (s.int B m).1.p := by
  unfold Rs.int Rs.most
  split
  · split
    · rw [Rs.fail_p]; exact Rs.num_p
    · exact Rs.num_p
  · rw [Rs.fail_p]; exact Rs.num_p
theorem Rs.byte_p {B : List UInt8} {s : Rs} (h : s.ok B.length) : s.p ≤ (s.byte B).1.p := Rs.skip_p h 1
theorem Rs.take_p {B : List UInt8} {s : Rs} (h : s.ok B.length) (n : Int) : s.p ≤ (s.take B n).1.p := Rs.skip_p h n
theorem Rs.blob_p {B : List UInt8} {s : Rs} (h : s.ok B.length) (m : Int) : s.p ≤ (s.blob B m).1.p := Nat.le_trans (Rs.int_p (m := m)) (Rs.take_p (Rs.int_ok h) _)
theorem Rs.blob_ok {B : List UInt8} {s : Rs} (h : s.ok B.length) (m : Int) : (s.blob B m).1.ok B.length := Rs.take_ok (Rs.int_ok h) _

def Rs.unp (B : List UInt8) (s : Rs) (n : Nat) : Rs × List UInt8 :=
  if (s.blob B 1048576).1.k = 0 then
    (if (exB (s.blob B 1048576).2 n).2.1 = 0 then
      (if (exB (s.blob B 1048576).2 n).1.length < n then ((s.blob B 1048576).1.fail 3 (s.blob B 1048576).1.p, (exB (s.blob B 1048576).2 n).1) else ((s.blob B 1048576).1, (exB (s.blob B 1048576).2 n).1))
    else ((s.blob B 1048576).1.fail (exB (s.blob B 1048576).2 n).2.1 ((exB (s.blob B 1048576).2 n).2.2 + (((s.blob B 1048576).1.p : Int) - ((s.blob B 1048576).2.length : Int))), []))
  else ((s.blob B 1048576).1, [])
theorem Rs.unp_ok {B : List UInt8} {s : Rs} (h : s.ok B.length) (n : Nat) : (s.unp B n).1.ok B.length := by
  unfold Rs.unp
  split
  · split
    · split
      · exact Rs.fail_ok (Rs.blob_ok h _) (by omega)
      · exact Rs.blob_ok h _
    · exact Rs.fail_ok (Rs.blob_ok h _) (by assumption)
  · exact Rs.blob_ok h _
theorem Rs.unp_p {B : List UInt8} {s : Rs} (h : s.ok B.length) (n : Nat) : s.p ≤ (s.unp B n).1.p := by
  have := Rs.blob_p h 1048576
  unfold Rs.unp
  split
  · split
    · split
      · rw [Rs.fail_p]; exact this
      · exact this
    · rw [Rs.fail_p]; exact this
  · exact this
theorem Rs.unp_len {B : List UInt8} {s : Rs} (n : Nat) : (s.unp B n).2.length ≤ n := by
  have := (exB_facts (s.blob B 1048576).2 n).1
  unfold Rs.unp
  split
  · split
    · split
      · dsimp only; omega
      · dsimp only; omega
    · simp
  · simp
/-- A payload's block, read loosely. -/
def Rs.loose (B : List UInt8) (s : Rs) (most : Int) : Rs × List UInt8 × Bool :=
  if ((s.int B (min most 1048576)).1.byte B).1.k = 0 then
    (if ((s.int B (min most 1048576)).1.byte B).2.toNat = 0 then
      (if (((s.int B (min most 1048576)).1.byte B).1.take B ((s.int B (min most 1048576)).2 : Int)).1.k = 0 then ((((s.int B (min most 1048576)).1.byte B).1.take B ((s.int B (min most 1048576)).2 : Int)).1, (((s.int B (min most 1048576)).1.byte B).1.take B ((s.int B (min most 1048576)).2 : Int)).2, decide (blockB (((s.int B (min most 1048576)).1.byte B).1.take B ((s.int B (min most 1048576)).2 : Int)).2 = (B.drop s.p).take ((((s.int B (min most 1048576)).1.byte B).1.take B ((s.int B (min most 1048576)).2 : Int)).1.p - s.p)))
      else ((((s.int B (min most 1048576)).1.byte B).1.take B ((s.int B (min most 1048576)).2 : Int)).1, [], false))
    else if ((s.int B (min most 1048576)).1.byte B).2.toNat = 1 then
      (if (((s.int B (min most 1048576)).1.byte B).1.unp B (s.int B (min most 1048576)).2).1.k = 0 then ((((s.int B (min most 1048576)).1.byte B).1.unp B (s.int B (min most 1048576)).2).1, (((s.int B (min most 1048576)).1.byte B).1.unp B (s.int B (min most 1048576)).2).2, decide (blockB (((s.int B (min most 1048576)).1.byte B).1.unp B (s.int B (min most 1048576)).2).2 = (B.drop s.p).take ((((s.int B (min most 1048576)).1.byte B).1.unp B (s.int B (min most 1048576)).2).1.p - s.p)))
      else ((((s.int B (min most 1048576)).1.byte B).1.unp B (s.int B (min most 1048576)).2).1, [], false))
    else (((s.int B (min most 1048576)).1.byte B).1.fail 7 ((((s.int B (min most 1048576)).1.byte B).1.p : Int) - 1), [], false))
  else (((s.int B (min most 1048576)).1.byte B).1, [], false)

theorem bytes_equal (x y : List UInt8) (a a' : Option Addr) (n c n' c' : Nat) (w : World) (hx : rBytes.r (· < w.heap.size) w [.slice a n c] x) (hy : rBytes.r (· < w.heap.size) w [.slice a' n' c'] y) :
    Calls Tryz.prog 97 #[.slice a n c, .slice a' n' c'] w fun r w' => r = .returned (.bool (decide (x = y))) ∧ w = w' := by
  obtain ⟨rfl, _, _, _⟩ := sl_len hx
  obtain ⟨rfl, _, _, _⟩ := sl_len hy
  have h1 := bytes_str (P := Tryz.prog) 25 9 5 Tryz.underlying25 Tryz.underlying5 Tryz.underlying9 hx
  have h2 := bytes_str (P := Tryz.prog) 25 9 5 Tryz.underlying25 Tryz.underlying5 Tryz.underlying9 hy
  have he : (x == y) = decide (x = y) := by
    by_cases h : x = y
    · simp [h]
    · simp [h]
  have HE := hid he; clear he hx hy
  go_enter Tryz.func97, Tryz.ntmps97
  go_wp2
  go_ret
  refine ⟨?_, rfl⟩
  rw [← HE.out]
  simp [go_sem]
theorem fault_shift (w : World) (k f b : Int) (hk : k ≠ 0) (hf : -1000000000000 ≤ f ∧ f ≤ 1000000000000) (hb : -1000000000000 ≤ b ∧ b ≤ 1000000000000) : Calls Tryz.prog 143 #[.agg #[.int .i64 k, .int .i64 f], .int .i64 b] w fun r w' => r = .returned (.agg #[.int .i64 k, .int .i64 (f + b)]) ∧ Below w.heap.size w w' := by
  go_enter Tryz.func143, Tryz.ntmps143
  go_wp2_with fail
  refine (fault_at _ k (f + b) hk).mono ?_
  rintro r w1 ⟨rfl, hb1⟩
  have B1 : Blk w1 (w.heap.size + 1) 58 #[.int .i64 0, .int .i64 0] := Blk.later (by (repeat (first | assumption | exact Blk.newAt _ _ _ (by first | (simp; done) | (simp; omega)) | refine Blk.alloc ?_ _ | refine Blk.drew ?_ | refine Blk.drewN ?_ _ | refine Blk.far ?_ (by first | (simp; done) | (simp; omega)) _))) hb1
  obtain ⟨y0, y1, g0, g1, l1⟩ := f_blk B1
  have hbw : Below w.heap.size w w1 := by (repeat (first | with_reducible exact Below.refl _ _ | with_reducible assumption | (with_reducible refine below_alloc ?_ _) | (with_reducible refine Below.setCell ?_ (by first | omega | (simp; done) | (simp; omega)) _) | (with_reducible refine Below.drew ?_) | (with_reducible refine below_drewN ?_ _) | (refine below_then (by with_reducible assumption) ?_)))
  clear B1 hb1
  go_wp2
  refine bodyPost_ret (v := .agg #[.int .i64 k, .int .i64 (f + b)]) (by simp [results, Tryz.results143, go_sem, y0, y1, l1]) rfl ⟨rfl, by (repeat (first | with_reducible exact Below.refl _ _ | with_reducible assumption | (with_reducible refine below_alloc ?_ _) | (with_reducible refine Below.setCell ?_ (by first | omega | (simp; done) | (simp; omega)) _) | (with_reducible refine Below.drew ?_) | (with_reducible refine below_drewN ?_ _) | (refine below_then (by with_reducible assumption) ?_)))⟩

set_option maxRecDepth 100000 in
set_option maxHeartbeats 3200000 in
theorem block_unpacked (w : World) {g : Nat} {B : List UInt8} {a : Option Addr} {s : Rs} (h : RdAt w g B a s) (hB : B.length ≤ 1000000000) (n : Nat) (hn : n ≤ 1048576) : Calls Tryz.prog 199 #[.pointer (some ⟨g, 0, none⟩), .int .i64 (n : Int)] w fun r w' => ∃ v, r = .returned v ∧ rBytes.r (fun q => w.heap.size ≤ q ∧ q < w'.heap.size) w' [v] (s.unp B n).2 ∧ RdStep w g B a (s.unp B n).1 w' := by
  have HB := hid (blob_read w h (by omega) 1048576 (by omega))
  have hbok := Rs.blob_ok h.ok 1048576
  have hlen : (s.blob B 1048576).2.length ≤ B.length := by
    unfold Rs.blob Rs.take
    dsimp only
    split
    · simp; omega
    · simp
  have hxf := exB_facts (s.blob B 1048576).2 n
  have hX := hid (fun (W : World) (aD : Option Addr) (nD cD : Nat) (hl : rBytes.r (· < W.heap.size) W [.slice aD nD cD] (s.blob B 1048576).2) => expand_bytes W (s.blob B 1048576).2 aD nD cD hl (by omega) n (by omega))
  have hpl := hbok.le
  unfold Rs.unp
  generalize s.blob B 1048576 = T at *
  generalize exB T.2 n = X at *
  obtain ⟨s1, D⟩ := T
  obtain ⟨out, k, f⟩ := X
  dsimp only at *
  have hgl := h.blk.lt
  have HDAT := hid h.dat
  clear h
  by_cases h1 : s1.k = 0
  · have dk : decide (s1.k = 0) = true := decide_eq_true h1
    rw [if_pos h1]
    have H1 := hid h1
    clear h1
    by_cases h2 : k = 0
    · have d2 : decide (k = 0) = true := decide_eq_true h2
      rw [if_pos h2]
      clear h2
      by_cases h3 : out.length < n
      · have d3 : decide ((out.length : Int) < (n : Int)) = true := decide_eq_true (by omega)
        have d3' : decide (out.length < n) = true := decide_eq_true h3
        rw [if_pos h3]
        clear h3
        dsimp only
        go_enter Tryz.func199, Tryz.ntmps199
        go_wp2_with fail
        refine HB.out.mono ?_
        rintro r w1 ⟨v, rfl, hr, hst⟩

        obtain ⟨aD, cD, hv, hr2, _⟩ := sl_form hr
        simp only [List.cons.injEq, and_true] at hv
        subst hv

        have HD1 := hid hr2
        have HST := hid hst
        have hs1 := hst.size
        have hG := rd_good w1 hst.1
        rw [dk] at hG
        have HG := hid hG
        clear hr hr2 hst hG dk
        go_wp2_with fail
        refine HG.out.mono ?_
        rintro r w2 ⟨rfl, hb2⟩
        have hs2 := hb2.size

        have HAT := hid (rd_at w2 (HST.out.1.later hb2))
        go_wp2_with fail
        refine HAT.out.mono ?_
        rintro r w2' ⟨rfl, rfl⟩
        go_wp2_with fail
        refine (hX.out w2 aD _ cD (rBytes.mono (rBytes.keep HD1.out fun q hq => hb2.block q hq.2) fun q hq => by omega)).mono ?_
        rintro r w3 ⟨v3, rfl, hr, hb3⟩
        obtain ⟨a3, c3, hv, hr2, _⟩ := sl_form hr
        simp only [List.cons.injEq, and_true] at hv
        subst hv
        have HR3 := hid hr2
        have hs3 := hb3.size
        clear hr hr2
        have hG := fault_good (w3.alloc (.cells #[.int .i64 k, .int .i64 f] 58)) k f
        rw [d2] at hG
        have HG3 := hid hG
        clear hG d2
        go_wp2_with fail
        refine HG3.out.mono ?_
        rintro r w4 ⟨rfl, hb4⟩
        have hb34 : Below w3.heap.size w3 w4 := by (repeat (first | with_reducible exact Below.refl _ _ | with_reducible assumption | (with_reducible refine below_alloc ?_ _) | (with_reducible refine Below.setCell ?_ (by first | omega | (simp; done) | (simp; omega)) _) | (with_reducible refine Below.drew ?_) | (with_reducible refine below_drewN ?_ _) | (refine below_then (by with_reducible assumption) ?_)))
        have hb14 : Below w1.heap.size w1 w4 := below_then hb34 (below_then hb3 hb2)
        have HST4 := hid (HST.out.then hb14)
        have hs4 := hb34.size
        have HKP := hid (rBytes.mono (S' := fun q => w2.heap.size ≤ q ∧ q < w4.heap.size) (rBytes.keep HR3.out fun q hq => hb34.block q hq.2) fun q hq => ⟨hq.1, by omega⟩)

        have HAT2 := hid (rd_at _ HST4.out.1)
        go_wp2_with fail
        refine HAT2.out.mono ?_
        rintro r w4' ⟨rfl, rfl⟩
        have HF := hid (rd_fail _ HST4.out.1 3 s1.p (by omega))
        go_wp2_with fail
        refine HF.out.mono ?_
        rintro r w5 ⟨rfl, hst5⟩
        have hs5 := hst5.size
        have HR5 := hid (rBytes.mono (S' := fun q => w.heap.size ≤ q ∧ q < w5.heap.size) (rBytes.keep HKP.out fun q hq => hst5.2.block q hq.2 (by omega)) fun q hq => ⟨by omega, by omega⟩)
        have HST5 := hid (RdStep.trans HST4.out.2 hst5)
        clear hst5
        go_wp2
        go_ret
        exact ⟨_, rfl, HR5.out, HST5.out⟩
      · have d3 : decide ((out.length : Int) < (n : Int)) = false := decide_eq_false (by omega)
        have d3' : decide (out.length < n) = false := decide_eq_false h3
        rw [if_neg h3]
        clear h3
        dsimp only
        go_enter Tryz.func199, Tryz.ntmps199
        go_wp2_with fail
        refine HB.out.mono ?_
        rintro r w1 ⟨v, rfl, hr, hst⟩

        obtain ⟨aD, cD, hv, hr2, _⟩ := sl_form hr
        simp only [List.cons.injEq, and_true] at hv
        subst hv

        have HD1 := hid hr2
        have HST := hid hst
        have hs1 := hst.size
        have hG := rd_good w1 hst.1
        rw [dk] at hG
        have HG := hid hG
        clear hr hr2 hst hG dk
        go_wp2_with fail
        refine HG.out.mono ?_
        rintro r w2 ⟨rfl, hb2⟩
        have hs2 := hb2.size

        have HAT := hid (rd_at w2 (HST.out.1.later hb2))
        go_wp2_with fail
        refine HAT.out.mono ?_
        rintro r w2' ⟨rfl, rfl⟩
        go_wp2_with fail
        refine (hX.out w2 aD _ cD (rBytes.mono (rBytes.keep HD1.out fun q hq => hb2.block q hq.2) fun q hq => by omega)).mono ?_
        rintro r w3 ⟨v3, rfl, hr, hb3⟩
        obtain ⟨a3, c3, hv, hr2, _⟩ := sl_form hr
        simp only [List.cons.injEq, and_true] at hv
        subst hv
        have HR3 := hid hr2
        have hs3 := hb3.size
        clear hr hr2
        have hG := fault_good (w3.alloc (.cells #[.int .i64 k, .int .i64 f] 58)) k f
        rw [d2] at hG
        have HG3 := hid hG
        clear hG d2
        go_wp2_with fail
        refine HG3.out.mono ?_
        rintro r w4 ⟨rfl, hb4⟩
        have hb34 : Below w3.heap.size w3 w4 := by (repeat (first | with_reducible exact Below.refl _ _ | with_reducible assumption | (with_reducible refine below_alloc ?_ _) | (with_reducible refine Below.setCell ?_ (by first | omega | (simp; done) | (simp; omega)) _) | (with_reducible refine Below.drew ?_) | (with_reducible refine below_drewN ?_ _) | (refine below_then (by with_reducible assumption) ?_)))
        have hb14 : Below w1.heap.size w1 w4 := below_then hb34 (below_then hb3 hb2)
        have HST4 := hid (HST.out.then hb14)
        have hs4 := hb34.size
        have HKP := hid (rBytes.mono (S' := fun q => w2.heap.size ≤ q ∧ q < w4.heap.size) (rBytes.keep HR3.out fun q hq => hb34.block q hq.2) fun q hq => ⟨hq.1, by omega⟩)

        have HR5 := hid (rBytes.mono (S' := fun q => w.heap.size ≤ q ∧ q < w4.heap.size) HKP.out fun q hq => ⟨by omega, by omega⟩)
        go_wp2
        go_ret
        exact ⟨_, rfl, HR5.out, HST4.out⟩
    · have d2 : decide (k = 0) = false := decide_eq_false h2
      rw [if_neg h2]
      have ho := hxf.2.2.2 h2
      subst ho
      have HK2 := hid h2
      clear h2
      dsimp only
      go_enter Tryz.func199, Tryz.ntmps199
      go_wp2_with fail
      refine HB.out.mono ?_
      rintro r w1 ⟨v, rfl, hr, hst⟩

      obtain ⟨aD, cD, hv, hr2, _⟩ := sl_form hr
      simp only [List.cons.injEq, and_true] at hv
      subst hv

      have HD1 := hid hr2
      have HST := hid hst
      have hs1 := hst.size
      have hG := rd_good w1 hst.1
      rw [dk] at hG
      have HG := hid hG
      clear hr hr2 hst hG dk
      go_wp2_with fail
      refine HG.out.mono ?_
      rintro r w2 ⟨rfl, hb2⟩
      have hs2 := hb2.size

      have HAT := hid (rd_at w2 (HST.out.1.later hb2))
      go_wp2_with fail
      refine HAT.out.mono ?_
      rintro r w2' ⟨rfl, rfl⟩
      go_wp2_with fail
      refine (hX.out w2 aD _ cD (rBytes.mono (rBytes.keep HD1.out fun q hq => hb2.block q hq.2) fun q hq => by omega)).mono ?_
      rintro r w3 ⟨v3, rfl, hr, hb3⟩
      obtain ⟨a3, c3, hv, hr2, _⟩ := sl_form hr
      simp only [List.cons.injEq, and_true] at hv
      subst hv
      have HR3 := hid hr2
      have hs3 := hb3.size
      clear hr hr2
      have hG := fault_good (w3.alloc (.cells #[.int .i64 k, .int .i64 f] 58)) k f
      rw [d2] at hG
      have HG3 := hid hG
      clear hG d2
      go_wp2_with fail
      refine HG3.out.mono ?_
      rintro r w4 ⟨rfl, hb4⟩
      have hb34 : Below w3.heap.size w3 w4 := by (repeat (first | with_reducible exact Below.refl _ _ | with_reducible assumption | (with_reducible refine below_alloc ?_ _) | (with_reducible refine Below.setCell ?_ (by first | omega | (simp; done) | (simp; omega)) _) | (with_reducible refine Below.drew ?_) | (with_reducible refine below_drewN ?_ _) | (refine below_then (by with_reducible assumption) ?_)))
      have hb14 : Below w1.heap.size w1 w4 := below_then hb34 (below_then hb3 hb2)
      have HST4 := hid (HST.out.then hb14)
      have hs4 := hb34.size
      have HKP := hid (rBytes.mono (S' := fun q => w2.heap.size ≤ q ∧ q < w4.heap.size) (rBytes.keep HR3.out fun q hq => hb34.block q hq.2) fun q hq => ⟨hq.1, by omega⟩)

      have B4 : Blk w4 w3.heap.size 58 #[.int .i64 k, .int .i64 f] := Blk.later (Blk.newAt _ _ _ rfl) hb4
      obtain ⟨y0, y1, g0, g1, l1⟩ := f_blk B4
      have HSH := hid (fault_shift w4 k f ((s1.p : Int) - (D.length : Int)) HK2.out (by omega) (by omega))
      go_wp2_with fail
      refine HSH.out.mono ?_
      rintro r w5 ⟨rfl, hb5⟩
      have B5 := B4.later hb5
      clear y0 y1 g0 g1 l1 B4
      obtain ⟨y0, y1, g0, g1, l1⟩ := f_blk B5
      clear B5
      have hk5 : RdStep w g B a s1 ((w5.setCell ⟨w3.heap.size, 0, none⟩ (.int .i64 k)).setCell ⟨w3.heap.size, 1, none⟩ (.int .i64 (f + ((s1.p : Int) - (D.length : Int))))) := by
        have h5 := HST4.out.then hb5
        refine ⟨⟨Blk.far (Blk.far h5.1.blk (by dsimp only; omega) _) (by dsimp only; omega) _, ?_, h5.1.ok⟩, Tch.setCell (Tch.setCell h5.2 (fun e => by dsimp only at e; omega) _) (fun e => by dsimp only at e; omega) _⟩
        refine rBytes.mono (rBytes.keep (S := fun q => q < w.heap.size ∧ q ≠ g) (rBytes.keep HDAT.out fun q hq => h5.2.block q hq.1 hq.2) fun q hq => ?_) fun q hq => ⟨by have := h5.size; simp [World.setCell]; omega, hq.2⟩
        have := hq.1
        rw [Below.heap_setCell _ _ _ _ (by dsimp only; omega), Below.heap_setCell _ _ _ _ (by dsimp only; omega)]
      have HK5 := hid hk5
      clear hk5
      have hsz5 : w.heap.size ≤ ((w5.setCell ⟨w3.heap.size, 0, none⟩ (.int .i64 k)).setCell ⟨w3.heap.size, 1, none⟩ (.int .i64 (f + ((s1.p : Int) - (D.length : Int))))).heap.size := HK5.out.size
      have HF := hid (rd_fail _ HK5.out.1 k (f + ((s1.p : Int) - (D.length : Int))) HK2.out)
      go_wp2_with fail
      refine HF.out.mono ?_
      rintro r w6 ⟨rfl, hst6⟩
      have HST6 := hid (RdStep.trans HK5.out.2 hst6)
      clear hst6 hsz5
      go_wp2
      go_ret
      exact ⟨_, rfl, empty_bytes rfl rfl (sl_len HR3.out).2.2.2, HST6.out⟩
  · have dk : decide (s1.k = 0) = false := decide_eq_false h1
    rw [if_neg h1]
    clear h1
    dsimp only
    go_enter Tryz.func199, Tryz.ntmps199
    go_wp2_with fail
    refine HB.out.mono ?_
    rintro r w1 ⟨v, rfl, hr, hst⟩

    obtain ⟨aD, cD, hv, hr2, _⟩ := sl_form hr
    simp only [List.cons.injEq, and_true] at hv
    subst hv

    have HD1 := hid hr2
    have HST := hid hst
    have hs1 := hst.size
    have hG := rd_good w1 hst.1
    rw [dk] at hG
    have HG := hid hG
    clear hr hr2 hst hG dk
    go_wp2_with fail
    refine HG.out.mono ?_
    rintro r w2 ⟨rfl, hb2⟩
    have hs2 := hb2.size

    have HST2 := hid (HST.out.then hb2)
    go_wp2
    go_ret
    exact ⟨_, rfl, empty_bytes rfl rfl (by omega), HST2.out⟩
end Go.Proofs.YtlbffbkbkajciaaGreat
namespace Go.Proofs.YtlbffbkbkajciaaGreat
open Go.RowKit Go.Bs Go.Maps
set_option linter.unusedVariables false
set_option linter.unusedSimpArgs false

set_option maxRecDepth 100000 in
set_option maxHeartbeats 3200000 in
theorem block_loose (w : World) {g : Nat} {B : List UInt8} {a : Option Addr} {s : Rs} (h : RdAt w g B a s) (hB : B.length ≤ 1000000000) (most : Int) (hm : -9223372036854775808 ≤ most ∧ most ≤ 9223372036854775807) :
    Calls Tryz.prog 119 #[.pointer (some ⟨g, 0, none⟩), .int .i64 most] w fun r w' => ∃ v, r = .returned (.tuple #[v, .bool (s.loose B most).2.2]) ∧ rBytes.r (fun q => w.heap.size ≤ q ∧ q < w'.heap.size) w' [v] (s.loose B most).2.1 ∧ RdStep w g B a (s.loose B most).1 w' := by
  have hgl := h.blk.lt
  have HA := hid (rd_at w h)
  have HI := hid (varint_int w h (by omega) (min most 1048576) (by omega))
  have hiok := Rs.int_ok h.ok (m := min most 1048576)
  have hip := Rs.int_p (B := B) (s := s) (m := min most 1048576)
  have hile : (s.int B (min most 1048576)).2 ≤ 1048576 := by have := Rs.int_le (B := B) (s := s) (m := min most 1048576); omega
  have hbok := Rs.byte_ok hiok
  have hbp := Rs.byte_p hiok
  have hBY := hid (fun (W : World) (h : RdAt W g B a (s.int B (min most 1048576)).1) => rd_byte W h)
  have hTK := hid (fun (W : World) (h : RdAt W g B a ((s.int B (min most 1048576)).1.byte B).1) => rd_take W h ((s.int B (min most 1048576)).2 : Int) (by omega) (by omega))
  have htp := Rs.take_p hbok ((s.int B (min most 1048576)).2 : Int)
  have htl : (((s.int B (min most 1048576)).1.byte B).1.take B ((s.int B (min most 1048576)).2 : Int)).2.length ≤ 1048576 := by
    by_cases h0 : (((s.int B (min most 1048576)).1.byte B).1.take B ((s.int B (min most 1048576)).2 : Int)).1.k = 0
    · rw [(Rs.take_more h0).2.2]; omega
    · rw [Rs.take_bad h0]; simp
  have hUN := hid (fun (W : World) (h : RdAt W g B a ((s.int B (min most 1048576)).1.byte B).1) => block_unpacked W h hB (s.int B (min most 1048576)).2 hile)
  have hup := Rs.unp_p hbok (s.int B (min most 1048576)).2
  have hul : (((s.int B (min most 1048576)).1.byte B).1.unp B (s.int B (min most 1048576)).2).2.length ≤ 1048576 := Nat.le_trans (Rs.unp_len _) hile
  have hFL := hid (fun (W : World) (h : RdAt W g B a ((s.int B (min most 1048576)).1.byte B).1) => rd_fail W h 7 ((((s.int B (min most 1048576)).1.byte B).1.p : Int) - 1) (by omega))
  have hfk := Rs.fail_k (s := ((s.int B (min most 1048576)).1.byte B).1) (c := 7) (at_ := ((((s.int B (min most 1048576)).1.byte B).1.p : Int) - 1)) (by omega)
  have hSN := hid (fun (W : World) (t : Rs) (h : RdAt W g B a t) (hp : s.p ≤ t.p) => rd_since W h s.p hp (by omega))
  have hbyp : ((s.int B (min most 1048576)).1.byte B).1.p ≤ B.length := hbok.le
  have hb1 : ((s.int B (min most 1048576)).1.byte B).1.k = 0 → 1 ≤ ((s.int B (min most 1048576)).1.byte B).1.p := fun hk => by rw [byte_p rfl hk]; omega
  unfold Rs.loose
  generalize ((s.int B (min most 1048576)).1.byte B).1.fail 7 ((((s.int B (min most 1048576)).1.byte B).1.p : Int) - 1) = F1 at *
  generalize ((s.int B (min most 1048576)).1.byte B).1.take B ((s.int B (min most 1048576)).2 : Int) = T at *
  generalize ((s.int B (min most 1048576)).1.byte B).1.unp B (s.int B (min most 1048576)).2 = U at *
  generalize (s.int B (min most 1048576)).1.byte B = Y at *
  generalize s.int B (min most 1048576) = N at *
  obtain ⟨sd, n⟩ := N
  obtain ⟨se, y⟩ := Y
  obtain ⟨st, DT⟩ := T
  obtain ⟨su, DU⟩ := U
  dsimp only at *
  have hSNt := hid (fun (W : World) (h : RdAt W g B a st) => hSN.out W st h (by omega))
  have hSNu := hid (fun (W : World) (h : RdAt W g B a su) => hSN.out W su h (by omega))
  generalize (B.drop s.p).take (st.p - s.p) = S1 at *
  generalize (B.drop s.p).take (su.p - s.p) = S2 at *
  clear hSN
  have hM : (if most ≤ 1048576 then most else 1048576) = min most 1048576 := by split <;> omega
  have hM2 : (if (1048576 : Int) < most then (1048576 : Int) else most) = min most 1048576 := by split <;> omega
  generalize min most 1048576 = M at *
  have hy := y.toNat_lt
  clear h
  by_cases hk : se.k = 0
  · have dk : decide (se.k = 0) = true := decide_eq_true hk
    have hp1 := hb1 hk
    rw [if_pos hk]
    clear hk hb1
    by_cases h0 : y.toNat = 0
    · have d0 : ((y.toNat : Int) == 0) = true := by rw [h0]; rfl
      rw [if_pos h0]
      clear h0
      by_cases ht : st.k = 0
      · have dt : decide (st.k = 0) = true := decide_eq_true ht
        rw [if_pos ht]
        clear ht
        dsimp only
        go_enter Tryz.func119, Tryz.ntmps119
        go_wp2_with fail
        refine HA.out.mono ?_
        rintro r w0 ⟨rfl, rfl⟩
        go_wp2_with fail
        refine HI.out.mono ?_
        rintro r w1 ⟨rfl, hst1⟩
        have HST1 := hid hst1
        have HBY := hid (hBY.out w1 hst1.1)
        clear hst1
        go_wp2_with fail
        refine HBY.out.mono ?_
        rintro r w2 ⟨rfl, hst2⟩
        have HST2 := hid (RdStep.trans HST1.out.2 hst2)
        have hG := rd_good w2 hst2.1
        rw [dk] at hG
        have HG := hid hG
        clear hst2 hG dk
        go_wp2_with fail
        refine HG.out.mono ?_
        rintro r w3 ⟨rfl, hb3⟩
        have HST3 := hid (HST2.out.then hb3)
        have hs3 := HST3.out.size

        have HC := hid (hTK.out w3 HST3.out.1)
        go_wp2_with fail
        refine HC.out.mono ?_
        rintro r w4 ⟨v, rfl, hr, hst4⟩
        obtain ⟨aD, cD, hv, hr2, _⟩ := sl_form hr
        simp only [List.cons.injEq, and_true] at hv
        subst hv
        have HR4 := hid hr2
        have hs4 := hst4.size
        have HST4 := hid (RdStep.trans HST3.out.2 hst4)
        have hG4 := rd_good w4 hst4.1
        rw [dt] at hG4
        have HG4 := hid hG4
        clear hr hr2 hst4 hG4 dt
        go_wp2_with fail
        refine HG4.out.mono ?_
        rintro r w5 ⟨rfl, hb5⟩
        have HST5 := hid (HST4.out.then hb5)
        have hs5 := hb5.size

        have HR5 := hid (rBytes.mono (S' := fun q => w3.heap.size ≤ q ∧ q < w5.heap.size) (rBytes.keep HR4.out fun q hq => hb5.block q hq.2) fun q hq => ⟨hq.1, by omega⟩)
        have HBB := hid (block_bytes w5 DT aD _ cD (rBytes.mono HR5.out fun q hq => hq.2) htl)
        go_wp2_with fail
        refine HBB.out.mono ?_
        rintro r w6 ⟨v6, rfl, hr, hb6⟩
        obtain ⟨a6, c6, hv, hr2, _⟩ := sl_form hr
        simp only [List.cons.injEq, and_true] at hv
        subst hv
        have HR6 := hid hr2
        have hs6 := hb6.size
        have HST6 := hid (HST5.out.then hb6)
        have HSN := hid (hSNt.out w6 HST6.out.1)
        clear hr hr2
        go_wp2_with fail
        refine HSN.out.mono ?_
        rintro r w7 ⟨v7, rfl, hr, hb7⟩
        obtain ⟨a7, c7, hv, hr2, _⟩ := sl_form hr
        simp only [List.cons.injEq, and_true] at hv
        subst hv
        have HR7 := hid hr2
        have hs7 := hb7.size
        have HST7 := hid (HST6.out.then hb7)
        have HEQ := hid (bytes_equal (blockB DT) S1 a6 a7 _ c6 _ c7 w7 (rBytes.mono (rBytes.keep HR6.out fun q hq => hb7.block q hq.2) fun q hq => by omega) (rBytes.mono HR7.out fun q hq => hq.2))
        generalize hq : decide (blockB DT = S1) = q at *
        have HQ := hid hq
        clear hq
        clear hr hr2
        go_wp2_with fail
        refine HEQ.out.mono ?_
        rintro r w8 ⟨rfl, rfl⟩
        have HRF := hid (rBytes.mono (S' := fun q => w.heap.size ≤ q ∧ q < w7.heap.size) (rBytes.keep HR5.out fun q hq => (hb7.block q (by omega)).trans (hb6.block q hq.2)) fun q hq => ⟨by omega, by omega⟩)
        go_wp2
        go_ret2
        rw [HQ.out]
        exact ⟨_, rfl, HRF.out, HST7.out⟩
      · have dt : decide (st.k = 0) = false := decide_eq_false ht
        rw [if_neg ht]
        clear ht
        dsimp only
        go_enter Tryz.func119, Tryz.ntmps119
        go_wp2_with fail
        refine HA.out.mono ?_
        rintro r w0 ⟨rfl, rfl⟩
        go_wp2_with fail
        refine HI.out.mono ?_
        rintro r w1 ⟨rfl, hst1⟩
        have HST1 := hid hst1
        have HBY := hid (hBY.out w1 hst1.1)
        clear hst1
        go_wp2_with fail
        refine HBY.out.mono ?_
        rintro r w2 ⟨rfl, hst2⟩
        have HST2 := hid (RdStep.trans HST1.out.2 hst2)
        have hG := rd_good w2 hst2.1
        rw [dk] at hG
        have HG := hid hG
        clear hst2 hG dk
        go_wp2_with fail
        refine HG.out.mono ?_
        rintro r w3 ⟨rfl, hb3⟩
        have HST3 := hid (HST2.out.then hb3)
        have hs3 := HST3.out.size

        have HC := hid (hTK.out w3 HST3.out.1)
        go_wp2_with fail
        refine HC.out.mono ?_
        rintro r w4 ⟨v, rfl, hr, hst4⟩
        obtain ⟨aD, cD, hv, hr2, _⟩ := sl_form hr
        simp only [List.cons.injEq, and_true] at hv
        subst hv
        have HR4 := hid hr2
        have hs4 := hst4.size
        have HST4 := hid (RdStep.trans HST3.out.2 hst4)
        have hG4 := rd_good w4 hst4.1
        rw [dt] at hG4
        have HG4 := hid hG4
        clear hr hr2 hst4 hG4 dt
        go_wp2_with fail
        refine HG4.out.mono ?_
        rintro r w5 ⟨rfl, hb5⟩
        have HST5 := hid (HST4.out.then hb5)
        have hs5 := hb5.size

        go_wp2
        go_ret2
        exact ⟨_, rfl, empty_bytes rfl rfl (by omega), HST5.out⟩
    · have d0 : ((y.toNat : Int) == 0) = false := by rw [beq_eq_false_iff_ne]; omega
      rw [if_neg h0]
      by_cases h1 : y.toNat = 1
      · have d1 : ((y.toNat : Int) == 1) = true := by rw [h1]; rfl
        rw [if_pos h1]
        clear h0 h1
        by_cases ht : su.k = 0
        · have dt : decide (su.k = 0) = true := decide_eq_true ht
          rw [if_pos ht]
          clear ht
          dsimp only
          go_enter Tryz.func119, Tryz.ntmps119
          go_wp2_with fail
          refine HA.out.mono ?_
          rintro r w0 ⟨rfl, rfl⟩
          go_wp2_with fail
          refine HI.out.mono ?_
          rintro r w1 ⟨rfl, hst1⟩
          have HST1 := hid hst1
          have HBY := hid (hBY.out w1 hst1.1)
          clear hst1
          go_wp2_with fail
          refine HBY.out.mono ?_
          rintro r w2 ⟨rfl, hst2⟩
          have HST2 := hid (RdStep.trans HST1.out.2 hst2)
          have hG := rd_good w2 hst2.1
          rw [dk] at hG
          have HG := hid hG
          clear hst2 hG dk
          go_wp2_with fail
          refine HG.out.mono ?_
          rintro r w3 ⟨rfl, hb3⟩
          have HST3 := hid (HST2.out.then hb3)
          have hs3 := HST3.out.size

          have HC := hid (hUN.out w3 HST3.out.1)
          go_wp2_with fail
          refine HC.out.mono ?_
          rintro r w4 ⟨v, rfl, hr, hst4⟩
          obtain ⟨aD, cD, hv, hr2, _⟩ := sl_form hr
          simp only [List.cons.injEq, and_true] at hv
          subst hv
          have HR4 := hid hr2
          have hs4 := hst4.size
          have HST4 := hid (RdStep.trans HST3.out.2 hst4)
          have hG4 := rd_good w4 hst4.1
          rw [dt] at hG4
          have HG4 := hid hG4
          clear hr hr2 hst4 hG4 dt
          go_wp2_with fail
          refine HG4.out.mono ?_
          rintro r w5 ⟨rfl, hb5⟩
          have HST5 := hid (HST4.out.then hb5)
          have hs5 := hb5.size

          have HR5 := hid (rBytes.mono (S' := fun q => w3.heap.size ≤ q ∧ q < w5.heap.size) (rBytes.keep HR4.out fun q hq => hb5.block q hq.2) fun q hq => ⟨hq.1, by omega⟩)
          have HBB := hid (block_bytes w5 DU aD _ cD (rBytes.mono HR5.out fun q hq => hq.2) hul)
          go_wp2_with fail
          refine HBB.out.mono ?_
          rintro r w6 ⟨v6, rfl, hr, hb6⟩
          obtain ⟨a6, c6, hv, hr2, _⟩ := sl_form hr
          simp only [List.cons.injEq, and_true] at hv
          subst hv
          have HR6 := hid hr2
          have hs6 := hb6.size
          have HST6 := hid (HST5.out.then hb6)
          have HSN := hid (hSNu.out w6 HST6.out.1)
          clear hr hr2
          go_wp2_with fail
          refine HSN.out.mono ?_
          rintro r w7 ⟨v7, rfl, hr, hb7⟩
          obtain ⟨a7, c7, hv, hr2, _⟩ := sl_form hr
          simp only [List.cons.injEq, and_true] at hv
          subst hv
          have HR7 := hid hr2
          have hs7 := hb7.size
          have HST7 := hid (HST6.out.then hb7)
          have HEQ := hid (bytes_equal (blockB DU) S2 a6 a7 _ c6 _ c7 w7 (rBytes.mono (rBytes.keep HR6.out fun q hq => hb7.block q hq.2) fun q hq => by omega) (rBytes.mono HR7.out fun q hq => hq.2))
          generalize hq : decide (blockB DU = S2) = q at *
          have HQ := hid hq
          clear hq
          clear hr hr2
          go_wp2_with fail
          refine HEQ.out.mono ?_
          rintro r w8 ⟨rfl, rfl⟩
          have HRF := hid (rBytes.mono (S' := fun q => w.heap.size ≤ q ∧ q < w7.heap.size) (rBytes.keep HR5.out fun q hq => (hb7.block q (by omega)).trans (hb6.block q hq.2)) fun q hq => ⟨by omega, by omega⟩)
          go_wp2
          go_ret2
          rw [HQ.out]
          exact ⟨_, rfl, HRF.out, HST7.out⟩
        · have dt : decide (su.k = 0) = false := decide_eq_false ht
          rw [if_neg ht]
          clear ht
          dsimp only
          go_enter Tryz.func119, Tryz.ntmps119
          go_wp2_with fail
          refine HA.out.mono ?_
          rintro r w0 ⟨rfl, rfl⟩
          go_wp2_with fail
          refine HI.out.mono ?_
          rintro r w1 ⟨rfl, hst1⟩
          have HST1 := hid hst1
          have HBY := hid (hBY.out w1 hst1.1)
          clear hst1
          go_wp2_with fail
          refine HBY.out.mono ?_
          rintro r w2 ⟨rfl, hst2⟩
          have HST2 := hid (RdStep.trans HST1.out.2 hst2)
          have hG := rd_good w2 hst2.1
          rw [dk] at hG
          have HG := hid hG
          clear hst2 hG dk
          go_wp2_with fail
          refine HG.out.mono ?_
          rintro r w3 ⟨rfl, hb3⟩
          have HST3 := hid (HST2.out.then hb3)
          have hs3 := HST3.out.size

          have HC := hid (hUN.out w3 HST3.out.1)
          go_wp2_with fail
          refine HC.out.mono ?_
          rintro r w4 ⟨v, rfl, hr, hst4⟩
          obtain ⟨aD, cD, hv, hr2, _⟩ := sl_form hr
          simp only [List.cons.injEq, and_true] at hv
          subst hv
          have HR4 := hid hr2
          have hs4 := hst4.size
          have HST4 := hid (RdStep.trans HST3.out.2 hst4)
          have hG4 := rd_good w4 hst4.1
          rw [dt] at hG4
          have HG4 := hid hG4
          clear hr hr2 hst4 hG4 dt
          go_wp2_with fail
          refine HG4.out.mono ?_
          rintro r w5 ⟨rfl, hb5⟩
          have HST5 := hid (HST4.out.then hb5)
          have hs5 := hb5.size

          go_wp2
          go_ret2
          exact ⟨_, rfl, empty_bytes rfl rfl (by omega), HST5.out⟩
      · have d1 : ((y.toNat : Int) == 1) = false := by rw [beq_eq_false_iff_ne]; omega
        rw [if_neg h1]
        clear h0 h1
        have dt : decide (F1.k = 0) = false := decide_eq_false hfk
        dsimp only
        go_enter Tryz.func119, Tryz.ntmps119
        go_wp2_with fail
        refine HA.out.mono ?_
        rintro r w0 ⟨rfl, rfl⟩
        go_wp2_with fail
        refine HI.out.mono ?_
        rintro r w1 ⟨rfl, hst1⟩
        have HST1 := hid hst1
        have HBY := hid (hBY.out w1 hst1.1)
        clear hst1
        go_wp2_with fail
        refine HBY.out.mono ?_
        rintro r w2 ⟨rfl, hst2⟩
        have HST2 := hid (RdStep.trans HST1.out.2 hst2)
        have hG := rd_good w2 hst2.1
        rw [dk] at hG
        have HG := hid hG
        clear hst2 hG dk
        go_wp2_with fail
        refine HG.out.mono ?_
        rintro r w3 ⟨rfl, hb3⟩
        have HST3 := hid (HST2.out.then hb3)
        have hs3 := HST3.out.size

        have HAT3 := hid (rd_at w3 HST3.out.1)
        go_wp2_with fail
        refine HAT3.out.mono ?_
        rintro r w3' ⟨rfl, rfl⟩
        have HC := hid (hFL.out w3 HST3.out.1)
        go_wp2_with fail
        refine HC.out.mono ?_
        rintro r w4 ⟨rfl, hst4⟩
        have HST4 := hid (RdStep.trans HST3.out.2 hst4)
        have hG4 := rd_good w4 hst4.1
        rw [dt] at hG4
        have HG4 := hid hG4
        clear hst4 hG4 dt
        go_wp2_with fail
        refine HG4.out.mono ?_
        rintro r w5 ⟨rfl, hb5⟩
        have HST5 := hid (HST4.out.then hb5)

        go_wp2
        go_ret2
        exact ⟨_, rfl, empty_bytes rfl rfl (by omega), HST5.out⟩
  · have dk : decide (se.k = 0) = false := decide_eq_false hk
    rw [if_neg hk]
    clear hk hb1
    dsimp only
    go_enter Tryz.func119, Tryz.ntmps119
    go_wp2_with fail
    refine HA.out.mono ?_
    rintro r w0 ⟨rfl, rfl⟩
    go_wp2_with fail
    refine HI.out.mono ?_
    rintro r w1 ⟨rfl, hst1⟩
    have HST1 := hid hst1
    have HBY := hid (hBY.out w1 hst1.1)
    clear hst1
    go_wp2_with fail
    refine HBY.out.mono ?_
    rintro r w2 ⟨rfl, hst2⟩
    have HST2 := hid (RdStep.trans HST1.out.2 hst2)
    have hG := rd_good w2 hst2.1
    rw [dk] at hG
    have HG := hid hG
    clear hst2 hG dk
    go_wp2_with fail
    refine HG.out.mono ?_
    rintro r w3 ⟨rfl, hb3⟩
    have HST3 := hid (HST2.out.then hb3)
    have hs3 := HST3.out.size

    go_wp2
    go_ret2
    exact ⟨_, rfl, empty_bytes rfl rfl (by omega), HST3.out⟩
end Go.Proofs.YtlbffbkbkajciaaGreat
namespace Go.Proofs.YtlbffbkbkajciaaGreat
open Go.RowKit Go.Bs Go.Maps
set_option linter.unusedVariables false
set_option linter.unusedSimpArgs false

def Rs.strict (s : Rs × List UInt8 × Bool) : Rs × List UInt8 := if s.1.k = 0 then (if s.2.2 = true then (s.1, s.2.1) else (s.1.fail 12 s.1.p, [])) else (s.1, [])
theorem block_strict (w : World) {g : Nat} {B : List UInt8} {a : Option Addr} {s : Rs} (h : RdAt w g B a s) (q : Bool) (p : Nat) :
    Calls Tryz.prog 197 #[.bool q, .func (Fn.func 180) #[.pointer (some ⟨g, 0, none⟩)] #[], .int .i64 (p : Int)] w fun r w' => r = .returned (.tuple #[]) ∧ RdStep w g B a (if q = true then s else s.fail 12 p) w' := by
  have HF := hid (rd_fail w h 12 p (by omega))
  have HH := hid h
  clear h
  cases q
  · rw [if_neg (by simp)]
    go_enter Tryz.func197, Tryz.ntmps197
    go_wp2_with fail
    refine HF.out.mono ?_
    rintro r w1 ⟨rfl, hst⟩
    have HST := hid hst
    clear hst
    go_wp2
    go_end0
    exact ⟨rfl, HST.out⟩
  · rw [if_pos rfl]
    go_enter Tryz.func197, Tryz.ntmps197
    go_wp2
    go_end0
    exact ⟨rfl, RdStep.refl HH.out⟩
set_option maxRecDepth 100000 in
set_option maxHeartbeats 3200000 in
theorem block_read (w : World) {g : Nat} {B : List UInt8} {a : Option Addr} {s : Rs} (h : RdAt w g B a s) (hB : B.length ≤ 1000000000) (most : Int) (hm : -9223372036854775808 ≤ most ∧ most ≤ 9223372036854775807) :
    Calls Tryz.prog 117 #[.pointer (some ⟨g, 0, none⟩), .int .i64 most] w fun r w' => ∃ v, r = .returned v ∧ rBytes.r (fun q => w.heap.size ≤ q ∧ q < w'.heap.size) w' [v] (Rs.strict (s.loose B most)).2 ∧ RdStep w g B a (Rs.strict (s.loose B most)).1 w' := by
  have HLS := hid (block_loose w h hB most hm)
  have hgl := h.blk.lt
  unfold Rs.strict
  generalize s.loose B most = L at *
  obtain ⟨s1, D, q⟩ := L
  dsimp only at *
  have hfk := Rs.fail_k (s := s1) (c := 12) (at_ := (s1.p : Int)) (by omega)
  have hfb : s1.k ≠ 0 → s1.fail 12 s1.p = s1 := fun hk => Rs.fail_of_bad hk
  have hSC := hid (fun (W : World) (h : RdAt W g B a s1) => block_strict W h q s1.p)
  clear h
  by_cases hk : s1.k = 0
  · rw [if_pos hk]
    cases q
    · have d1 : decide ((s1.fail 12 s1.p).k = 0) = false := decide_eq_false hfk
      rw [if_neg (by simp)]
      rw [if_neg (by simp)] at hSC
      generalize s1.fail 12 s1.p = s2 at *
      clear hk hfk hfb
      go_enter Tryz.func117, Tryz.ntmps117
      go_wp2_with fail
      refine HLS.out.mono ?_
      rintro r w1 ⟨v, rfl, hr, hst⟩

      obtain ⟨aD, cD, hv, hr2, _⟩ := sl_form hr
      simp only [List.cons.injEq, and_true] at hv
      subst hv

      have HST := hid hst
      have HR := hid hr2
      have hs1 := hst.size
      have HAT := hid (rd_at w1 hst.1)
      have HSC := hid (hSC.out w1 hst.1)
      clear hr hr2 hst
      go_wp2_with fail
      refine HAT.out.mono ?_
      rintro r w1' ⟨rfl, rfl⟩
      go_wp2_with fail
      refine HSC.out.mono ?_
      rintro r w2 ⟨rfl, hst2⟩
      have HST2 := hid (RdStep.trans HST.out.2 hst2)
      have HRK := hid (rBytes.mono (S' := fun q => w.heap.size ≤ q ∧ q < w2.heap.size) (rBytes.keep HR.out fun q hq => hst2.2.block q hq.2 (by omega)) fun q hq => ⟨hq.1, Nat.lt_of_lt_of_le hq.2 hst2.size⟩)
      have hG := rd_good w2 hst2.1
      rw [d1] at hG
      have HG := hid hG
      clear hst2 hG d1
      go_wp2_with fail
      refine HG.out.mono ?_
      rintro r w3 ⟨rfl, hb3⟩
      have HST3 := hid (HST2.out.then hb3)

      go_wp2
      go_ret
      exact ⟨_, rfl, empty_bytes rfl rfl (by omega), HST3.out⟩
    · have d1 : decide (s1.k = 0) = true := decide_eq_true hk
      rw [if_pos rfl]
      rw [if_pos rfl] at hSC
      clear hk hfk hfb
      go_enter Tryz.func117, Tryz.ntmps117
      go_wp2_with fail
      refine HLS.out.mono ?_
      rintro r w1 ⟨v, rfl, hr, hst⟩

      obtain ⟨aD, cD, hv, hr2, _⟩ := sl_form hr
      simp only [List.cons.injEq, and_true] at hv
      subst hv

      have HST := hid hst
      have HR := hid hr2
      have hs1 := hst.size
      have HAT := hid (rd_at w1 hst.1)
      have HSC := hid (hSC.out w1 hst.1)
      clear hr hr2 hst
      go_wp2_with fail
      refine HAT.out.mono ?_
      rintro r w1' ⟨rfl, rfl⟩
      go_wp2_with fail
      refine HSC.out.mono ?_
      rintro r w2 ⟨rfl, hst2⟩
      have HST2 := hid (RdStep.trans HST.out.2 hst2)
      have HRK := hid (rBytes.mono (S' := fun q => w.heap.size ≤ q ∧ q < w2.heap.size) (rBytes.keep HR.out fun q hq => hst2.2.block q hq.2 (by omega)) fun q hq => ⟨hq.1, Nat.lt_of_lt_of_le hq.2 hst2.size⟩)
      have hG := rd_good w2 hst2.1
      rw [d1] at hG
      have HG := hid hG
      clear hst2 hG d1
      go_wp2_with fail
      refine HG.out.mono ?_
      rintro r w3 ⟨rfl, hb3⟩
      have HST3 := hid (HST2.out.then hb3)

      have HRK3 := hid (rBytes.mono (S' := fun q => w.heap.size ≤ q ∧ q < w3.heap.size) (rBytes.keep HRK.out fun q hq => hb3.block q hq.2) fun q hq => ⟨hq.1, Nat.lt_of_lt_of_le hq.2 hb3.size⟩)
      go_wp2
      go_ret
      exact ⟨_, rfl, HRK3.out, HST3.out⟩
  · rw [if_neg hk]
    have hfb2 := hfb hk
    have d1 : decide (s1.k = 0) = false := decide_eq_false hk
    have hSC2 : Hid (∀ (W : World) (h : RdAt W g B a s1), Calls Tryz.prog 197 #[.bool q, .func (Fn.func 180) #[.pointer (some ⟨g, 0, none⟩)] #[], .int .i64 (s1.p : Int)] W fun r w' => r = .returned (.tuple #[]) ∧ RdStep W g B a s1 w') := hid (fun W h => by
      have := hSC.out W h
      rw [hfb2] at this
      cases q
      · rw [if_neg (by simp)] at this; exact this
      · rw [if_pos rfl] at this; exact this)
    clear hk hfk hfb hfb2 hSC
    have hSC := hSC2
    clear hSC2
    cases q
    all_goals
      go_enter Tryz.func117, Tryz.ntmps117
      go_wp2_with fail
      refine HLS.out.mono ?_
      rintro r w1 ⟨v, rfl, hr, hst⟩

      obtain ⟨aD, cD, hv, hr2, _⟩ := sl_form hr
      simp only [List.cons.injEq, and_true] at hv
      subst hv

      have HST := hid hst
      have HR := hid hr2
      have hs1 := hst.size
      have HAT := hid (rd_at w1 hst.1)
      have HSC := hid (hSC.out w1 hst.1)
      clear hr hr2 hst
      go_wp2_with fail
      refine HAT.out.mono ?_
      rintro r w1' ⟨rfl, rfl⟩
      go_wp2_with fail
      refine HSC.out.mono ?_
      rintro r w2 ⟨rfl, hst2⟩
      have HST2 := hid (RdStep.trans HST.out.2 hst2)
      have HRK := hid (rBytes.mono (S' := fun q => w.heap.size ≤ q ∧ q < w2.heap.size) (rBytes.keep HR.out fun q hq => hst2.2.block q hq.2 (by omega)) fun q hq => ⟨hq.1, Nat.lt_of_lt_of_le hq.2 hst2.size⟩)
      have hG := rd_good w2 hst2.1
      rw [d1] at hG
      have HG := hid hG
      clear hst2 hG d1
      go_wp2_with fail
      refine HG.out.mono ?_
      rintro r w3 ⟨rfl, hb3⟩
      have HST3 := hid (HST2.out.then hb3)

      go_wp2
      go_ret
      exact ⟨_, rfl, empty_bytes rfl rfl (by omega), HST3.out⟩
end Go.Proofs.YtlbffbkbkajciaaGreat
namespace Go.Proofs.YtlbffbkbkajciaaGreat
open Go.RowKit Go.Bs Go.Maps
set_option linter.unusedVariables false
set_option linter.unusedSimpArgs false

theorem Rs.loose_ok {B : List UInt8} {s : Rs} (h : s.ok B.length) (most : Int) : (s.loose B most).1.ok B.length := by
  have hb := Rs.byte_ok (B := B) (Rs.int_ok h (m := min most 1048576))
  unfold Rs.loose
  split
  · split
    · split
      · exact Rs.take_ok hb _
      · exact Rs.take_ok hb _
    · split
      · split
        · exact Rs.unp_ok hb _
        · exact Rs.unp_ok hb _
      · exact Rs.fail_ok hb (by omega)
  · exact hb
end Go.Proofs.YtlbffbkbkajciaaGreat
namespace Go.Proofs.YtlbffbkbkajciaaGreat
open Go.RowKit Go.Bs Go.Maps
set_option linter.unusedVariables false
set_option linter.unusedSimpArgs false

theorem vget_varF (rest : List UInt8) : ∀ (f i x y : Nat), f + i = 9 → (0 < i → 0 < x) → x * 128 ^ i < 18446744073709551616 → vget i y (varF f x ++ rest) = (y + x * 128 ^ i, i + (varF f x).length, 0)
  | 0, i, x, y, h, hp, hx => by
    obtain rfl : i = 9 := by omega
    have hx2 : x < 2 := by omega
    have ht : (UInt8.ofNat x).toNat = x := by simp; omega
    have := hp (by omega)
    simp only [varF, List.cons_append, List.nil_append, List.length_cons, List.length_nil]
    unfold vget
    rw [ht, if_neg (by omega), if_neg (by omega), if_pos (by omega)]
  | f + 1, i, x, y, h, hp, hx => by
    simp only [varF]
    by_cases h128 : x < 128
    · rw [if_pos h128]
      have ht : (UInt8.ofNat x).toNat = x := by simp; omega
      simp only [List.cons_append, List.nil_append, List.length_cons, List.length_nil]
      unfold vget
      rw [ht, if_neg (by omega), if_neg (by omega), if_pos (by omega)]
    · rw [if_neg h128]
      have ht : (UInt8.ofNat (128 + x % 128)).toNat = 128 + x % 128 := by simp; omega
      simp only [List.cons_append, List.length_cons]
      unfold vget
      rw [ht, if_neg (by omega), if_neg (by omega), if_neg (by omega)]
      have hdm : x = 128 * (x / 128) + x % 128 := (Nat.div_add_mod x 128).symm
      have he : x / 128 * 128 ^ (i + 1) + x % 128 * 128 ^ i = x * 128 ^ i := by
        rw [Nat.pow_succ]
        generalize 128 ^ i = k
        conv => rhs; rw [hdm]
        rw [Nat.add_mul, Nat.mul_comm k 128, ← Nat.mul_assoc, Nat.mul_comm 128]
      rw [vget_varF rest f (i + 1) (x / 128) _ (by omega) (fun _ => by omega) (by omega)]
      refine Prod.ext ?_ (Prod.ext ?_ rfl)
      · dsimp only
        rw [show (128 + x % 128) % 128 = x % 128 by omega]
        omega
      · dsimp only; omega
theorem vget_varB (x : Nat) (rest : List UInt8) (hx : x < 18446744073709551616) : vget 0 0 (varB x ++ rest) = (x, (varB x).length, 0) := by
  have := vget_varF rest 9 0 x 0 rfl (fun h => by omega) (by simpa using hx)
  unfold varB
  rw [this]; simp
theorem Rs.num_varB {B rest : List UInt8} {p x : Nat} (hx : x < 18446744073709551616) (h : B.drop p = varB x ++ rest) : (⟨p, 0, 0⟩ : Rs).num B = (⟨p + (varB x).length, 0, 0⟩, x) := by
  unfold Rs.num
  rw [if_pos rfl]
  dsimp only
  rw [h, vget_varB x rest hx]
  rfl
theorem drop_more {B D rest : List UInt8} {p : Nat} (h : B.drop p = D ++ rest) : B.drop (p + D.length) = rest := by
  rw [← List.drop_drop, h]; simp
theorem drop_room {B D rest : List UInt8} {p : Nat} (h : B.drop p = D ++ rest) (hp : p ≤ B.length) : p + D.length + rest.length = B.length := by
  have := congrArg List.length h
  simp at this
  omega
theorem Rs.byte_pre {B rest : List UInt8} {p : Nat} {x : UInt8} (h : B.drop p = x :: rest) (hp : p ≤ B.length) : (⟨p, 0, 0⟩ : Rs).byte B = (⟨p + 1, 0, 0⟩, x) := by
  have hr := drop_room (D := [x]) h hp
  simp at hr
  have hx : B.getD p 0 = x := by
    have : (B.drop p)[0]? = some x := by rw [h]; rfl
    simp at this
    simp [List.getD, this]
  unfold Rs.byte Rs.skip
  rw [if_pos rfl, if_neg (by omega), if_neg (by dsimp only; omega)]
  dsimp only
  rw [if_pos rfl, hx]
  rfl
theorem Rs.int_pre {B rest : List UInt8} {p x : Nat} {m : Int} (hx : x < 18446744073709551616) (h : B.drop p = varB x ++ rest) (hm : (x : Int) ≤ m) : (⟨p, 0, 0⟩ : Rs).int B m = (⟨p + (varB x).length, 0, 0⟩, x) := by
  unfold Rs.int Rs.most
  rw [if_pos (by omega), Rs.num_varB hx h, if_neg (by dsimp only; omega)]
end Go.Proofs.YtlbffbkbkajciaaGreat
namespace Go.Proofs.YtlbffbkbkajciaaGreat
open Go.RowKit Go.Bs Go.Maps
set_option linter.unusedVariables false
set_option linter.unusedSimpArgs false

/-- A falling list, read. -/
def Rs.falls (B : List UInt8) : Nat → Rs → Int → List Int → Rs × List Int
  | 0, s, _, out => (s, out)
  | n + 1, s, below, out =>
    if (s.num B).1.k = 0 then
      (if below ≤ ((s.num B).2 : Int) then ((s.num B).1.fail 13 s.p, []) else Rs.falls B n (s.num B).1 (below - (s.num B).2 - 1) (out ++ [below - (s.num B).2 - 1]))
    else ((s.num B).1, [])
def Rs.delta (B : List UInt8) (s : Rs) (below : Int) (most : Int) : Rs × List Int := Rs.falls B (s.int B most).2 (s.int B most).1 below []
/-- A link's number behind another one's. -/
def Rs.stream (B : List UInt8) (s : Rs) (prev : Option Int) : Rs × Int :=
  match prev with
  | none => ((s.num B).1, ((s.num B).2 : Int))
  | some q => (if 18446744073709551615 - q ≤ ((s.num B).2 : Int) then (s.num B).1.fail 13 s.p else (s.num B).1, ((s.num B).2 : Int) + q + 1)
def Rs.linksF (B : List UInt8) (pos : Int) : Nat → Rs → Option Int → List Link → Rs × List Link
  | 0, s, _, out => (s, out)
  | n + 1, s, prev, out =>
    if ((s.stream B prev).1.delta B pos 4).1.k = 0 then Rs.linksF B pos n ((s.stream B prev).1.delta B pos 4).1 (some (s.stream B prev).2) (out ++ [⟨(s.stream B prev).2, ((s.stream B prev).1.delta B pos 4).2⟩])
    else (((s.stream B prev).1.delta B pos 4).1, [])
def Rs.links (B : List UInt8) (s : Rs) (pos : Int) : Rs × List Link := Rs.linksF B pos (s.int B 16).2 (s.int B 16).1 none []
/-- An entry's head. -/
def Rs.ehead (B : List UInt8) (s : Rs) (pos most : Int) : Rs × List Link × Nat :=
  if ((s.links B pos).1.int B most).1.k = 0 then (((s.links B pos).1.int B most).1, (s.links B pos).2, ((s.links B pos).1.int B most).2) else (((s.links B pos).1.int B most).1, [], 0)
def Rs.heads (B : List UInt8) : Nat → Rs → Int → Int → List (List Link × Nat) → Rs × List (List Link × Nat)
  | 0, s, _, _, out => (s, out)
  | n + 1, s, pos, left, out =>
    if (s.ehead B pos left).1.k = 0 then Rs.heads B n (s.ehead B pos left).1 (pos + 1) (left - (s.ehead B pos left).2.2) (out ++ [(s.ehead B pos left).2]) else ((s.ehead B pos left).1, [])
def sizesN (l : List (List Link × Nat)) : Nat := (l.map Prod.snd).sum
def dealE : List (List Link × Nat) → List UInt8 → List Entry
  | [], _ => []
  | (l, n) :: r, D => ⟨l, D.take n⟩ :: dealE r (D.drop n)
def Rs.ep (B : List UInt8) (s : Rs) : Rs × Nat := if (s.num B).1.k = 0 then (if epR ((s.num B).2 : Int) = true then s.num B else ((s.num B).1.fail 3 s.p, 0)) else ((s.num B).1, 0)
def Rs.po (B : List UInt8) (s : Rs) : Rs × Nat := if (s.num B).1.k = 0 then (if poR ((s.num B).2 : Int) = true then s.num B else ((s.num B).1.fail 3 s.p, 0)) else ((s.num B).1, 0)
/-- What stands ahead of the heads: the epoch, the base, how many. -/
def Rs.bfront (B : List UInt8) (s : Rs) : Rs × Nat × Nat × Nat :=
  ((if fitsR (((s.ep B).1.po B).2 : Int) (((s.ep B).1.po B).1.int B 16).2 = true then (((s.ep B).1.po B).1.int B 16).1 else (((s.ep B).1.po B).1.int B 16).1.fail 3 ((s.ep B).1.po B).1.p), (s.ep B).2, ((s.ep B).1.po B).2, (((s.ep B).1.po B).1.int B 16).2)
/-- What is behind the heads. -/
def Rs.bblock (blk : Rs → Rs × List UInt8 × Bool) (h : Rs × List (List Link × Nat)) : Rs × List Entry × Bool :=
  let p := blk h.1
  let u : Rs := if sizesN h.2 = p.2.1.length then p.1 else p.1.fail 3 h.1.p
  (u, dealE h.2 p.2.1, p.2.2)
def noBatch : Batch := ⟨0, 0, []⟩
def Rs.batch (B : List UInt8) (blk : Rs → Rs × List UInt8 × Bool) (s : Rs) : Rs × Batch × Bool :=
  let f := s.bfront B
  if f.1.k = 0 then
    let u := Rs.bblock blk (Rs.heads B f.2.2.2 f.1 (f.2.2.1 : Int) 1048576 [])
    if u.1.k = 0 then (u.1, ⟨(f.2.1 : Int), (f.2.2.1 : Int), u.2.1⟩, u.2.2) else (u.1, noBatch, false)
  else (f.1, noBatch, false)
/-- A block, by the strict reader. -/
def blkS (B : List UInt8) (s : Rs) : Rs × List UInt8 × Bool := ((Rs.strict (s.loose B 1048576)).1, (Rs.strict (s.loose B 1048576)).2, true)
def blkL (B : List UInt8) (s : Rs) : Rs × List UInt8 × Bool := s.loose B 1048576

theorem Rs.falls_put {B rest : List UInt8} : ∀ (l : List Int) (below : Int) (p : Nat) (out : List Int), fallsB below l = true → (∀ x ∈ l, 0 ≤ x) → below ≤ 18446744073709551615 → B.drop p = numsB (stepsL below l) ++ rest → p ≤ B.length →
    Rs.falls B l.length ⟨p, 0, 0⟩ below out = (⟨p + (numsB (stepsL below l)).length, 0, 0⟩, out ++ l)
  | [], below, p, out, _, _, _, _, _ => by simp [Rs.falls, stepsL, numsB]
  | x :: l, below, p, out, hf, hx, hb, h, hp => by
    simp only [fallsB, Bool.and_eq_true, decide_eq_true_eq] at hf
    have h0 := hx x (by simp)
    simp only [stepsL] at h ⊢
    rw [numsB_cons, List.append_assoc] at h
    have hn : (below - x - 1).toNat < 18446744073709551616 := by omega
    have hN := Rs.num_varB hn h
    have hd := drop_more h
    have hr := drop_room h hp
    simp only [List.length_cons, Rs.falls]
    rw [hN]
    dsimp only
    rw [if_pos rfl, toNat_cast (by omega), if_neg (by omega), show below - (below - x - 1) - 1 = x by omega, Rs.falls_put l x _ _ hf.2 (fun y hy => hx y (by simp [hy])) (by omega) hd (by omega), numsB_cons, List.length_append]
    simp [Nat.add_assoc]
theorem Rs.delta_put {B rest : List UInt8} {l : List Int} {pos : Int} {p : Nat} {most : Int} (hf : fallsB pos l = true) (hx : ∀ x ∈ l, 0 ≤ x) (hb : pos ≤ 18446744073709551615) (h : B.drop p = deltaB pos l ++ rest) (hp : p ≤ B.length) (hm : (l.length : Int) ≤ most) (hl : l.length < 18446744073709551616) :
    (⟨p, 0, 0⟩ : Rs).delta B pos most = (⟨p + (deltaB pos l).length, 0, 0⟩, l) := by
  unfold deltaB at h ⊢
  rw [List.append_assoc] at h
  have hd := drop_more h
  have hr := drop_room h hp
  unfold Rs.delta
  rw [Rs.int_pre hl h hm]
  dsimp only
  rw [Rs.falls_put l pos _ _ hf hx hb hd (by omega)]
  simp [Nat.add_assoc]
theorem Rs.linksF_put {B rest : List UInt8} {pos : Int} (hpos : pos ≤ 18446744073709551615) : ∀ (l : List Link) (prev : Option Int) (p : Nat) (out : List Link), (∀ x ∈ l, linkR pos x = true ∧ (0 ≤ x.stream ∧ x.stream ≤ 18446744073709551615) ∧ ∀ y ∈ x.backs, 0 ≤ y) → (∀ q, prev = some q → 0 ≤ q ∧ risesB (q :: l.map Link.stream) = true) → risesB (l.map Link.stream) = true → B.drop p = lnkF pos prev l ++ rest → p ≤ B.length →
    Rs.linksF B pos l.length ⟨p, 0, 0⟩ prev out = (⟨p + (lnkF pos prev l).length, 0, 0⟩, out ++ l)
  | [], prev, p, out, _, _, _, _, _ => by simp [Rs.linksF, lnkF]
  | x :: l, prev, p, out, hx, hq, hri, h, hp => by
    obtain ⟨hr1, hs, hbk⟩ := hx x (by simp)
    simp only [linkR, Bool.and_eq_true, decide_eq_true_eq] at hr1
    have hnext : ∀ q, some x.stream = some q → 0 ≤ q ∧ risesB (q :: l.map Link.stream) = true := fun q e => by
      simp only [Option.some.injEq] at e
      subst e
      exact ⟨hs.1, hri⟩
    have hri2 : risesB (l.map Link.stream) = true := by
      simp only [List.map_cons] at hri
      cases hl : l.map Link.stream with
      | nil => rfl
      | cons y r => rw [hl] at hri; simp only [risesB, Bool.and_eq_true] at hri; exact hri.2
    have key : ∃ y : Int, 0 ≤ y ∧ y ≤ 18446744073709551615 ∧ lnkF pos prev (x :: l) = varB y.toNat ++ (deltaB pos x.backs ++ lnkF pos (some x.stream) l) ∧ (B.drop p = varB y.toNat ++ ((deltaB pos x.backs ++ lnkF pos (some x.stream) l) ++ rest) → (⟨p, 0, 0⟩ : Rs).stream B prev = (⟨p + (varB y.toNat).length, 0, 0⟩, x.stream)) := by
      cases prev with
      | none =>
        refine ⟨x.stream, hs.1, hs.2, by simp [lnkF], fun h => ?_⟩
        unfold Rs.stream
        dsimp only
        rw [Rs.num_varB (by omega) h]
        dsimp only
        rw [toNat_cast hs.1]
      | some q =>
        obtain ⟨h0, hq1⟩ := hq q rfl
        simp only [List.map_cons, risesB, Bool.and_eq_true, decide_eq_true_eq] at hq1
        refine ⟨x.stream - q - 1, by omega, by omega, by simp [lnkF], fun h => ?_⟩
        unfold Rs.stream
        dsimp only
        rw [Rs.num_varB (by omega) h]
        dsimp only
        rw [toNat_cast (by omega), if_neg (by omega)]
        refine Prod.ext rfl ?_
        dsimp only
        omega
    obtain ⟨y, hy0, hy1, he, hst⟩ := key
    rw [he] at h ⊢
    rw [List.append_assoc] at h
    have hS := hst h
    have hd := drop_more h
    have hr := drop_room h hp
    rw [List.append_assoc] at hd
    have hD := Rs.delta_put (most := 4) hr1.2 hbk hpos hd (by omega) (by omega) (by omega)
    have hd2 := drop_more hd
    have hr2 := drop_room hd (by omega)
    simp only [List.length_cons, Rs.linksF]
    rw [hS]
    dsimp only
    rw [hD]
    dsimp only
    rw [if_pos rfl, Rs.linksF_put hpos l (some x.stream) _ _ (fun z hz => hx z (by simp [hz])) hnext hri2 hd2 (by omega)]
    simp [Nat.add_assoc]
theorem Rs.links_put {B rest : List UInt8} {pos : Int} {l : List Link} {p : Nat} (hpos : pos ≤ 18446744073709551615) (hR : linksR pos l = true) (hx : ∀ x ∈ l, (0 ≤ x.stream ∧ x.stream ≤ 18446744073709551615) ∧ ∀ y ∈ x.backs, 0 ≤ y) (h : B.drop p = linksB pos l ++ rest) (hp : p ≤ B.length) :
    (⟨p, 0, 0⟩ : Rs).links B pos = (⟨p + (linksB pos l).length, 0, 0⟩, l) := by
  simp only [linksR, Bool.and_eq_true, decide_eq_true_eq, List.all_eq_true] at hR
  unfold linksB at h ⊢
  rw [List.append_assoc] at h
  have hd := drop_more h
  have hr := drop_room h hp
  unfold Rs.links
  rw [Rs.int_pre (by omega) h (by omega)]
  dsimp only
  rw [Rs.linksF_put hpos l none _ _ (fun x h => ⟨hR.2.2 x h, hx x h⟩) (fun q e => by cases e) hR.2.1 hd (by omega)]
  simp [Nat.add_assoc]
end Go.Proofs.YtlbffbkbkajciaaGreat
namespace Go.Proofs.YtlbffbkbkajciaaGreat
open Go.RowKit Go.Bs Go.Maps
set_option linter.unusedVariables false
set_option linter.unusedSimpArgs false

theorem ofNat_byte {c : UInt8} {n : Nat} (h : n = c.toNat) : UInt8.ofNat n = c := by
  subst h
  exact UInt8.ofNat_toNat
theorem vget_canon : ∀ (l : List UInt8) (i x v u : Nat), i ≤ 9 → vget i x l = (v, u, 0) → ∃ y, v = x + y * 128 ^ i ∧ (0 < i → 0 < y) ∧ l.take (u - i) = varF (9 - i) y ∧ i < u ∧ u - i ≤ l.length
  | [], i, x, v, u, _, h => by simp [vget] at h
  | c :: l, i, x, v, u, hi, h => by
    have hc := c.toNat_lt
    unfold vget at h
    by_cases h1 : i = 9 ∧ 1 < c.toNat
    · rw [if_pos h1] at h; simp at h
    · rw [if_neg h1] at h
      by_cases h2 : 0 < i ∧ c.toNat = 0
      · rw [if_pos h2] at h; simp at h
      · rw [if_neg h2] at h
        by_cases h3 : c.toNat < 128
        · rw [if_pos h3] at h
          simp only [Prod.mk.injEq, and_true] at h
          obtain ⟨rfl, rfl⟩ := h
          refine ⟨c.toNat, rfl, fun h => by omega, ?_, by omega, by rw [List.length_cons]; omega⟩
          rw [show i + 1 - i = 1 by omega, List.take_succ_cons, List.take_zero]
          obtain ⟨f, hf⟩ : ∃ f, f = 9 - i := ⟨_, rfl⟩
          rw [← hf]
          cases f with
          | zero => simp only [varF]; rw [ofNat_byte rfl]
          | succ f => simp only [varF]; rw [if_pos h3, ofNat_byte rfl]
        · rw [if_neg h3] at h
          have hi9 : i < 9 := by
            rcases Nat.lt_or_ge i 9 with h | h
            · exact h
            · exact absurd ⟨by omega, by omega⟩ h1
          obtain ⟨y, hv, hy, ht, hu, hlu⟩ := vget_canon l (i + 1) _ v u (by omega) h
          have hy0 := hy (by omega)
          refine ⟨c.toNat % 128 + 128 * y, ?_, fun _ => by omega, ?_, by omega, by rw [List.length_cons]; omega⟩
          · rw [hv, Nat.pow_succ, Nat.add_mul]
            generalize 128 ^ i = k
            rw [Nat.mul_comm k 128, ← Nat.mul_assoc y 128 k, Nat.mul_comm y 128]
            omega
          · rw [show u - i = (u - (i + 1)) + 1 by omega, List.take_succ_cons, ht, show 9 - i = (9 - (i + 1)) + 1 by omega]
            simp only [varF]
            rw [if_neg (by omega), ofNat_byte (c := c) (by omega), show (c.toNat % 128 + 128 * y) / 128 = y by omega]
theorem Rs.num_canon {B : List UInt8} {s : Rs} (hs : s.ok B.length) (h : (s.num B).1.k = 0) : B.drop s.p = varB (s.num B).2 ++ B.drop (s.num B).1.p ∧ (s.num B).1.f = 0 := by
  have hm := Rs.num_more h
  have hle := hs.le
  unfold Rs.num at *
  rw [if_pos hm.2] at *
  dsimp only at h ⊢
  obtain ⟨y, hv, _, ht, hu, hlu⟩ := vget_canon (B.drop s.p) 0 0 _ _ (by omega) (show vget 0 0 (B.drop s.p) = ((vget 0 0 (B.drop s.p)).1, (vget 0 0 (B.drop s.p)).2.1, 0) from by rw [← h])
  simp only [Nat.pow_zero, Nat.mul_one, Nat.zero_add, Nat.sub_zero] at hv ht
  refine ⟨?_, by rw [if_pos h]⟩
  have : varB (vget 0 0 (B.drop s.p)).1 = (B.drop s.p).take (vget 0 0 (B.drop s.p)).2.1 := by rw [ht, hv]; rfl
  rw [this, ← List.drop_drop, List.take_append_drop]
theorem Rs.int_canon {B : List UInt8} {s : Rs} {m : Int} (hs : s.ok B.length) (h : (s.int B m).1.k = 0) : B.drop s.p = varB (s.int B m).2 ++ B.drop (s.int B m).1.p ∧ ((s.int B m).2 : Int) ≤ m ∧ s.k = 0 := by
  unfold Rs.int Rs.most at *
  by_cases h0 : 0 ≤ m
  · rw [if_pos h0] at h ⊢
    by_cases h1 : m.toNat < (s.num B).2
    · rw [if_pos h1] at h; exact absurd h (Rs.fail_k (by omega))
    · rw [if_neg h1] at h ⊢
      exact ⟨(Rs.num_canon hs h).1, by omega, (Rs.num_more h).2⟩
  · rw [if_neg h0] at h; exact absurd h (Rs.fail_k (by omega))
theorem Rs.falls_ok {B : List UInt8} : ∀ (n : Nat) (s : Rs) (below : Int) (out : List Int), s.ok B.length → (Rs.falls B n s below out).1.ok B.length
  | 0, s, below, out, h => h
  | n + 1, s, below, out, h => by
    simp only [Rs.falls]
    split
    · split
      · exact Rs.fail_ok (Rs.num_ok h) (by omega)
      · exact Rs.falls_ok n _ _ _ (Rs.num_ok h)
    · exact Rs.num_ok h
theorem Rs.delta_ok {B : List UInt8} {s : Rs} {below most : Int} (h : s.ok B.length) : (s.delta B below most).1.ok B.length := Rs.falls_ok _ _ _ _ (Rs.int_ok h)
theorem Rs.stream_ok {B : List UInt8} {s : Rs} {prev : Option Int} (h : s.ok B.length) : (s.stream B prev).1.ok B.length := by
  unfold Rs.stream
  cases prev with
  | none => exact Rs.num_ok h
  | some q =>
    dsimp only
    split
    · exact Rs.fail_ok (Rs.num_ok h) (by omega)
    · exact Rs.num_ok h
theorem Rs.linksF_ok {B : List UInt8} {pos : Int} : ∀ (n : Nat) (s : Rs) (prev : Option Int) (out : List Link), s.ok B.length → (Rs.linksF B pos n s prev out).1.ok B.length
  | 0, s, prev, out, h => h
  | n + 1, s, prev, out, h => by
    simp only [Rs.linksF]
    split
    · exact Rs.linksF_ok n _ _ _ (Rs.delta_ok (Rs.stream_ok h))
    · exact Rs.delta_ok (Rs.stream_ok h)
theorem Rs.links_ok {B : List UInt8} {s : Rs} {pos : Int} (h : s.ok B.length) : (s.links B pos).1.ok B.length := Rs.linksF_ok _ _ _ _ (Rs.int_ok h)
/-- A falling list that is read is put so. -/
theorem Rs.falls_canon {B : List UInt8} : ∀ (n : Nat) (s : Rs) (below : Int) (out : List Int), s.ok B.length → below ≤ 18446744073709551615 → (Rs.falls B n s below out).1.k = 0 →
    ∃ l : List Int, (Rs.falls B n s below out).2 = out ++ l ∧ l.length = n ∧ fallsB below l = true ∧ (∀ x ∈ l, 0 ≤ x) ∧ B.drop s.p = numsB (stepsL below l) ++ B.drop (Rs.falls B n s below out).1.p ∧ s.k = 0
  | 0, s, below, out, hs, _, h => ⟨[], by simp [Rs.falls], rfl, rfl, by simp, by simp [Rs.falls, stepsL, numsB], h⟩
  | n + 1, s, below, out, hs, hb, h => by
    simp only [Rs.falls] at h ⊢
    by_cases h1 : (s.num B).1.k = 0
    · rw [if_pos h1] at h ⊢
      by_cases h2 : below ≤ ((s.num B).2 : Int)
      · rw [if_pos h2] at h; exact absurd h (Rs.fail_k (by omega))
      · rw [if_neg h2] at h ⊢
        obtain ⟨l, e1, e2, e3, e4, e5, _⟩ := Rs.falls_canon n _ _ _ (Rs.num_ok hs) (by omega) h
        have hc := (Rs.num_canon hs h1).1
        refine ⟨(below - (s.num B).2 - 1) :: l, ?_, by simp [e2], ?_, ?_, ?_, (Rs.num_more h1).2⟩
        · rw [e1]; simp
        · simp only [fallsB]; rw [e3, Bool.and_true]; exact decide_eq_true (by omega)
        · intro x hx
          rcases List.mem_cons.1 hx with rfl | hx
          · omega
          · exact e4 x hx
        · simp only [stepsL]
          rw [numsB_cons, List.append_assoc, ← e5, show (below - (below - ((s.num B).2 : Int) - 1) - 1).toNat = (s.num B).2 by omega]
          exact hc
    · rw [if_neg h1] at h; exact absurd h h1
theorem Rs.delta_canon {B : List UInt8} {s : Rs} {below most : Int} (hs : s.ok B.length) (hb : below ≤ 18446744073709551615) (h : (s.delta B below most).1.k = 0) :
    fallsB below (s.delta B below most).2 = true ∧ ((s.delta B below most).2.length : Int) ≤ most ∧ (∀ x ∈ (s.delta B below most).2, 0 ≤ x) ∧ B.drop s.p = deltaB below (s.delta B below most).2 ++ B.drop (s.delta B below most).1.p ∧ s.k = 0 := by
  unfold Rs.delta at *
  obtain ⟨l, e1, e2, e3, e4, e5, e6⟩ := Rs.falls_canon _ _ _ _ (Rs.int_ok hs) hb h
  have hi := Rs.int_canon hs e6
  rw [List.nil_append] at e1
  rw [e1]
  refine ⟨e3, by rw [e2]; exact hi.2.1, e4, ?_, hi.2.2⟩
  unfold deltaB
  rw [List.append_assoc, ← e5, e2]
  exact hi.1
theorem Rs.stream_canon {B : List UInt8} {s : Rs} {prev : Option Int} (hs : s.ok B.length) (hp : ∀ q, prev = some q → 0 ≤ q ∧ q ≤ 18446744073709551615) (h : (s.stream B prev).1.k = 0) :
    (0 ≤ (s.stream B prev).2 ∧ (s.stream B prev).2 ≤ 18446744073709551615) ∧ (∀ q, prev = some q → q < (s.stream B prev).2) ∧ B.drop s.p = varB (match prev with | none => (s.stream B prev).2 | some q => (s.stream B prev).2 - q - 1).toNat ++ B.drop (s.stream B prev).1.p ∧ s.k = 0 := by
  have hsm := Rs.num_small (B := B) (s := s)
  unfold Rs.stream at *
  cases prev with
  | none =>
    dsimp only at h ⊢
    have hc := (Rs.num_canon hs h).1
    exact ⟨⟨by omega, by omega⟩, fun q e => (by cases e), by rw [Int.toNat_natCast]; exact hc, (Rs.num_more h).2⟩
  | some q =>
    have hq := hp q rfl
    dsimp only at h ⊢
    by_cases h1 : 18446744073709551615 - q ≤ ((s.num B).2 : Int)
    · rw [if_pos h1] at h; exact absurd h (Rs.fail_k (by omega))
    · rw [if_neg h1] at h ⊢
      have hc := (Rs.num_canon hs h).1
      refine ⟨⟨by omega, by omega⟩, fun q' e => ?_, ?_, (Rs.num_more h).2⟩
      · simp only [Option.some.injEq] at e; omega
      · rw [show (((s.num B).2 : Int) + q + 1 - q - 1).toNat = (s.num B).2 by omega]
        exact hc
theorem Rs.linksF_canon {B : List UInt8} {pos : Int} (hpos : pos ≤ 18446744073709551615) : ∀ (n : Nat) (s : Rs) (prev : Option Int) (out : List Link), s.ok B.length → (∀ q, prev = some q → 0 ≤ q ∧ q ≤ 18446744073709551615) → (Rs.linksF B pos n s prev out).1.k = 0 →
    ∃ l : List Link, (Rs.linksF B pos n s prev out).2 = out ++ l ∧ l.length = n ∧ risesB (l.map Link.stream) = true ∧ (∀ q, prev = some q → risesB (q :: l.map Link.stream) = true) ∧ (∀ x ∈ l, linkR pos x = true ∧ linkN x) ∧ B.drop s.p = lnkF pos prev l ++ B.drop (Rs.linksF B pos n s prev out).1.p ∧ s.k = 0
  | 0, s, prev, out, hs, _, h => ⟨[], by simp [Rs.linksF], rfl, rfl, fun q _ => rfl, by simp, by simp [Rs.linksF, lnkF], h⟩
  | n + 1, s, prev, out, hs, hp, h => by
    simp only [Rs.linksF] at h ⊢
    by_cases h1 : ((s.stream B prev).1.delta B pos 4).1.k = 0
    · rw [if_pos h1] at h ⊢
      obtain ⟨d1, d2, d3, d4, d5⟩ := Rs.delta_canon (Rs.stream_ok hs) hpos h1
      obtain ⟨s1, s2, s3, s4⟩ := Rs.stream_canon hs hp d5
      obtain ⟨l, e1, e2, e3, e4, e5, e6, _⟩ := Rs.linksF_canon hpos n _ _ _ (Rs.delta_ok (Rs.stream_ok hs)) (fun q e => by simp only [Option.some.injEq] at e; subst e; exact s1) h
      refine ⟨⟨(s.stream B prev).2, ((s.stream B prev).1.delta B pos 4).2⟩ :: l, ?_, by simp [e2], ?_, ?_, ?_, ?_, s4⟩
      · rw [e1]; simp
      · exact e4 _ rfl
      · intro q hq
        have := e4 _ rfl
        simp only [List.map_cons, risesB]
        rw [Bool.and_eq_true]
        exact ⟨decide_eq_true (s2 q hq), this⟩
      · intro x hx
        rcases List.mem_cons.1 hx with rfl | hx
        · refine ⟨?_, s1, d3⟩
          simp only [linkR, Bool.and_eq_true, decide_eq_true_eq]
          exact ⟨by omega, d1⟩
        · exact e5 x hx
      · rw [s3, d4, e6]
        cases prev <;> simp only [lnkF, List.append_assoc]
    · rw [if_neg h1] at h; exact absurd h h1
theorem Rs.links_canon {B : List UInt8} {s : Rs} {pos : Int} (hs : s.ok B.length) (hpos : pos ≤ 18446744073709551615) (h : (s.links B pos).1.k = 0) :
    linksR pos (s.links B pos).2 = true ∧ (∀ x ∈ (s.links B pos).2, linkN x) ∧ B.drop s.p = linksB pos (s.links B pos).2 ++ B.drop (s.links B pos).1.p ∧ s.k = 0 := by
  unfold Rs.links at *
  obtain ⟨l, e1, e2, e3, _, e5, e6, e7⟩ := Rs.linksF_canon hpos _ _ _ _ (Rs.int_ok hs) (fun q e => by cases e) h
  have hi := Rs.int_canon hs e7
  rw [List.nil_append] at e1
  rw [e1]
  refine ⟨?_, fun x hx => (e5 x hx).2, ?_, hi.2.2⟩
  · simp only [linksR, Bool.and_eq_true, decide_eq_true_eq, List.all_eq_true]
    exact ⟨by omega, e3, fun x hx => (e5 x hx).1⟩
  · unfold linksB
    rw [List.append_assoc, ← e6, e2]
    exact hi.1
theorem Rs.ep_canon {B : List UInt8} {s : Rs} (hs : s.ok B.length) (h : (s.ep B).1.k = 0) : epR ((s.ep B).2 : Int) = true ∧ B.drop s.p = varB (s.ep B).2 ++ B.drop (s.ep B).1.p ∧ s.k = 0 := by
  unfold Rs.ep at *
  by_cases h1 : (s.num B).1.k = 0
  · rw [if_pos h1] at h ⊢
    by_cases h2 : epR ((s.num B).2 : Int) = true
    · rw [if_pos h2]; exact ⟨h2, (Rs.num_canon hs h1).1, (Rs.num_more h1).2⟩
    · rw [if_neg h2] at h; exact absurd h (Rs.fail_k (by omega))
  · rw [if_neg h1] at h; exact absurd h h1
theorem Rs.po_canon {B : List UInt8} {s : Rs} (hs : s.ok B.length) (h : (s.po B).1.k = 0) : poR ((s.po B).2 : Int) = true ∧ B.drop s.p = varB (s.po B).2 ++ B.drop (s.po B).1.p ∧ s.k = 0 := by
  unfold Rs.po at *
  by_cases h1 : (s.num B).1.k = 0
  · rw [if_pos h1] at h ⊢
    by_cases h2 : poR ((s.num B).2 : Int) = true
    · rw [if_pos h2]; exact ⟨h2, (Rs.num_canon hs h1).1, (Rs.num_more h1).2⟩
    · rw [if_neg h2] at h; exact absurd h (Rs.fail_k (by omega))
  · rw [if_neg h1] at h; exact absurd h h1
end Go.Proofs.YtlbffbkbkajciaaGreat
namespace Go.Proofs.YtlbffbkbkajciaaGreat
open Go.RowKit Go.Bs
set_option linter.unusedVariables false
set_option linter.unusedSimpArgs false
/-- Blocks made since a world, in another. -/
def Fresh (w w' : World) (b : Nat) : Prop := w.heap.size ≤ b ∧ b < w'.heap.size

theorem u64s_bounds {S : Nat → Prop} {w : World} {a : Option Addr} {n c : Nat} {l : List Int} (h : rU64s.r S w [.slice a n c] l) : ∀ x ∈ l, 0 ≤ x ∧ x ≤ 18446744073709551615 := by
  intro x hx
  obtain ⟨i, hi, rfl⟩ := List.getElem_of_mem hx
  obtain ⟨b, o, _, _, _, h2⟩ := u64_at h hi
  exact h2

end Go.Proofs.YtlbffbkbkajciaaGreat
namespace Go.Proofs.YtlbffbkbkajciaaGreat
open Go.RowKit Go.Bs
set_option linter.unusedVariables false
set_option linter.unusedSimpArgs false
theorem infoLink : (Tryz.prog.info? 151).map (fun i => (i.zero, i.size, i.bytes)) = some (some (.agg #[.int .u64 0, .slice none 0 0]), 2, 32) := by kernel_rfl

theorem src_new1 {w : World} (W : World) (e : TypeId) (cs : List Value) (hB : w = W.alloc (.cells cs.toArray e)) {g : Nat} (hg : g = W.heap.size) {sz : Nat} (hs : cs.length = sz) : Src w (some ⟨g, 0, none⟩) 1 sz cs := by
  subst hB hg
  refine ⟨by omega, .inr ⟨_, 0, rfl, fun j u hu => ?_⟩⟩
  rw [Nat.zero_add, Blk.cell (Blk.new W e cs.toArray)]
  simpa using hu

end Go.Proofs.YtlbffbkbkajciaaGreat
namespace Go.Proofs.YtlbffbkbkajciaaGreat
open Go.RowKit Go.Bs Go.Maps
set_option linter.unusedVariables false
set_option linter.unusedSimpArgs false

def StepsOwn (below : Int) (l : List Int) (w : World) (e : Ending) (w' : World) : Prop :=
  ∃ v, e = .returned (.tuple #[v, .bool (fallsB below l)]) ∧ rU64s.r (fun q => w.heap.size ≤ q ∧ q < w'.heap.size) w' [v] (if fallsB below l then stepsL below l else []) ∧ Below w.heap.size w w'
set_option maxHeartbeats 1600000 in
theorem steps_own (below : Int) (l : List Int) (a : Option Addr) (n c : Nat) (w : World) (hb0 : 0 ≤ below ∧ below ≤ 18446744073709551615) (hl : rU64s.r (· < w.heap.size) w [.slice a n c] l) (hlen : l.length ≤ 1000000000000) :
    Calls Tryz.prog 215 #[.int .u64 below, .slice a n c] w (StepsOwn below l w) := by
  obtain ⟨rfl, hm, _, _⟩ := sl_len hl
  obtain ⟨i0, hi, hz0, hz1, hz2⟩ := info_parts infoU
  have HL := hid hl; clear hl
  go_enter Tryz.func215, Tryz.ntmps215
  go_wp2
  go_loopw [0, 6, 11] (fun b v i wr => ∃ k : Nat, k ≤ l.length ∧ i = .int .i64 k ∧ b = .int .u64 (ahead below l k) ∧ 0 ≤ ahead below l k ∧ ahead below l k ≤ 18446744073709551615 ∧ Hid (fallsB below l = fallsB (ahead below l k) (l.drop k)) ∧
      (∃ xs : List Int, Hid (xs.length = k ∧ (∀ x ∈ xs, 0 ≤ x ∧ x ≤ 18446744073709551615) ∧ stepsL below l = xs ++ stepsL (ahead below l k) (l.drop k)) ∧ wr.ownsRow w.heap.size 22 1 v k (xs.map (Value.int .u64))) ∧ Below w.heap.size w wr) (fun _ _ i _ => l.length - (intOf i).toNat)
  case atStart => exact ⟨0, Nat.zero_le _, rfl, rfl, hb0.1, hb0.2, hid rfl, ⟨[], hid ⟨rfl, by simp, rfl⟩, ⟨rfl, .inl ⟨rfl, rfl⟩⟩⟩, Below.refl _ _⟩
  case round =>
    obtain ⟨k, hk, rfl, rfl, ha0, ha1, hf, ⟨xs, hxs, hown⟩, hb⟩ := hrel
    by_cases hlt : k < l.length
    · obtain ⟨b, o, hA, hbb, hc, hx0, hx1⟩ := u64_at HL.out hlt
      subst hA
      have q := (hb.cell (p := ⟨b, o + k, none⟩) hbb).trans hc
      clear hc
      have hd := hid (List.drop_eq_getElem_cons hlt)
      have hsu := hid (ahead_succ below l k hlt)
      generalize hlk : l[k] = x at *
      clear hlk
      generalize ahead below l k = p at *
      by_cases hge : p ≤ x
      · have hff : Hid (fallsB below l = false) := by
          rw [hf.out, hd.out]; exact hid (by simp [fallsB]; omega)
        go_wp2
        go_ret2
        exact ⟨.slice none 0 0, by rw [hff.out]; rfl, by rw [hff.out]; exact rSl_mk rfl (Nat.le_refl _) (Nat.zero_le _) (.inl rfl), hb⟩
      · have hbs := hb.size
        have w1 : 0 ≤ p - x := by omega
        have w2 : 0 ≤ p - x - 1 := by omega
        go_wp2_with (at_builtin; refine wpList_append_lies _ rfl _ _ _ rfl w.heap.size 22 i0 (.int .u64 0) 1 8 Tryz.underlying23 hi hz0 hz1 hz2 rfl (by decide) _ k _ rfl (hown.alloc _) ⟨wr.heap.size, 0, none⟩ 1 1 [.int .u64 (p - x - 1)] rfl rfl (World.news_of_block (Blk.new _ _ _)) (by simp [Value.oneCell']) (by decide) (by simp only [maxLen]; omega) (by omega) (by simp; omega) _ rfl ?_; intro g1 cap1 w1' hown1 hgrow1 hat1 hlt1)
        go_roundw
        case rel =>
          refine ⟨k + 1, by omega, by go_num, by rw [hsu.out], by rw [hsu.out]; exact hx0, by rw [hsu.out]; exact hx1, ?_, ⟨xs ++ [p - x - 1], ?_, ?_⟩, ?_⟩
          · rw [hf.out, hd.out, hsu.out]
            exact hid (by simp only [fallsB]; rw [decide_eq_true (by omega)]; rfl)
          · refine hid ⟨by simp [hxs.out.1], ?_, ?_⟩
            · intro y hy
              rw [List.mem_append, List.mem_singleton] at hy
              rcases hy with hy | rfl
              · exact hxs.out.2.1 y hy
              · omega
            · rw [hsu.out, hxs.out.2.2, hd.out]
              simp [stepsL]
          · rw [List.map_append]; exact hown1
          · refine Below.grown ?_ hgrow1 (by simp; omega) (fun g e => (hown.lt g e).1)
            exact hb.alloc hbs _
        case measure => simp [intOf]; omega
    · obtain rfl : k = l.length := by omega
      have hff : Hid (fallsB below l = true) := by
        rw [hf.out, List.drop_length]; exact hid rfl
      have hxl := hxs.out.1
      have hst : Hid (stepsL below l = xs) := hid (by rw [hxs.out.2.2, List.drop_length]; simp [stepsL])
      have hv : rU64s.r (fun q => w.heap.size ≤ q ∧ q < wr.heap.size) wr [u6] xs := own_ints64 hxs.out.2.1 hxl.symm hown
      have HV := hid hv; clear hv hxl
      go_wp2
      go_ret2
      exact ⟨u6, by rw [hff.out]; rfl, by rw [hff.out, if_pos rfl, hst.out]; exact HV.out, hb⟩


theorem stepsL_bounds : ∀ (l : List Int) (p : Int), fallsB p l = true → p ≤ 18446744073709551615 → (∀ x ∈ l, 0 ≤ x) → ∀ y ∈ stepsL p l, 0 ≤ y ∧ y ≤ 18446744073709551615
  | [], p, _, _, _, y, hy => by simp [stepsL] at hy
  | x :: l, p, hf, hp, hx, y, hy => by
    simp only [fallsB, Bool.and_eq_true, decide_eq_true_eq] at hf
    have h0 := hx x (by simp)
    simp only [stepsL, List.mem_cons] at hy
    rcases hy with rfl | hy
    · omega
    · exact stepsL_bounds l x hf.2 (by omega) (fun z hz => hx z (by simp [hz])) y hy

set_option maxRecDepth 100000 in
set_option maxHeartbeats 3200000 in
theorem delta_put (w : World) {g base most : Nat} {J : List UInt8} {a : Option Addr} {c : Nat} (h : PenAt w g base most J a c) (pos : Int) (hpos : 0 ≤ pos ∧ pos ≤ 18446744073709551615) (l : List Int) (al : Option Addr) (nl cl : Nat)
    (hl : rU64s.r (· < w.heap.size) w [.slice al nl cl] l) (hf : fallsB pos l = true) (hlen : l.length ≤ 1000000) (hfit : J.length + (deltaB pos l).length ≤ most) (hln2 : J.length + (deltaB pos l).length ≤ 100000000000000) :
    Calls Tryz.prog 152 #[.pointer (some ⟨g, 0, none⟩), .int .u64 pos, .slice al nl cl] w fun r w' => r = .returned (.tuple #[]) ∧ PenStep w g base most (J ++ deltaB pos l) a w' := by
  obtain ⟨rfl, hm, _, _⟩ := sl_len hl
  have HS := hid (steps_own pos l al _ cl w hpos hl (by omega))
  have hlt := h.len
  have hsl := stepsL_len pos l
  have hnb := numsB_len (stepsL pos l)
  have hxs := u64s_bounds hl
  have hsb := hid (stepsL_bounds l pos hf hpos.2 (fun x hx => (hxs x hx).1))
  have hvl := varB_len l.length
  have hdl : (deltaB pos l).length = (varB l.length).length + (numsB (stepsL pos l)).length := by unfold deltaB; rw [List.length_append]
  rw [hdl] at hfit hln2
  unfold StepsOwn at HS
  rw [hf] at HS
  simp only [if_true] at HS
  unfold deltaB
  have HP := hid h
  have HMO := hid (fun k => numsB_take_le (stepsL pos l) k)
  have HNS := hid (fun (k : Nat) (h : k < (stepsL pos l).length) => numsB_step (stepsL pos l) k h)
  generalize stepsL pos l = T at *
  generalize hL : l.length = L at *
  have hLL := hid hL
  clear h hl hf hxs hdl hL
  go_enter Tryz.func152, Tryz.ntmps152
  go_wp2_with fail
  refine HS.out.mono ?_
  rintro r w1 ⟨v, rfl, hr, hb1⟩
  obtain ⟨a1, c1, hv, hr2, _⟩ := sl_form hr
  simp only [List.cons.injEq, and_true] at hv
  subst hv
  rw [hsl] at hr2 ⊢
  have HR := hid (pen_new_data HP.out hr2)
  have HP1 := hid (HP.out.later hb1)
  have HV := hid (varint_put w1 HP1.out L (by omega) (by omega) (by omega))
  clear hr hr2
  go_wp2_with fail
  refine HV.out.mono ?_
  rintro r w2 ⟨rfl, hst⟩
  have HST := hid hst
  clear hst
  have hz1 := hb1.size
  go_wp2_with fail
  go_loopw [27] (fun i wr => ∃ k : Nat, k ≤ L ∧ i = .int .i64 k ∧ Hid (PenStep w1 g base most (J ++ varB L ++ numsB (T.take k)) a wr)) (fun i _ => L - (intOf i).toNat)
  case atStart => exact ⟨0, Nat.zero_le _, rfl, hid (by simpa [numsB] using HST.out)⟩
  case round =>
    obtain ⟨k, hk, rfl, hp⟩ := hrel
    obtain ⟨a3, c3, hp3, ht3, ha3⟩ := hp.out
    rcases Nat.lt_or_ge k L with hlt | hge
    · have hd3 := pen_data ht3 ha3 HR.out
      have hkT : k < T.length := by omega
      obtain ⟨b, o, hA, hbb, hc, hx0, hx1⟩ := u64_at hd3 hkT
      subst hA
      have hst := HNS.out k hkT
      have hfk := HMO.out (k + 1)
      rw [hst, List.length_append] at hfk
      have HSK := hid hst
      have hvk := (varB_len T[k].toNat).1
      have hJ3 := hp3.len
      simp only [List.length_append] at hJ3
      have hV := varint_put wr hp3 T[k].toNat (by omega) (by simp only [List.length_append]; omega) (by simp only [List.length_append]; omega)
      rw [toNat_cast hx0, List.append_assoc (J ++ varB L), ← hst] at hV
      have HV3 := hid hV
      have HT3 := hid (And.intro ht3 ha3)
      have i1 : (k : Int) < (L : Int) := by omega
      have d1 : decide ((k : Int) < (L : Int)) = true := decide_eq_true i1
      clear hV hd3 hst hp3 ht3 ha3 hp hfk hvk hJ3
      generalize T[k] = y at *
      go_wp2_with fail
      refine HV3.out.mono ?_
      rintro r w5 ⟨rfl, hst5⟩
      have HN := hid (PenStep.trans (J := J) HT3.out.1 HT3.out.2 hst5)
      clear hst5
      go_wp2
      go_roundw
      case rel => exact ⟨k + 1, by omega, by go_num, HN⟩
      case measure => simp [intOf]; omega
    · obtain rfl : k = L := by omega
      have d1 : decide ((k : Int) < (k : Int)) = false := decide_eq_false (by omega)
      rw [List.take_of_length_le (by omega)] at hp
      have HN := hid (PenStep.later hb1 hp.out)
      rw [List.append_assoc] at HN
      clear hp hp3 ht3 ha3
      go_wp2
      first | go_end0 | refine bodyPost_ret (results_none rfl _ _ _) rfl ?_
      exact ⟨rfl, HN.out⟩

theorem rises_at : ∀ (l : List Int) (k : Nat) (h : k + 1 < l.length), risesB l = true → l[k] < l[k + 1]
  | [], k, h, _ => by simp at h
  | [x], k, h, _ => by simp at h
  | x :: y :: l, k, h, hr => by
    simp only [risesB, Bool.and_eq_true, decide_eq_true_eq] at hr
    cases k with
    | zero => exact hr.1
    | succ k => exact rises_at (y :: l) k (by simpa using h) hr.2
theorem upsL_get : ∀ (l : List Link) (p : Option Int) (k : Nat) (h : k < l.length), (upsL p l)[k]'(by rw [upsL_len]; exact h) = if hk : k = 0 then (match p with | none => l[k].stream | some q => l[k].stream - q - 1) else l[k].stream - (l[k - 1]'(by omega)).stream - 1
  | [], p, k, h => by simp at h
  | x :: l, p, 0, h => by cases p <;> simp [upsL]
  | x :: l, p, k + 1, h => by
    simp only [upsL, List.getElem_cons_succ]
    rw [upsL_get l (some x.stream) k (by simpa using h)]
    cases k with
    | zero => simp
    | succ k => simp
/-- The parts of links, one behind the other. -/
def linkZ (pos : Int) (p : Option Int) (l : List Link) : List (List UInt8) := List.zipWith (fun (y : Int) (x : Link) => varB y.toNat ++ deltaB pos x.backs) (upsL p l) l
theorem linksF_zip (pos : Int) : ∀ (l : List Link) (p : Option Int), lnkF pos p l = (linkZ pos p l).flatten
  | [], p => rfl
  | x :: l, p => by
    simp only [lnkF, linkZ, upsL, List.zipWith_cons_cons, List.flatten_cons]
    rw [linksF_zip pos l (some x.stream)]
    rfl
theorem linkZ_len (pos : Int) (p : Option Int) (l : List Link) : (linkZ pos p l).length = l.length := by simp [linkZ, upsL_len]
theorem flat_step {α : Type} (Z : List (List α)) (k : Nat) (h : k < Z.length) : (Z.take (k + 1)).flatten = (Z.take k).flatten ++ Z[k] := by
  rw [List.take_succ_eq_append_getElem h, List.flatten_append]; simp
theorem flat_take_le {α : Type} (Z : List (List α)) (k : Nat) : (Z.take k).flatten.length ≤ Z.flatten.length := by
  have : Z.flatten = (Z.take k).flatten ++ (Z.drop k).flatten := by rw [← List.flatten_append, List.take_append_drop]
  rw [this, List.length_append]; omega
theorem linkZ_get (pos : Int) (l : List Link) (k : Nat) (h : k < l.length) : (linkZ pos none l)[k]'(by rw [linkZ_len]; exact h) = varB ((upsL none l)[k]'(by rw [upsL_len]; exact h)).toNat ++ deltaB pos l[k].backs := by
  simp [linkZ]

set_option maxRecDepth 100000 in
set_option maxHeartbeats 3200000 in
theorem link_steps (w : World) (l : List Link) (al : Option Addr) (nl cl : Nat) (hl : rLinks.r (· < w.heap.size) w [.slice al nl cl] l) (hri : risesB (l.map Link.stream) = true) (hlen : l.length ≤ 1000000) :
    Calls Tryz.prog 151 #[.slice al nl cl] w fun r w' => ∃ v, r = .returned v ∧ rU64s.r (fun q => w.heap.size ≤ q ∧ q < w'.heap.size) w' [v] (upsL none l) ∧ Below w.heap.size w w' := by
  obtain ⟨rfl, hm, _, _⟩ := sl_len hl
  obtain ⟨i0, hi, hz0, hz1, hz2⟩ := info_parts infoU
  have HL := hid hl
  have hul := upsL_len none l
  have HU := hid (fun (k : Nat) (h : k < l.length) => upsL_get l none k h)
  have HRI := hid (fun (k : Nat) (h : k + 1 < l.length) => (by have := rises_at (l.map Link.stream) k (by simpa using h) hri; simpa using this : l[k].stream < l[k + 1].stream))
  clear hl hri
  go_enter Tryz.func151, Tryz.ntmps151
  go_wp2_with fail
  go_loopw [3, 9] (fun v i wr => ∃ k : Nat, k ≤ l.length ∧ i = .int .i64 k ∧ wr.ownsRow w.heap.size 22 1 v k (u64Cells ((upsL none l).take k)) ∧ Hid (∀ x ∈ (upsL none l).take k, 0 ≤ x ∧ x ≤ 18446744073709551615) ∧ Below w.heap.size w wr) (fun _ i _ => l.length - (intOf i).toNat)
  case atStart => exact ⟨0, Nat.zero_le _, rfl, ⟨rfl, .inl ⟨rfl, rfl⟩⟩, hid (by simp), Below.refl _ _⟩
  case round =>
    obtain ⟨k, hk, rfl, hown, hbd, hb⟩ := hrel
    obtain ⟨av, cv, rfl⟩ := own_form hown
    rcases Nat.lt_or_ge k l.length with hlt | hge
    · obtain ⟨b, o, hA, hbb, a2, c2, x0, x1, hx, xl⟩ := link_at (lift HL.out hb) hlt
      subst hA
      have hu := HU.out k hlt
      have i1 : (k : Int) < (l.length : Int) := by omega
      have d1 : decide ((k : Int) < (l.length : Int)) = true := decide_eq_true i1
      have hbl : b < wr.heap.size := World.block_lt_of_cell? _ _ x0
      have htk : u64Cells ((upsL none l).take (k + 1)) = u64Cells ((upsL none l).take k) ++ [.int .u64 ((upsL none l)[k]'(by omega))] := by
        rw [List.take_succ_eq_append_getElem (by omega)]; unfold u64Cells; rw [List.map_append]; rfl
      have hnb : ∀ y : Int, (upsL none l)[k]'(by omega) = y → (0 ≤ y ∧ y ≤ 18446744073709551615) → ∀ x ∈ (upsL none l).take (k + 1), 0 ≤ x ∧ x ≤ 18446744073709551615 := fun y e hy x hx => by
        rw [List.take_succ_eq_append_getElem (by omega), List.mem_append, List.mem_singleton] at hx
        rcases hx with hx | rfl
        · exact hbd.out x hx
        · rw [e]; exact hy
      have HTK := hid htk
      have HNB := hid hnb
      have HO := hid hown
      have hz := hb.size
      rcases Nat.eq_zero_or_pos k with rfl | hk0
      · rw [dif_pos rfl] at hu
        (try dsimp only at hu)
        rw [hu] at HTK
        have HBD := hid (HNB.out _ hu hx)
        simp only [Nat.zero_mul, Nat.add_zero, Nat.zero_add] at x0 x1
        have d2 : decide ((0 : Int) < ((0 : Nat) : Int)) = false := by decide
        generalize l[0] = y at *
        clear hu htk hnb hbd hown xl hx
        go_wp2_with (at_builtin; go_loud (refine wpList_append_src rfl _ _ _ rfl w.heap.size 22 i0 (.int .u64 0) 1 8 Tryz.underlying23 hi hz0 hz1 hz2 rfl (by decide) (.slice av 0 cv) 0 _ rfl (own_below HO.out (by (repeat (first | with_reducible exact Below.refl _ _ | with_reducible assumption | (with_reducible refine below_alloc ?_ _) | (with_reducible refine Below.setCell ?_ (by first | omega | (simp; done) | (simp; omega)) _) | (with_reducible refine Below.drew ?_) | (with_reducible refine below_drewN ?_ _) | (refine below_then (by with_reducible assumption) ?_))))) (some ⟨wr.heap.size + 1, 0, none⟩) 1 1 [.int .u64 y.stream] rfl (src_new1 _ 22 _ rfl (by simp) rfl) (by simp [Value.oneCell']) (by simp only [maxLen]; omega) (by omega) (by simp; omega) ?_; intro v' w3 hown3 hgrow3 hat3; obtain ⟨a3, c3, rfl⟩ := own_form hown3; have HO3 := hid hown3; have hb3 : Below w.heap.size wr w3 := (Below.grown ((by (repeat (first | with_reducible exact Below.refl _ _ | with_reducible assumption | (with_reducible refine below_alloc ?_ _) | (with_reducible refine Below.setCell ?_ (by first | omega | (simp; done) | (simp; omega)) _) | (with_reducible refine Below.drew ?_) | (with_reducible refine below_drewN ?_ _) | (refine below_then (by with_reducible assumption) ?_))) : Below wr.heap.size wr _).mono hz) hgrow3 (by simp; omega) (fun g e => (HO.out.lt g e).1)); clear hown3 hgrow3 hat3))
        have ho3 := HO3.out
        rw [← HTK.out] at ho3
        have HO4 := hid ho3
        clear ho3 x0 x1
        go_roundw
        case rel => exact ⟨1, by omega, by go_num, by simpa using HO4.out, HBD, hb.trans hb3⟩
        case measure => simp [intOf]; omega
      · obtain ⟨m, rfl⟩ : ∃ m, k = m + 1 := ⟨k - 1, by omega⟩
        obtain ⟨b', o', hA', hbb', a3, c3, y0, y1, hy, yl⟩ := link_at (lift HL.out hb) (show m < l.length by omega)
        simp only [Option.some.injEq, Addr.mk.injEq] at hA'
        obtain ⟨rfl, rfl, _⟩ := hA'
        have hri := HRI.out m hlt
        rw [dif_neg (by omega)] at hu
        simp only [Nat.add_sub_cancel] at hu
        rw [hu] at HTK
        have HBD := hid (HNB.out _ hu (by omega))
        have i1' : (m : Int) + 1 < (l.length : Int) := by omega
        have i2 : (m : Int) < (l.length : Int) := by omega
        have d2 : decide ((m : Int) + 1 < (l.length : Int)) = true := decide_eq_true i1'
        have d3 : decide (m + 1 < l.length) = true := decide_eq_true hlt
        generalize l[m + 1] = y at *
        generalize l[m]'(by omega) = z at *
        have w1 : 0 ≤ y.stream - (z.stream + 1) := by omega
        have w2 : z.stream + 1 ≤ 18446744073709551615 := by omega
        rw [show y.stream - z.stream - 1 = y.stream - (z.stream + 1) by omega] at HTK
        clear hu htk hnb hbd hown xl yl
        go_wp2_with (at_builtin; go_loud (refine wpList_append_src rfl _ _ _ rfl w.heap.size 22 i0 (.int .u64 0) 1 8 Tryz.underlying23 hi hz0 hz1 hz2 rfl (by decide) (.slice av (m + 1) cv) (m + 1) _ rfl (own_below HO.out (by (repeat (first | with_reducible exact Below.refl _ _ | with_reducible assumption | (with_reducible refine below_alloc ?_ _) | (with_reducible refine Below.setCell ?_ (by first | omega | (simp; done) | (simp; omega)) _) | (with_reducible refine Below.drew ?_) | (with_reducible refine below_drewN ?_ _) | (refine below_then (by with_reducible assumption) ?_))))) (some ⟨wr.heap.size + 1, 0, none⟩) 1 1 [.int .u64 (y.stream - (z.stream + 1))] rfl (src_new1 _ 22 _ rfl (by simp) rfl) (by simp [Value.oneCell']) (by simp only [maxLen]; omega) (by omega) (by simp; omega) ?_; intro v' w3 hown3 hgrow3 hat3; obtain ⟨a3, c3, rfl⟩ := own_form hown3; have HO3 := hid hown3; have hb3 : Below w.heap.size wr w3 := (Below.grown ((by (repeat (first | with_reducible exact Below.refl _ _ | with_reducible assumption | (with_reducible refine below_alloc ?_ _) | (with_reducible refine Below.setCell ?_ (by first | omega | (simp; done) | (simp; omega)) _) | (with_reducible refine Below.drew ?_) | (with_reducible refine below_drewN ?_ _) | (refine below_then (by with_reducible assumption) ?_))) : Below wr.heap.size wr _).mono hz) hgrow3 (by simp; omega) (fun g e => (HO.out.lt g e).1)); clear hown3 hgrow3 hat3))
        have ho3 := HO3.out
        rw [← HTK.out] at ho3
        have HO4 := hid ho3
        clear ho3 x0 x1 y0 y1
        go_roundw
        case rel => exact ⟨m + 1 + 1, by omega, by go_num, HO4.out, HBD, hb.trans hb3⟩
        case measure => simp [intOf]; omega
    · obtain rfl : k = l.length := by omega
      have d1 : decide ((l.length : Int) < (l.length : Int)) = false := decide_eq_false (by omega)
      have hv := hown
      rw [List.take_of_length_le (by omega)] at hv hbd
      have HV := hid (own_ints64 hbd.out (by omega) hv)
      clear hv hown
      go_wp2
      go_ret
      exact ⟨_, rfl, HV.out, hb⟩
end Go.Proofs.YtlbffbkbkajciaaGreat
namespace Go.Proofs.YtlbffbkbkajciaaGreat
open Go.RowKit Go.Bs Go.Maps
set_option linter.unusedVariables false
set_option linter.unusedSimpArgs false

theorem upsL_bounds (l : List Link) (hri : risesB (l.map Link.stream) = true) (hx : ∀ x ∈ l, 0 ≤ x.stream ∧ x.stream ≤ 18446744073709551615) : ∀ k, (h : k < l.length) → 0 ≤ (upsL none l)[k]'(by rw [upsL_len]; exact h) ∧ (upsL none l)[k]'(by rw [upsL_len]; exact h) ≤ 18446744073709551615 := by
  intro k h
  rw [upsL_get l none k h]
  have hk := hx l[k] (List.getElem_mem h)
  split
  · exact hk
  · rename_i h0
    have h1 := hx (l[k - 1]'(by omega)) (List.getElem_mem _)
    have h2 := rises_at (l.map Link.stream) (k - 1) (by simp; omega) hri
    simp only [List.getElem_map, Nat.sub_add_cancel (show 1 ≤ k by omega)] at h2
    omega
theorem links_bounds {S : Nat → Prop} {w : World} {a : Option Addr} {n c : Nat} {l : List Link} (h : rLinks.r S w [.slice a n c] l) : ∀ x ∈ l, linkN x := by
  intro x hx
  obtain ⟨i, hi, rfl⟩ := List.getElem_of_mem hx
  obtain ⟨b, o, _, _, a2, c2, _, _, hs, xl⟩ := link_at h hi
  exact ⟨hs, fun y hy => (u64s_bounds xl y hy).1⟩
theorem linkZ_len_le (pos : Int) (l : List Link) (hR : linksR pos l = true) : (lnkF pos none l).length ≤ 51 * l.length := by
  have key : ∀ (l : List Link) (p : Option Int), (∀ x ∈ l, linkR pos x = true) → (lnkF pos p l).length ≤ 51 * l.length := by
    intro l
    induction l with
    | nil => intro p _; simp [lnkF]
    | cons x l ih =>
      intro p hx
      have h1 := hx x (by simp)
      simp only [linkR, Bool.and_eq_true, decide_eq_true_eq] at h1
      have h2 := ih (some x.stream) (fun y hy => hx y (by simp [hy]))
      have h3 := deltaB_len pos x.backs (by omega)
      cases p with
      | none =>
        have h4 := (varB_len x.stream.toNat).1
        simp only [lnkF, List.length_append, List.length_cons]
        omega
      | some q =>
        have h4 := (varB_len (x.stream - q - 1).toNat).1
        simp only [lnkF, List.length_append, List.length_cons]
        omega
  simp only [linksR, Bool.and_eq_true, decide_eq_true_eq, List.all_eq_true] at hR
  exact key l none hR.2.2

set_option maxRecDepth 100000 in
set_option maxHeartbeats 3200000 in
theorem link_put (w : World) {g base most : Nat} {J : List UInt8} {a : Option Addr} {c : Nat} (h : PenAt w g base most J a c) (pos : Int) (hpos : 0 ≤ pos ∧ pos ≤ 18446744073709551615) (l : List Link) (al : Option Addr) (nl cl : Nat)
    (hl : rLinks.r (fun q => q < w.heap.size ∧ ¬ PenF g a q) w [.slice al nl cl] l) (hR : linksR pos l = true) (hbk : ∀ x ∈ l, x.backs.length ≤ 1000000) (hfit : J.length + (linksB pos l).length ≤ most) (hln2 : J.length + (linksB pos l).length ≤ 100000000000000) :
    Calls Tryz.prog 72 #[.pointer (some ⟨g, 0, none⟩), .int .u64 pos, .slice al nl cl] w fun r w' => r = .returned (.tuple #[]) ∧ PenStep w g base most (J ++ linksB pos l) a w' := by
  obtain ⟨rfl, hm, _, _⟩ := sl_len hl
  have hN := links_bounds hl
  have HRT := hid (link_right pos l al _ cl w hpos (pen_low hl) (fun x hx => by have := hbk x hx; omega))
  have hR' := hR
  simp only [linksR, Bool.and_eq_true, decide_eq_true_eq, List.all_eq_true] at hR'
  rw [hR] at HRT
  have hlk : ∀ x ∈ l, fallsB pos x.backs = true := fun x hx => by have := hR'.2.2 x hx; simp only [linkR, Bool.and_eq_true] at this; exact this.2
  have HLK := hid hlk
  have HBK := hid hbk
  have hup := hid (upsL_bounds l hR'.2.1 (fun x hx => (hN x hx).1))
  have hul := upsL_len none l
  have hzl := linkZ_len pos none l
  have HSP := hid (fun (W : World) (hW : rLinks.r (· < W.heap.size) W [.slice al l.length cl] l) => link_steps W l al _ cl hW hR'.2.1 (by omega))
  have hdl : (linksB pos l).length = (varB l.length).length + ((linkZ pos none l).flatten).length := by unfold linksB; rw [List.length_append, linksF_zip]
  rw [hdl] at hfit hln2
  unfold linksB
  rw [linksF_zip]
  have HP := hid h
  have HL := hid hl
  have hvl := varB_len l.length
  have HV := hid (fun (W : World) (hW : Below w.heap.size w W) => varint_put W (h.later hW) l.length (by omega) (by omega) (by omega))
  have HMO := hid (fun k => flat_take_le (linkZ pos none l) k)
  have HNS := hid (fun (k : Nat) (h : k < l.length) => (by have := flat_step (linkZ pos none l) k (by omega); rw [linkZ_get pos l k h] at this; exact this : ((linkZ pos none l).take (k + 1)).flatten = ((linkZ pos none l).take k).flatten ++ (varB ((upsL none l)[k]'(by rw [upsL_len]; exact h)).toNat ++ deltaB pos l[k].backs)))
  generalize linkZ pos none l = Z at *
  have hll : l.length ≤ 16 := hR'.1
  clear h hl hR hR' hlk hbk hN hdl
  go_enter Tryz.func72, Tryz.ntmps72
  go_wp2_with fail
  refine HRT.out.mono ?_
  rintro r w1 ⟨rfl, hb1⟩
  go_wp2_with fail
  refine (HV.out _ hb1).mono ?_
  rintro r w2 ⟨rfl, a2, c2, hp2, ht2, ha2⟩
  have hd2 := pen_data ht2 ha2 (pen_later hb1 HL.out)
  have HP2 := hid hp2
  have HD2 := hid hd2
  have HT2 := hid (And.intro ht2 ha2)
  clear hp2 hd2 ht2 ha2
  go_wp2_with fail
  refine (HSP.out w2 (pen_low HD2.out)).mono ?_
  rintro r w3 ⟨v3, rfl, hr3, hb3⟩
  obtain ⟨a3, c3, hv3, hr3', _⟩ := sl_form hr3
  simp only [List.cons.injEq, and_true] at hv3
  subst hv3
  have HR3 := hid (pen_new_data HP2.out hr3')
  have HD3 := hid (pen_later hb3 HD2.out)
  have HP3 := hid (HP2.out.later hb3)
  rw [hul] at HR3 ⊢
  clear hr3 hr3'
  go_wp2_with fail
  go_loopw [22] (fun i wr => ∃ k : Nat, k ≤ l.length ∧ i = .int .i64 k ∧ Hid (PenStep w3 g base most (J ++ varB l.length ++ (Z.take k).flatten) a2 wr)) (fun i _ => l.length - (intOf i).toNat)
  case atStart => exact ⟨0, Nat.zero_le _, rfl, hid (by simpa using PenStep.refl HP3.out)⟩
  case round =>
    obtain ⟨k, hk, rfl, hp⟩ := hrel
    obtain ⟨a4, c4, hp4, ht4, ha4⟩ := hp.out
    rcases Nat.lt_or_ge k l.length with hlt | hge
    · have hr4 := pen_data ht4 ha4 HR3.out
      have hd4 := pen_data ht4 ha4 HD3.out
      obtain ⟨b, o, hA, hbb, hc, hx0, hx1⟩ := u64_at hr4 (show k < (upsL none l).length by omega)
      obtain ⟨b', o', hA', hbb', a5, c5, y0, y1, hs, yl⟩ := link_at hd4 hlt
      subst hA hA'
      have hst := HNS.out k hlt
      have hfk := HMO.out (k + 1)
      rw [hst, List.length_append, List.length_append] at hfk
      have hvk := (varB_len ((upsL none l)[k]'(by omega)).toNat).1
      have hJ4 := hp4.len
      simp only [List.length_append] at hJ4
      have hV := varint_put wr hp4 ((upsL none l)[k]'(by omega)).toNat (by omega) (by simp only [List.length_append]; omega) (by simp only [List.length_append]; omega)
      rw [toNat_cast hx0] at hV
      have HV4 := hid hV
      have HT4 := hid (And.intro ht4 ha4)
      have HYL := hid yl
      have HST := hid hst
      have HFK := hid hfk
      have hfl := HLK.out l[k] (List.getElem_mem hlt)
      have hbl := HBK.out l[k] (List.getElem_mem hlt)
      have HFL := hid hfl
      have HDY := hid (And.intro hbb' y1)
      have i1 : (k : Int) < (l.length : Int) := by omega
      have d1 : decide ((k : Int) < (l.length : Int)) = true := decide_eq_true i1
      clear hV hr4 hd4 hst hp4 ht4 ha4 hp hfk hvk hJ4 hfl y0 yl y1 hbb'
      generalize (upsL none l)[k]'(by omega) = u at *
      generalize l[k] = y at *
      go_wp2_with fail
      refine HV4.out.mono ?_
      rintro r w5 ⟨rfl, a6, c6, hp5, ht5, ha5⟩
      have Y1 : w5.cell? ⟨b', o' + k * 2 + 1, none⟩ = some (.slice a5 y.backs.length c5) := (ht5.cell (p := ⟨b', o' + k * 2 + 1, none⟩) HDY.out.1.1 HDY.out.1.2).trans HDY.out.2
      have hy5 := pen_low (pen_data ht5 ha5 HYL.out)
      have HD5 := hid (delta_put w5 hp5 pos hpos y.backs a5 _ c5 hy5 HFL.out hbl (by have := HFK.out; simp only [List.length_append]; omega) (by have := HFK.out; simp only [List.length_append]; omega))
      have HT5 := hid (And.intro ht5 ha5)
      clear hy5 hp5 ht5 ha5 hc
      go_wp2_with fail
      refine HD5.out.mono ?_
      rintro r w6 ⟨rfl, hst6⟩
      have hn := PenStep.trans (J := J) HT4.out.1 HT4.out.2 (PenStep.trans (J := J) HT5.out.1 HT5.out.2 hst6)
      rw [List.append_assoc, List.append_assoc (J ++ varB l.length), ← HST.out] at hn
      have HN := hid hn
      clear hst6 hn Y1
      go_wp2
      go_roundw
      case rel => exact ⟨k + 1, by omega, by go_num, HN⟩
      case measure => simp [intOf]; omega
    · obtain rfl : k = l.length := by omega
      have d1 : decide ((l.length : Int) < (l.length : Int)) = false := decide_eq_false (by omega)
      rw [List.take_of_length_le (by omega)] at hp
      have hn := PenStep.later hb1 (PenStep.trans (J := J) HT2.out.1 HT2.out.2 (PenStep.later hb3 hp.out))
      rw [List.append_assoc] at hn
      have HN := hid hn
      clear hp hp4 ht4 ha4 hn
      go_wp2
      first | go_end0 | refine bodyPost_ret (results_none rfl _ _ _) rfl ?_
      exact ⟨rfl, HN.out⟩
end Go.Proofs.YtlbffbkbkajciaaGreat
namespace Go.Proofs.YtlbffbkbkajciaaGreat
open Go.RowKit Go.Bs Go.Maps
set_option linter.unusedVariables false
set_option linter.unusedSimpArgs false

theorem epoch_put0 (w : World) {g base most : Nat} {J : List UInt8} {a : Option Addr} {c : Nat} (h : PenAt w g base most J a c) (x : Nat) (hx : x < 18446744073709551616) (hfit : J.length + (varB x).length ≤ most) (hlen : J.length + (varB x).length ≤ 100000000000000) :
    Calls Tryz.prog 146 #[.pointer (some ⟨g, 0, none⟩), .int .u64 x, .bool true] w fun r w' => r = .returned (.tuple #[]) ∧ PenStep w g base most (J ++ varB x) a w' := by
  have HV := hid (varint_put w h x hx hfit hlen)
  clear h
  go_enter Tryz.func146, Tryz.ntmps146
  go_wp2_with fail
  refine HV.out.mono ?_
  rintro r w1 ⟨rfl, hst⟩
  have HST := hid hst
  clear hst
  go_wp2
  first | go_end0 | refine bodyPost_ret (results_none rfl _ _ _) rfl ?_
  exact ⟨rfl, HST.out⟩
theorem epoch_put (w : World) {g base most : Nat} {J : List UInt8} {a : Option Addr} {c : Nat} (h : PenAt w g base most J a c) (x : Nat) (hx : epR (x : Int) = true) (hfit : J.length + (varB x).length ≤ most) (hlen : J.length + (varB x).length ≤ 100000000000000) :
    Calls Tryz.prog 111 #[.pointer (some ⟨g, 0, none⟩), .int .u64 x] w fun r w' => r = .returned (.tuple #[]) ∧ PenStep w g base most (J ++ varB x) a w' := by
  have hx' := hx
  simp only [epR, decide_eq_true_eq] at hx'
  have HR := hid (epoch_right (x : Int) w)
  rw [hx] at HR
  have HV := hid (epoch_put0 w h x (by omega) hfit hlen)
  clear h hx hx'
  go_enter Tryz.func111, Tryz.ntmps111
  go_wp2_with fail
  refine HR.out.mono ?_
  rintro r w1 ⟨rfl, rfl⟩
  go_wp2_with fail
  refine HV.out.mono ?_
  rintro r w1 ⟨rfl, hst⟩
  have HST := hid hst
  clear hst
  go_wp2
  first | go_end0 | refine bodyPost_ret (results_none rfl _ _ _) rfl ?_
  exact ⟨rfl, HST.out⟩
theorem epoch_putpos (w : World) {g base most : Nat} {J : List UInt8} {a : Option Addr} {c : Nat} (h : PenAt w g base most J a c) (x : Nat) (hx : poR (x : Int) = true) (hfit : J.length + (varB x).length ≤ most) (hlen : J.length + (varB x).length ≤ 100000000000000) :
    Calls Tryz.prog 64 #[.pointer (some ⟨g, 0, none⟩), .int .u64 x] w fun r w' => r = .returned (.tuple #[]) ∧ PenStep w g base most (J ++ varB x) a w' := by
  have hx' := hx
  simp only [poR, decide_eq_true_eq] at hx'
  have HR := hid (epoch_pos (x : Int) w)
  rw [hx] at HR
  have HV := hid (epoch_put0 w h x (by omega) hfit hlen)
  clear h hx hx'
  go_enter Tryz.func64, Tryz.ntmps64
  go_wp2_with fail
  refine HR.out.mono ?_
  rintro r w1 ⟨rfl, rfl⟩
  go_wp2_with fail
  refine HV.out.mono ?_
  rintro r w1 ⟨rfl, hst⟩
  have HST := hid hst
  clear hst
  go_wp2
  first | go_end0 | refine bodyPost_ret (results_none rfl _ _ _) rfl ?_
  exact ⟨rfl, HST.out⟩
end Go.Proofs.YtlbffbkbkajciaaGreat
namespace Go.Proofs.YtlbffbkbkajciaaGreat
open Go.RowKit Go.Bs Go.Maps
set_option linter.unusedVariables false
set_option linter.unusedSimpArgs false

theorem b_blk {w : World} {g : Nat} {t : TypeId} {v0 v1 v2 : Value} (h : Blk w g t #[v0, v1, v2]) : w.cell? ⟨g, 0, none⟩ = some v0 ∧ w.cell? ⟨g, 1, none⟩ = some v1 ∧ w.cell? ⟨g, 2, none⟩ = some v2 ∧ w.frozen? ⟨g, 0, none⟩ = false ∧ w.frozen? ⟨g, 1, none⟩ = false ∧ w.frozen? ⟨g, 2, none⟩ = false ∧ g < w.heap.size :=
  ⟨h.cell 0, h.cell 1, h.cell 2, h.free 0, h.free 1, h.free 2, h.lt⟩
theorem empty_bytes2 {S : Nat → Prop} {w : World} {a : Option Addr} {m c : Nat} {l : List UInt8} (hl : l = []) (hm : m = 0) (hc : c ≤ 9223372036854775807) : rBytes.r S w [.slice a m c] l := by
  subst hl hm
  exact rSl_mk (xs := []) rfl (Nat.zero_le _) hc (.inl rfl)
theorem pen_fail (w : World) {g base most : Nat} {J : List UInt8} {a : Option Addr} {c : Nat} (h : PenAt w g base most J a c) (k : Int) :
    Calls Tryz.prog 60 #[.pointer (some ⟨g, 0, none⟩), .int .i64 k] w fun r w' => r = .returned (.tuple #[]) ∧ Blk w' g 87 #[.int .i64 most, .slice a J.length c, .int .i64 k] ∧ Tch (· = g) w w' := by
  have HC := hid (pen_code w h)
  have HB := hid h.blk
  have c2 : w.cell? ⟨g, 2, none⟩ = some (.int .i64 0) := h.blk.cell 2
  have f2 := h.blk.free 2
  have hgl := h.blk.lt
  clear h
  go_enter Tryz.func60, Tryz.ntmps60
  go_wp2_with fail
  refine HC.out.mono ?_
  rintro r w1 ⟨rfl, rfl⟩
  go_wp2
  first | go_end0 | refine bodyPost_ret (results_none rfl _ _ _) rfl ?_
  exact ⟨rfl, HB.out.set 2 _, Tch.setCell (F := (· = g)) (p := ⟨g, 2, none⟩) (Tch.refl _ _) (fun _ => rfl) _⟩
theorem pen_bytes_bad (w : World) {g : Nat} {v0 v1 : Value} {k : Int} (hk : k ≠ 0) (h : Blk w g 87 #[v0, v1, .int .i64 k]) :
    Calls Tryz.prog 17 #[.pointer (some ⟨g, 0, none⟩)] w fun r w' => r = .returned (.tuple #[.slice none 0 0, .int .i64 k]) ∧ w = w' := by
  have HC : Hid (Calls Tryz.prog 79 #[.pointer (some ⟨g, 0, none⟩)] w fun r w' => r = .returned (.int .i64 k) ∧ w = w') := hid (by
    have c2 : w.cell? ⟨g, 2, none⟩ = some (.int .i64 k) := h.cell 2
    clear h
    go_enter Tryz.func79, Tryz.ntmps79
    go_wp2
    go_ret
    exact ⟨rfl, rfl⟩)
  have d1 : (k == (0 : Int)) = false := by simp [hk]
  have d2 : (k != (0 : Int)) = true := by simp [hk]
  clear h hk
  go_enter Tryz.func17, Tryz.ntmps17
  go_wp2_with fail
  refine HC.out.mono ?_
  rintro r w1 ⟨rfl, rfl⟩
  go_wp2
  go_ret2
  exact ⟨rfl, rfl⟩

end Go.Proofs.YtlbffbkbkajciaaGreat
namespace Go.Proofs.YtlbffbkbkajciaaGreat
open Go.RowKit Go.Bs Go.Maps
set_option linter.unusedVariables false
set_option linter.unusedSimpArgs false

/-- A reader of block g, and memory of one's own behind w. -/
structure RdInv (w W : World) (g : Nat) (B : List UInt8) (a : Option Addr) (s : Rs) : Prop where
  rd : RdAt W g B a s
  dat : rBytes.r (fun q => q < w.heap.size ∧ q ≠ g) W [.slice a B.length B.length] B
  tch : Tch (· = g) w W
  lt : g < w.heap.size
section
variable {w W W' : World} {g : Nat} {B : List UInt8} {a : Option Addr} {s s' : Rs}
theorem RdInv.refl (h : RdAt w g B a s) : RdInv w w g B a s := ⟨h, h.dat, Tch.refl _ _, h.blk.lt⟩
theorem RdInv.step (h : RdInv w W g B a s) (k : RdStep W g B a s' W') : RdInv w W' g B a s' :=
  ⟨k.1, rBytes.keep h.dat fun q hq => k.2.block q (Nat.lt_of_lt_of_le hq.1 h.tch.size) hq.2, h.tch.trans k.2 fun _ _ h => h, h.lt⟩
theorem RdInv.row (h : RdInv w W g B a s) (hb : Below w.heap.size W W') : RdInv w W' g B a s := by
  have hd := rBytes.keep h.dat (w' := W') fun q hq => hb.block q hq.1
  have hs := h.tch.size
  have hs2 := hb.size
  exact ⟨⟨h.rd.blk.below hb h.lt, rBytes.mono hd fun q hq => ⟨by omega, hq.2⟩, h.rd.ok⟩, hd, h.tch.trans (Tch.of_below hb) (fun b hb hle => by omega), h.lt⟩
theorem RdInv.to (h : RdInv w W g B a s) : RdStep w g B a s W := ⟨h.rd, h.tch⟩
theorem own_tch2 {base : Nat} {e : TypeId} {size : Nat} {v : Value} {n : Nat} {xs : List Value} (h : W.ownsRow base e size v n xs) (hg : g < base) (hb : Tch (· = g) W W') : W'.ownsRow base e size v n xs := by
  refine ⟨h.1, ?_⟩
  rcases h.2 with h0 | ⟨g', cap, cur, h1, h2, h3, h4⟩
  · exact .inl h0
  · exact .inr ⟨g', cap, cur, h1, h2, (hb.block _ (Blk.lt h3) (by omega)).trans h3, h4⟩
end

set_option maxRecDepth 100000 in
set_option maxHeartbeats 6400000 in
theorem delta_read (w : World) {g : Nat} {B : List UInt8} {a : Option Addr} {s : Rs} (h : RdAt w g B a s) (hB : B.length ≤ 1000000000) (below : Int) (hbl : 0 ≤ below ∧ below ≤ 18446744073709551615) (most : Int) (hmo : 0 ≤ most ∧ most ≤ 1000) :
    Calls Tryz.prog 234 #[.pointer (some ⟨g, 0, none⟩), .int .u64 below, .int .i64 most] w fun r w' => ∃ v, r = .returned v ∧ rU64s.r (fun q => w.heap.size ≤ q ∧ q < w'.heap.size) w' [v] (s.delta B below most).2 ∧ RdStep w g B a (s.delta B below most).1 w' := by
  obtain ⟨i0, hi, hz0, hz1, hz2⟩ := info_parts infoU
  have HI := hid (varint_int w h (by omega) most (by omega))
  have hNm := Rs.int_le (B := B) (s := s) (m := most)
  have hlt := h.blk.lt
  have HIN := hid (RdInv.refl h)
  unfold Rs.delta
  generalize s.int B most = I at *
  obtain ⟨s1, N⟩ := I
  dsimp only at *
  have hN : N ≤ 1000 := by omega
  clear h
  go_enter Tryz.func234, Tryz.ntmps234
  go_wp2_with fail
  refine HI.out.mono ?_
  rintro r w1 ⟨rfl, hst⟩
  have HIN1 := hid (HIN.out.step hst)
  clear hst
  go_wp2_with fail
  go_loopw [1, 7, 13] (fun b v i wr => ∃ (k : Nat) (bel : Int) (J : List Int) (st : Rs), k ≤ N ∧ i = .int .i64 k ∧ b = .int .u64 bel ∧ 0 ≤ bel ∧ bel ≤ 18446744073709551615 ∧ Hid (J.length = k) ∧ wr.ownsRow w.heap.size 22 1 v J.length (u64Cells J) ∧ Hid (∀ x ∈ J, 0 ≤ x ∧ x ≤ 18446744073709551615) ∧ Hid (RdInv w wr g B a st) ∧ Hid (Rs.falls B N s1 below [] = Rs.falls B (N - k) st bel J)) (fun _ _ i _ => N - (intOf i).toNat)
  case atStart => exact ⟨0, below, [], s1, Nat.zero_le _, rfl, rfl, hbl.1, hbl.2, hid rfl, ⟨rfl, .inl ⟨rfl, rfl⟩⟩, hid (by simp), HIN1, hid rfl⟩
  case round =>
    obtain ⟨k, bel, J, st, hk, rfl, rfl, hb0, hb1, hJl, hown, hJb, hin, hsp⟩ := hrel
    obtain ⟨av, cv, rfl⟩ := own_form hown
    have hJ9 : J.length ≤ 1000 := by have := hJl.out; omega
    rcases Nat.lt_or_ge k N with hlt2 | hge
    · have HAT := hid (rd_at wr hin.out.rd)
      have HVR := hid (varint_read wr hin.out.rd (by omega))
      have hx := Rs.num_small (B := B) (s := st)
      have hxb := Rs.num_bad (B := B) (s := st)
      have hstep : Rs.falls B (N - k) st bel J = (if (st.num B).1.k = 0 then (if bel ≤ ((st.num B).2 : Int) then ((st.num B).1.fail 13 st.p, []) else Rs.falls B (N - (k + 1)) (st.num B).1 (bel - (st.num B).2 - 1) (J ++ [bel - (st.num B).2 - 1])) else ((st.num B).1, [])) := by
        rw [show N - k = (N - (k + 1)) + 1 by omega]; rfl
      have HO := hid hown
      have i1 : (k : Int) < (N : Int) := by omega
      have d1 : decide ((k : Int) < (N : Int)) = true := decide_eq_true i1
      have d1' : decide (k < N) = true := decide_eq_true hlt2
      generalize st.num B = R at *
      obtain ⟨st1, x⟩ := R
      dsimp only at *
      have HBAD := hid hxb
      clear hown hxb
      by_cases hk1 : st1.k = 0
      · rw [if_pos hk1] at hstep
        by_cases hbx : bel ≤ (x : Int)
        · rw [if_pos hbx] at hstep
          have d2 : decide (bel ≤ (x : Int)) = true := decide_eq_true hbx
          have hfk : (st1.fail 13 st.p).k ≠ 0 := Rs.fail_k (by omega)
          have HSP := hid (hsp.out.trans hstep)
          clear hstep hsp hk1
          go_wp2_with fail
          refine HAT.out.mono ?_
          rintro r w2 ⟨rfl, rfl⟩
          go_wp2_with fail
          refine HVR.out.mono ?_
          rintro r w3 ⟨rfl, hst3⟩
          have HIN3 := hid (hin.out.step hst3)
          clear hst3
          go_wp2_with fail
          refine (rd_fail w3 HIN3.out.rd 13 (st.p : Int) (by omega)).mono ?_
          rintro r w4 ⟨rfl, hst4⟩
          have HIN4 := hid (HIN3.out.step hst4)
          have hg := rd_good w4 HIN4.out.rd
          rw [decide_eq_false hfk] at hg
          have HG := hid hg
          clear hst4 hg hfk
          go_wp2_with fail
          refine HG.out.mono ?_
          rintro r w5 ⟨rfl, hb5⟩
          have HE := hid (HIN4.out.to.then hb5)
          go_wp2
          go_ret
          rw [HSP.out]
          exact ⟨_, rfl, rSl_mk (xs := []) rfl (Nat.le_refl _) (Nat.zero_le _) (.inl rfl), HE.out⟩
        · rw [if_neg hbx] at hstep
          have d2 : decide (bel ≤ (x : Int)) = false := decide_eq_false hbx
          have HSP := hid (hsp.out.trans hstep)
          have w1' : 0 ≤ bel - ((x : Int) + 1) := by omega
          have w2' : (x : Int) + 1 ≤ 18446744073709551615 := by omega
          have hk1' : decide (st1.k = 0) = true := decide_eq_true hk1
          clear hstep hsp hk1
          go_wp2_with fail
          refine HAT.out.mono ?_
          rintro r w2 ⟨rfl, rfl⟩
          go_wp2_with fail
          refine HVR.out.mono ?_
          rintro r w3 ⟨rfl, hst3⟩
          have HIN3 := hid (hin.out.step hst3)
          have HO3 := hid (own_tch2 HO.out hlt hst3.2)
          have hg := rd_good w3 HIN3.out.rd
          rw [hk1'] at hg
          have HG := hid hg
          clear hst3 hg hk1'
          go_wp2_with fail
          refine HG.out.mono ?_
          rintro r w4 ⟨rfl, hb4⟩
          have HIN4 := hid (HIN3.out.step (RdStep.later HIN3.out.rd hb4))
          have HO4 := hid (own_below HO3.out hb4)
          have hsz4 := HIN4.out.tch.size
          clear hb4
          go_wp2_with (at_builtin; go_loud (refine wpList_append_src rfl _ _ _ rfl w.heap.size 22 i0 (.int .u64 0) 1 8 Tryz.underlying23 hi hz0 hz1 hz2 rfl (by decide) (.slice av J.length cv) J.length _ rfl (own_below HO4.out (by (repeat (first | with_reducible exact Below.refl _ _ | with_reducible assumption | (with_reducible refine below_alloc ?_ _) | (with_reducible refine Below.setCell ?_ (by first | omega | (simp; done) | (simp; omega)) _) | (with_reducible refine Below.drew ?_) | (with_reducible refine below_drewN ?_ _) | (refine below_then (by with_reducible assumption) ?_))))) (some ⟨w4.heap.size, 0, none⟩) 1 1 [.int .u64 (bel - ((x : Int) + 1))] rfl (src_new1 _ 22 _ rfl (by simp) rfl) (by simp [Value.oneCell']) (by simp only [maxLen]; omega) (by omega) (by simp; omega) ?_; intro v' w5 hown5 hgrow5 hat5; obtain ⟨a5, c5, rfl⟩ := own_form hown5; have HO5 := hid hown5; have hb5 : Below w.heap.size w4 w5 := (Below.grown ((by (repeat (first | with_reducible exact Below.refl _ _ | with_reducible assumption | (with_reducible refine below_alloc ?_ _) | (with_reducible refine Below.setCell ?_ (by first | omega | (simp; done) | (simp; omega)) _) | (with_reducible refine Below.drew ?_) | (with_reducible refine below_drewN ?_ _) | (refine below_then (by with_reducible assumption) ?_))) : Below w4.heap.size w4 _).mono hsz4) hgrow5 (by simp; omega) (fun g e => (HO4.out.lt g e).1)); clear hown5 hgrow5 hat5))
          have HIN5 := hid (HIN4.out.row hb5)
          have ho5 : w5.ownsRow w.heap.size 22 1 (.slice a5 (J.length + 1) c5) (J ++ [bel - ((x : Int) + 1)]).length (u64Cells (J ++ [bel - ((x : Int) + 1)])) := by
            have e : u64Cells (J ++ [bel - ((x : Int) + 1)]) = u64Cells J ++ [.int .u64 (bel - ((x : Int) + 1))] := by simp [u64Cells]
            rw [e, List.length_append]
            exact HO5.out
          have HO6 := hid ho5
          have HB6 : Hid (∀ y ∈ J ++ [bel - ((x : Int) + 1)], 0 ≤ y ∧ y ≤ 18446744073709551615) := hid (fun y hy => by
            rw [List.mem_append, List.mem_singleton] at hy
            rcases hy with hy | rfl
            · exact hJb.out y hy
            · omega)
          have HSP6 : Hid (Rs.falls B N s1 below [] = Rs.falls B (N - (k + 1)) st1 (bel - ((x : Int) + 1)) (J ++ [bel - ((x : Int) + 1)])) := hid (by rw [HSP.out, show bel - (x : Int) - 1 = bel - ((x : Int) + 1) by omega])
          clear ho5
          go_roundw
          case rel => exact ⟨k + 1, bel - ((x : Int) + 1), J ++ [bel - ((x : Int) + 1)], st1, by omega, by go_num, rfl, by omega, by omega, hid (by simp; exact hJl.out), HO6.out, HB6, HIN5, HSP6⟩
          case measure => simp [intOf]; omega
      · rw [if_neg hk1] at hstep
        have HSP := hid (hsp.out.trans hstep)
        have hx0 := HBAD.out hk1
        subst hx0
        have hk1' : decide (st1.k = 0) = false := decide_eq_false hk1
        have hfid : st1.fail 13 st.p = st1 := Rs.fail_of_bad hk1
        clear hstep hsp hk1
        by_cases hbx : bel ≤ 0
        · have d2 : decide (bel ≤ ((0 : Nat) : Int)) = true := decide_eq_true (by omega)
          have d2' : decide (bel ≤ 0) = true := decide_eq_true hbx
          go_wp2_with fail
          refine HAT.out.mono ?_
          rintro r w2 ⟨rfl, rfl⟩
          go_wp2_with fail
          refine HVR.out.mono ?_
          rintro r w3 ⟨rfl, hst3⟩
          have HIN3 := hid (hin.out.step hst3)
          clear hst3
          go_wp2_with fail
          refine (rd_fail w3 HIN3.out.rd 13 (st.p : Int) (by omega)).mono ?_
          rintro r w4 ⟨rfl, hst4⟩
          rw [hfid] at hst4
          have HIN4 := hid (HIN3.out.step hst4)
          have hg := rd_good w4 HIN4.out.rd
          rw [hk1'] at hg
          have HG := hid hg
          clear hst4 hg hk1' hfid
          go_wp2_with fail
          refine HG.out.mono ?_
          rintro r w5 ⟨rfl, hb5⟩
          have HE := hid (HIN4.out.to.then hb5)
          go_wp2
          go_ret
          rw [HSP.out]
          exact ⟨_, rfl, rSl_mk (xs := []) rfl (Nat.le_refl _) (Nat.zero_le _) (.inl rfl), HE.out⟩
        · have d2 : decide (bel ≤ ((0 : Nat) : Int)) = false := decide_eq_false (by omega)
          have d2' : decide (bel ≤ 0) = false := decide_eq_false hbx
          go_wp2_with fail
          refine HAT.out.mono ?_
          rintro r w2 ⟨rfl, rfl⟩
          go_wp2_with fail
          refine HVR.out.mono ?_
          rintro r w3 ⟨rfl, hst3⟩
          have HIN3 := hid (hin.out.step hst3)
          have hg := rd_good w3 HIN3.out.rd
          rw [hk1'] at hg
          have HG := hid hg
          clear hst3 hg hk1' hfid
          go_wp2_with fail
          refine HG.out.mono ?_
          rintro r w5 ⟨rfl, hb5⟩
          have HE := hid (HIN3.out.to.then hb5)
          go_wp2
          go_ret
          rw [HSP.out]
          exact ⟨_, rfl, rSl_mk (xs := []) rfl (Nat.le_refl _) (Nat.zero_le _) (.inl rfl), HE.out⟩
    · obtain rfl : k = N := by omega
      have d1 : decide ((k : Int) < (k : Int)) = false := decide_eq_false (by omega)
      have HSP : Hid (Rs.falls B k s1 below [] = (st, J)) := hid (by rw [hsp.out, Nat.sub_self]; rfl)
      have HV := hid (own_ints64 hJb.out rfl hown)
      have HE := hid hin.out.to
      clear hown hsp
      go_wp2
      go_ret
      rw [HSP.out]
      exact ⟨_, rfl, HV.out, HE.out⟩
end Go.Proofs.YtlbffbkbkajciaaGreat
namespace Go.Proofs.YtlbffbkbkajciaaGreat
open Go.RowKit Go.Bs Go.Maps
set_option linter.unusedVariables false
set_option linter.unusedSimpArgs false

theorem Rs.int_of_bad {B : List UInt8} {s : Rs} {m : Int} (h : s.k ≠ 0) : s.int B m = (s, 0) := by
  unfold Rs.int Rs.most
  rw [Rs.num_of_bad h]
  split
  · rw [if_neg (by dsimp only; omega)]
  · rw [Rs.fail_of_bad h]
theorem Rs.byte_of_bad {B : List UInt8} {s : Rs} (h : s.k ≠ 0) : s.byte B = (s, 0) := by
  unfold Rs.byte
  rw [Rs.skip_of_bad h]
  rfl
theorem Rs.loose_of_bad {B : List UInt8} {s : Rs} {m : Int} (h : s.k ≠ 0) : s.loose B m = (s, [], false) := by
  unfold Rs.loose
  rw [Rs.int_of_bad h]
  dsimp only
  rw [Rs.byte_of_bad h]
  dsimp only
  rw [if_neg h]
end Go.Proofs.YtlbffbkbkajciaaGreat
namespace Go.Proofs.YtlbffbkbkajciaaGreat
open Go.RowKit Go.Bs Go.Maps
set_option linter.unusedVariables false
set_option linter.unusedSimpArgs false

set_option maxRecDepth 100000 in
set_option maxHeartbeats 3200000 in
theorem epoch_read_ep (w : World) {g : Nat} {B : List UInt8} {a : Option Addr} {s : Rs} (h : RdAt w g B a s) (hB : B.length ≤ 1000000000) :
    Calls Tryz.prog 231 #[.pointer (some ⟨g, 0, none⟩), .func (Fn.func 113) #[] #[]] w fun r w' => r = .returned (.int .u64 ((s.ep B).2 : Int)) ∧ RdStep w g B a (s.ep B).1 w' := by
  have HAT := hid (rd_at w h)
  have HVR := hid (varint_read w h (by omega))
  have hxb := Rs.num_bad (B := B) (s := s)
  have HIN := hid (RdInv.refl h)
  unfold Rs.ep
  generalize s.num B = R at *
  obtain ⟨st1, x⟩ := R
  dsimp only at *
  have HRT := hid (fun (W : World) => epoch_right (x : Int) W)
  have HBAD := hid hxb
  clear h hxb
  by_cases hk1 : st1.k = 0
  · rw [if_pos hk1]
    by_cases hr : epR (x : Int) = true
    · rw [if_pos hr]
      rw [hr] at HRT
      have HK : Hid (decide (st1.k = 0) = true) := hid (decide_eq_true hk1)
      clear hk1 hr
      go_enter Tryz.func231, Tryz.ntmps231
      go_wp2_with fail
      refine HAT.out.mono ?_
      rintro r w2 ⟨rfl, rfl⟩
      go_wp2_with fail
      refine HVR.out.mono ?_
      rintro r w3 ⟨rfl, hst3⟩
      have HIN3 := hid (HIN.out.step hst3)
      clear hst3
      go_wp2_with fail
      refine (HRT.out w3).mono ?_
      rintro r w3' ⟨rfl, rfl⟩
      go_wp2_with fail

      refine ((by have := rd_good w3 HIN3.out.rd; rw [HK.out] at this; exact this : Calls Tryz.prog 44 #[.pointer (some ⟨g, 0, none⟩)] w3 fun r w' => r = .returned (.bool true) ∧ Below w3.heap.size w3 w')).mono ?_
      rintro r w5 ⟨rfl, hb5⟩
      have HE := hid (HIN3.out.to.then hb5)
      go_wp2
      go_ret
      exact ⟨rfl, HE.out⟩
    · rw [if_neg hr]
      rw [Bool.eq_false_iff.2 hr] at HRT
      have hfk : (st1.fail 3 s.p).k ≠ 0 := Rs.fail_k (by omega)
      clear hk1 hr
      go_enter Tryz.func231, Tryz.ntmps231
      go_wp2_with fail
      refine HAT.out.mono ?_
      rintro r w2 ⟨rfl, rfl⟩
      go_wp2_with fail
      refine HVR.out.mono ?_
      rintro r w3 ⟨rfl, hst3⟩
      have HIN3 := hid (HIN.out.step hst3)
      clear hst3
      go_wp2_with fail
      refine (HRT.out w3).mono ?_
      rintro r w3' ⟨rfl, rfl⟩
      go_wp2_with fail

      refine (rd_fail w3 HIN3.out.rd 3 (s.p : Int) (by omega)).mono ?_
      rintro r w4 ⟨rfl, hst4⟩
      have HIN4 := hid (HIN3.out.step hst4)
      have hg := rd_good w4 HIN4.out.rd
      rw [decide_eq_false hfk] at hg
      have HG := hid hg
      clear hst4 hg hfk
      go_wp2_with fail

      refine HG.out.mono ?_
      rintro r w5 ⟨rfl, hb5⟩
      have HE := hid (HIN4.out.to.then hb5)
      go_wp2
      go_ret
      exact ⟨rfl, HE.out⟩
  · rw [if_neg hk1]
    have hx0 := HBAD.out hk1
    subst hx0
    have hfk : st1.k ≠ 0 := hk1
    have hfid : st1.fail 3 s.p = st1 := Rs.fail_of_bad hk1
    rw [show epR ((0 : Nat) : Int) = false from by decide] at HRT
    clear hk1
    go_enter Tryz.func231, Tryz.ntmps231
    go_wp2_with fail
    refine HAT.out.mono ?_
    rintro r w2 ⟨rfl, rfl⟩
    go_wp2_with fail
    refine HVR.out.mono ?_
    rintro r w3 ⟨rfl, hst3⟩
    have HIN3 := hid (HIN.out.step hst3)
    clear hst3
    go_wp2_with fail
    refine (HRT.out w3).mono ?_
    rintro r w3' ⟨rfl, rfl⟩
    go_wp2_with fail

    refine (rd_fail w3 HIN3.out.rd 3 (s.p : Int) (by omega)).mono ?_
    rintro r w4 ⟨rfl, hst4⟩
    rw [hfid] at hst4
    clear hfid
    have HIN4 := hid (HIN3.out.step hst4)
    have hg := rd_good w4 HIN4.out.rd
    rw [decide_eq_false hfk] at hg
    have HG := hid hg
    clear hst4 hg hfk
    go_wp2_with fail

    refine HG.out.mono ?_
    rintro r w5 ⟨rfl, hb5⟩
    have HE := hid (HIN4.out.to.then hb5)
    go_wp2
    go_ret
    exact ⟨rfl, HE.out⟩

theorem epoch_read (w : World) {g : Nat} {B : List UInt8} {a : Option Addr} {s : Rs} (h : RdAt w g B a s) (hB : B.length ≤ 1000000000) :
    Calls Tryz.prog 209 #[.pointer (some ⟨g, 0, none⟩)] w fun r w' => r = .returned (.int .u64 ((s.ep B).2 : Int)) ∧ RdStep w g B a (s.ep B).1 w' := by
  have HR := hid (epoch_read_ep w h hB)
  generalize s.ep B = R at *
  clear h
  go_enter Tryz.func209, Tryz.ntmps209
  go_wp2_with fail
  refine HR.out.mono ?_
  rintro r w1 ⟨rfl, hst⟩
  have HST := hid hst
  clear hst
  go_wp2
  go_ret
  exact ⟨rfl, HST.out⟩

set_option maxRecDepth 100000 in
set_option maxHeartbeats 3200000 in
theorem epoch_read_po (w : World) {g : Nat} {B : List UInt8} {a : Option Addr} {s : Rs} (h : RdAt w g B a s) (hB : B.length ≤ 1000000000) :
    Calls Tryz.prog 231 #[.pointer (some ⟨g, 0, none⟩), .func (Fn.func 82) #[] #[]] w fun r w' => r = .returned (.int .u64 ((s.po B).2 : Int)) ∧ RdStep w g B a (s.po B).1 w' := by
  have HAT := hid (rd_at w h)
  have HVR := hid (varint_read w h (by omega))
  have hxb := Rs.num_bad (B := B) (s := s)
  have HIN := hid (RdInv.refl h)
  unfold Rs.po
  generalize s.num B = R at *
  obtain ⟨st1, x⟩ := R
  dsimp only at *
  have HRT := hid (fun (W : World) => epoch_pos (x : Int) W)
  have HBAD := hid hxb
  clear h hxb
  by_cases hk1 : st1.k = 0
  · rw [if_pos hk1]
    by_cases hr : poR (x : Int) = true
    · rw [if_pos hr]
      rw [hr] at HRT
      have HK : Hid (decide (st1.k = 0) = true) := hid (decide_eq_true hk1)
      clear hk1 hr
      go_enter Tryz.func231, Tryz.ntmps231
      go_wp2_with fail
      refine HAT.out.mono ?_
      rintro r w2 ⟨rfl, rfl⟩
      go_wp2_with fail
      refine HVR.out.mono ?_
      rintro r w3 ⟨rfl, hst3⟩
      have HIN3 := hid (HIN.out.step hst3)
      clear hst3
      go_wp2_with fail
      refine (HRT.out w3).mono ?_
      rintro r w3' ⟨rfl, rfl⟩
      go_wp2_with fail

      refine ((by have := rd_good w3 HIN3.out.rd; rw [HK.out] at this; exact this : Calls Tryz.prog 44 #[.pointer (some ⟨g, 0, none⟩)] w3 fun r w' => r = .returned (.bool true) ∧ Below w3.heap.size w3 w')).mono ?_
      rintro r w5 ⟨rfl, hb5⟩
      have HE := hid (HIN3.out.to.then hb5)
      go_wp2
      go_ret
      exact ⟨rfl, HE.out⟩
    · rw [if_neg hr]
      rw [Bool.eq_false_iff.2 hr] at HRT
      have hfk : (st1.fail 3 s.p).k ≠ 0 := Rs.fail_k (by omega)
      clear hk1 hr
      go_enter Tryz.func231, Tryz.ntmps231
      go_wp2_with fail
      refine HAT.out.mono ?_
      rintro r w2 ⟨rfl, rfl⟩
      go_wp2_with fail
      refine HVR.out.mono ?_
      rintro r w3 ⟨rfl, hst3⟩
      have HIN3 := hid (HIN.out.step hst3)
      clear hst3
      go_wp2_with fail
      refine (HRT.out w3).mono ?_
      rintro r w3' ⟨rfl, rfl⟩
      go_wp2_with fail

      refine (rd_fail w3 HIN3.out.rd 3 (s.p : Int) (by omega)).mono ?_
      rintro r w4 ⟨rfl, hst4⟩
      have HIN4 := hid (HIN3.out.step hst4)
      have hg := rd_good w4 HIN4.out.rd
      rw [decide_eq_false hfk] at hg
      have HG := hid hg
      clear hst4 hg hfk
      go_wp2_with fail

      refine HG.out.mono ?_
      rintro r w5 ⟨rfl, hb5⟩
      have HE := hid (HIN4.out.to.then hb5)
      go_wp2
      go_ret
      exact ⟨rfl, HE.out⟩
  · rw [if_neg hk1]
    have hx0 := HBAD.out hk1
    subst hx0
    have hfk : st1.k ≠ 0 := hk1
    have hfid : st1.fail 3 s.p = st1 := Rs.fail_of_bad hk1
    rw [show poR ((0 : Nat) : Int) = true from by decide] at HRT
    clear hk1
    go_enter Tryz.func231, Tryz.ntmps231
    go_wp2_with fail
    refine HAT.out.mono ?_
    rintro r w2 ⟨rfl, rfl⟩
    go_wp2_with fail
    refine HVR.out.mono ?_
    rintro r w3 ⟨rfl, hst3⟩
    have HIN3 := hid (HIN.out.step hst3)
    clear hst3
    go_wp2_with fail
    refine (HRT.out w3).mono ?_
    rintro r w3' ⟨rfl, rfl⟩
    go_wp2_with fail

    refine ((by have := rd_good w3 HIN3.out.rd; rw [decide_eq_false hfk] at this; exact this : Calls Tryz.prog 44 #[.pointer (some ⟨g, 0, none⟩)] w3 fun r w' => r = .returned (.bool false) ∧ Below w3.heap.size w3 w')).mono ?_
    rintro r w5 ⟨rfl, hb5⟩
    have HE := hid (HIN3.out.to.then hb5)
    clear hfk hfid
    go_wp2
    go_ret
    exact ⟨rfl, HE.out⟩

theorem epoch_readpos (w : World) {g : Nat} {B : List UInt8} {a : Option Addr} {s : Rs} (h : RdAt w g B a s) (hB : B.length ≤ 1000000000) :
    Calls Tryz.prog 183 #[.pointer (some ⟨g, 0, none⟩)] w fun r w' => r = .returned (.int .u64 ((s.po B).2 : Int)) ∧ RdStep w g B a (s.po B).1 w' := by
  have HR := hid (epoch_read_po w h hB)
  generalize s.po B = R at *
  clear h
  go_enter Tryz.func183, Tryz.ntmps183
  go_wp2_with fail
  refine HR.out.mono ?_
  rintro r w1 ⟨rfl, hst⟩
  have HST := hid hst
  clear hst
  go_wp2
  go_ret
  exact ⟨rfl, HST.out⟩
end Go.Proofs.YtlbffbkbkajciaaGreat
