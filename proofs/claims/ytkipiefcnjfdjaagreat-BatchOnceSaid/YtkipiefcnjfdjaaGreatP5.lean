/- Needed by batchOnce_walk, part 5: texts put together by shake.py; no condition. -/
import Derived.Test.YtkipiefcnjfdjaaGreatP4
import Derived.BigRegion
import Derived.Lib.SlBytesConst
import Derived.RegionTactic
namespace Go.Proofs.YtkipiefcnjfdjaaGreat
open Go.RowKit Go.Bs Go.Maps
set_option linter.unusedVariables false
set_option linter.unusedSimpArgs false

def againL (off : Nat) : Nat → List UInt8 → List UInt8
  | 0, out => out
  | n + 1, out => againL off n (out ++ [out.getD (out.length - off) 0])
theorem againL_len (off : Nat) : ∀ (n : Nat) (out : List UInt8), (againL off n out).length = out.length + n
  | 0, out => rfl
  | n + 1, out => by simp only [againL, againL_len off n]; simp; omega
/-- One step of the program's. -/
def exStep (B : List UInt8) (bound : Int) (s : Rs) (out : List UInt8) : Rs × List UInt8 :=
  if bound - out.length < (s.head B).2.2 then ((s.head B).1.fail 11 s.p, out)
  else if (s.head B).2.1 = false then (((s.head B).1.take B ((s.head B).2.2 : Int)).1, out ++ ((s.head B).1.take B ((s.head B).2.2 : Int)).2)
  else
    if out.length < ((s.head B).1.offset B).2 then (((s.head B).1.offset B).1.fail 10 (s.head B).1.p, out)
    else if ((s.head B).1.offset B).1.k = 0 then (((s.head B).1.offset B).1, againL ((s.head B).1.offset B).2 (s.head B).2.2 out) else (((s.head B).1.offset B).1, out)
def exF (B : List UInt8) (bound : Int) : Nat → Rs → List UInt8 → Rs × List UInt8
  | 0, s, out => (s, out)
  | f + 1, s, out => if s.p < B.length ∧ s.k = 0 then exF B bound f (exStep B bound s out).1 (exStep B bound s out).2 else (s, out)
/-- What written tokens make: the bytes, the code, the place. -/
def exB (B : List UInt8) (bound : Int) : List UInt8 × Int × Int :=
  if (exF B bound B.length ⟨0, 0, 0⟩ []).1.k = 0 then ((exF B bound B.length ⟨0, 0, 0⟩ []).2, 0, 0) else ([], (exF B bound B.length ⟨0, 0, 0⟩ []).1.k, (exF B bound B.length ⟨0, 0, 0⟩ []).1.f)

theorem Rs.fail_k {s : Rs} {c at_ : Int} (hc : c ≠ 0) : (s.fail c at_).k ≠ 0 := by
  unfold Rs.fail; split
  · exact hc
  · assumption
theorem Rs.fail_p {s : Rs} {c at_ : Int} : (s.fail c at_).p = s.p := by unfold Rs.fail; split <;> rfl
theorem Rs.num_more {B : List UInt8} {s : Rs} (h : (s.num B).1.k = 0) : s.p < (s.num B).1.p ∧ s.k = 0 := by
  unfold Rs.num at *
  split
  · rename_i h0
    rw [if_pos h0] at h
    have := (vget_used (B.drop s.p) 0 0).2.2.2.2 (by dsimp only at h; omega)
    dsimp only; omega
  · rename_i h0; rw [if_neg h0] at h; exact absurd h h0
theorem Rs.head_more {B : List UInt8} {s : Rs} (h : (s.head B).1.k = 0) : s.p < (s.head B).1.p ∧ s.k = 0 ∧ (s.num B).1.k = 0 ∧ 1 ≤ (s.head B).2.2 ∧ (s.head B).2.2 ≤ 1048576 := by
  unfold Rs.head at *
  by_cases h0 : (s.num B).1.k = 0
  · have hm := Rs.num_more h0
    rw [if_pos h0] at h ⊢
    by_cases h1 : (s.num B).2 % 2 = 1
    · rw [if_pos h1] at h ⊢
      by_cases h2 : 1048572 < (s.num B).2 / 2
      · rw [if_pos h2] at h; exact absurd h (Rs.fail_k (by omega))
      · rw [if_neg h2]; exact ⟨hm.1, hm.2, h0, by dsimp only; omega, by dsimp only; omega⟩
    · rw [if_neg h1] at h ⊢
      by_cases h2 : 1048575 < (s.num B).2 / 2
      · rw [if_pos h2] at h; exact absurd h (Rs.fail_k (by omega))
      · rw [if_neg h2]; exact ⟨hm.1, hm.2, h0, by dsimp only; omega, by dsimp only; omega⟩
  · rw [if_neg h0] at h; exact absurd h h0
theorem Rs.head_bad {B : List UInt8} {s : Rs} (h : (s.head B).1.k ≠ 0) : (s.head B).2.1 = false ∧ (s.head B).2.2 = 0 := by
  unfold Rs.head at *
  by_cases h0 : (s.num B).1.k = 0
  · rw [if_pos h0] at h ⊢
    by_cases h1 : (s.num B).2 % 2 = 1
    · rw [if_pos h1] at h ⊢
      by_cases h2 : 1048572 < (s.num B).2 / 2
      · rw [if_pos h2]; exact ⟨rfl, rfl⟩
      · rw [if_neg h2] at h; exact absurd h0 h
    · rw [if_neg h1] at h ⊢
      by_cases h2 : 1048575 < (s.num B).2 / 2
      · rw [if_pos h2]; exact ⟨rfl, rfl⟩
      · rw [if_neg h2] at h; exact absurd h0 h
  · rw [if_neg h0]; exact ⟨rfl, rfl⟩
theorem Rs.take_more {B : List UInt8} {s : Rs} {n : Int} (h : (s.take B n).1.k = 0) : s.p ≤ (s.take B n).1.p ∧ s.k = 0 ∧ (s.take B n).2.length = n.toNat := by
  unfold Rs.take at *
  cases hk : (s.skip B.length n).1
  · exact absurd h (Rs.skip_false hk).1
  · have := Rs.skip_true hk
    rw [this.2.2.2]
    refine ⟨by dsimp only; omega, this.1, ?_⟩
    simp; omega
theorem Rs.take_bad {B : List UInt8} {s : Rs} {n : Int} (h : (s.take B n).1.k ≠ 0) : (s.take B n).2 = [] := by
  unfold Rs.take at *
  cases hk : (s.skip B.length n).1
  · simp
  · have := Rs.skip_true hk
    rw [this.2.2.2] at h; exact absurd rfl h
theorem Rs.offset_more {B : List UInt8} {s : Rs} (h : (s.offset B).1.k = 0) : s.p < (s.offset B).1.p ∧ s.k = 0 ∧ (s.num B).1.k = 0 ∧ (s.offset B).2 = (s.num B).2 + 1 ∧ (s.num B).2 < 65536 := by
  unfold Rs.offset at *
  dsimp only at *
  by_cases h1 : 65536 ≤ (s.num B).2
  · rw [if_pos h1] at h; exact absurd h (Rs.fail_k (by omega))
  · rw [if_neg h1] at h ⊢
    have := Rs.num_more h
    exact ⟨this.1, this.2, h, by rw [if_pos h], by omega⟩
theorem Rs.num_of_bad {B : List UInt8} {s : Rs} (h : s.k ≠ 0) : s.num B = (s, 0) := by unfold Rs.num; rw [if_neg h]
theorem Rs.skip_of_bad {L : Nat} {s : Rs} {n : Int} (h : s.k ≠ 0) : s.skip L n = (false, s) := by unfold Rs.skip; rw [if_neg h]
theorem Rs.fail_of_bad {s : Rs} {c a : Int} (h : s.k ≠ 0) : s.fail c a = s := by unfold Rs.fail; rw [if_neg h]
theorem exStep_ok {B : List UInt8} {bound : Int} {s : Rs} {out : List UInt8} (h : s.ok B.length) : (exStep B bound s out).1.ok B.length := by
  unfold exStep
  split
  · exact Rs.fail_ok (Rs.head_ok h) (by omega)
  · split
    · exact Rs.take_ok (Rs.head_ok h) _
    · split
      · exact Rs.fail_ok (Rs.offset_ok (Rs.head_ok h)) (by omega)
      · split
        · exact Rs.offset_ok (Rs.head_ok h)
        · exact Rs.offset_ok (Rs.head_ok h)
/-- A step that leaves no fault goes on, and stays within the bound. -/
theorem exStep_more {B : List UInt8} {bound : Int} {s : Rs} {out : List UInt8} (h : (exStep B bound s out).1.k = 0) : s.p < (exStep B bound s out).1.p ∧ ((exStep B bound s out).2.length : Int) ≤ bound := by
  unfold exStep at *
  by_cases h1 : bound - out.length < (s.head B).2.2
  · rw [if_pos h1] at h; exact absurd h (Rs.fail_k (by omega))
  · rw [if_neg h1] at h ⊢
    by_cases h2 : (s.head B).2.1 = false
    · rw [if_pos h2] at h ⊢
      have ht := Rs.take_more h
      have hh := Rs.head_more ht.2.1
      refine ⟨by dsimp only; omega, ?_⟩
      simp only [List.length_append, ht.2.2]
      omega
    · rw [if_neg h2] at h ⊢
      by_cases h3 : out.length < ((s.head B).1.offset B).2
      · rw [if_pos h3] at h; exact absurd h (Rs.fail_k (by omega))
      · rw [if_neg h3] at h ⊢
        by_cases h4 : ((s.head B).1.offset B).1.k = 0
        · rw [if_pos h4]
          have ho := Rs.offset_more h4
          have hh := Rs.head_more ho.2.1
          refine ⟨by dsimp only; omega, ?_⟩
          simp only [againL_len]; omega
        · rw [if_neg h4] at h; exact absurd h h4
theorem exStep_len {B : List UInt8} {bound : Int} {s : Rs} {out : List UInt8} (h : (exStep B bound s out).1.k ≠ 0) : (exStep B bound s out).2 = out := by
  unfold exStep at *
  split
  · rfl
  · rename_i h1
    rw [if_neg h1] at h
    split
    · rename_i h2
      rw [if_pos h2] at h
      rw [Rs.take_bad h]; simp
    · rename_i h2
      rw [if_neg h2] at h
      split
      · rfl
      · rename_i h3
        rw [if_neg h3] at h
        split
        · rename_i h4
          rw [if_pos h4] at h; exact absurd h4 h
        · rfl
/-- The fuel is enough. -/
theorem exF_step {B : List UInt8} {bound : Int} : ∀ (f : Nat) (s : Rs) (out : List UInt8), s.ok B.length → B.length ≤ s.p + f → s.p < B.length → s.k = 0 → exF B bound f s out = exF B bound (f - 1) (exStep B bound s out).1 (exStep B bound s out).2
  | 0, s, out, _, h1, h2, _ => by omega
  | f + 1, s, out, _, _, h2, h3 => by simp only [exF]; rw [if_pos ⟨h2, h3⟩]; rfl
theorem exF_stop {B : List UInt8} {bound : Int} : ∀ (f : Nat) (s : Rs) (out : List UInt8), ¬ (s.p < B.length ∧ s.k = 0) → exF B bound f s out = (s, out)
  | 0, s, out, _ => rfl
  | f + 1, s, out, h => by simp only [exF]; rw [if_neg h]
theorem exF_any {B : List UInt8} {bound : Int} : ∀ (f g : Nat) (s : Rs) (out : List UInt8), s.ok B.length → B.length ≤ s.p + f → B.length ≤ s.p + g → exF B bound f s out = exF B bound g s out
  | 0, g, s, out, h, h1, h2 => by rw [exF_stop g s out (by have := h.le; omega)]; rfl
  | f + 1, 0, s, out, h, h1, h2 => by rw [exF_stop (f + 1) s out (by have := h.le; omega)]; rfl
  | f + 1, g + 1, s, out, h, h1, h2 => by
    simp only [exF]
    by_cases hc : s.p < B.length ∧ s.k = 0
    · rw [if_pos hc, if_pos hc]
      by_cases hk : (exStep B bound s out).1.k = 0
      · have := (exStep_more hk).1
        exact exF_any f g _ _ (exStep_ok h) (by omega) (by omega)
      · rw [exF_stop f _ _ (fun e => hk e.2), exF_stop g _ _ (fun e => hk e.2)]
    · rw [if_neg hc, if_neg hc]
/-- The rest, with fuel enough. -/
def exR (B : List UInt8) (bound : Int) (s : Rs) (out : List UInt8) : Rs × List UInt8 := exF B bound (B.length - s.p) s out
theorem exR_go {B : List UInt8} {bound : Int} {s : Rs} {out : List UInt8} (h : s.ok B.length) (h1 : s.p < B.length) (h2 : s.k = 0) : exR B bound s out = exR B bound (exStep B bound s out).1 (exStep B bound s out).2 := by
  unfold exR
  rw [exF_step _ s out h (by omega) h1 h2]
  by_cases hk : (exStep B bound s out).1.k = 0
  · have := (exStep_more hk).1
    exact exF_any _ _ _ _ (exStep_ok h) (by omega) (by omega)
  · rw [exF_stop _ _ _ (fun e => hk e.2), exF_stop _ _ _ (fun e => hk e.2)]
theorem exR_stop {B : List UInt8} {bound : Int} {s : Rs} {out : List UInt8} (h : ¬ (s.p < B.length ∧ s.k = 0)) : exR B bound s out = (s, out) := exF_stop _ _ _ h
theorem exB_is (B : List UInt8) (bound : Int) : exB B bound = if (exR B bound ⟨0, 0, 0⟩ []).1.k = 0 then ((exR B bound ⟨0, 0, 0⟩ []).2, 0, 0) else ([], (exR B bound ⟨0, 0, 0⟩ []).1.k, (exR B bound ⟨0, 0, 0⟩ []).1.f) := rfl
end Go.Proofs.YtkipiefcnjfdjaaGreat
namespace Go.Proofs.YtkipiefcnjfdjaaGreat
open Go.RowKit Go.Bs Go.Maps
set_option linter.unusedVariables false
set_option linter.unusedSimpArgs false

theorem byteCells_one1 (x : UInt8) : ∀ u ∈ [Value.int .u8 (x.toNat : Int)], u.oneCell' = true := by
  intro u hu; simp at hu; subst hu; rfl
theorem byteCells_snoc (l : List UInt8) (x : UInt8) : byteCells l ++ [Value.int .u8 (x.toNat : Int)] = byteCells (l ++ [x]) := by simp [byteCells]
set_option maxRecDepth 100000 in
set_option maxHeartbeats 1600000 in
theorem expand_again (w : World) {base : Nat} {a : Option Addr} {c : Nat} (out : List UInt8) (hown : w.ownsRow base 5 1 (.slice a out.length c) out.length (byteCells out)) (hbase : base ≤ w.heap.size) (off n : Nat) (h1 : 1 ≤ off) (h2 : off ≤ out.length) (hn : out.length + n ≤ 1000000000000) :
    Calls Tryz.prog 256 #[.slice a out.length c, .int .i64 (off : Int), .int .i64 (n : Int)] w fun r w' => ∃ a' c', r = .returned (.slice a' (out.length + n) c') ∧ w'.ownsRow base 5 1 (.slice a' (out.length + n) c') (out.length + n) (byteCells (againL off n out)) ∧ Below base w w' := by
  obtain ⟨i0, hi, hz0, hz1, hz2⟩ := info_parts info8
  have HO := hid hown
  clear hown
  go_enter Tryz.func256, Tryz.ntmps256
  go_wp2_with fail
  go_loopw [0, 8] (fun o i wr => ∃ (k : Nat) (J : List UInt8) (aJ : Option Addr) (cJ : Nat), k ≤ n ∧ i = .int .i64 k ∧ o = .slice aJ J.length cJ ∧ wr.ownsRow base 5 1 (.slice aJ J.length cJ) J.length (byteCells J) ∧ Hid (againL off n out = againL off (n - k) J) ∧ Hid (J.length = out.length + k) ∧ Below base w wr ∧ base ≤ wr.heap.size) (fun _ i _ => n - (intOf i).toNat)
  case atStart => exact ⟨0, out, a, c, Nat.zero_le _, rfl, rfl, HO.out, hid rfl, hid rfl, Below.refl _ _, hbase⟩
  case round =>
    obtain ⟨k, J, aJ, cJ, hk, rfl, rfl, ho, hJ, hln, hb, hbs⟩ := hrel
    have HJO := hid ho
    rcases Nat.lt_or_ge k n with hlt | hge
    · have d1 : decide ((k : Int) < (n : Int)) = true := decide_eq_true (by omega)
      have d1' : decide (k < n) = true := decide_eq_true hlt
      have hml : off ≤ J.length := by have := hln.out; omega
      have hJm : J.length + 1 ≤ 1000000000000 := by have := hln.out; omega
      have hst : Hid (againL off (n - k) J = againL off (n - (k + 1)) (J ++ [J.getD (J.length - off) 0])) := hid (by rw [show n - k = (n - (k + 1)) + 1 by omega]; rfl)
      have hgd : J.getD (J.length - off) 0 = J[J.length - off]'(by omega) := by rw [List.getD_eq_getElem?_getD, List.getElem?_eq_getElem (by omega)]; rfl
      rw [hgd] at hst
      obtain ⟨gb, ob, hA, hgb, hc⟩ := byte_at (own_bytes rfl ho) (i := J.length - off) (by omega)
      subst hA
      obtain ⟨m, hm⟩ : ∃ m, m = J.length - off := ⟨_, rfl⟩
      have e1 : (J.length : Int) - (off : Int) = (m : Int) := by omega
      generalize J[J.length - off]'(by omega) = x at *
      rw [← hm] at hc
      have i1 : (m : Int) < (J.length : Int) := by omega
      have i2 : (0 : Int) ≤ (m : Int) := by omega
      clear ho hgd hm
      go_wp2_with (at_builtin; go_loud (refine wpList_append_src rfl _ _ _ rfl base 5 i0 (.int .u8 0) 1 1 Tryz.underlying28 hi hz0 hz1 hz2 rfl (by decide) (.slice (some ⟨gb, ob, none⟩) J.length cJ) J.length (byteCells J) rfl (own_below HJO.out (by (repeat (first | exact Below.refl _ _ | assumption | (refine below_alloc ?_ _) | (refine Below.setCell ?_ (by first | omega | (simp; done) | (simp; omega)) _) | (refine Below.drew ?_) | (refine below_drewN ?_ _) | (refine below_then (by assumption) ?_))))) (some ⟨wr.heap.size, 0, none⟩) 1 1 [.int .u8 (x.toNat : Int)] rfl (src_new1 wr 5 _ rfl rfl rfl) (byteCells_one1 x) (by simp only [maxLen]; omega) (by omega) (by simp; omega) ?_; intro v' w3 hown3 hgrow3 hat3; obtain ⟨a3, c3, rfl⟩ := own_form hown3; have HO3 := hid hown3; have HG3 := hid hgrow3; clear hown3 hgrow3 hat3))
      have ho3 := HO3.out
      rw [byteCells_snoc, show J.length + 1 = (J ++ [x]).length by simp] at ho3
      have hb3 : Below base wr w3 := (Below.grown (Below.refl _ _) HG3.out (by simp; omega) (fun g e => (HJO.out.lt g e).1)) |> (fun h => (below_alloc (Below.refl _ _) _ |>.mono hbs).trans h)
      have HO4 := hid ho3
      have hs3 := hb3.size
      clear ho3 hc
      go_roundw
      case rel => exact ⟨k + 1, J ++ [x], a3, c3, by omega, by go_num, by simp, HO4.out, hid (hJ.out.trans hst.out), hid (by simp; have := hln.out; omega), hb.trans hb3, by omega⟩
      case measure => simp [intOf]; omega
    · obtain rfl : k = n := by omega
      have d1 : decide ((k : Int) < (k : Int)) = false := decide_eq_false (by omega)
      have hfin : Hid (againL off k out = J) := hid (by rw [hJ.out, Nat.sub_self]; rfl)
      clear ho
      go_wp2
      go_ret
      have hl : J.length = out.length + k := hln.out
      rw [hfin.out, ← hl]
      exact ⟨_, _, rfl, HJO.out, hb⟩

end Go.Proofs.YtkipiefcnjfdjaaGreat
namespace Go.Proofs.YtkipiefcnjfdjaaGreat
open Go.RowKit Go.Bs Go.Maps
set_option linter.unusedVariables false
set_option linter.unusedSimpArgs false

theorem byteCells_app' (l l' : List UInt8) : byteCells l ++ byteCells l' = byteCells (l ++ l') := by simp [byteCells]
structure XInv (w W : World) (B : List UInt8) (a : Option Addr) (s : Rs) (out : List UInt8) (aO : Option Addr) (cO : Nat) : Prop where
  rd : RdAt W (w.heap.size + 1) B a s
  dat : rBytes.r (· < w.heap.size) W [.slice a B.length B.length] B
  fl : Blk W w.heap.size 48 #[.int .i64 0, .int .i64 0]
  own : W.ownsRow (w.heap.size + 2) 5 1 (.slice aO out.length cO) out.length (byteCells out)
  be : Below w.heap.size w W
  sz : w.heap.size + 2 ≤ W.heap.size
section
variable {w W W' : World} {B : List UInt8} {a : Option Addr} {s s' : Rs} {out out' : List UInt8} {aO aO' : Option Addr} {cO cO' : Nat}
theorem XInv.later (h : XInv w W B a s out aO cO) (hb : Below W.heap.size W W') : XInv w W' B a s out aO cO :=
  ⟨h.rd.later hb, rBytes.keep h.dat fun q hq => hb.block q (by have := h.sz; omega), h.fl.later hb, own_below h.own hb, below_then hb h.be, Nat.le_trans h.sz hb.size⟩
theorem own_tch {base : Nat} {e : TypeId} {size : Nat} {v : Value} {n : Nat} {xs : List Value} {g : Nat} (h : W.ownsRow base e size v n xs) (hg : g < base) (hb : Tch (· = g) W W') : W'.ownsRow base e size v n xs := by
  refine ⟨h.1, ?_⟩
  rcases h.2 with h0 | ⟨g', cap, cur, h1, h2, h3, h4⟩
  · exact .inl h0
  · exact .inr ⟨g', cap, cur, h1, h2, (hb.block _ (Blk.lt h3) (by omega)).trans h3, h4⟩
theorem XInv.step (h : XInv w W B a s out aO cO) (k : RdStep W (w.heap.size + 1) B a s' W') : XInv w W' B a s' out aO cO :=
  ⟨k.1, rBytes.keep h.dat fun q hq => k.2.block q (by have := h.sz; omega) (by omega), h.fl.tch k.2 (by omega), own_tch h.own (by omega) k.2, h.be.trans (k.below h.be.size (by omega)), Nat.le_trans h.sz k.size⟩
theorem XInv.row (h : XInv w W B a s out aO cO) (hb : Below (w.heap.size + 2) W W') (ho : W'.ownsRow (w.heap.size + 2) 5 1 (.slice aO' out'.length cO') out'.length (byteCells out')) : XInv w W' B a s out' aO' cO' := by
  have hd := rBytes.keep h.dat (w' := W') fun q hq => hb.block q (by omega)
  exact ⟨⟨h.rd.blk.below hb (by omega), rBytes.mono hd fun q hq => ⟨by have := h.sz; have := hb.size; omega, by omega⟩, h.rd.ok⟩, hd, h.fl.below hb (by omega), ho, h.be.trans (hb.mono (by omega)), Nat.le_trans h.sz hb.size⟩
end
def cellI (W : World) (g i : Nat) : Int := intOf ((W.cell? ⟨g, i, none⟩).getD undef)
theorem RdAt.cells {w : World} {g : Nat} {B : List UInt8} {a : Option Addr} {s : Rs} (h : RdAt w g B a s) : cellI w g 1 = s.p ∧ cellI w g 2 = s.k := by
  have c1 := h.blk.cell 1
  have c2 := h.blk.cell 2
  simp at c1 c2
  unfold cellI
  rw [c1, c2]
  exact ⟨rfl, rfl⟩
def exMu (L g : Nat) (W : World) : Nat := if cellI W g 2 = 0 then L + 1 - (cellI W g 1).toNat else 0
theorem exMu_is {w : World} {g : Nat} {B : List UInt8} {a : Option Addr} {s : Rs} (h : RdAt w g B a s) : exMu B.length g w = if s.k = 0 then B.length + 1 - s.p else 0 := by
  unfold exMu
  rw [h.cells.1, h.cells.2]
  simp
theorem exMu_lt {w w' : World} {g : Nat} {B : List UInt8} {a : Option Addr} {s s' : Rs} (h : RdAt w g B a s) (h' : RdAt w' g B a s') (hk : s.k = 0) (hp : s.p < B.length) (hs : s'.k = 0 → s.p < s'.p) : exMu B.length g w' < exMu B.length g w := by
  rw [exMu_is h, exMu_is h', if_pos hk]
  split
  · have := hs (by assumption); omega
  · omega
def exIn (bound : Int) (out : List UInt8) : Prop := out = [] ∨ (out.length : Int) ≤ bound
theorem exIn_len {bound : Int} {out : List UInt8} (h : exIn bound out) (hb : -9223372036854775808 ≤ bound ∧ bound ≤ 1048576) : out.length ≤ 1048576 ∧ -9223372036854775808 ≤ bound - (out.length : Int) := by
  rcases h with rfl | h
  · simp; omega
  · omega
theorem exIn_step {B : List UInt8} {bound : Int} {s : Rs} {out : List UInt8} (h : exIn bound out) : exIn bound (exStep B bound s out).2 := by
  by_cases hk : (exStep B bound s out).1.k = 0
  · exact .inr (exStep_more hk).2
  · rw [exStep_len hk]; exact h

set_option maxRecDepth 100000 in
set_option maxHeartbeats 12800000 in
theorem expand_bytes (w : World) (B : List UInt8) (a : Option Addr) (n c : Nat) (hl : rBytes.r (· < w.heap.size) w [.slice a n c] B) (hB : B.length ≤ 1000000000) (bound : Int) (hbd : -9223372036854775808 ≤ bound ∧ bound ≤ 1048576) :
    Calls Tryz.prog 214 #[.slice a n c, .int .i64 bound] w fun r w' => ∃ v, r = .returned (.tuple #[v, .agg #[.int .i64 (exB B bound).2.1, .int .i64 (exB B bound).2.2]]) ∧ rBytes.r (fun q => w.heap.size ≤ q ∧ q < w'.heap.size) w' [v] (exB B bound).1 ∧ Below w.heap.size w w' := by
  obtain ⟨rfl, hm, hcc, hcm⟩ := sl_len hl
  obtain ⟨i0, hi, hz0, hz1, hz2⟩ := info_parts info8
  have hcap : rBytes.r (· < w.heap.size) w [.slice a B.length B.length] B := by
    obtain ⟨a', c', e, h1, h2, h3⟩ := hl
    simp at e
    obtain ⟨rfl, rfl⟩ := e
    exact rSl_mk rfl (Nat.le_refl _) (by simp [maxLen]; omega) h3
  have HL := hid hl
  have HCAP := hid hcap
  clear hl hcap
  go_enter Tryz.func214, Tryz.ntmps214
  go_wp2
  refine wp_scope_two 1 0 (by omega)
    (fun a' W => ∃ (s : Rs) (out : List UInt8) (aO : Option Addr) (cO : Nat) (rest : Hid (exR B bound s out = exR B bound ⟨0, 0, 0⟩ [])) (u2 u3 u8 u9 u10 u11 u12 u13 u14 u15 u16 u17 u18 u19 u20 u21 u22 u23 u24 u25 u26 u27 u28 u29 u30 u31 u32 u33 u34 u35 u36 u37 u38 u39 u40 u41 u42 u43 u44 u45 u46 u47 u48 u49 u50 u51 u52 u53 u54 u55 u56 u57 u58 u59 u60 u61 u62 u63 u64 u65 u66 u67 u68 u69 u70 : Value), XInv w W B a s out aO cO ∧ exIn bound out ∧ a' = { tmps := #[.slice a B.length c, .int .i64 bound, u2, u3, .slice none 0 0, .pointer (some ⟨w.heap.size, 0, none⟩), .pointer (some ⟨w.heap.size + 1, 0, none⟩), .slice aO out.length cO, u8, u9, u10, u11, u12, u13, u14, u15, u16, u17, u18, u19, u20, u21, u22, u23, u24, u25, u26, u27, u28, u29, u30, u31, u32, u33, u34, u35, u36, u37, u38, u39, u40, u41, u42, u43, u44, u45, u46, u47, u48, u49, u50, u51, u52, u53, u54, u55, u56, u57, u58, u59, u60, u61, u62, u63, u64, u65, u66, u67, u68, u69, u70], defers := [] })
    (fun a' W => ∃ (s : Rs) (out : List UInt8) (aO : Option Addr) (cO : Nat) (rest : Hid (exR B bound ⟨0, 0, 0⟩ [] = (s, out))) (u2 u3 u8 u9 u10 u11 u12 u13 u14 u15 u16 u17 u18 u19 u20 u21 u22 u23 u24 u25 u26 u27 u28 u29 u30 u31 u32 u33 u34 u35 u36 u37 u38 u39 u40 u41 u42 u43 u44 u45 u46 u47 u48 u49 u50 u51 u52 u53 u54 u55 u56 u57 u58 u59 u60 u61 u62 u63 u64 u65 u66 u67 u68 u69 u70 : Value), XInv w W B a s out aO cO ∧ exIn bound out ∧ a' = { tmps := #[.slice a B.length c, .int .i64 bound, u2, u3, .slice none 0 0, .pointer (some ⟨w.heap.size, 0, none⟩), .pointer (some ⟨w.heap.size + 1, 0, none⟩), .slice aO out.length cO, u8, u9, u10, u11, u12, u13, u14, u15, u16, u17, u18, u19, u20, u21, u22, u23, u24, u25, u26, u27, u28, u29, u30, u31, u32, u33, u34, u35, u36, u37, u38, u39, u40, u41, u42, u43, u44, u45, u46, u47, u48, u49, u50, u51, u52, u53, u54, u55, u56, u57, u58, u59, u60, u61, u62, u63, u64, u65, u66, u67, u68, u69, u70], defers := [] })
    (fun _ W => exMu B.length (w.heap.size + 1) W) rfl rfl ?_ ?_ ?_
  · rintro a' W ⟨s, out, aO, cO, hex, u2, u3, u8, u9, u10, u11, u12, u13, u14, u15, u16, u17, u18, u19, u20, u21, u22, u23, u24, u25, u26, u27, u28, u29, u30, u31, u32, u33, u34, u35, u36, u37, u38, u39, u40, u41, u42, u43, u44, u45, u46, u47, u48, u49, u50, u51, u52, u53, u54, u55, u56, u57, u58, u59, u60, u61, u62, u63, u64, u65, u66, u67, u68, u69, u70, hI, hin, rfl⟩
    have hlen := exIn_len hin hbd
    have hok := hI.rd.ok
    have hpl := hok.le
    have HI := hid hI
    have HIN := hid hin
    have HLF := hid (rd_left W hI.rd)
    have hsz := hI.sz
    clear hI hin
    by_cases hp : s.p < B.length
    · have e0 : (((B.length : Int) - (s.p : Int)) == 0) = false := by rw [beq_eq_false_iff_ne]; omega
      by_cases hk : s.k = 0
      · have hgo := exR_go (bound := bound) (out := out) hok hp hk
        rw [hex.out] at hgo
        have hmore := exStep_more (B := B) (bound := bound) (s := s) (out := out)
        have hin2 := hid (exIn_step (B := B) (s := s) HIN.out)
        have hst2 : exStep B bound s out = exStep B bound s out := rfl
        conv at hst2 => rhs; unfold exStep
        generalize exStep B bound s out = ES at *
        have hhead := hid (fun (W : World) (h : RdAt W (w.heap.size + 1) B a s) => token_head W h (by omega))
        have hhok := Rs.head_ok (B := B) hok
        have hhle : (s.head B).2.2 ≤ 1048576 := by
          by_cases h0 : (s.head B).1.k = 0
          · exact (Rs.head_more h0).2.2.2.2
          · rw [(Rs.head_bad h0).2]; omega
        have hh1 : (s.head B).2.1 = true → 1 ≤ ((s.head B).1.offset B).2 ∨ ((s.head B).1.offset B).1.k ≠ 0 := fun _ => by
          by_cases h0 : ((s.head B).1.offset B).1.k = 0
          · left; rw [(Rs.offset_more h0).2.2.2.1]; omega
          · right; exact h0
        have htake := hid (fun (W : World) (h : RdAt W (w.heap.size + 1) B a (s.head B).1) => rd_take W h ((s.head B).2.2 : Int) (by omega) (by omega))
        have htl : ((s.head B).1.take B ((s.head B).2.2 : Int)).2.length ≤ 1048576 := by
          by_cases h0 : ((s.head B).1.take B ((s.head B).2.2 : Int)).1.k = 0
          · rw [(Rs.take_more h0).2.2]; omega
          · rw [Rs.take_bad h0]; simp
        have hoff := hid (fun (W : World) (h : RdAt W (w.heap.size + 1) B a (s.head B).1) => token_offset W h (by omega))
        have hatp := hid (fun (W : World) (h : RdAt W (w.heap.size + 1) B a (s.head B).1) => rd_at W h)
        have hfail := hid (fun (W : World) (h : RdAt W (w.heap.size + 1) B a (s.head B).1) => rd_fail W h 11 s.p (by omega))
        have hfail2 := hid (fun (W : World) (h : RdAt W (w.heap.size + 1) B a ((s.head B).1.offset B).1) => rd_fail W h 10 (s.head B).1.p (by omega))
        have hfk := (Rs.fail_k (s := (s.head B).1) (c := 11) (at_ := (s.p : Int)) (by omega))
        have hfk2 := (Rs.fail_k (s := ((s.head B).1.offset B).1) (c := 10) (at_ := ((s.head B).1.p : Int)) (by omega))
        generalize (s.head B).1.fail 11 s.p = F1 at *
        generalize ((s.head B).1.offset B).1.fail 10 (s.head B).1.p = F2 at *
        generalize (s.head B).1.take B ((s.head B).2.2 : Int) = TK at *
        generalize (s.head B).1.offset B = OF at *
        generalize s.head B = H at *
        obtain ⟨s1, ic, m⟩ := H
        obtain ⟨s2, D⟩ := TK
        obtain ⟨s3, of⟩ := OF
        dsimp only at *
        have HK := hid hk
        have hG := rd_good
        have dk : decide (s.k = 0) = true := decide_eq_true hk
        have HGO := hid hgo
        have HMORE := hid hmore
        have hpx := hp
        have HST2 := hid hst2
        clear hk hgo hmore hst2 hG hok
        by_cases hb1 : bound - (out.length : Int) < (m : Int)
        · have d1 : decide (bound - (out.length : Int) < (m : Int)) = true := decide_eq_true hb1
          have hes := HST2.out
          rw [if_pos hb1] at hes
          subst hes
          have HGO2 := hid (HGO.out.trans (exR_stop (fun e => hfk e.2)))
          clear hb1 HST2
          go_wp2_with fail
          refine HLF.out.mono ?_
          rintro r w1 ⟨rfl, hb1⟩
          have hG := rd_good w1 (HI.out.rd.later hb1)
          rw [dk] at hG
          have HG := hid hG
          clear hG dk
          go_wp2_with fail
          refine HG.out.mono ?_
          rintro r w2 ⟨rfl, hb2⟩
          have HI2 := hid (HI.out.later (below_then hb2 hb1))
          have HAT := hid (rd_at w2 HI2.out.rd)
          go_wp2_with fail
          refine HAT.out.mono ?_
          rintro r w2' ⟨rfl, rfl⟩
          have HHD := hid (hhead.out w2 HI2.out.rd)
          go_wp2_with fail
          refine HHD.out.mono ?_
          rintro r w3 ⟨rfl, hst3⟩
          have HI3 := hid (HI2.out.step hst3)
          clear hst3

          have HFL := hid (hfail.out w3 HI3.out.rd)
          go_wp2_with fail
          refine HFL.out.mono ?_
          rintro r w4 ⟨rfl, hst4⟩
          have HI4 := hid (HI3.out.step hst4)
          clear hst4
          go_wp2
          go_step3
          exact .inr ⟨rfl, F1, out, aO, cO, HGO2, _, _, _, _, _, _, _, _, _, _, _, _, _, _, _, _, _, _, _, _, _, _, _, _, _, _, _, _, _, _, _, _, _, _, _, _, _, _, _, _, _, _, _, _, _, _, _, _, _, _, _, _, _, _, _, _, _, _, _, _, _, _, _, _, _, HI4.out, HIN.out, rfl⟩
        · have d1 : decide (bound - (out.length : Int) < (m : Int)) = false := decide_eq_false hb1
          have hes := HST2.out
          rw [if_neg hb1] at hes
          clear HST2
          cases ic
          · simp only [if_true] at hes
            subst hes
            clear hb1
            go_wp2_with fail
            refine HLF.out.mono ?_
            rintro r w1 ⟨rfl, hb1⟩
            have hG := rd_good w1 (HI.out.rd.later hb1)
            rw [dk] at hG
            have HG := hid hG
            clear hG dk
            go_wp2_with fail
            refine HG.out.mono ?_
            rintro r w2 ⟨rfl, hb2⟩
            have HI2 := hid (HI.out.later (below_then hb2 hb1))
            have HAT := hid (rd_at w2 HI2.out.rd)
            go_wp2_with fail
            refine HAT.out.mono ?_
            rintro r w2' ⟨rfl, rfl⟩
            have HHD := hid (hhead.out w2 HI2.out.rd)
            go_wp2_with fail
            refine HHD.out.mono ?_
            rintro r w3 ⟨rfl, hst3⟩
            have HI3 := hid (HI2.out.step hst3)
            clear hst3

            have HTK := hid (htake.out w3 HI3.out.rd)
            go_wp2_with fail
            refine HTK.out.mono ?_
            rintro r w4 ⟨v, rfl, hr, hst4⟩
            obtain ⟨aD, cD, hv, hr2, _⟩ := sl_form hr
            simp only [List.cons.injEq, and_true] at hv
            subst hv
            have HI4 := hid (HI3.out.step hst4)
            have HS4 := hid (src_bytes hr2)
            have HONE := hid (byteCells_one D)
            have hsz4 := HI4.out.sz
            clear hst4 hr hr2
            go_wp2_with (at_builtin; go_loud (refine wpList_append_src rfl _ _ _ rfl (w.heap.size + 2) 5 i0 (.int .u8 0) 1 1 Tryz.underlying28 hi hz0 hz1 hz2 rfl (by decide) (.slice aO out.length cO) out.length (byteCells out) rfl HI4.out.own aD D.length cD (byteCells D) rfl HS4.out HONE.out (by simp only [maxLen]; omega) (by omega) (by omega) ?_; intro v' w5 hown5 hgrow5 hat5; obtain ⟨a5, c5, rfl⟩ := own_form hown5; have HO5 := hid hown5; have HG5 := hid hgrow5; clear hown5 hgrow5 hat5))
            have ho := HO5.out
            rw [byteCells_app', show out.length + D.length = (out ++ D).length by simp] at ho
            have hb5 : Below (w.heap.size + 2) w4 w5 := Below.grown (Below.refl _ _) HG5.out (by omega) (fun g e => (HI4.out.own.lt g e).1)
            have HI5 := hid (HI4.out.row hb5 ho)
            clear ho hb5
            rw [show out.length + D.length = (out ++ D).length by simp]
            go_step3
            exact .inl ⟨rfl, ⟨s2, out ++ D, a5, c5, hid HGO.out.symm, _, _, _, _, _, _, _, _, _, _, _, _, _, _, _, _, _, _, _, _, _, _, _, _, _, _, _, _, _, _, _, _, _, _, _, _, _, _, _, _, _, _, _, _, _, _, _, _, _, _, _, _, _, _, _, _, _, _, _, _, _, _, _, _, _, HI5.out, hin2.out, rfl⟩, exMu_lt HI.out.rd HI5.out.rd HK.out hpx (fun h => (HMORE.out h).1)⟩
          · simp only [Bool.true_eq_false, if_false] at hes
            by_cases h3 : out.length < of
            · have d3 : decide ((out.length : Int) < (of : Int)) = true := decide_eq_true (by omega)
              have d3' : decide (out.length < of) = true := decide_eq_true h3
              rw [if_pos h3] at hes
              subst hes
              clear hb1
              go_wp2_with fail
              refine HLF.out.mono ?_
              rintro r w1 ⟨rfl, hb1⟩
              have hG := rd_good w1 (HI.out.rd.later hb1)
              rw [dk] at hG
              have HG := hid hG
              clear hG dk
              go_wp2_with fail
              refine HG.out.mono ?_
              rintro r w2 ⟨rfl, hb2⟩
              have HI2 := hid (HI.out.later (below_then hb2 hb1))
              have HAT := hid (rd_at w2 HI2.out.rd)
              go_wp2_with fail
              refine HAT.out.mono ?_
              rintro r w2' ⟨rfl, rfl⟩
              have HHD := hid (hhead.out w2 HI2.out.rd)
              go_wp2_with fail
              refine HHD.out.mono ?_
              rintro r w3 ⟨rfl, hst3⟩
              have HI3 := hid (HI2.out.step hst3)
              clear hst3

              have HATP := hid (hatp.out w3 HI3.out.rd)
              go_wp2_with fail
              refine HATP.out.mono ?_
              rintro r w3' ⟨rfl, rfl⟩
              have HOF := hid (hoff.out w3 HI3.out.rd)
              go_wp2_with fail
              refine HOF.out.mono ?_
              rintro r w4 ⟨rfl, hst4⟩
              have HI4 := hid (HI3.out.step hst4)
              clear hst4

              have HFL := hid (hfail2.out w4 HI4.out.rd)
              go_wp2_with fail
              refine HFL.out.mono ?_
              rintro r w5 ⟨rfl, hst5⟩
              have HI5 := hid (HI4.out.step hst5)
              have hG5 := rd_good w5 HI5.out.rd
              rw [decide_eq_false hfk2] at hG5
              have HG5 := hid hG5
              clear hst5 hG5
              go_wp2_with fail
              refine HG5.out.mono ?_
              rintro r w6 ⟨rfl, hb6⟩
              have HI6 := hid (HI5.out.later hb6)
              go_wp2
              go_step3
              exact .inl ⟨rfl, ⟨F2, out, aO, cO, hid HGO.out.symm, _, _, _, _, _, _, _, _, _, _, _, _, _, _, _, _, _, _, _, _, _, _, _, _, _, _, _, _, _, _, _, _, _, _, _, _, _, _, _, _, _, _, _, _, _, _, _, _, _, _, _, _, _, _, _, _, _, _, _, _, _, _, _, _, _, HI6.out, HIN.out, rfl⟩, exMu_lt HI.out.rd HI6.out.rd HK.out hpx (fun h => absurd h hfk2)⟩
            · have d3 : decide ((out.length : Int) < (of : Int)) = false := decide_eq_false (by omega)
              have d3' : decide (out.length < of) = false := decide_eq_false h3
              rw [if_neg h3] at hes
              by_cases h4 : s3.k = 0
              · have d4 : decide (s3.k = 0) = true := decide_eq_true h4
                rw [if_pos h4] at hes
                have hof1 : 1 ≤ of := by rcases hh1 rfl with h | h; · exact h
                                         · exact absurd h4 h
                subst hes
                go_wp2_with fail
                refine HLF.out.mono ?_
                rintro r w1 ⟨rfl, hb1⟩
                have hG := rd_good w1 (HI.out.rd.later hb1)
                rw [dk] at hG
                have HG := hid hG
                clear hG dk
                go_wp2_with fail
                refine HG.out.mono ?_
                rintro r w2 ⟨rfl, hb2⟩
                have HI2 := hid (HI.out.later (below_then hb2 hb1))
                have HAT := hid (rd_at w2 HI2.out.rd)
                go_wp2_with fail
                refine HAT.out.mono ?_
                rintro r w2' ⟨rfl, rfl⟩
                have HHD := hid (hhead.out w2 HI2.out.rd)
                go_wp2_with fail
                refine HHD.out.mono ?_
                rintro r w3 ⟨rfl, hst3⟩
                have HI3 := hid (HI2.out.step hst3)
                clear hst3

                have HATP := hid (hatp.out w3 HI3.out.rd)
                go_wp2_with fail
                refine HATP.out.mono ?_
                rintro r w3' ⟨rfl, rfl⟩
                have HOF := hid (hoff.out w3 HI3.out.rd)
                go_wp2_with fail
                refine HOF.out.mono ?_
                rintro r w4 ⟨rfl, hst4⟩
                have HI4 := hid (HI3.out.step hst4)
                clear hst4

                have hG5 := rd_good w4 HI4.out.rd
                rw [d4] at hG5
                have HG5 := hid hG5
                clear hG5 d4
                go_wp2_with fail
                refine HG5.out.mono ?_
                rintro r w6 ⟨rfl, hb6⟩
                have HI6 := hid (HI4.out.later hb6)
                have HAG := hid (expand_again w6 out HI6.out.own HI6.out.sz of m hof1 (by omega) (by omega))
                have HAL := hid (againL_len of m out)
                have HIN2 := hid hin2.out
                clear hb1
                go_wp2_with fail
                refine HAG.out.mono ?_
                rintro r w7 ⟨a7, c7, rfl, hown7, hb7⟩
                rw [← HAL.out] at hown7
                have HI7 := hid (HI6.out.row hb7 hown7)
                clear hown7
                go_wp2
                rw [← HAL.out]
                go_step3
                exact .inl ⟨rfl, ⟨s3, _, a7, c7, hid HGO.out.symm, _, _, _, _, _, _, _, _, _, _, _, _, _, _, _, _, _, _, _, _, _, _, _, _, _, _, _, _, _, _, _, _, _, _, _, _, _, _, _, _, _, _, _, _, _, _, _, _, _, _, _, _, _, _, _, _, _, _, _, _, _, _, _, _, _, HI7.out, HIN2.out, rfl⟩, exMu_lt HI.out.rd HI7.out.rd HK.out hpx (fun h => (HMORE.out h).1)⟩
              · have d4 : decide (s3.k = 0) = false := decide_eq_false h4
                rw [if_neg h4] at hes
                subst hes
                clear hb1
                go_wp2_with fail
                refine HLF.out.mono ?_
                rintro r w1 ⟨rfl, hb1⟩
                have hG := rd_good w1 (HI.out.rd.later hb1)
                rw [dk] at hG
                have HG := hid hG
                clear hG dk
                go_wp2_with fail
                refine HG.out.mono ?_
                rintro r w2 ⟨rfl, hb2⟩
                have HI2 := hid (HI.out.later (below_then hb2 hb1))
                have HAT := hid (rd_at w2 HI2.out.rd)
                go_wp2_with fail
                refine HAT.out.mono ?_
                rintro r w2' ⟨rfl, rfl⟩
                have HHD := hid (hhead.out w2 HI2.out.rd)
                go_wp2_with fail
                refine HHD.out.mono ?_
                rintro r w3 ⟨rfl, hst3⟩
                have HI3 := hid (HI2.out.step hst3)
                clear hst3

                have HATP := hid (hatp.out w3 HI3.out.rd)
                go_wp2_with fail
                refine HATP.out.mono ?_
                rintro r w3' ⟨rfl, rfl⟩
                have HOF := hid (hoff.out w3 HI3.out.rd)
                go_wp2_with fail
                refine HOF.out.mono ?_
                rintro r w4 ⟨rfl, hst4⟩
                have HI4 := hid (HI3.out.step hst4)
                clear hst4

                have hG5 := rd_good w4 HI4.out.rd
                rw [d4] at hG5
                have HG5 := hid hG5
                clear hG5 d4
                go_wp2_with fail
                refine HG5.out.mono ?_
                rintro r w6 ⟨rfl, hb6⟩
                have HI6 := hid (HI4.out.later hb6)
                go_wp2
                go_step3
                exact .inl ⟨rfl, ⟨s3, out, aO, cO, hid HGO.out.symm, _, _, _, _, _, _, _, _, _, _, _, _, _, _, _, _, _, _, _, _, _, _, _, _, _, _, _, _, _, _, _, _, _, _, _, _, _, _, _, _, _, _, _, _, _, _, _, _, _, _, _, _, _, _, _, _, _, _, _, _, _, _, _, _, _, HI6.out, HIN.out, rfl⟩, exMu_lt HI.out.rd HI6.out.rd HK.out hpx (fun h => absurd h h4)⟩
      · have dk : decide (s.k = 0) = false := decide_eq_false hk
        have hst := exR_stop (bound := bound) (out := out) (fun e => hk e.2 : ¬ (s.p < B.length ∧ s.k = 0))
        have HEX := hid (hex.out.symm.trans hst)
        clear hk hst hex
        go_wp2_with fail
        refine HLF.out.mono ?_
        rintro r w1 ⟨rfl, hb1⟩
        have hG := rd_good w1 (HI.out.rd.later hb1)
        rw [dk] at hG
        have HG := hid hG
        clear hG dk
        go_wp2_with fail
        refine HG.out.mono ?_
        rintro r w2 ⟨rfl, hb2⟩
        have HI2 := hid (HI.out.later (below_then hb2 hb1))
        go_wp2
        go_step3
        exact .inr ⟨rfl, s, out, aO, cO, HEX, _, _, _, _, _, _, _, _, _, _, _, _, _, _, _, _, _, _, _, _, _, _, _, _, _, _, _, _, _, _, _, _, _, _, _, _, _, _, _, _, _, _, _, _, _, _, _, _, _, _, _, _, _, _, _, _, _, _, _, _, _, _, _, _, _, HI2.out, HIN.out, rfl⟩
    · have e0 : (((B.length : Int) - (s.p : Int)) == 0) = true := by rw [beq_iff_eq]; omega
      have hst := exR_stop (bound := bound) (out := out) (fun e => hp e.1 : ¬ (s.p < B.length ∧ s.k = 0))
      have HEX := hid (hex.out.symm.trans hst)
      clear hst hex
      go_wp2_with fail
      refine HLF.out.mono ?_
      rintro r w1 ⟨rfl, hb1⟩
      have HI2 := hid (HI.out.later hb1)
      go_wp2
      go_step3
      exact .inr ⟨rfl, s, out, aO, cO, HEX, _, _, _, _, _, _, _, _, _, _, _, _, _, _, _, _, _, _, _, _, _, _, _, _, _, _, _, _, _, _, _, _, _, _, _, _, _, _, _, _, _, _, _, _, _, _, _, _, _, _, _, _, _, _, _, _, _, _, _, _, _, _, _, _, _, HI2.out, HIN.out, rfl⟩
  · rintro a' W ⟨s, out, aO, cO, hex, u2, u3, u8, u9, u10, u11, u12, u13, u14, u15, u16, u17, u18, u19, u20, u21, u22, u23, u24, u25, u26, u27, u28, u29, u30, u31, u32, u33, u34, u35, u36, u37, u38, u39, u40, u41, u42, u43, u44, u45, u46, u47, u48, u49, u50, u51, u52, u53, u54, u55, u56, u57, u58, u59, u60, u61, u62, u63, u64, u65, u66, u67, u68, u69, u70, hI, hin, rfl⟩
    have HI := hid hI
    have HFA := hid (rd_fault W hI.rd)
    have hsz := hI.sz
    have hle := exIn_len hin hbd
    have hex2 := exB_is B bound
    rw [hex.out] at hex2
    dsimp only at hex2
    clear hin hI hex
    by_cases hk : s.k = 0
    · rw [if_pos hk] at hex2
      have HX := hid hex2
      have dk : decide (s.k = 0) = true := decide_eq_true hk
      have HK := hid hk
      clear hk hex2
      go_wp2_with fail
      refine HFA.out.mono ?_
      rintro r w1 ⟨rfl, hb1⟩
      have hG := fault_good (w1.alloc (.cells #[.int .i64 s.k, .int .i64 s.f] 48)) s.k s.f
      rw [dk] at hG
      have HG := hid hG
      clear hG dk
      go_wp2_with fail
      refine HG.out.mono ?_
      rintro r w2 ⟨rfl, hb2⟩
      have hb12 : Below W.heap.size W w2 := below_then hb2 (below_alloc hb1 _)
      have HI2 := hid (HI.out.later hb12)
      have hfl := HI2.out.fl
      obtain ⟨y0, y1, g0, g1, l1⟩ := f_blk hfl
      have hV := own_bytes2 rfl HI2.out.own
      have HV := hid hV
      clear hfl hV
      go_wp2
      simp only [manyX]
      refine bodyPost_ret (v := .tuple #[.slice aO out.length cO, .agg #[.int .i64 0, .int .i64 0]]) (by simp [results, Tryz.results214, go_sem, y0, y1, l1]) rfl ⟨_, by rw [HX.out], ?_, ?_⟩
      · rw [HX.out]
        refine rBytes.mono (rBytes.keep HV.out fun q hq => ?_) fun q hq => ⟨by omega, by simp [World.setCell]; exact hq.2⟩
        repeat (rw [Below.heap_setCell _ _ _ _ (by dsimp only; omega)])
      · have hbe := HI2.out.be
        (repeat (first | with_reducible exact Below.refl _ _ | with_reducible assumption | (with_reducible refine below_alloc ?_ _) | (with_reducible refine Below.setCell ?_ (by first | omega | (simp; done) | (simp; omega)) _) | (with_reducible refine Below.drew ?_) | (with_reducible refine below_drewN ?_ _) | (refine below_then (by with_reducible assumption) ?_)))
    · rw [if_neg hk] at hex2
      have HX := hid hex2
      have dk : decide (s.k = 0) = false := decide_eq_false hk
      have HK := hid hk
      clear hk hex2
      go_wp2_with fail
      refine HFA.out.mono ?_
      rintro r w1 ⟨rfl, hb1⟩
      have hG := fault_good (w1.alloc (.cells #[.int .i64 s.k, .int .i64 s.f] 48)) s.k s.f
      rw [dk] at hG
      have HG := hid hG
      clear hG dk
      go_wp2_with fail
      refine HG.out.mono ?_
      rintro r w2 ⟨rfl, hb2⟩
      have hb12 : Below W.heap.size W w2 := below_then hb2 (below_alloc hb1 _)
      have HI2 := hid (HI.out.later hb12)
      have hfl := HI2.out.fl
      obtain ⟨y0, y1, g0, g1, l1⟩ := f_blk hfl
      obtain ⟨z0, z1, e0, e1, l2⟩ := f_blk (Blk.later (Blk.newAt _ _ _ rfl) hb2)
      have hbe := HI2.out.be
      clear hfl
      go_wp2_with fail
      go_region
      all_goals
        go_wp2
        simp only [manyX]
        refine bodyPost_ret (v := .tuple #[.slice none 0 0, .agg #[.int .i64 s.k, .int .i64 s.f]]) (by simp [results, Tryz.results214, go_sem, y0, y1, l1]) rfl ⟨_, by rw [HX.out], by rw [HX.out]; exact empty_bytes rfl rfl (by omega), ?_⟩
        (repeat (first | with_reducible exact Below.refl _ _ | with_reducible assumption | (with_reducible refine below_alloc ?_ _) | (with_reducible refine Below.setCell ?_ (by first | omega | (simp; done) | (simp; omega)) _) | (with_reducible refine Below.drew ?_) | (with_reducible refine below_drewN ?_ _) | (refine below_then (by with_reducible assumption) ?_)))
  · intro K hK
    have HN := hid (rd_new (w.alloc (.cells #[.int .i64 0, .int .i64 0] 48)) B a _ c (lift HL.out (by (repeat (first | with_reducible exact Below.refl _ _ | with_reducible assumption | (with_reducible refine below_alloc ?_ _) | (with_reducible refine Below.setCell ?_ (by first | omega | (simp; done) | (simp; omega)) _) | (with_reducible refine Below.drew ?_) | (with_reducible refine below_drewN ?_ _) | (refine below_then (by with_reducible assumption) ?_))))))
    go_wp2_with fail
    refine HN.out.mono ?_
    rintro r w1 ⟨rfl, hrd, hb⟩
    have hI : XInv w w1 B a ⟨0, 0, 0⟩ [] none 0 := ⟨by simpa using hrd, rBytes.keep HCAP.out fun q hq => (hb.block q (by simp; omega)).trans (Below.heap_alloc _ _ q hq), Blk.later (by (repeat (first | assumption | exact Blk.newAt _ _ _ (by first | (simp; done) | (simp; omega)) | refine Blk.alloc ?_ _ | refine Blk.drew ?_ | refine Blk.drewN ?_ _ | refine Blk.far ?_ (by first | (simp; done) | (simp; omega)) _))) hb, ⟨rfl, .inl ⟨rfl, rfl⟩⟩, by (repeat (first | with_reducible exact Below.refl _ _ | with_reducible assumption | (with_reducible refine below_alloc ?_ _) | (with_reducible refine Below.setCell ?_ (by first | omega | (simp; done) | (simp; omega)) _) | (with_reducible refine Below.drew ?_) | (with_reducible refine below_drewN ?_ _) | (refine below_then (by with_reducible assumption) ?_))), by have := hrd.blk.lt; simp at this; omega⟩
    have HI := hid hI
    clear hI hrd hb
    go_wp2
    go_step3
    rename_i hkk
    exact hkk _ _ (hK _ _ ⟨⟨0, 0, 0⟩, [], none, 0, hid rfl, _, _, _, _, _, _, _, _, _, _, _, _, _, _, _, _, _, _, _, _, _, _, _, _, _, _, _, _, _, _, _, _, _, _, _, _, _, _, _, _, _, _, _, _, _, _, _, _, _, _, _, _, _, _, _, _, _, _, _, _, _, _, _, _, _, HI.out, .inl rfl, rfl⟩)
end Go.Proofs.YtkipiefcnjfdjaaGreat
namespace Go.Proofs.YtkipiefcnjfdjaaGreat
open Go.RowKit Go.Bs Go.Maps
set_option linter.unusedVariables false
set_option linter.unusedSimpArgs false

theorem blockB_len (p : List UInt8) : (blockB p).length ≤ (varB p.length).length + p.length + 1 := by
  unfold blockB
  by_cases h : packR p = true
  · have h2 := h
    unfold packR at h2
    have h3 := of_decide_eq_true h2
    rw [if_pos h]
    simp; omega
  · rw [if_neg h]
    simp; omega

set_option maxRecDepth 100000 in
set_option maxHeartbeats 1600000 in
theorem block_bytes (w : World) (p : List UInt8) (a : Option Addr) (n c : Nat) (hl : rBytes.r (· < w.heap.size) w [.slice a n c] p) (hp : p.length ≤ 1048576) :
    Calls Tryz.prog 160 #[.slice a n c] w fun r w' => ∃ v, r = .returned (.tuple #[v, .int .i64 0]) ∧ rBytes.r (fun q => w.heap.size ≤ q ∧ q < w'.heap.size) w' [v] (blockB p) ∧ Below w.heap.size w w' := by
  obtain ⟨rfl, hm, _, _⟩ := sl_len hl
  have HS := hid (blob_size p.length (by omega) w)
  have hbl := blockB_len p
  have hvl := varB_len p.length
  have HL := hid hl
  clear hl
  generalize (varB p.length).length = k at *
  have hbK := hid hbl
  clear hbl
  go_enter Tryz.func160, Tryz.ntmps160
  go_wp2_with fail
  refine HS.out.mono ?_
  rintro r w1 ⟨rfl, hb1⟩
  have HN := hid (pen_new w1 (k + p.length + 1) (by omega))
  rw [show ((k + p.length + 1 : Nat) : Int) = (k : Int) + (p.length : Int) + 1 by omega] at HN
  have hs1 := hb1.size
  go_wp2_with fail
  refine HN.out.mono ?_
  rintro r w2 ⟨rfl, hp2, hb2⟩
  have hs2 := hb2.size
  have hbw2 := below_then hb2 hb1
  have HQ := hid (block_put w2 hp2 p a _ c (rBytes.mono (rBytes.keep HL.out fun q hq => hbw2.block q hq) fun q hq => ⟨by omega, fun hf => by have := (hp2.own_lt hf).1; omega⟩) hp (by have := hbK.out; simp; omega) (by have := hbK.out; simp; omega))
  have HP2 := hid hp2
  clear hp2
  go_wp2_with fail
  refine HQ.out.mono ?_
  rintro r w3 ⟨rfl, hst⟩
  have hb3 : Below w1.heap.size w2 w3 := HP2.out.below (Nat.le_refl _) (by omega) hst
  obtain ⟨a3, c3, hp3, _, _⟩ := hst
  rw [List.nil_append] at hp3
  have hs3 := hb3.size
  have hbw3 : Below w.heap.size w w3 := hbw2.trans (hb3.mono (by omega))
  have HB := hid (pen_bytes w3 hp3)
  clear hp3
  go_wp2_with fail
  refine HB.out.mono ?_
  rintro r w4 ⟨v, rfl, hv, hb4⟩
  have hbe := below_then hb4 hbw3
  have HV := hid (rBytes.mono (S' := fun q => w.heap.size ≤ q ∧ q < w4.heap.size) hv fun q hq => ⟨by have := hq.1; omega, hq.2⟩)
  clear hv
  go_wp2
  go_ret2
  exact ⟨_, rfl, HV.out, hbe⟩
end Go.Proofs.YtkipiefcnjfdjaaGreat
namespace Go.Proofs.YtkipiefcnjfdjaaGreat
open Go.RowKit Go.Bs Go.Maps
set_option linter.unusedVariables false
set_option linter.unusedSimpArgs false

/-- The fault's place lies within. -/
def Rs.inn (s : Rs) (L : Nat) : Prop := 0 ≤ s.f ∧ s.f ≤ L
theorem Rs.fail_in {s : Rs} {L : Nat} (h : s.inn L) {c at_ : Int} (h1 : 0 ≤ at_) (h2 : at_ ≤ L) : (s.fail c at_).inn L := by
  unfold Rs.fail; split
  · exact ⟨h1, h2⟩
  · exact h
theorem Rs.skip_in {s : Rs} {L : Nat} (h : s.ok L) (hi : s.inn L) (n : Int) : (s.skip L n).2.inn L := by
  have := h.le
  unfold Rs.skip Rs.inn at *
  split
  · split
    · dsimp only; omega
    · split
      · dsimp only; omega
      · dsimp only; omega
  · exact hi
theorem Rs.num_in {B : List UInt8} {s : Rs} (h : s.ok B.length) (hi : s.inn B.length) : (s.num B).1.inn B.length := by
  have hu := vget_used (B.drop s.p) 0 0
  have hl : (B.drop s.p).length = B.length - s.p := by simp
  have := h.le
  unfold Rs.num Rs.inn at *
  split
  · dsimp only
    split
    · omega
    · split
      · omega
      · rename_i h1 h2
        have := hu.2.2.2.2 h2
        omega
  · exact hi
theorem Rs.head_in {B : List UInt8} {s : Rs} (h : s.ok B.length) (hi : s.inn B.length) : (s.head B).1.inn B.length := by
  have hle := h.le
  have hn := Rs.num_in h hi
  unfold Rs.head; split
  · split
    · split
      · exact Rs.fail_in hn (by omega) (by omega)
      · exact hn
    · split
      · exact Rs.fail_in hn (by omega) (by omega)
      · exact hn
  · exact hn
theorem Rs.offset_in {B : List UInt8} {s : Rs} (h : s.ok B.length) (hi : s.inn B.length) : (s.offset B).1.inn B.length := by
  have hle := h.le
  have hn := Rs.num_in h hi
  unfold Rs.offset; dsimp only; split
  · exact Rs.fail_in hn (by omega) (by omega)
  · exact hn
theorem exStep_in {B : List UInt8} {bound : Int} {s : Rs} {out : List UInt8} (h : s.ok B.length) (hi : s.inn B.length) : (exStep B bound s out).1.inn B.length := by
  have hle := h.le
  have hh := Rs.head_in h hi
  have ho := Rs.head_ok h
  have hle2 := ho.le
  unfold exStep; split
  · exact Rs.fail_in hh (by omega) (by omega)
  · split
    · exact Rs.skip_in ho hh _
    · split
      · exact Rs.fail_in (Rs.offset_in ho hh) (by omega) (by omega)
      · split
        · exact Rs.offset_in ho hh
        · exact Rs.offset_in ho hh
theorem exF_in {B : List UInt8} {bound : Int} : ∀ (f : Nat) (s : Rs) (out : List UInt8), s.ok B.length → s.inn B.length → (exF B bound f s out).1.inn B.length
  | 0, s, out, _, h => h
  | f + 1, s, out, h1, h2 => by
    simp only [exF]; split
    · exact exF_in f _ _ (exStep_ok h1) (exStep_in h1 h2)
    · exact h2
theorem exF_fits {B : List UInt8} {bound : Int} : ∀ (f : Nat) (s : Rs) (out : List UInt8), exIn bound out → exIn bound (exF B bound f s out).2
  | 0, s, out, h => h
  | f + 1, s, out, h => by
    simp only [exF]; split
    · exact exF_fits f _ _ (exIn_step h)
    · exact h
theorem exB_facts (B : List UInt8) (bound : Int) : (exB B bound).1.length ≤ bound.toNat ∧ 0 ≤ (exB B bound).2.2 ∧ (exB B bound).2.2 ≤ B.length ∧ ((exB B bound).2.1 ≠ 0 → (exB B bound).1 = []) := by
  have h1 := exF_in (B := B) (bound := bound) B.length ⟨0, 0, 0⟩ [] ⟨Nat.zero_le _, fun _ => rfl⟩ ⟨by simp, by simp⟩
  have h2 := exF_fits (B := B) (bound := bound) B.length ⟨0, 0, 0⟩ [] (.inl rfl)
  unfold exB
  split
  · refine ⟨?_, by simp, by simp, by simp⟩
    rcases h2 with h | h
    · rw [h]; simp
    · dsimp only; omega
  · exact ⟨by simp, h1.1, h1.2, by simp⟩
theorem Rs.int_p {B : List UInt8} {s : Rs} {m : Int} : s.p ≤ (s.int B m).1.p := by
  unfold Rs.int Rs.most
  split
  · split
    · rw [Rs.fail_p]; exact Rs.num_p
    · exact Rs.num_p
  · rw [Rs.fail_p]; exact Rs.num_p
theorem Rs.byte_p {B : List UInt8} {s : Rs} (h : s.ok B.length) : s.p ≤ (s.byte B).1.p := Rs.skip_p h 1
theorem Rs.take_p {B : List UInt8} {s : Rs} (h : s.ok B.length) (n : Int) : s.p ≤ (s.take B n).1.p := Rs.skip_p h n
theorem Rs.blob_p {B : List UInt8} {s : Rs} (h : s.ok B.length) (m : Int) : s.p ≤ (s.blob B m).1.p := Nat.le_trans (Rs.int_p (m := m)) (Rs.take_p (Rs.int_ok h) _)
theorem Rs.blob_ok {B : List UInt8} {s : Rs} (h : s.ok B.length) (m : Int) : (s.blob B m).1.ok B.length := Rs.take_ok (Rs.int_ok h) _

def Rs.unp (B : List UInt8) (s : Rs) (n : Nat) : Rs × List UInt8 :=
  if (s.blob B 1048576).1.k = 0 then
    (if (exB (s.blob B 1048576).2 n).2.1 = 0 then
      (if (exB (s.blob B 1048576).2 n).1.length < n then ((s.blob B 1048576).1.fail 3 (s.blob B 1048576).1.p, (exB (s.blob B 1048576).2 n).1) else ((s.blob B 1048576).1, (exB (s.blob B 1048576).2 n).1))
    else ((s.blob B 1048576).1.fail (exB (s.blob B 1048576).2 n).2.1 ((exB (s.blob B 1048576).2 n).2.2 + (((s.blob B 1048576).1.p : Int) - ((s.blob B 1048576).2.length : Int))), []))
  else ((s.blob B 1048576).1, [])
theorem Rs.unp_ok {B : List UInt8} {s : Rs} (h : s.ok B.length) (n : Nat) : (s.unp B n).1.ok B.length := by
  unfold Rs.unp
  split
  · split
    · split
      · exact Rs.fail_ok (Rs.blob_ok h _) (by omega)
      · exact Rs.blob_ok h _
    · exact Rs.fail_ok (Rs.blob_ok h _) (by assumption)
  · exact Rs.blob_ok h _
theorem Rs.unp_p {B : List UInt8} {s : Rs} (h : s.ok B.length) (n : Nat) : s.p ≤ (s.unp B n).1.p := by
  have := Rs.blob_p h 1048576
  unfold Rs.unp
  split
  · split
    · split
      · rw [Rs.fail_p]; exact this
      · exact this
    · rw [Rs.fail_p]; exact this
  · exact this
theorem Rs.unp_len {B : List UInt8} {s : Rs} (n : Nat) : (s.unp B n).2.length ≤ n := by
  have := (exB_facts (s.blob B 1048576).2 n).1
  unfold Rs.unp
  split
  · split
    · split
      · dsimp only; omega
      · dsimp only; omega
    · simp
  · simp
/-- A payload's block, read loosely. -/
def Rs.loose (B : List UInt8) (s : Rs) (most : Int) : Rs × List UInt8 × Bool :=
  if ((s.int B (min most 1048576)).1.byte B).1.k = 0 then
    (if ((s.int B (min most 1048576)).1.byte B).2.toNat = 0 then
      (if (((s.int B (min most 1048576)).1.byte B).1.take B ((s.int B (min most 1048576)).2 : Int)).1.k = 0 then ((((s.int B (min most 1048576)).1.byte B).1.take B ((s.int B (min most 1048576)).2 : Int)).1, (((s.int B (min most 1048576)).1.byte B).1.take B ((s.int B (min most 1048576)).2 : Int)).2, decide (blockB (((s.int B (min most 1048576)).1.byte B).1.take B ((s.int B (min most 1048576)).2 : Int)).2 = (B.drop s.p).take ((((s.int B (min most 1048576)).1.byte B).1.take B ((s.int B (min most 1048576)).2 : Int)).1.p - s.p)))
      else ((((s.int B (min most 1048576)).1.byte B).1.take B ((s.int B (min most 1048576)).2 : Int)).1, [], false))
    else if ((s.int B (min most 1048576)).1.byte B).2.toNat = 1 then
      (if (((s.int B (min most 1048576)).1.byte B).1.unp B (s.int B (min most 1048576)).2).1.k = 0 then ((((s.int B (min most 1048576)).1.byte B).1.unp B (s.int B (min most 1048576)).2).1, (((s.int B (min most 1048576)).1.byte B).1.unp B (s.int B (min most 1048576)).2).2, decide (blockB (((s.int B (min most 1048576)).1.byte B).1.unp B (s.int B (min most 1048576)).2).2 = (B.drop s.p).take ((((s.int B (min most 1048576)).1.byte B).1.unp B (s.int B (min most 1048576)).2).1.p - s.p)))
      else ((((s.int B (min most 1048576)).1.byte B).1.unp B (s.int B (min most 1048576)).2).1, [], false))
    else (((s.int B (min most 1048576)).1.byte B).1.fail 7 ((((s.int B (min most 1048576)).1.byte B).1.p : Int) - 1), [], false))
  else (((s.int B (min most 1048576)).1.byte B).1, [], false)

theorem bytes_equal (x y : List UInt8) (a a' : Option Addr) (n c n' c' : Nat) (w : World) (hx : rBytes.r (· < w.heap.size) w [.slice a n c] x) (hy : rBytes.r (· < w.heap.size) w [.slice a' n' c'] y) :
    Calls Tryz.prog 161 #[.slice a n c, .slice a' n' c'] w fun r w' => r = .returned (.bool (decide (x = y))) ∧ w = w' := by
  obtain ⟨rfl, _, _, _⟩ := sl_len hx
  obtain ⟨rfl, _, _, _⟩ := sl_len hy
  have h1 := bytes_str (P := Tryz.prog) 28 9 5 Tryz.underlying28 Tryz.underlying5 Tryz.underlying9 hx
  have h2 := bytes_str (P := Tryz.prog) 28 9 5 Tryz.underlying28 Tryz.underlying5 Tryz.underlying9 hy
  have he : (x == y) = decide (x = y) := by
    by_cases h : x = y
    · simp [h]
    · simp [h]
  have HE := hid he; clear he hx hy
  go_enter Tryz.func161, Tryz.ntmps161
  go_wp2
  go_ret
  refine ⟨?_, rfl⟩
  rw [← HE.out]
  simp [go_sem]
theorem fault_shift (w : World) (k f b : Int) (hk : k ≠ 0) (hf : -1000000000000 ≤ f ∧ f ≤ 1000000000000) (hb : -1000000000000 ≤ b ∧ b ≤ 1000000000000) : Calls Tryz.prog 215 #[.agg #[.int .i64 k, .int .i64 f], .int .i64 b] w fun r w' => r = .returned (.agg #[.int .i64 k, .int .i64 (f + b)]) ∧ Below w.heap.size w w' := by
  go_enter Tryz.func215, Tryz.ntmps215
  go_wp2_with fail
  refine (fault_at _ k (f + b) hk).mono ?_
  rintro r w1 ⟨rfl, hb1⟩
  have B1 : Blk w1 (w.heap.size + 1) 48 #[.int .i64 0, .int .i64 0] := Blk.later (by (repeat (first | assumption | exact Blk.newAt _ _ _ (by first | (simp; done) | (simp; omega)) | refine Blk.alloc ?_ _ | refine Blk.drew ?_ | refine Blk.drewN ?_ _ | refine Blk.far ?_ (by first | (simp; done) | (simp; omega)) _))) hb1
  obtain ⟨y0, y1, g0, g1, l1⟩ := f_blk B1
  have hbw : Below w.heap.size w w1 := by (repeat (first | with_reducible exact Below.refl _ _ | with_reducible assumption | (with_reducible refine below_alloc ?_ _) | (with_reducible refine Below.setCell ?_ (by first | omega | (simp; done) | (simp; omega)) _) | (with_reducible refine Below.drew ?_) | (with_reducible refine below_drewN ?_ _) | (refine below_then (by with_reducible assumption) ?_)))
  clear B1 hb1
  go_wp2
  refine bodyPost_ret (v := .agg #[.int .i64 k, .int .i64 (f + b)]) (by simp [results, Tryz.results215, go_sem, y0, y1, l1]) rfl ⟨rfl, by (repeat (first | with_reducible exact Below.refl _ _ | with_reducible assumption | (with_reducible refine below_alloc ?_ _) | (with_reducible refine Below.setCell ?_ (by first | omega | (simp; done) | (simp; omega)) _) | (with_reducible refine Below.drew ?_) | (with_reducible refine below_drewN ?_ _) | (refine below_then (by with_reducible assumption) ?_)))⟩

set_option maxRecDepth 100000 in
set_option maxHeartbeats 3200000 in
theorem block_unpacked (w : World) {g : Nat} {B : List UInt8} {a : Option Addr} {s : Rs} (h : RdAt w g B a s) (hB : B.length ≤ 1000000000) (n : Nat) (hn : n ≤ 1048576) : Calls Tryz.prog 159 #[.pointer (some ⟨g, 0, none⟩), .int .i64 (n : Int)] w fun r w' => ∃ v, r = .returned v ∧ rBytes.r (fun q => w.heap.size ≤ q ∧ q < w'.heap.size) w' [v] (s.unp B n).2 ∧ RdStep w g B a (s.unp B n).1 w' := by
  have HB := hid (blob_read w h (by omega) 1048576 (by omega))
  have hbok := Rs.blob_ok h.ok 1048576
  have hlen : (s.blob B 1048576).2.length ≤ B.length := by
    unfold Rs.blob Rs.take
    dsimp only
    split
    · simp; omega
    · simp
  have hxf := exB_facts (s.blob B 1048576).2 n
  have hX := hid (fun (W : World) (aD : Option Addr) (nD cD : Nat) (hl : rBytes.r (· < W.heap.size) W [.slice aD nD cD] (s.blob B 1048576).2) => expand_bytes W (s.blob B 1048576).2 aD nD cD hl (by omega) n (by omega))
  have hpl := hbok.le
  unfold Rs.unp
  generalize s.blob B 1048576 = T at *
  generalize exB T.2 n = X at *
  obtain ⟨s1, D⟩ := T
  obtain ⟨out, k, f⟩ := X
  dsimp only at *
  have hgl := h.blk.lt
  have HDAT := hid h.dat
  clear h
  by_cases h1 : s1.k = 0
  · have dk : decide (s1.k = 0) = true := decide_eq_true h1
    rw [if_pos h1]
    have H1 := hid h1
    clear h1
    by_cases h2 : k = 0
    · have d2 : decide (k = 0) = true := decide_eq_true h2
      rw [if_pos h2]
      clear h2
      by_cases h3 : out.length < n
      · have d3 : decide ((out.length : Int) < (n : Int)) = true := decide_eq_true (by omega)
        have d3' : decide (out.length < n) = true := decide_eq_true h3
        rw [if_pos h3]
        clear h3
        dsimp only
        go_enter Tryz.func159, Tryz.ntmps159
        go_wp2_with fail
        refine HB.out.mono ?_
        rintro r w1 ⟨v, rfl, hr, hst⟩

        obtain ⟨aD, cD, hv, hr2, _⟩ := sl_form hr
        simp only [List.cons.injEq, and_true] at hv
        subst hv

        have HD1 := hid hr2
        have HST := hid hst
        have hs1 := hst.size
        have hG := rd_good w1 hst.1
        rw [dk] at hG
        have HG := hid hG
        clear hr hr2 hst hG dk
        go_wp2_with fail
        refine HG.out.mono ?_
        rintro r w2 ⟨rfl, hb2⟩
        have hs2 := hb2.size

        have HAT := hid (rd_at w2 (HST.out.1.later hb2))
        go_wp2_with fail
        refine HAT.out.mono ?_
        rintro r w2' ⟨rfl, rfl⟩
        go_wp2_with fail
        refine (hX.out w2 aD _ cD (rBytes.mono (rBytes.keep HD1.out fun q hq => hb2.block q hq.2) fun q hq => by omega)).mono ?_
        rintro r w3 ⟨v3, rfl, hr, hb3⟩
        obtain ⟨a3, c3, hv, hr2, _⟩ := sl_form hr
        simp only [List.cons.injEq, and_true] at hv
        subst hv
        have HR3 := hid hr2
        have hs3 := hb3.size
        clear hr hr2
        have hG := fault_good (w3.alloc (.cells #[.int .i64 k, .int .i64 f] 48)) k f
        rw [d2] at hG
        have HG3 := hid hG
        clear hG d2
        go_wp2_with fail
        refine HG3.out.mono ?_
        rintro r w4 ⟨rfl, hb4⟩
        have hb34 : Below w3.heap.size w3 w4 := by (repeat (first | with_reducible exact Below.refl _ _ | with_reducible assumption | (with_reducible refine below_alloc ?_ _) | (with_reducible refine Below.setCell ?_ (by first | omega | (simp; done) | (simp; omega)) _) | (with_reducible refine Below.drew ?_) | (with_reducible refine below_drewN ?_ _) | (refine below_then (by with_reducible assumption) ?_)))
        have hb14 : Below w1.heap.size w1 w4 := below_then hb34 (below_then hb3 hb2)
        have HST4 := hid (HST.out.then hb14)
        have hs4 := hb34.size
        have HKP := hid (rBytes.mono (S' := fun q => w2.heap.size ≤ q ∧ q < w4.heap.size) (rBytes.keep HR3.out fun q hq => hb34.block q hq.2) fun q hq => ⟨hq.1, by omega⟩)

        have HAT2 := hid (rd_at _ HST4.out.1)
        go_wp2_with fail
        refine HAT2.out.mono ?_
        rintro r w4' ⟨rfl, rfl⟩
        have HF := hid (rd_fail _ HST4.out.1 3 s1.p (by omega))
        go_wp2_with fail
        refine HF.out.mono ?_
        rintro r w5 ⟨rfl, hst5⟩
        have hs5 := hst5.size
        have HR5 := hid (rBytes.mono (S' := fun q => w.heap.size ≤ q ∧ q < w5.heap.size) (rBytes.keep HKP.out fun q hq => hst5.2.block q hq.2 (by omega)) fun q hq => ⟨by omega, by omega⟩)
        have HST5 := hid (RdStep.trans HST4.out.2 hst5)
        clear hst5
        go_wp2
        go_ret
        exact ⟨_, rfl, HR5.out, HST5.out⟩
      · have d3 : decide ((out.length : Int) < (n : Int)) = false := decide_eq_false (by omega)
        have d3' : decide (out.length < n) = false := decide_eq_false h3
        rw [if_neg h3]
        clear h3
        dsimp only
        go_enter Tryz.func159, Tryz.ntmps159
        go_wp2_with fail
        refine HB.out.mono ?_
        rintro r w1 ⟨v, rfl, hr, hst⟩

        obtain ⟨aD, cD, hv, hr2, _⟩ := sl_form hr
        simp only [List.cons.injEq, and_true] at hv
        subst hv

        have HD1 := hid hr2
        have HST := hid hst
        have hs1 := hst.size
        have hG := rd_good w1 hst.1
        rw [dk] at hG
        have HG := hid hG
        clear hr hr2 hst hG dk
        go_wp2_with fail
        refine HG.out.mono ?_
        rintro r w2 ⟨rfl, hb2⟩
        have hs2 := hb2.size

        have HAT := hid (rd_at w2 (HST.out.1.later hb2))
        go_wp2_with fail
        refine HAT.out.mono ?_
        rintro r w2' ⟨rfl, rfl⟩
        go_wp2_with fail
        refine (hX.out w2 aD _ cD (rBytes.mono (rBytes.keep HD1.out fun q hq => hb2.block q hq.2) fun q hq => by omega)).mono ?_
        rintro r w3 ⟨v3, rfl, hr, hb3⟩
        obtain ⟨a3, c3, hv, hr2, _⟩ := sl_form hr
        simp only [List.cons.injEq, and_true] at hv
        subst hv
        have HR3 := hid hr2
        have hs3 := hb3.size
        clear hr hr2
        have hG := fault_good (w3.alloc (.cells #[.int .i64 k, .int .i64 f] 48)) k f
        rw [d2] at hG
        have HG3 := hid hG
        clear hG d2
        go_wp2_with fail
        refine HG3.out.mono ?_
        rintro r w4 ⟨rfl, hb4⟩
        have hb34 : Below w3.heap.size w3 w4 := by (repeat (first | with_reducible exact Below.refl _ _ | with_reducible assumption | (with_reducible refine below_alloc ?_ _) | (with_reducible refine Below.setCell ?_ (by first | omega | (simp; done) | (simp; omega)) _) | (with_reducible refine Below.drew ?_) | (with_reducible refine below_drewN ?_ _) | (refine below_then (by with_reducible assumption) ?_)))
        have hb14 : Below w1.heap.size w1 w4 := below_then hb34 (below_then hb3 hb2)
        have HST4 := hid (HST.out.then hb14)
        have hs4 := hb34.size
        have HKP := hid (rBytes.mono (S' := fun q => w2.heap.size ≤ q ∧ q < w4.heap.size) (rBytes.keep HR3.out fun q hq => hb34.block q hq.2) fun q hq => ⟨hq.1, by omega⟩)

        have HR5 := hid (rBytes.mono (S' := fun q => w.heap.size ≤ q ∧ q < w4.heap.size) HKP.out fun q hq => ⟨by omega, by omega⟩)
        go_wp2
        go_ret
        exact ⟨_, rfl, HR5.out, HST4.out⟩
    · have d2 : decide (k = 0) = false := decide_eq_false h2
      rw [if_neg h2]
      have ho := hxf.2.2.2 h2
      subst ho
      have HK2 := hid h2
      clear h2
      dsimp only
      go_enter Tryz.func159, Tryz.ntmps159
      go_wp2_with fail
      refine HB.out.mono ?_
      rintro r w1 ⟨v, rfl, hr, hst⟩

      obtain ⟨aD, cD, hv, hr2, _⟩ := sl_form hr
      simp only [List.cons.injEq, and_true] at hv
      subst hv

      have HD1 := hid hr2
      have HST := hid hst
      have hs1 := hst.size
      have hG := rd_good w1 hst.1
      rw [dk] at hG
      have HG := hid hG
      clear hr hr2 hst hG dk
      go_wp2_with fail
      refine HG.out.mono ?_
      rintro r w2 ⟨rfl, hb2⟩
      have hs2 := hb2.size

      have HAT := hid (rd_at w2 (HST.out.1.later hb2))
      go_wp2_with fail
      refine HAT.out.mono ?_
      rintro r w2' ⟨rfl, rfl⟩
      go_wp2_with fail
      refine (hX.out w2 aD _ cD (rBytes.mono (rBytes.keep HD1.out fun q hq => hb2.block q hq.2) fun q hq => by omega)).mono ?_
      rintro r w3 ⟨v3, rfl, hr, hb3⟩
      obtain ⟨a3, c3, hv, hr2, _⟩ := sl_form hr
      simp only [List.cons.injEq, and_true] at hv
      subst hv
      have HR3 := hid hr2
      have hs3 := hb3.size
      clear hr hr2
      have hG := fault_good (w3.alloc (.cells #[.int .i64 k, .int .i64 f] 48)) k f
      rw [d2] at hG
      have HG3 := hid hG
      clear hG d2
      go_wp2_with fail
      refine HG3.out.mono ?_
      rintro r w4 ⟨rfl, hb4⟩
      have hb34 : Below w3.heap.size w3 w4 := by (repeat (first | with_reducible exact Below.refl _ _ | with_reducible assumption | (with_reducible refine below_alloc ?_ _) | (with_reducible refine Below.setCell ?_ (by first | omega | (simp; done) | (simp; omega)) _) | (with_reducible refine Below.drew ?_) | (with_reducible refine below_drewN ?_ _) | (refine below_then (by with_reducible assumption) ?_)))
      have hb14 : Below w1.heap.size w1 w4 := below_then hb34 (below_then hb3 hb2)
      have HST4 := hid (HST.out.then hb14)
      have hs4 := hb34.size
      have HKP := hid (rBytes.mono (S' := fun q => w2.heap.size ≤ q ∧ q < w4.heap.size) (rBytes.keep HR3.out fun q hq => hb34.block q hq.2) fun q hq => ⟨hq.1, by omega⟩)

      have B4 : Blk w4 w3.heap.size 48 #[.int .i64 k, .int .i64 f] := Blk.later (Blk.newAt _ _ _ rfl) hb4
      obtain ⟨y0, y1, g0, g1, l1⟩ := f_blk B4
      have HSH := hid (fault_shift w4 k f ((s1.p : Int) - (D.length : Int)) HK2.out (by omega) (by omega))
      go_wp2_with fail
      refine HSH.out.mono ?_
      rintro r w5 ⟨rfl, hb5⟩
      have B5 := B4.later hb5
      clear y0 y1 g0 g1 l1 B4
      obtain ⟨y0, y1, g0, g1, l1⟩ := f_blk B5
      clear B5
      have hk5 : RdStep w g B a s1 ((w5.setCell ⟨w3.heap.size, 0, none⟩ (.int .i64 k)).setCell ⟨w3.heap.size, 1, none⟩ (.int .i64 (f + ((s1.p : Int) - (D.length : Int))))) := by
        have h5 := HST4.out.then hb5
        refine ⟨⟨Blk.far (Blk.far h5.1.blk (by dsimp only; omega) _) (by dsimp only; omega) _, ?_, h5.1.ok⟩, Tch.setCell (Tch.setCell h5.2 (fun e => by dsimp only at e; omega) _) (fun e => by dsimp only at e; omega) _⟩
        refine rBytes.mono (rBytes.keep (S := fun q => q < w.heap.size ∧ q ≠ g) (rBytes.keep HDAT.out fun q hq => h5.2.block q hq.1 hq.2) fun q hq => ?_) fun q hq => ⟨by have := h5.size; simp [World.setCell]; omega, hq.2⟩
        have := hq.1
        rw [Below.heap_setCell _ _ _ _ (by dsimp only; omega), Below.heap_setCell _ _ _ _ (by dsimp only; omega)]
      have HK5 := hid hk5
      clear hk5
      have hsz5 : w.heap.size ≤ ((w5.setCell ⟨w3.heap.size, 0, none⟩ (.int .i64 k)).setCell ⟨w3.heap.size, 1, none⟩ (.int .i64 (f + ((s1.p : Int) - (D.length : Int))))).heap.size := HK5.out.size
      have HF := hid (rd_fail _ HK5.out.1 k (f + ((s1.p : Int) - (D.length : Int))) HK2.out)
      go_wp2_with fail
      refine HF.out.mono ?_
      rintro r w6 ⟨rfl, hst6⟩
      have HST6 := hid (RdStep.trans HK5.out.2 hst6)
      clear hst6 hsz5
      go_wp2
      go_ret
      exact ⟨_, rfl, empty_bytes rfl rfl (sl_len HR3.out).2.2.2, HST6.out⟩
  · have dk : decide (s1.k = 0) = false := decide_eq_false h1
    rw [if_neg h1]
    clear h1
    dsimp only
    go_enter Tryz.func159, Tryz.ntmps159
    go_wp2_with fail
    refine HB.out.mono ?_
    rintro r w1 ⟨v, rfl, hr, hst⟩

    obtain ⟨aD, cD, hv, hr2, _⟩ := sl_form hr
    simp only [List.cons.injEq, and_true] at hv
    subst hv

    have HD1 := hid hr2
    have HST := hid hst
    have hs1 := hst.size
    have hG := rd_good w1 hst.1
    rw [dk] at hG
    have HG := hid hG
    clear hr hr2 hst hG dk
    go_wp2_with fail
    refine HG.out.mono ?_
    rintro r w2 ⟨rfl, hb2⟩
    have hs2 := hb2.size

    have HST2 := hid (HST.out.then hb2)
    go_wp2
    go_ret
    exact ⟨_, rfl, empty_bytes rfl rfl (by omega), HST2.out⟩
end Go.Proofs.YtkipiefcnjfdjaaGreat
namespace Go.Proofs.YtkipiefcnjfdjaaGreat
open Go.RowKit Go.Bs Go.Maps
set_option linter.unusedVariables false
set_option linter.unusedSimpArgs false

set_option maxRecDepth 100000 in
set_option maxHeartbeats 3200000 in
theorem block_loose (w : World) {g : Nat} {B : List UInt8} {a : Option Addr} {s : Rs} (h : RdAt w g B a s) (hB : B.length ≤ 1000000000) (most : Int) (hm : -9223372036854775808 ≤ most ∧ most ≤ 9223372036854775807) :
    Calls Tryz.prog 95 #[.pointer (some ⟨g, 0, none⟩), .int .i64 most] w fun r w' => ∃ v, r = .returned (.tuple #[v, .bool (s.loose B most).2.2]) ∧ rBytes.r (fun q => w.heap.size ≤ q ∧ q < w'.heap.size) w' [v] (s.loose B most).2.1 ∧ RdStep w g B a (s.loose B most).1 w' := by
  have hgl := h.blk.lt
  have HA := hid (rd_at w h)
  have HI := hid (varint_int w h (by omega) (min most 1048576) (by omega))
  have hiok := Rs.int_ok h.ok (m := min most 1048576)
  have hip := Rs.int_p (B := B) (s := s) (m := min most 1048576)
  have hile : (s.int B (min most 1048576)).2 ≤ 1048576 := by have := Rs.int_le (B := B) (s := s) (m := min most 1048576); omega
  have hbok := Rs.byte_ok hiok
  have hbp := Rs.byte_p hiok
  have hBY := hid (fun (W : World) (h : RdAt W g B a (s.int B (min most 1048576)).1) => rd_byte W h)
  have hTK := hid (fun (W : World) (h : RdAt W g B a ((s.int B (min most 1048576)).1.byte B).1) => rd_take W h ((s.int B (min most 1048576)).2 : Int) (by omega) (by omega))
  have htp := Rs.take_p hbok ((s.int B (min most 1048576)).2 : Int)
  have htl : (((s.int B (min most 1048576)).1.byte B).1.take B ((s.int B (min most 1048576)).2 : Int)).2.length ≤ 1048576 := by
    by_cases h0 : (((s.int B (min most 1048576)).1.byte B).1.take B ((s.int B (min most 1048576)).2 : Int)).1.k = 0
    · rw [(Rs.take_more h0).2.2]; omega
    · rw [Rs.take_bad h0]; simp
  have hUN := hid (fun (W : World) (h : RdAt W g B a ((s.int B (min most 1048576)).1.byte B).1) => block_unpacked W h hB (s.int B (min most 1048576)).2 hile)
  have hup := Rs.unp_p hbok (s.int B (min most 1048576)).2
  have hul : (((s.int B (min most 1048576)).1.byte B).1.unp B (s.int B (min most 1048576)).2).2.length ≤ 1048576 := Nat.le_trans (Rs.unp_len _) hile
  have hFL := hid (fun (W : World) (h : RdAt W g B a ((s.int B (min most 1048576)).1.byte B).1) => rd_fail W h 7 ((((s.int B (min most 1048576)).1.byte B).1.p : Int) - 1) (by omega))
  have hfk := Rs.fail_k (s := ((s.int B (min most 1048576)).1.byte B).1) (c := 7) (at_ := ((((s.int B (min most 1048576)).1.byte B).1.p : Int) - 1)) (by omega)
  have hSN := hid (fun (W : World) (t : Rs) (h : RdAt W g B a t) (hp : s.p ≤ t.p) => rd_since W h s.p hp (by omega))
  have hbyp : ((s.int B (min most 1048576)).1.byte B).1.p ≤ B.length := hbok.le
  have hb1 : ((s.int B (min most 1048576)).1.byte B).1.k = 0 → 1 ≤ ((s.int B (min most 1048576)).1.byte B).1.p := fun hk => by rw [byte_p rfl hk]; omega
  unfold Rs.loose
  generalize ((s.int B (min most 1048576)).1.byte B).1.fail 7 ((((s.int B (min most 1048576)).1.byte B).1.p : Int) - 1) = F1 at *
  generalize ((s.int B (min most 1048576)).1.byte B).1.take B ((s.int B (min most 1048576)).2 : Int) = T at *
  generalize ((s.int B (min most 1048576)).1.byte B).1.unp B (s.int B (min most 1048576)).2 = U at *
  generalize (s.int B (min most 1048576)).1.byte B = Y at *
  generalize s.int B (min most 1048576) = N at *
  obtain ⟨sd, n⟩ := N
  obtain ⟨se, y⟩ := Y
  obtain ⟨st, DT⟩ := T
  obtain ⟨su, DU⟩ := U
  dsimp only at *
  have hSNt := hid (fun (W : World) (h : RdAt W g B a st) => hSN.out W st h (by omega))
  have hSNu := hid (fun (W : World) (h : RdAt W g B a su) => hSN.out W su h (by omega))
  generalize (B.drop s.p).take (st.p - s.p) = S1 at *
  generalize (B.drop s.p).take (su.p - s.p) = S2 at *
  clear hSN
  have hM : (if most ≤ 1048576 then most else 1048576) = min most 1048576 := by split <;> omega
  have hM2 : (if (1048576 : Int) < most then (1048576 : Int) else most) = min most 1048576 := by split <;> omega
  generalize min most 1048576 = M at *
  have hy := y.toNat_lt
  clear h
  by_cases hk : se.k = 0
  · have dk : decide (se.k = 0) = true := decide_eq_true hk
    have hp1 := hb1 hk
    rw [if_pos hk]
    clear hk hb1
    by_cases h0 : y.toNat = 0
    · have d0 : ((y.toNat : Int) == 0) = true := by rw [h0]; rfl
      rw [if_pos h0]
      clear h0
      by_cases ht : st.k = 0
      · have dt : decide (st.k = 0) = true := decide_eq_true ht
        rw [if_pos ht]
        clear ht
        dsimp only
        go_enter Tryz.func95, Tryz.ntmps95
        go_wp2_with fail
        refine HA.out.mono ?_
        rintro r w0 ⟨rfl, rfl⟩
        go_wp2_with fail
        refine HI.out.mono ?_
        rintro r w1 ⟨rfl, hst1⟩
        have HST1 := hid hst1
        have HBY := hid (hBY.out w1 hst1.1)
        clear hst1
        go_wp2_with fail
        refine HBY.out.mono ?_
        rintro r w2 ⟨rfl, hst2⟩
        have HST2 := hid (RdStep.trans HST1.out.2 hst2)
        have hG := rd_good w2 hst2.1
        rw [dk] at hG
        have HG := hid hG
        clear hst2 hG dk
        go_wp2_with fail
        refine HG.out.mono ?_
        rintro r w3 ⟨rfl, hb3⟩
        have HST3 := hid (HST2.out.then hb3)
        have hs3 := HST3.out.size

        have HC := hid (hTK.out w3 HST3.out.1)
        go_wp2_with fail
        refine HC.out.mono ?_
        rintro r w4 ⟨v, rfl, hr, hst4⟩
        obtain ⟨aD, cD, hv, hr2, _⟩ := sl_form hr
        simp only [List.cons.injEq, and_true] at hv
        subst hv
        have HR4 := hid hr2
        have hs4 := hst4.size
        have HST4 := hid (RdStep.trans HST3.out.2 hst4)
        have hG4 := rd_good w4 hst4.1
        rw [dt] at hG4
        have HG4 := hid hG4
        clear hr hr2 hst4 hG4 dt
        go_wp2_with fail
        refine HG4.out.mono ?_
        rintro r w5 ⟨rfl, hb5⟩
        have HST5 := hid (HST4.out.then hb5)
        have hs5 := hb5.size

        have HR5 := hid (rBytes.mono (S' := fun q => w3.heap.size ≤ q ∧ q < w5.heap.size) (rBytes.keep HR4.out fun q hq => hb5.block q hq.2) fun q hq => ⟨hq.1, by omega⟩)
        have HBB := hid (block_bytes w5 DT aD _ cD (rBytes.mono HR5.out fun q hq => hq.2) htl)
        go_wp2_with fail
        refine HBB.out.mono ?_
        rintro r w6 ⟨v6, rfl, hr, hb6⟩
        obtain ⟨a6, c6, hv, hr2, _⟩ := sl_form hr
        simp only [List.cons.injEq, and_true] at hv
        subst hv
        have HR6 := hid hr2
        have hs6 := hb6.size
        have HST6 := hid (HST5.out.then hb6)
        have HSN := hid (hSNt.out w6 HST6.out.1)
        clear hr hr2
        go_wp2_with fail
        refine HSN.out.mono ?_
        rintro r w7 ⟨v7, rfl, hr, hb7⟩
        obtain ⟨a7, c7, hv, hr2, _⟩ := sl_form hr
        simp only [List.cons.injEq, and_true] at hv
        subst hv
        have HR7 := hid hr2
        have hs7 := hb7.size
        have HST7 := hid (HST6.out.then hb7)
        have HEQ := hid (bytes_equal (blockB DT) S1 a6 a7 _ c6 _ c7 w7 (rBytes.mono (rBytes.keep HR6.out fun q hq => hb7.block q hq.2) fun q hq => by omega) (rBytes.mono HR7.out fun q hq => hq.2))
        generalize hq : decide (blockB DT = S1) = q at *
        have HQ := hid hq
        clear hq
        clear hr hr2
        go_wp2_with fail
        refine HEQ.out.mono ?_
        rintro r w8 ⟨rfl, rfl⟩
        have HRF := hid (rBytes.mono (S' := fun q => w.heap.size ≤ q ∧ q < w7.heap.size) (rBytes.keep HR5.out fun q hq => (hb7.block q (by omega)).trans (hb6.block q hq.2)) fun q hq => ⟨by omega, by omega⟩)
        go_wp2
        go_ret2
        rw [HQ.out]
        exact ⟨_, rfl, HRF.out, HST7.out⟩
      · have dt : decide (st.k = 0) = false := decide_eq_false ht
        rw [if_neg ht]
        clear ht
        dsimp only
        go_enter Tryz.func95, Tryz.ntmps95
        go_wp2_with fail
        refine HA.out.mono ?_
        rintro r w0 ⟨rfl, rfl⟩
        go_wp2_with fail
        refine HI.out.mono ?_
        rintro r w1 ⟨rfl, hst1⟩
        have HST1 := hid hst1
        have HBY := hid (hBY.out w1 hst1.1)
        clear hst1
        go_wp2_with fail
        refine HBY.out.mono ?_
        rintro r w2 ⟨rfl, hst2⟩
        have HST2 := hid (RdStep.trans HST1.out.2 hst2)
        have hG := rd_good w2 hst2.1
        rw [dk] at hG
        have HG := hid hG
        clear hst2 hG dk
        go_wp2_with fail
        refine HG.out.mono ?_
        rintro r w3 ⟨rfl, hb3⟩
        have HST3 := hid (HST2.out.then hb3)
        have hs3 := HST3.out.size

        have HC := hid (hTK.out w3 HST3.out.1)
        go_wp2_with fail
        refine HC.out.mono ?_
        rintro r w4 ⟨v, rfl, hr, hst4⟩
        obtain ⟨aD, cD, hv, hr2, _⟩ := sl_form hr
        simp only [List.cons.injEq, and_true] at hv
        subst hv
        have HR4 := hid hr2
        have hs4 := hst4.size
        have HST4 := hid (RdStep.trans HST3.out.2 hst4)
        have hG4 := rd_good w4 hst4.1
        rw [dt] at hG4
        have HG4 := hid hG4
        clear hr hr2 hst4 hG4 dt
        go_wp2_with fail
        refine HG4.out.mono ?_
        rintro r w5 ⟨rfl, hb5⟩
        have HST5 := hid (HST4.out.then hb5)
        have hs5 := hb5.size

        go_wp2
        go_ret2
        exact ⟨_, rfl, empty_bytes rfl rfl (by omega), HST5.out⟩
    · have d0 : ((y.toNat : Int) == 0) = false := by rw [beq_eq_false_iff_ne]; omega
      rw [if_neg h0]
      by_cases h1 : y.toNat = 1
      · have d1 : ((y.toNat : Int) == 1) = true := by rw [h1]; rfl
        rw [if_pos h1]
        clear h0 h1
        by_cases ht : su.k = 0
        · have dt : decide (su.k = 0) = true := decide_eq_true ht
          rw [if_pos ht]
          clear ht
          dsimp only
          go_enter Tryz.func95, Tryz.ntmps95
          go_wp2_with fail
          refine HA.out.mono ?_
          rintro r w0 ⟨rfl, rfl⟩
          go_wp2_with fail
          refine HI.out.mono ?_
          rintro r w1 ⟨rfl, hst1⟩
          have HST1 := hid hst1
          have HBY := hid (hBY.out w1 hst1.1)
          clear hst1
          go_wp2_with fail
          refine HBY.out.mono ?_
          rintro r w2 ⟨rfl, hst2⟩
          have HST2 := hid (RdStep.trans HST1.out.2 hst2)
          have hG := rd_good w2 hst2.1
          rw [dk] at hG
          have HG := hid hG
          clear hst2 hG dk
          go_wp2_with fail
          refine HG.out.mono ?_
          rintro r w3 ⟨rfl, hb3⟩
          have HST3 := hid (HST2.out.then hb3)
          have hs3 := HST3.out.size

          have HC := hid (hUN.out w3 HST3.out.1)
          go_wp2_with fail
          refine HC.out.mono ?_
          rintro r w4 ⟨v, rfl, hr, hst4⟩
          obtain ⟨aD, cD, hv, hr2, _⟩ := sl_form hr
          simp only [List.cons.injEq, and_true] at hv
          subst hv
          have HR4 := hid hr2
          have hs4 := hst4.size
          have HST4 := hid (RdStep.trans HST3.out.2 hst4)
          have hG4 := rd_good w4 hst4.1
          rw [dt] at hG4
          have HG4 := hid hG4
          clear hr hr2 hst4 hG4 dt
          go_wp2_with fail
          refine HG4.out.mono ?_
          rintro r w5 ⟨rfl, hb5⟩
          have HST5 := hid (HST4.out.then hb5)
          have hs5 := hb5.size

          have HR5 := hid (rBytes.mono (S' := fun q => w3.heap.size ≤ q ∧ q < w5.heap.size) (rBytes.keep HR4.out fun q hq => hb5.block q hq.2) fun q hq => ⟨hq.1, by omega⟩)
          have HBB := hid (block_bytes w5 DU aD _ cD (rBytes.mono HR5.out fun q hq => hq.2) hul)
          go_wp2_with fail
          refine HBB.out.mono ?_
          rintro r w6 ⟨v6, rfl, hr, hb6⟩
          obtain ⟨a6, c6, hv, hr2, _⟩ := sl_form hr
          simp only [List.cons.injEq, and_true] at hv
          subst hv
          have HR6 := hid hr2
          have hs6 := hb6.size
          have HST6 := hid (HST5.out.then hb6)
          have HSN := hid (hSNu.out w6 HST6.out.1)
          clear hr hr2
          go_wp2_with fail
          refine HSN.out.mono ?_
          rintro r w7 ⟨v7, rfl, hr, hb7⟩
          obtain ⟨a7, c7, hv, hr2, _⟩ := sl_form hr
          simp only [List.cons.injEq, and_true] at hv
          subst hv
          have HR7 := hid hr2
          have hs7 := hb7.size
          have HST7 := hid (HST6.out.then hb7)
          have HEQ := hid (bytes_equal (blockB DU) S2 a6 a7 _ c6 _ c7 w7 (rBytes.mono (rBytes.keep HR6.out fun q hq => hb7.block q hq.2) fun q hq => by omega) (rBytes.mono HR7.out fun q hq => hq.2))
          generalize hq : decide (blockB DU = S2) = q at *
          have HQ := hid hq
          clear hq
          clear hr hr2
          go_wp2_with fail
          refine HEQ.out.mono ?_
          rintro r w8 ⟨rfl, rfl⟩
          have HRF := hid (rBytes.mono (S' := fun q => w.heap.size ≤ q ∧ q < w7.heap.size) (rBytes.keep HR5.out fun q hq => (hb7.block q (by omega)).trans (hb6.block q hq.2)) fun q hq => ⟨by omega, by omega⟩)
          go_wp2
          go_ret2
          rw [HQ.out]
          exact ⟨_, rfl, HRF.out, HST7.out⟩
        · have dt : decide (su.k = 0) = false := decide_eq_false ht
          rw [if_neg ht]
          clear ht
          dsimp only
          go_enter Tryz.func95, Tryz.ntmps95
          go_wp2_with fail
          refine HA.out.mono ?_
          rintro r w0 ⟨rfl, rfl⟩
          go_wp2_with fail
          refine HI.out.mono ?_
          rintro r w1 ⟨rfl, hst1⟩
          have HST1 := hid hst1
          have HBY := hid (hBY.out w1 hst1.1)
          clear hst1
          go_wp2_with fail
          refine HBY.out.mono ?_
          rintro r w2 ⟨rfl, hst2⟩
          have HST2 := hid (RdStep.trans HST1.out.2 hst2)
          have hG := rd_good w2 hst2.1
          rw [dk] at hG
          have HG := hid hG
          clear hst2 hG dk
          go_wp2_with fail
          refine HG.out.mono ?_
          rintro r w3 ⟨rfl, hb3⟩
          have HST3 := hid (HST2.out.then hb3)
          have hs3 := HST3.out.size

          have HC := hid (hUN.out w3 HST3.out.1)
          go_wp2_with fail
          refine HC.out.mono ?_
          rintro r w4 ⟨v, rfl, hr, hst4⟩
          obtain ⟨aD, cD, hv, hr2, _⟩ := sl_form hr
          simp only [List.cons.injEq, and_true] at hv
          subst hv
          have HR4 := hid hr2
          have hs4 := hst4.size
          have HST4 := hid (RdStep.trans HST3.out.2 hst4)
          have hG4 := rd_good w4 hst4.1
          rw [dt] at hG4
          have HG4 := hid hG4
          clear hr hr2 hst4 hG4 dt
          go_wp2_with fail
          refine HG4.out.mono ?_
          rintro r w5 ⟨rfl, hb5⟩
          have HST5 := hid (HST4.out.then hb5)
          have hs5 := hb5.size

          go_wp2
          go_ret2
          exact ⟨_, rfl, empty_bytes rfl rfl (by omega), HST5.out⟩
      · have d1 : ((y.toNat : Int) == 1) = false := by rw [beq_eq_false_iff_ne]; omega
        rw [if_neg h1]
        clear h0 h1
        have dt : decide (F1.k = 0) = false := decide_eq_false hfk
        dsimp only
        go_enter Tryz.func95, Tryz.ntmps95
        go_wp2_with fail
        refine HA.out.mono ?_
        rintro r w0 ⟨rfl, rfl⟩
        go_wp2_with fail
        refine HI.out.mono ?_
        rintro r w1 ⟨rfl, hst1⟩
        have HST1 := hid hst1
        have HBY := hid (hBY.out w1 hst1.1)
        clear hst1
        go_wp2_with fail
        refine HBY.out.mono ?_
        rintro r w2 ⟨rfl, hst2⟩
        have HST2 := hid (RdStep.trans HST1.out.2 hst2)
        have hG := rd_good w2 hst2.1
        rw [dk] at hG
        have HG := hid hG
        clear hst2 hG dk
        go_wp2_with fail
        refine HG.out.mono ?_
        rintro r w3 ⟨rfl, hb3⟩
        have HST3 := hid (HST2.out.then hb3)
        have hs3 := HST3.out.size

        have HAT3 := hid (rd_at w3 HST3.out.1)
        go_wp2_with fail
        refine HAT3.out.mono ?_
        rintro r w3' ⟨rfl, rfl⟩
        have HC := hid (hFL.out w3 HST3.out.1)
        go_wp2_with fail
        refine HC.out.mono ?_
        rintro r w4 ⟨rfl, hst4⟩
        have HST4 := hid (RdStep.trans HST3.out.2 hst4)
        have hG4 := rd_good w4 hst4.1
        rw [dt] at hG4
        have HG4 := hid hG4
        clear hst4 hG4 dt
        go_wp2_with fail
        refine HG4.out.mono ?_
        rintro r w5 ⟨rfl, hb5⟩
        have HST5 := hid (HST4.out.then hb5)

        go_wp2
        go_ret2
        exact ⟨_, rfl, empty_bytes rfl rfl (by omega), HST5.out⟩
  · have dk : decide (se.k = 0) = false := decide_eq_false hk
    rw [if_neg hk]
    clear hk hb1
    dsimp only
    go_enter Tryz.func95, Tryz.ntmps95
    go_wp2_with fail
    refine HA.out.mono ?_
    rintro r w0 ⟨rfl, rfl⟩
    go_wp2_with fail
    refine HI.out.mono ?_
    rintro r w1 ⟨rfl, hst1⟩
    have HST1 := hid hst1
    have HBY := hid (hBY.out w1 hst1.1)
    clear hst1
    go_wp2_with fail
    refine HBY.out.mono ?_
    rintro r w2 ⟨rfl, hst2⟩
    have HST2 := hid (RdStep.trans HST1.out.2 hst2)
    have hG := rd_good w2 hst2.1
    rw [dk] at hG
    have HG := hid hG
    clear hst2 hG dk
    go_wp2_with fail
    refine HG.out.mono ?_
    rintro r w3 ⟨rfl, hb3⟩
    have HST3 := hid (HST2.out.then hb3)
    have hs3 := HST3.out.size

    go_wp2
    go_ret2
    exact ⟨_, rfl, empty_bytes rfl rfl (by omega), HST3.out⟩
end Go.Proofs.YtkipiefcnjfdjaaGreat
namespace Go.Proofs.YtkipiefcnjfdjaaGreat
open Go.RowKit Go.Bs Go.Maps
set_option linter.unusedVariables false
set_option linter.unusedSimpArgs false

def Rs.strict (s : Rs × List UInt8 × Bool) : Rs × List UInt8 := if s.1.k = 0 then (if s.2.2 = true then (s.1, s.2.1) else (s.1.fail 12 s.1.p, [])) else (s.1, [])
theorem block_strict (w : World) {g : Nat} {B : List UInt8} {a : Option Addr} {s : Rs} (h : RdAt w g B a s) (q : Bool) (p : Nat) :
    Calls Tryz.prog 156 #[.bool q, .func (Fn.func 153) #[.pointer (some ⟨g, 0, none⟩)] #[], .int .i64 (p : Int)] w fun r w' => r = .returned (.tuple #[]) ∧ RdStep w g B a (if q = true then s else s.fail 12 p) w' := by
  have HF := hid (rd_fail w h 12 p (by omega))
  have HH := hid h
  clear h
  cases q
  · rw [if_neg (by simp)]
    go_enter Tryz.func156, Tryz.ntmps156
    go_wp2_with fail
    refine HF.out.mono ?_
    rintro r w1 ⟨rfl, hst⟩
    have HST := hid hst
    clear hst
    go_wp2
    go_end0
    exact ⟨rfl, HST.out⟩
  · rw [if_pos rfl]
    go_enter Tryz.func156, Tryz.ntmps156
    go_wp2
    go_end0
    exact ⟨rfl, RdStep.refl HH.out⟩
set_option maxRecDepth 100000 in
set_option maxHeartbeats 3200000 in
theorem block_read (w : World) {g : Nat} {B : List UInt8} {a : Option Addr} {s : Rs} (h : RdAt w g B a s) (hB : B.length ≤ 1000000000) (most : Int) (hm : -9223372036854775808 ≤ most ∧ most ≤ 9223372036854775807) :
    Calls Tryz.prog 93 #[.pointer (some ⟨g, 0, none⟩), .int .i64 most] w fun r w' => ∃ v, r = .returned v ∧ rBytes.r (fun q => w.heap.size ≤ q ∧ q < w'.heap.size) w' [v] (Rs.strict (s.loose B most)).2 ∧ RdStep w g B a (Rs.strict (s.loose B most)).1 w' := by
  have HLS := hid (block_loose w h hB most hm)
  have hgl := h.blk.lt
  unfold Rs.strict
  generalize s.loose B most = L at *
  obtain ⟨s1, D, q⟩ := L
  dsimp only at *
  have hfk := Rs.fail_k (s := s1) (c := 12) (at_ := (s1.p : Int)) (by omega)
  have hfb : s1.k ≠ 0 → s1.fail 12 s1.p = s1 := fun hk => Rs.fail_of_bad hk
  have hSC := hid (fun (W : World) (h : RdAt W g B a s1) => block_strict W h q s1.p)
  clear h
  by_cases hk : s1.k = 0
  · rw [if_pos hk]
    cases q
    · have d1 : decide ((s1.fail 12 s1.p).k = 0) = false := decide_eq_false hfk
      rw [if_neg (by simp)]
      rw [if_neg (by simp)] at hSC
      generalize s1.fail 12 s1.p = s2 at *
      clear hk hfk hfb
      go_enter Tryz.func93, Tryz.ntmps93
      go_wp2_with fail
      refine HLS.out.mono ?_
      rintro r w1 ⟨v, rfl, hr, hst⟩

      obtain ⟨aD, cD, hv, hr2, _⟩ := sl_form hr
      simp only [List.cons.injEq, and_true] at hv
      subst hv

      have HST := hid hst
      have HR := hid hr2
      have hs1 := hst.size
      have HAT := hid (rd_at w1 hst.1)
      have HSC := hid (hSC.out w1 hst.1)
      clear hr hr2 hst
      go_wp2_with fail
      refine HAT.out.mono ?_
      rintro r w1' ⟨rfl, rfl⟩
      go_wp2_with fail
      refine HSC.out.mono ?_
      rintro r w2 ⟨rfl, hst2⟩
      have HST2 := hid (RdStep.trans HST.out.2 hst2)
      have HRK := hid (rBytes.mono (S' := fun q => w.heap.size ≤ q ∧ q < w2.heap.size) (rBytes.keep HR.out fun q hq => hst2.2.block q hq.2 (by omega)) fun q hq => ⟨hq.1, Nat.lt_of_lt_of_le hq.2 hst2.size⟩)
      have hG := rd_good w2 hst2.1
      rw [d1] at hG
      have HG := hid hG
      clear hst2 hG d1
      go_wp2_with fail
      refine HG.out.mono ?_
      rintro r w3 ⟨rfl, hb3⟩
      have HST3 := hid (HST2.out.then hb3)

      go_wp2
      go_ret
      exact ⟨_, rfl, empty_bytes rfl rfl (by omega), HST3.out⟩
    · have d1 : decide (s1.k = 0) = true := decide_eq_true hk
      rw [if_pos rfl]
      rw [if_pos rfl] at hSC
      clear hk hfk hfb
      go_enter Tryz.func93, Tryz.ntmps93
      go_wp2_with fail
      refine HLS.out.mono ?_
      rintro r w1 ⟨v, rfl, hr, hst⟩

      obtain ⟨aD, cD, hv, hr2, _⟩ := sl_form hr
      simp only [List.cons.injEq, and_true] at hv
      subst hv

      have HST := hid hst
      have HR := hid hr2
      have hs1 := hst.size
      have HAT := hid (rd_at w1 hst.1)
      have HSC := hid (hSC.out w1 hst.1)
      clear hr hr2 hst
      go_wp2_with fail
      refine HAT.out.mono ?_
      rintro r w1' ⟨rfl, rfl⟩
      go_wp2_with fail
      refine HSC.out.mono ?_
      rintro r w2 ⟨rfl, hst2⟩
      have HST2 := hid (RdStep.trans HST.out.2 hst2)
      have HRK := hid (rBytes.mono (S' := fun q => w.heap.size ≤ q ∧ q < w2.heap.size) (rBytes.keep HR.out fun q hq => hst2.2.block q hq.2 (by omega)) fun q hq => ⟨hq.1, Nat.lt_of_lt_of_le hq.2 hst2.size⟩)
      have hG := rd_good w2 hst2.1
      rw [d1] at hG
      have HG := hid hG
      clear hst2 hG d1
      go_wp2_with fail
      refine HG.out.mono ?_
      rintro r w3 ⟨rfl, hb3⟩
      have HST3 := hid (HST2.out.then hb3)

      have HRK3 := hid (rBytes.mono (S' := fun q => w.heap.size ≤ q ∧ q < w3.heap.size) (rBytes.keep HRK.out fun q hq => hb3.block q hq.2) fun q hq => ⟨hq.1, Nat.lt_of_lt_of_le hq.2 hb3.size⟩)
      go_wp2
      go_ret
      exact ⟨_, rfl, HRK3.out, HST3.out⟩
  · rw [if_neg hk]
    have hfb2 := hfb hk
    have d1 : decide (s1.k = 0) = false := decide_eq_false hk
    have hSC2 : Hid (∀ (W : World) (h : RdAt W g B a s1), Calls Tryz.prog 156 #[.bool q, .func (Fn.func 153) #[.pointer (some ⟨g, 0, none⟩)] #[], .int .i64 (s1.p : Int)] W fun r w' => r = .returned (.tuple #[]) ∧ RdStep W g B a s1 w') := hid (fun W h => by
      have := hSC.out W h
      rw [hfb2] at this
      cases q
      · rw [if_neg (by simp)] at this; exact this
      · rw [if_pos rfl] at this; exact this)
    clear hk hfk hfb hfb2 hSC
    have hSC := hSC2
    clear hSC2
    cases q
    all_goals
      go_enter Tryz.func93, Tryz.ntmps93
      go_wp2_with fail
      refine HLS.out.mono ?_
      rintro r w1 ⟨v, rfl, hr, hst⟩

      obtain ⟨aD, cD, hv, hr2, _⟩ := sl_form hr
      simp only [List.cons.injEq, and_true] at hv
      subst hv

      have HST := hid hst
      have HR := hid hr2
      have hs1 := hst.size
      have HAT := hid (rd_at w1 hst.1)
      have HSC := hid (hSC.out w1 hst.1)
      clear hr hr2 hst
      go_wp2_with fail
      refine HAT.out.mono ?_
      rintro r w1' ⟨rfl, rfl⟩
      go_wp2_with fail
      refine HSC.out.mono ?_
      rintro r w2 ⟨rfl, hst2⟩
      have HST2 := hid (RdStep.trans HST.out.2 hst2)
      have HRK := hid (rBytes.mono (S' := fun q => w.heap.size ≤ q ∧ q < w2.heap.size) (rBytes.keep HR.out fun q hq => hst2.2.block q hq.2 (by omega)) fun q hq => ⟨hq.1, Nat.lt_of_lt_of_le hq.2 hst2.size⟩)
      have hG := rd_good w2 hst2.1
      rw [d1] at hG
      have HG := hid hG
      clear hst2 hG d1
      go_wp2_with fail
      refine HG.out.mono ?_
      rintro r w3 ⟨rfl, hb3⟩
      have HST3 := hid (HST2.out.then hb3)

      go_wp2
      go_ret
      exact ⟨_, rfl, empty_bytes rfl rfl (by omega), HST3.out⟩
end Go.Proofs.YtkipiefcnjfdjaaGreat
namespace Go.Proofs.YtkipiefcnjfdjaaGreat
open Go.RowKit Go.Bs Go.Maps
set_option linter.unusedVariables false
set_option linter.unusedSimpArgs false

theorem Rs.loose_ok {B : List UInt8} {s : Rs} (h : s.ok B.length) (most : Int) : (s.loose B most).1.ok B.length := by
  have hb := Rs.byte_ok (B := B) (Rs.int_ok h (m := min most 1048576))
  unfold Rs.loose
  split
  · split
    · split
      · exact Rs.take_ok hb _
      · exact Rs.take_ok hb _
    · split
      · split
        · exact Rs.unp_ok hb _
        · exact Rs.unp_ok hb _
      · exact Rs.fail_ok hb (by omega)
  · exact hb
end Go.Proofs.YtkipiefcnjfdjaaGreat
namespace Go.Proofs.YtkipiefcnjfdjaaGreat
open Go.RowKit Go.Bs Go.Maps
set_option linter.unusedVariables false
set_option linter.unusedSimpArgs false

theorem vget_varF (rest : List UInt8) : ∀ (f i x y : Nat), f + i = 9 → (0 < i → 0 < x) → x * 128 ^ i < 18446744073709551616 → vget i y (varF f x ++ rest) = (y + x * 128 ^ i, i + (varF f x).length, 0)
  | 0, i, x, y, h, hp, hx => by
    obtain rfl : i = 9 := by omega
    have hx2 : x < 2 := by omega
    have ht : (UInt8.ofNat x).toNat = x := by simp; omega
    have := hp (by omega)
    simp only [varF, List.cons_append, List.nil_append, List.length_cons, List.length_nil]
    unfold vget
    rw [ht, if_neg (by omega), if_neg (by omega), if_pos (by omega)]
  | f + 1, i, x, y, h, hp, hx => by
    simp only [varF]
    by_cases h128 : x < 128
    · rw [if_pos h128]
      have ht : (UInt8.ofNat x).toNat = x := by simp; omega
      simp only [List.cons_append, List.nil_append, List.length_cons, List.length_nil]
      unfold vget
      rw [ht, if_neg (by omega), if_neg (by omega), if_pos (by omega)]
    · rw [if_neg h128]
      have ht : (UInt8.ofNat (128 + x % 128)).toNat = 128 + x % 128 := by simp; omega
      simp only [List.cons_append, List.length_cons]
      unfold vget
      rw [ht, if_neg (by omega), if_neg (by omega), if_neg (by omega)]
      have hdm : x = 128 * (x / 128) + x % 128 := (Nat.div_add_mod x 128).symm
      have he : x / 128 * 128 ^ (i + 1) + x % 128 * 128 ^ i = x * 128 ^ i := by
        rw [Nat.pow_succ]
        generalize 128 ^ i = k
        conv => rhs; rw [hdm]
        rw [Nat.add_mul, Nat.mul_comm k 128, ← Nat.mul_assoc, Nat.mul_comm 128]
      rw [vget_varF rest f (i + 1) (x / 128) _ (by omega) (fun _ => by omega) (by omega)]
      refine Prod.ext ?_ (Prod.ext ?_ rfl)
      · dsimp only
        rw [show (128 + x % 128) % 128 = x % 128 by omega]
        omega
      · dsimp only; omega
theorem vget_varB (x : Nat) (rest : List UInt8) (hx : x < 18446744073709551616) : vget 0 0 (varB x ++ rest) = (x, (varB x).length, 0) := by
  have := vget_varF rest 9 0 x 0 rfl (fun h => by omega) (by simpa using hx)
  unfold varB
  rw [this]; simp
theorem Rs.num_varB {B rest : List UInt8} {p x : Nat} (hx : x < 18446744073709551616) (h : B.drop p = varB x ++ rest) : (⟨p, 0, 0⟩ : Rs).num B = (⟨p + (varB x).length, 0, 0⟩, x) := by
  unfold Rs.num
  rw [if_pos rfl]
  dsimp only
  rw [h, vget_varB x rest hx]
  rfl
theorem drop_more {B D rest : List UInt8} {p : Nat} (h : B.drop p = D ++ rest) : B.drop (p + D.length) = rest := by
  rw [← List.drop_drop, h]; simp
theorem drop_room {B D rest : List UInt8} {p : Nat} (h : B.drop p = D ++ rest) (hp : p ≤ B.length) : p + D.length + rest.length = B.length := by
  have := congrArg List.length h
  simp at this
  omega
theorem Rs.int_pre {B rest : List UInt8} {p x : Nat} {m : Int} (hx : x < 18446744073709551616) (h : B.drop p = varB x ++ rest) (hm : (x : Int) ≤ m) : (⟨p, 0, 0⟩ : Rs).int B m = (⟨p + (varB x).length, 0, 0⟩, x) := by
  unfold Rs.int Rs.most
  rw [if_pos (by omega), Rs.num_varB hx h, if_neg (by dsimp only; omega)]
end Go.Proofs.YtkipiefcnjfdjaaGreat
namespace Go.Proofs.YtkipiefcnjfdjaaGreat
open Go.RowKit Go.Bs Go.Maps
set_option linter.unusedVariables false
set_option linter.unusedSimpArgs false

/-- A falling list, read. -/
def Rs.falls (B : List UInt8) : Nat → Rs → Int → List Int → Rs × List Int
  | 0, s, _, out => (s, out)
  | n + 1, s, below, out =>
    if (s.num B).1.k = 0 then
      (if below ≤ ((s.num B).2 : Int) then ((s.num B).1.fail 13 s.p, []) else Rs.falls B n (s.num B).1 (below - (s.num B).2 - 1) (out ++ [below - (s.num B).2 - 1]))
    else ((s.num B).1, [])
def Rs.delta (B : List UInt8) (s : Rs) (below : Int) (most : Int) : Rs × List Int := Rs.falls B (s.int B most).2 (s.int B most).1 below []
/-- A link's number behind another one's. -/
def Rs.stream (B : List UInt8) (s : Rs) (prev : Option Int) : Rs × Int :=
  match prev with
  | none => ((s.num B).1, ((s.num B).2 : Int))
  | some q => (if 18446744073709551615 - q ≤ ((s.num B).2 : Int) then (s.num B).1.fail 13 s.p else (s.num B).1, ((s.num B).2 : Int) + q + 1)
def Rs.linksF (B : List UInt8) (pos : Int) : Nat → Rs → Option Int → List Link → Rs × List Link
  | 0, s, _, out => (s, out)
  | n + 1, s, prev, out =>
    if ((s.stream B prev).1.delta B pos 4).1.k = 0 then Rs.linksF B pos n ((s.stream B prev).1.delta B pos 4).1 (some (s.stream B prev).2) (out ++ [⟨(s.stream B prev).2, ((s.stream B prev).1.delta B pos 4).2⟩])
    else (((s.stream B prev).1.delta B pos 4).1, [])
def Rs.links (B : List UInt8) (s : Rs) (pos : Int) : Rs × List Link := Rs.linksF B pos (s.int B 16).2 (s.int B 16).1 none []
/-- An entry's head. -/
def Rs.ehead (B : List UInt8) (s : Rs) (pos most : Int) : Rs × List Link × Nat :=
  if ((s.links B pos).1.int B most).1.k = 0 then (((s.links B pos).1.int B most).1, (s.links B pos).2, ((s.links B pos).1.int B most).2) else (((s.links B pos).1.int B most).1, [], 0)
def Rs.heads (B : List UInt8) : Nat → Rs → Int → Int → List (List Link × Nat) → Rs × List (List Link × Nat)
  | 0, s, _, _, out => (s, out)
  | n + 1, s, pos, left, out =>
    if (s.ehead B pos left).1.k = 0 then Rs.heads B n (s.ehead B pos left).1 (pos + 1) (left - (s.ehead B pos left).2.2) (out ++ [(s.ehead B pos left).2]) else ((s.ehead B pos left).1, [])
def sizesN (l : List (List Link × Nat)) : Nat := (l.map Prod.snd).sum
def dealE : List (List Link × Nat) → List UInt8 → List Entry
  | [], _ => []
  | (l, n) :: r, D => ⟨l, D.take n⟩ :: dealE r (D.drop n)
def Rs.ep (B : List UInt8) (s : Rs) : Rs × Nat := if (s.num B).1.k = 0 then (if epR ((s.num B).2 : Int) = true then s.num B else ((s.num B).1.fail 3 s.p, 0)) else ((s.num B).1, 0)
def Rs.po (B : List UInt8) (s : Rs) : Rs × Nat := if (s.num B).1.k = 0 then (if poR ((s.num B).2 : Int) = true then s.num B else ((s.num B).1.fail 3 s.p, 0)) else ((s.num B).1, 0)
/-- What stands ahead of the heads: the epoch, the base, how many. -/
def Rs.bfront (B : List UInt8) (s : Rs) : Rs × Nat × Nat × Nat :=
  ((if fitsR (((s.ep B).1.po B).2 : Int) (((s.ep B).1.po B).1.int B 16).2 = true then (((s.ep B).1.po B).1.int B 16).1 else (((s.ep B).1.po B).1.int B 16).1.fail 3 ((s.ep B).1.po B).1.p), (s.ep B).2, ((s.ep B).1.po B).2, (((s.ep B).1.po B).1.int B 16).2)
/-- What is behind the heads. -/
def Rs.bblock (blk : Rs → Rs × List UInt8 × Bool) (h : Rs × List (List Link × Nat)) : Rs × List Entry × Bool :=
  let p := blk h.1
  let u : Rs := if sizesN h.2 = p.2.1.length then p.1 else p.1.fail 3 h.1.p
  (u, dealE h.2 p.2.1, p.2.2)
def noBatch : Batch := ⟨0, 0, []⟩
def Rs.batch (B : List UInt8) (blk : Rs → Rs × List UInt8 × Bool) (s : Rs) : Rs × Batch × Bool :=
  let f := s.bfront B
  if f.1.k = 0 then
    let u := Rs.bblock blk (Rs.heads B f.2.2.2 f.1 (f.2.2.1 : Int) 1048576 [])
    if u.1.k = 0 then (u.1, ⟨(f.2.1 : Int), (f.2.2.1 : Int), u.2.1⟩, u.2.2) else (u.1, noBatch, false)
  else (f.1, noBatch, false)
/-- A block, by the strict reader. -/
def blkS (B : List UInt8) (s : Rs) : Rs × List UInt8 × Bool := ((Rs.strict (s.loose B 1048576)).1, (Rs.strict (s.loose B 1048576)).2, true)
def blkL (B : List UInt8) (s : Rs) : Rs × List UInt8 × Bool := s.loose B 1048576

theorem Rs.falls_put {B rest : List UInt8} : ∀ (l : List Int) (below : Int) (p : Nat) (out : List Int), fallsB below l = true → (∀ x ∈ l, 0 ≤ x) → below ≤ 18446744073709551615 → B.drop p = numsB (stepsL below l) ++ rest → p ≤ B.length →
    Rs.falls B l.length ⟨p, 0, 0⟩ below out = (⟨p + (numsB (stepsL below l)).length, 0, 0⟩, out ++ l)
  | [], below, p, out, _, _, _, _, _ => by simp [Rs.falls, stepsL, numsB]
  | x :: l, below, p, out, hf, hx, hb, h, hp => by
    simp only [fallsB, Bool.and_eq_true, decide_eq_true_eq] at hf
    have h0 := hx x (by simp)
    simp only [stepsL] at h ⊢
    rw [numsB_cons, List.append_assoc] at h
    have hn : (below - x - 1).toNat < 18446744073709551616 := by omega
    have hN := Rs.num_varB hn h
    have hd := drop_more h
    have hr := drop_room h hp
    simp only [List.length_cons, Rs.falls]
    rw [hN]
    dsimp only
    rw [if_pos rfl, toNat_cast (by omega), if_neg (by omega), show below - (below - x - 1) - 1 = x by omega, Rs.falls_put l x _ _ hf.2 (fun y hy => hx y (by simp [hy])) (by omega) hd (by omega), numsB_cons, List.length_append]
    simp [Nat.add_assoc]
theorem Rs.delta_put {B rest : List UInt8} {l : List Int} {pos : Int} {p : Nat} {most : Int} (hf : fallsB pos l = true) (hx : ∀ x ∈ l, 0 ≤ x) (hb : pos ≤ 18446744073709551615) (h : B.drop p = deltaB pos l ++ rest) (hp : p ≤ B.length) (hm : (l.length : Int) ≤ most) (hl : l.length < 18446744073709551616) :
    (⟨p, 0, 0⟩ : Rs).delta B pos most = (⟨p + (deltaB pos l).length, 0, 0⟩, l) := by
  unfold deltaB at h ⊢
  rw [List.append_assoc] at h
  have hd := drop_more h
  have hr := drop_room h hp
  unfold Rs.delta
  rw [Rs.int_pre hl h hm]
  dsimp only
  rw [Rs.falls_put l pos _ _ hf hx hb hd (by omega)]
  simp [Nat.add_assoc]
theorem Rs.linksF_put {B rest : List UInt8} {pos : Int} (hpos : pos ≤ 18446744073709551615) : ∀ (l : List Link) (prev : Option Int) (p : Nat) (out : List Link), (∀ x ∈ l, linkR pos x = true ∧ (0 ≤ x.stream ∧ x.stream ≤ 18446744073709551615) ∧ ∀ y ∈ x.backs, 0 ≤ y) → (∀ q, prev = some q → 0 ≤ q ∧ risesB (q :: l.map Link.stream) = true) → risesB (l.map Link.stream) = true → B.drop p = lnkF pos prev l ++ rest → p ≤ B.length →
    Rs.linksF B pos l.length ⟨p, 0, 0⟩ prev out = (⟨p + (lnkF pos prev l).length, 0, 0⟩, out ++ l)
  | [], prev, p, out, _, _, _, _, _ => by simp [Rs.linksF, lnkF]
  | x :: l, prev, p, out, hx, hq, hri, h, hp => by
    obtain ⟨hr1, hs, hbk⟩ := hx x (by simp)
    simp only [linkR, Bool.and_eq_true, decide_eq_true_eq] at hr1
    have hnext : ∀ q, some x.stream = some q → 0 ≤ q ∧ risesB (q :: l.map Link.stream) = true := fun q e => by
      simp only [Option.some.injEq] at e
      subst e
      exact ⟨hs.1, hri⟩
    have hri2 : risesB (l.map Link.stream) = true := by
      simp only [List.map_cons] at hri
      cases hl : l.map Link.stream with
      | nil => rfl
      | cons y r => rw [hl] at hri; simp only [risesB, Bool.and_eq_true] at hri; exact hri.2
    have key : ∃ y : Int, 0 ≤ y ∧ y ≤ 18446744073709551615 ∧ lnkF pos prev (x :: l) = varB y.toNat ++ (deltaB pos x.backs ++ lnkF pos (some x.stream) l) ∧ (B.drop p = varB y.toNat ++ ((deltaB pos x.backs ++ lnkF pos (some x.stream) l) ++ rest) → (⟨p, 0, 0⟩ : Rs).stream B prev = (⟨p + (varB y.toNat).length, 0, 0⟩, x.stream)) := by
      cases prev with
      | none =>
        refine ⟨x.stream, hs.1, hs.2, by simp [lnkF], fun h => ?_⟩
        unfold Rs.stream
        dsimp only
        rw [Rs.num_varB (by omega) h]
        dsimp only
        rw [toNat_cast hs.1]
      | some q =>
        obtain ⟨h0, hq1⟩ := hq q rfl
        simp only [List.map_cons, risesB, Bool.and_eq_true, decide_eq_true_eq] at hq1
        refine ⟨x.stream - q - 1, by omega, by omega, by simp [lnkF], fun h => ?_⟩
        unfold Rs.stream
        dsimp only
        rw [Rs.num_varB (by omega) h]
        dsimp only
        rw [toNat_cast (by omega), if_neg (by omega)]
        refine Prod.ext rfl ?_
        dsimp only
        omega
    obtain ⟨y, hy0, hy1, he, hst⟩ := key
    rw [he] at h ⊢
    rw [List.append_assoc] at h
    have hS := hst h
    have hd := drop_more h
    have hr := drop_room h hp
    rw [List.append_assoc] at hd
    have hD := Rs.delta_put (most := 4) hr1.2 hbk hpos hd (by omega) (by omega) (by omega)
    have hd2 := drop_more hd
    have hr2 := drop_room hd (by omega)
    simp only [List.length_cons, Rs.linksF]
    rw [hS]
    dsimp only
    rw [hD]
    dsimp only
    rw [if_pos rfl, Rs.linksF_put hpos l (some x.stream) _ _ (fun z hz => hx z (by simp [hz])) hnext hri2 hd2 (by omega)]
    simp [Nat.add_assoc]
theorem Rs.links_put {B rest : List UInt8} {pos : Int} {l : List Link} {p : Nat} (hpos : pos ≤ 18446744073709551615) (hR : linksR pos l = true) (hx : ∀ x ∈ l, (0 ≤ x.stream ∧ x.stream ≤ 18446744073709551615) ∧ ∀ y ∈ x.backs, 0 ≤ y) (h : B.drop p = linksB pos l ++ rest) (hp : p ≤ B.length) :
    (⟨p, 0, 0⟩ : Rs).links B pos = (⟨p + (linksB pos l).length, 0, 0⟩, l) := by
  simp only [linksR, Bool.and_eq_true, decide_eq_true_eq, List.all_eq_true] at hR
  unfold linksB at h ⊢
  rw [List.append_assoc] at h
  have hd := drop_more h
  have hr := drop_room h hp
  unfold Rs.links
  rw [Rs.int_pre (by omega) h (by omega)]
  dsimp only
  rw [Rs.linksF_put hpos l none _ _ (fun x h => ⟨hR.2.2 x h, hx x h⟩) (fun q e => by cases e) hR.2.1 hd (by omega)]
  simp [Nat.add_assoc]
theorem Rs.ehead_put {B rest : List UInt8} {pos most : Int} {e : Entry} {p : Nat} (hpos : pos ≤ 18446744073709551615) (hR : entryR pos e = true) (hx : entryN e) (h : B.drop p = headB pos e ++ rest) (hp : p ≤ B.length) (hm : (e.data.length : Int) ≤ most) :
    (⟨p, 0, 0⟩ : Rs).ehead B pos most = (⟨p + (headB pos e).length, 0, 0⟩, e.links, e.data.length) := by
  simp only [entryR, Bool.and_eq_true, decide_eq_true_eq] at hR
  unfold headB at h ⊢
  rw [List.append_assoc] at h
  have hd := drop_more h
  have hr := drop_room h hp
  have hL := Rs.links_put hpos hR.1 hx h hp
  unfold Rs.ehead
  rw [hL]
  dsimp only
  rw [Rs.int_pre (by omega) hd hm]
  dsimp only
  rw [if_pos rfl]
  simp [Nat.add_assoc]
def headsOf (l : List Entry) : List (List Link × Nat) := l.map fun e => (e.links, e.data.length)
theorem Rs.heads_put {B rest : List UInt8} : ∀ (l : List Entry) (pos left : Int) (p : Nat) (out : List (List Link × Nat)), entriesR pos l = true → (∀ e ∈ l, entryN e) → pos + l.length ≤ 18446744073709551615 → (total l : Int) ≤ left → B.drop p = headsB pos l ++ rest → p ≤ B.length →
    Rs.heads B l.length ⟨p, 0, 0⟩ pos left out = (⟨p + (headsB pos l).length, 0, 0⟩, out ++ headsOf l)
  | [], pos, left, p, out, _, _, _, _, _, _ => by simp [Rs.heads, headsB, headsOf]
  | e :: l, pos, left, p, out, hR, hx, hpos, hlt, h, hp => by
    simp only [entriesR, Bool.and_eq_true] at hR
    simp only [List.length_cons] at hpos
    have ht : total (e :: l) = e.data.length + total l := by simp [total]
    rw [ht] at hlt
    simp only [headsB] at h ⊢
    rw [List.append_assoc] at h
    have hd := drop_more h
    have hr := drop_room h hp
    have hE := Rs.ehead_put (most := left) (by omega) hR.1 (hx e (by simp)) h hp (by omega)
    simp only [List.length_cons, Rs.heads]
    rw [hE]
    dsimp only
    rw [if_pos rfl, Rs.heads_put l (pos + 1) _ _ _ hR.2 (fun z hz => hx z (by simp [hz])) (by omega) (by omega) hd (by omega)]
    simp [headsOf, Nat.add_assoc]
theorem sizesN_of (l : List Entry) : sizesN (headsOf l) = total l := by
  simp [sizesN, headsOf, total, List.map_map, Function.comp_def]
theorem dealE_of : ∀ (l : List Entry), dealE (headsOf l) (joined l) = l
  | [] => rfl
  | e :: l => by
    have := dealE_of l
    simp only [headsOf, List.map_cons, dealE, joined, List.flatMap_cons] at this ⊢
    rw [List.take_left, List.drop_left, this]
/-- What is put is read, either way. -/
theorem Rs.batch_put {B rest : List UInt8} {b : Batch} {p : Nat} {blk : Rs → Rs × List UInt8 × Bool} (hR : batchR b = true) (hN : batchN b) (h : B.drop p = batchB b ++ rest) (hp : p ≤ B.length)
    (hblk : ∀ q, q ≤ B.length → B.drop q = blockB (joined b.entries) ++ rest → blk ⟨q, 0, 0⟩ = (⟨q + (blockB (joined b.entries)).length, 0, 0⟩, joined b.entries, true)) :
    Rs.batch B blk ⟨p, 0, 0⟩ = (⟨p + (batchB b).length, 0, 0⟩, b, true) := by
  obtain ⟨⟨e0, e1⟩, ⟨b0, b1⟩, hen⟩ := hN
  simp only [batchR, Bool.and_eq_true, decide_eq_true_eq] at hR
  obtain ⟨hep, hfit, htot, hent⟩ := hR
  have hfit' := hfit
  simp only [fitsR, decide_eq_true_eq] at hfit'
  unfold batchB aheadB at h
  simp only [List.append_assoc] at h
  have hd1 := drop_more h
  have hr1 := drop_room h hp
  have hd2 := drop_more hd1
  have hr2 := drop_room hd1 (by omega)
  have hd3 := drop_more hd2
  have hr3 := drop_room hd2 (by omega)
  have hd4 := drop_more hd3
  have hr4 := drop_room hd3 (by omega)
  have hE : (⟨p, 0, 0⟩ : Rs).ep B = (⟨p + (varB b.epoch.toNat).length, 0, 0⟩, b.epoch.toNat) := by
    unfold Rs.ep
    rw [Rs.num_varB (by omega) h]
    dsimp only
    rw [if_pos rfl, toNat_cast e0, if_pos hep]
  have hP : (⟨p + (varB b.epoch.toNat).length, 0, 0⟩ : Rs).po B = (⟨p + (varB b.epoch.toNat).length + (varB b.base.toNat).length, 0, 0⟩, b.base.toNat) := by
    unfold Rs.po
    rw [Rs.num_varB (by omega) hd1]
    dsimp only
    rw [if_pos rfl, toNat_cast b0, if_pos (by unfold poR; exact decide_eq_true (by omega))]
  have hI := Rs.int_pre (m := 16) (by omega) hd2 (by omega)
  have hF : (⟨p, 0, 0⟩ : Rs).bfront B = (⟨p + (varB b.epoch.toNat).length + (varB b.base.toNat).length + (varB b.entries.length).length, 0, 0⟩, b.epoch.toNat, b.base.toNat, b.entries.length) := by
    unfold Rs.bfront
    rw [hE]
    dsimp only
    rw [hP]
    dsimp only
    rw [hI]
    dsimp only
    rw [toNat_cast b0, if_pos hfit]
  have hH := Rs.heads_put b.entries b.base 1048576 _ [] hent hen (by omega) (by omega) hd3 (by omega)
  have hBk := hblk _ (by omega) hd4
  have hsz : sizesN (headsOf b.entries) = (joined b.entries).length := by rw [sizesN_of, joined_length]
  generalize hq : p + (varB b.epoch.toNat).length + (varB b.base.toNat).length + (varB b.entries.length).length + (headsB b.base b.entries).length = q at *
  have hBB : Rs.bblock blk (⟨q, 0, 0⟩, headsOf b.entries) = (⟨q + (blockB (joined b.entries)).length, 0, 0⟩, b.entries, true) := by
    unfold Rs.bblock
    dsimp only
    rw [hBk]
    dsimp only
    rw [if_pos hsz, dealE_of]
  unfold Rs.batch
  dsimp only
  rw [hF]
  dsimp only
  rw [if_pos rfl, toNat_cast b0, toNat_cast e0, hH, List.nil_append, hBB]
  dsimp only
  rw [if_pos rfl, ← hq]
  simp only [batchB, aheadB, List.length_append, Nat.add_assoc]
end Go.Proofs.YtkipiefcnjfdjaaGreat
