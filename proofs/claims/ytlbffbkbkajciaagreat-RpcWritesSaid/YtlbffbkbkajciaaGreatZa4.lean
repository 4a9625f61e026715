/- Needed by bodyWrites_walk, part 4: texts put together by shake.py; no condition. -/
import Derived.Test.YtlbffbkbkajciaaGreatZa3
import Derived.Test.YtlbffbkbkajciaaGreatZa1
namespace Go.Proofs.YtlbffbkbkajciaaGreat
open Go.RowKit Go.Bs Go.Maps
set_option linter.unusedVariables false
set_option linter.unusedSimpArgs false

theorem pen_next {w1 w2 : World} {g base most : Nat} {J D : List UInt8} {a : Option Addr} {c : Nat} {a' : Option Addr} {c' : Nat} (h : PenAt w1 g base most J a c) (hfit : J.length + D.length ≤ most) (hlen : J.length + D.length ≤ 100000000000000)
    (hown : w2.ownsRow base 5 1 (.slice a' (J.length + D.length) c') (J.length + D.length) (byteCells J ++ byteCells D)) (hgrow : w1.grownBy w2 (Value.slice a J.length c).ownBlock)
    (hat : (Value.slice a' (J.length + D.length) c').ownBlock = (Value.slice a J.length c).ownBlock ∨ (Value.slice a' (J.length + D.length) c').ownBlock = some w1.heap.size) :
    PenStep w1 g base most (J ++ D) a (w2.setCell ⟨g, 1, none⟩ (.slice a' (J.length + D.length) c')) := by
  have hg := h.blk.lt
  have hs := hgrow.size
  have hn2 : (Value.slice a' (J.length + D.length) c').ownBlock ≠ some g := fun e => by
    rcases hat with h1 | h1
    · rw [h1] at e; exact h.ne e
    · rw [h1] at e; simp at e; omega
  have hsz : (w2.setCell ⟨g, 1, none⟩ (.slice a' (J.length + D.length) c')).heap.size = w2.heap.size := by simp [World.setCell]
  have hll : (J ++ D).length = J.length + D.length := List.length_append
  have hbb : byteCells (J ++ D) = byteCells J ++ byteCells D := by simp [byteCells]
  refine ⟨a', c', ⟨?_, ?_, ?_, h.lo, by omega, h.most, by omega⟩, ?_, ?_⟩
  · rw [hll]
    exact (h.blk.grown hgrow (fun e => h.ne e.symm)).set 1 _
  · rw [hll, hbb]
    exact own_keep hown fun q hq => Below.heap_setCell w2 _ _ q (fun e => hn2 (by rw [hq, e]))
  · rw [hll]; exact hn2
  · refine ⟨hgrow.os, hgrow.tape, hgrow.output, by rw [hsz]; exact hs, fun q hq hf => ?_⟩
    rw [penF_is] at hf
    exact (Below.heap_setCell w2 _ _ q (fun e => hf (.inl e))).trans (hgrow.block q hq (fun e => hf (.inr (by rw [own_slice] at e; exact e.symm))))
  · rw [own_slice, own_slice] at hat
    rcases hat with h1 | h1
    · exact .inl h1
    · exact .inr ⟨_, h1, Nat.le_refl _⟩

set_option maxRecDepth 100000 in
set_option maxHeartbeats 1600000 in
theorem pen_put (w : World) {g base most : Nat} {J : List UInt8} {a : Option Addr} {c : Nat} (h : PenAt w g base most J a c) (D : List UInt8) (ad : Option Addr) (nd cd : Nat) (hD : rBytes.r (· < w.heap.size) w [.slice ad nd cd] D) (hfit : J.length + D.length ≤ most) (hlen : J.length + D.length ≤ 100000000000000) :
    Calls Tryz.prog 68 #[.pointer (some ⟨g, 0, none⟩), .slice ad nd cd] w fun r w' => r = .returned (.tuple #[]) ∧ PenStep w g base most (J ++ D) a w' := by
  obtain ⟨rfl, hm, _, _⟩ := sl_len hD
  obtain ⟨i0, hi, hz0, hz1, hz2⟩ := info_parts info8
  have HC := hid (pen_code w h)
  have HR := hid (pen_room w h)
  have HP := hid h
  have HD := hid hD
  have HONE := hid (byteCells_one D)
  have hmo := h.most
  have d1 : decide ((most : Int) - (J.length : Int) < (D.length : Int)) = false := by simp; omega
  clear h hD
  go_enter Tryz.func68, Tryz.ntmps68
  go_wp2_with fail
  refine HC.out.mono ?_
  rintro r w0 ⟨rfl, rfl⟩
  go_wp2_with fail
  refine HR.out.mono ?_
  rintro r w1 ⟨rfl, hb1⟩
  have hP1 := HP.out.later hb1
  have c1 : w1.cell? ⟨g, 1, none⟩ = some (.slice a J.length c) := hP1.blk.cell 1
  have hg1 := hP1.blk.lt
  have f1 := hP1.blk.free 1
  have hne := hP1.ne
  have hlo := hP1.lo
  have HP1 := hid hP1
  have HS := hid (src_bytes (lift HD.out hb1))
  clear hP1
  go_wp2_with (at_builtin; go_loud (refine wpList_append_src rfl _ _ _ rfl base 5 i0 (.int .u8 0) 1 1 Tryz.underlying25 hi hz0 hz1 hz2 rfl (by decide) (.slice a J.length c) J.length (byteCells J) rfl HP1.out.own ad D.length cd (byteCells D) rfl HS.out HONE.out (by simp only [maxLen]; omega) (by omega) (by omega) ?_; intro v' w2 hown2 hgrow2 hat2; obtain ⟨a', c', rfl⟩ := own_form hown2; have f2 := (World.frozen?_of_block (a := ⟨g, 1, none⟩) (hgrow2.block g hg1 (fun e => hne e.symm))).trans f1; have e2 := (World.cell?_of_block (a := ⟨g, 1, none⟩) (hgrow2.block g hg1 (fun e => hne e.symm))).trans c1; have hz2' : g < w2.heap.size := Nat.lt_of_lt_of_le hg1 hgrow2.size; have HG := hid hgrow2; have HO := hid hown2; have HAT := hid hat2; clear hgrow2 hown2 hat2))
  have hst := PenStep.later hb1 (pen_next HP1.out hfit hlen HO.out HG.out HAT.out)
  have HST := hid hst
  clear hst
  go_wp2
  go_end0
  exact ⟨rfl, HST.out⟩

set_option maxRecDepth 100000 in
set_option maxHeartbeats 1600000 in
theorem pen_bytes (w : World) {g base most : Nat} {J : List UInt8} {a : Option Addr} {c : Nat} (h : PenAt w g base most J a c) :
    Calls Tryz.prog 17 #[.pointer (some ⟨g, 0, none⟩)] w fun r w' => ∃ v, r = .returned (.tuple #[v, .int .i64 0]) ∧ rBytes.r (fun q => w.heap.size ≤ q ∧ q < w'.heap.size) w' [v] J ∧ Below w.heap.size w w' := by
  obtain ⟨i0, hi, hz0, hz1, hz2⟩ := info_parts info8
  have HC := hid (pen_code w h)
  have hB := own_bytes2 rfl h.own
  obtain ⟨_, hm, _, _⟩ := sl_len hB
  have HD := hid (rBytes.mono hB (S' := (· < w.heap.size)) fun q hq => hq.2)
  have HONE := hid (byteCells_one J)
  have c1 : w.cell? ⟨g, 1, none⟩ = some (.slice a J.length c) := h.blk.cell 1
  have hg1 := h.blk.lt
  have hle := h.le; have hmo := h.most; have hle14 := h.len
  clear h hB
  go_enter Tryz.func17, Tryz.ntmps17
  go_wp2_with fail
  refine HC.out.mono ?_
  rintro r w0 ⟨rfl, rfl⟩
  go_wp2_with (at_builtin; go_loud (refine wpList_append_src rfl _ _ _ rfl w.heap.size 5 i0 (.int .u8 0) 1 1 Tryz.underlying25 hi hz0 hz1 hz2 rfl (by decide) _ 0 [] rfl (own_empty _ (Nat.le_refl _) rfl) a J.length c (byteCells J) rfl (src_bytes (lift HD.out (by (repeat (first | exact Below.refl _ _ | assumption | (refine below_alloc ?_ _) | (refine Below.setCell ?_ (by first | omega | (simp; done) | (simp; omega)) _) | (refine Below.drew ?_) | (refine below_drewN ?_ _) | (refine below_then (by assumption) ?_)))))) HONE.out (by simp only [maxLen]; omega) (by omega) (by simp) ?_; intro v' w1 hown1 hgrow1 hat1; rw [Nat.zero_add, List.nil_append] at hown1; obtain ⟨a', c', rfl⟩ := own_form hown1; have HG := hid hgrow1; have HO := hid hown1; clear hgrow1 hown1 hat1))
  have hA := own_bytes2 rfl HO.out
  have hb1 : Below w.heap.size w w1 := Below.grown (by (repeat (first | exact Below.refl _ _ | assumption | (refine below_alloc ?_ _) | (refine Below.setCell ?_ (by first | omega | (simp; done) | (simp; omega)) _) | (refine Below.drew ?_) | (refine below_drewN ?_ _) | (refine below_then (by assumption) ?_)))) HG.out (by simp) (fun g e => by
    have e' : some w.heap.size = some g := e
    injection e' with e'
    omega)
  have HA := hid hA
  clear hA
  go_ret2
  exact ⟨_, rfl, HA.out, hb1⟩
end Go.Proofs.YtlbffbkbkajciaaGreat
namespace Go.Proofs.YtlbffbkbkajciaaGreat
open Go.RowKit Go.Bs Go.Maps
set_option linter.unusedVariables false
set_option linter.unusedSimpArgs false

def rightB (t : Tok) : Bool := runB t || copyB t

set_option maxRecDepth 100000 in
set_option maxHeartbeats 6400000 in
theorem token_right (x : Tok) (a : Option Addr) (c : Nat) (w : World) (hl : x.lit.length ≤ 9223372036854775807) (h1 : -9223372036854775808 ≤ x.off ∧ x.off ≤ 9223372036854775807) (h2 : -9223372036854775808 ≤ x.len ∧ x.len ≤ 9223372036854775807) :
    Calls Tryz.prog 277 #[.agg #[.slice a x.lit.length c, .int .i64 x.off, .int .i64 x.len]] w fun r w' => r = .returned (.bool (rightB x)) ∧ Below w.heap.size w w' := by
  obtain ⟨D, o, m⟩ := x
  dsimp only at *
  by_cases k0 : o = 0
  · skip
    have k0_0 : (o == 0) = true := beq_iff_eq.2 (by omega)
    by_cases k1 : m = 0
    · skip
      have k1_0 : (m == 0) = true := beq_iff_eq.2 (by omega)
      by_cases k2 : 1 ≤ D.length
      · skip
        have k2_0 : decide ((1 : Int) ≤ (D.length : Int)) = true := decide_eq_true (by omega)
        have k2_1 : decide (1 ≤ D.length) = true := decide_eq_true (by omega)
        by_cases k3 : D.length ≤ 1048576
        · skip
          have k3_0 : decide ((D.length : Int) ≤ 1048576) = true := decide_eq_true (by omega)
          have k3_1 : decide (D.length ≤ 1048576) = true := decide_eq_true (by omega)
          have hff : Hid (rightB ⟨D, o, m⟩ = true) := hid (by simp only [rightB, runB, copyB, Bool.or_eq_true, Bool.and_eq_true, decide_eq_true_eq]; first | omega | (simp; omega))
          clear hl h1 h2
          go_enter Tryz.func277, Tryz.ntmps277
          go_wp2
          go_ret
          exact ⟨by rw [hff.out]; rfl, by (repeat (first | exact Below.refl _ _ | assumption | (refine below_alloc ?_ _) | (refine Below.setCell ?_ (by first | omega | (simp; done) | (simp; omega)) _) | (refine Below.drew ?_) | (refine below_drewN ?_ _) | (refine below_then (by assumption) ?_)))⟩
        · skip
          have k3_0 : decide ((D.length : Int) ≤ 1048576) = false := decide_eq_false (by omega)
          have k3_1 : decide (D.length ≤ 1048576) = false := decide_eq_false (by omega)
          have hff : Hid (rightB ⟨D, o, m⟩ = false) := hid (by rw [← Bool.not_eq_true]; simp only [rightB, runB, copyB, Bool.or_eq_true, Bool.and_eq_true, decide_eq_true_eq]; first | omega | (simp; omega))
          clear hl h1 h2
          go_enter Tryz.func277, Tryz.ntmps277
          go_wp2
          go_ret
          exact ⟨by rw [hff.out]; rfl, by (repeat (first | exact Below.refl _ _ | assumption | (refine below_alloc ?_ _) | (refine Below.setCell ?_ (by first | omega | (simp; done) | (simp; omega)) _) | (refine Below.drew ?_) | (refine below_drewN ?_ _) | (refine below_then (by assumption) ?_)))⟩
      · skip
        have k2_0 : decide ((1 : Int) ≤ (D.length : Int)) = false := decide_eq_false (by omega)
        have k2_1 : decide (1 ≤ D.length) = false := decide_eq_false (by omega)
        have hff : Hid (rightB ⟨D, o, m⟩ = false) := hid (by rw [← Bool.not_eq_true]; simp only [rightB, runB, copyB, Bool.or_eq_true, Bool.and_eq_true, decide_eq_true_eq]; first | omega | (simp; omega))
        clear hl h1 h2
        go_enter Tryz.func277, Tryz.ntmps277
        go_wp2
        go_ret
        exact ⟨by rw [hff.out]; rfl, by (repeat (first | exact Below.refl _ _ | assumption | (refine below_alloc ?_ _) | (refine Below.setCell ?_ (by first | omega | (simp; done) | (simp; omega)) _) | (refine Below.drew ?_) | (refine below_drewN ?_ _) | (refine below_then (by assumption) ?_)))⟩
    · skip
      have k1_0 : (m == 0) = false := beq_eq_false_iff_ne.2 (by omega)
      have hff : Hid (rightB ⟨D, o, m⟩ = false) := hid (by rw [← Bool.not_eq_true]; simp only [rightB, runB, copyB, Bool.or_eq_true, Bool.and_eq_true, decide_eq_true_eq]; first | omega | (simp; omega))
      clear hl h1 h2
      go_enter Tryz.func277, Tryz.ntmps277
      go_wp2
      go_ret
      exact ⟨by rw [hff.out]; rfl, by (repeat (first | exact Below.refl _ _ | assumption | (refine below_alloc ?_ _) | (refine Below.setCell ?_ (by first | omega | (simp; done) | (simp; omega)) _) | (refine Below.drew ?_) | (refine below_drewN ?_ _) | (refine below_then (by assumption) ?_)))⟩
  · skip
    have k0_0 : (o == 0) = false := beq_eq_false_iff_ne.2 (by omega)
    by_cases k4 : 0 < D.length
    · skip
      have k4_0 : decide ((0 : Int) < (D.length : Int)) = true := decide_eq_true (by omega)
      have k4_1 : decide (0 < D.length) = true := decide_eq_true (by omega)
      have hff : Hid (rightB ⟨D, o, m⟩ = false) := hid (by rw [← Bool.not_eq_true]; simp only [rightB, runB, copyB, Bool.or_eq_true, Bool.and_eq_true, decide_eq_true_eq]; first | omega | (simp; omega))
      clear hl h1 h2
      go_enter Tryz.func277, Tryz.ntmps277
      go_wp2
      go_ret
      exact ⟨by rw [hff.out]; rfl, by (repeat (first | exact Below.refl _ _ | assumption | (refine below_alloc ?_ _) | (refine Below.setCell ?_ (by first | omega | (simp; done) | (simp; omega)) _) | (refine Below.drew ?_) | (refine below_drewN ?_ _) | (refine below_then (by assumption) ?_)))⟩
    · skip
      obtain rfl : D = [] := List.eq_nil_of_length_eq_zero (by omega)
      simp only [List.length_nil] at *
      by_cases k5 : o < 0
      · skip
        have k5_0 : decide (o < 0) = true := decide_eq_true (by omega)
        have hff : Hid (rightB ⟨[], o, m⟩ = false) := hid (by rw [← Bool.not_eq_true]; simp only [rightB, runB, copyB, Bool.or_eq_true, Bool.and_eq_true, decide_eq_true_eq, List.length_nil]; first | omega | (simp; omega))
        clear hl h1 h2
        go_enter Tryz.func277, Tryz.ntmps277
        go_wp2
        go_ret
        exact ⟨by rw [hff.out]; rfl, by (repeat (first | exact Below.refl _ _ | assumption | (refine below_alloc ?_ _) | (refine Below.setCell ?_ (by first | omega | (simp; done) | (simp; omega)) _) | (refine Below.drew ?_) | (refine below_drewN ?_ _) | (refine below_then (by assumption) ?_)))⟩
      · skip
        have k5_0 : decide (o < 0) = false := decide_eq_false (by omega)
        by_cases k6 : 65536 < o
        · skip
          have k6_0 : decide ((65536 : Int) < o) = true := decide_eq_true (by omega)
          have hff : Hid (rightB ⟨[], o, m⟩ = false) := hid (by rw [← Bool.not_eq_true]; simp only [rightB, runB, copyB, Bool.or_eq_true, Bool.and_eq_true, decide_eq_true_eq, List.length_nil]; first | omega | (simp; omega))
          clear hl h1 h2
          go_enter Tryz.func277, Tryz.ntmps277
          go_wp2
          go_ret
          exact ⟨by rw [hff.out]; rfl, by (repeat (first | exact Below.refl _ _ | assumption | (refine below_alloc ?_ _) | (refine Below.setCell ?_ (by first | omega | (simp; done) | (simp; omega)) _) | (refine Below.drew ?_) | (refine below_drewN ?_ _) | (refine below_then (by assumption) ?_)))⟩
        · skip
          have k6_0 : decide ((65536 : Int) < o) = false := decide_eq_false (by omega)
          by_cases k7 : 4 ≤ m
          · skip
            have k7_0 : decide ((4 : Int) ≤ m) = true := decide_eq_true (by omega)
            by_cases k8 : m ≤ 1048576
            · skip
              have k8_0 : decide (m ≤ 1048576) = true := decide_eq_true (by omega)
              have hff : Hid (rightB ⟨[], o, m⟩ = true) := hid (by simp only [rightB, runB, copyB, Bool.or_eq_true, Bool.and_eq_true, decide_eq_true_eq, List.length_nil]; first | omega | (simp; omega))
              clear hl h1 h2
              go_enter Tryz.func277, Tryz.ntmps277
              go_wp2
              go_ret
              exact ⟨by rw [hff.out]; rfl, by (repeat (first | exact Below.refl _ _ | assumption | (refine below_alloc ?_ _) | (refine Below.setCell ?_ (by first | omega | (simp; done) | (simp; omega)) _) | (refine Below.drew ?_) | (refine below_drewN ?_ _) | (refine below_then (by assumption) ?_)))⟩
            · skip
              have k8_0 : decide (m ≤ 1048576) = false := decide_eq_false (by omega)
              have hff : Hid (rightB ⟨[], o, m⟩ = false) := hid (by rw [← Bool.not_eq_true]; simp only [rightB, runB, copyB, Bool.or_eq_true, Bool.and_eq_true, decide_eq_true_eq, List.length_nil]; first | omega | (simp; omega))
              clear hl h1 h2
              go_enter Tryz.func277, Tryz.ntmps277
              go_wp2
              go_ret
              exact ⟨by rw [hff.out]; rfl, by (repeat (first | exact Below.refl _ _ | assumption | (refine below_alloc ?_ _) | (refine Below.setCell ?_ (by first | omega | (simp; done) | (simp; omega)) _) | (refine Below.drew ?_) | (refine below_drewN ?_ _) | (refine below_then (by assumption) ?_)))⟩
          · skip
            have k7_0 : decide ((4 : Int) ≤ m) = false := decide_eq_false (by omega)
            have hff : Hid (rightB ⟨[], o, m⟩ = false) := hid (by rw [← Bool.not_eq_true]; simp only [rightB, runB, copyB, Bool.or_eq_true, Bool.and_eq_true, decide_eq_true_eq, List.length_nil]; first | omega | (simp; omega))
            clear hl h1 h2
            go_enter Tryz.func277, Tryz.ntmps277
            go_wp2
            go_ret
            exact ⟨by rw [hff.out]; rfl, by (repeat (first | exact Below.refl _ _ | assumption | (refine below_alloc ?_ _) | (refine Below.setCell ?_ (by first | omega | (simp; done) | (simp; omega)) _) | (refine Below.drew ?_) | (refine below_drewN ?_ _) | (refine below_then (by assumption) ?_)))⟩
end Go.Proofs.YtlbffbkbkajciaaGreat
namespace Go.Proofs.YtlbffbkbkajciaaGreat
open Go.RowKit Go.Bs Go.Maps
set_option linter.unusedVariables false
set_option linter.unusedSimpArgs false

set_option maxRecDepth 100000 in
theorem varint_put (w : World) {g base most : Nat} {J : List UInt8} {a : Option Addr} {c : Nat} (h : PenAt w g base most J a c) (x : Nat) (hx : x < 18446744073709551616) (hfit : J.length + (varB x).length ≤ most) (hlen : J.length + (varB x).length ≤ 100000000000000) :
    Calls Tryz.prog 66 #[.pointer (some ⟨g, 0, none⟩), .int .u64 x] w fun r w' => r = .returned (.tuple #[]) ∧ PenStep w g base most (J ++ varB x) a w' := by
  have HV := hid (varint_bytes x hx w)
  have HP := hid h
  clear h
  go_enter Tryz.func66, Tryz.ntmps66
  go_wp2_with fail
  refine HV.out.mono ?_
  rintro r w1 ⟨v, rfl, hr, hb1⟩
  obtain ⟨a1, c1, hv, hr2, _⟩ := sl_form hr
  simp only [List.cons.injEq, and_true] at hv
  subst hv
  have HQ := hid (pen_put w1 (HP.out.later hb1) (varB x) a1 _ c1 (rBytes.mono hr2 fun q hq => hq.2) hfit hlen)
  clear hr hr2
  go_wp2_with fail
  refine HQ.out.mono ?_
  rintro r w2 ⟨rfl, hst⟩
  have HST := hid (PenStep.later hb1 hst)
  clear hst
  go_wp2
  first | go_end0 | refine bodyPost_ret (results_none rfl _ _ _) rfl ?_
  exact ⟨rfl, HST.out⟩

/-- A token's bytes. -/
def tokB (t : Tok) : List UInt8 := if runB t then varB (2 * t.lit.length - 2) ++ t.lit else varB (2 * t.len.toNat - 7) ++ varB (t.off.toNat - 1)
theorem tokB_run (D : List UInt8) (h1 : 1 ≤ D.length) (h2 : D.length ≤ 1048576) : tokB ⟨D, 0, 0⟩ = varB (2 * D.length - 2) ++ D := by
  unfold tokB
  rw [if_pos]
  simp [runB]; omega
theorem tokB_copy (o m : Nat) (h1 : 1 ≤ o) : tokB ⟨[], (o : Int), (m : Int)⟩ = varB (2 * m - 7) ++ varB (o - 1) := by
  unfold tokB
  rw [if_neg]
  · simp
  · simp [runB]

theorem PenAt.own_lt {w : World} {g base most : Nat} {J : List UInt8} {a : Option Addr} {c : Nat} (h : PenAt w g base most J a c) {q : Nat} (hq : PenF g a q) : base ≤ q ∧ q < w.heap.size := by
  rcases hq with rfl | ⟨p, hp, rfl⟩
  · exact ⟨h.lo, h.blk.lt⟩
  · subst hp
    exact h.own.lt _ rfl

set_option maxRecDepth 100000 in
set_option maxHeartbeats 1600000 in
theorem token_put_run (w : World) {g base most : Nat} {J : List UInt8} {a : Option Addr} {c : Nat} (h : PenAt w g base most J a c) (D : List UInt8) (h1 : 1 ≤ D.length) (h2 : D.length ≤ 1048576) (ad : Option Addr) (cd : Nat)
    (hD : rBytes.r (fun q => q < w.heap.size ∧ ¬ PenF g a q) w [.slice ad D.length cd] D) (hfit : J.length + (tokB ⟨D, 0, 0⟩).length ≤ most) (hlen : J.length + (tokB ⟨D, 0, 0⟩).length ≤ 100000000000000) :
    Calls Tryz.prog 268 #[.pointer (some ⟨g, 0, none⟩), .agg #[.slice ad D.length cd, .int .i64 0, .int .i64 0]] w fun r w' => r = .returned (.tuple #[]) ∧ PenStep w g base most (J ++ tokB ⟨D, 0, 0⟩) a w' := by
  have HR := hid (fun (W : World) => token_right ⟨D, 0, 0⟩ ad cd W (by dsimp only; omega) ⟨by simp, by simp⟩ ⟨by simp, by simp⟩)
  have hr : rightB ⟨D, 0, 0⟩ = true := by simp [rightB, runB]; omega
  rw [hr] at HR
  have hT := tokB_run D h1 h2
  rw [hT] at hfit hlen ⊢
  rw [List.length_append] at hfit hlen
  have HV := hid (fun (W : World) (hW : Below w.heap.size w W) => varint_put W (h.later hW) (2 * D.length - 2) (by omega) (by omega) (by omega))
  have hno := fun q (hq : PenF g a q) => (h.own_lt hq).2
  have HNO := hid hno
  have HD := hid hD
  have hfit' := hid hfit; have hlen' := hid hlen
  have e0 : (((2 * D.length - 2 : Nat)) : Int) = ((D.length : Int) - 1) * 2 := by omega
  rw [e0] at HV
  clear hr hT h hD hno hfit hlen
  go_enter Tryz.func268, Tryz.ntmps268
  go_wp2_with fail
  refine (HR.out _).mono ?_
  rintro r w1 ⟨rfl, hb1⟩
  have B1 : Blk w1 w.heap.size 225 #[.slice ad D.length cd, .int .i64 0, .int .i64 0] := (Blk.new w _ _).later hb1
  have x0 : w1.cell? ⟨w.heap.size, 0, none⟩ = some (.slice ad D.length cd) := B1.cell 0
  have x1 : w1.cell? ⟨w.heap.size, 1, none⟩ = some (.int .i64 0) := B1.cell 1
  have hbw1 : Below w.heap.size w w1 := by (repeat (first | exact Below.refl _ _ | assumption | (refine below_alloc ?_ _) | (refine Below.setCell ?_ (by first | omega | (simp; done) | (simp; omega)) _) | (refine Below.drew ?_) | (refine below_drewN ?_ _) | (refine below_then (by assumption) ?_)))
  go_wp2_with fail
  refine (HV.out _ hbw1).mono ?_
  rintro r w2 ⟨rfl, a2, c2, hp2, ht2, ha2⟩
  have B2 := B1.tch ht2 (fun hf => by have := HNO.out _ hf; omega)
  have y0 : w2.cell? ⟨w.heap.size, 0, none⟩ = some (.slice ad D.length cd) := B2.cell 0
  have hs1 := hbw1.size
  have hD2 : rBytes.r (· < w2.heap.size) w2 [.slice ad D.length cd] D := rBytes.mono (rBytes.keep HD.out fun q hq => (ht2.block q (by omega) hq.2).trans (hbw1.block q hq.1)) fun q hq => Nat.lt_of_lt_of_le hq.1 (by have := ht2.size; omega)
  have HQ := hid (pen_put w2 hp2 D ad _ cd hD2 (by rw [List.length_append]; have := hfit'.out; omega) (by rw [List.length_append]; have := hlen'.out; omega))
  clear x0 x1 hD2
  go_wp2_with fail
  refine HQ.out.mono ?_
  rintro r w3 ⟨rfl, hst⟩
  have hst2 := PenStep.later hbw1 (PenStep.trans (J := J) ht2 ha2 hst)
  rw [List.append_assoc] at hst2
  have HST := hid hst2
  clear hst hst2
  go_wp2
  first | go_end0 | refine bodyPost_ret (results_none rfl _ _ _) rfl ?_
  exact ⟨rfl, HST.out⟩

set_option maxRecDepth 100000 in
set_option maxHeartbeats 1600000 in
theorem token_put_copy (w : World) {g base most : Nat} {J : List UInt8} {a : Option Addr} {c : Nat} (h : PenAt w g base most J a c) (o m : Nat) (h1 : 1 ≤ o) (h2 : o ≤ 65536) (h3 : 4 ≤ m) (h4 : m ≤ 1048576) (ad : Option Addr) (cd : Nat)
    (hfit : J.length + (tokB ⟨[], (o : Int), (m : Int)⟩).length ≤ most) (hlen : J.length + (tokB ⟨[], (o : Int), (m : Int)⟩).length ≤ 100000000000000) :
    Calls Tryz.prog 268 #[.pointer (some ⟨g, 0, none⟩), .agg #[.slice ad 0 cd, .int .i64 o, .int .i64 m]] w fun r w' => r = .returned (.tuple #[]) ∧ PenStep w g base most (J ++ tokB ⟨[], (o : Int), (m : Int)⟩) a w' := by
  have HR := hid (fun (W : World) => token_right ⟨[], (o : Int), (m : Int)⟩ ad cd W (by simp) (by dsimp only; omega) (by dsimp only; omega))
  have hr : rightB ⟨[], (o : Int), (m : Int)⟩ = true := by simp [rightB, copyB]; omega
  rw [hr] at HR
  have hT := tokB_copy o m h1
  rw [hT] at hfit hlen ⊢
  rw [List.length_append] at hfit hlen
  have HV := hid (fun (W : World) (hW : Below w.heap.size w W) => varint_put W (h.later hW) (2 * m - 7) (by omega) (by omega) (by omega))
  have hno := fun q (hq : PenF g a q) => (h.own_lt hq).2
  have HNO := hid hno
  have hfit' := hid hfit; have hlen' := hid hlen
  have e0 : (((2 * m - 7 : Nat)) : Int) = ((m : Int) - 4) * 2 + 1 := by omega
  rw [e0] at HV
  have d1 : ((o : Int) == 0) = false := by simp; omega
  have d2 : (o == 0) = false := by simp; omega
  simp only [List.length_nil] at HR
  clear hr hT h hno hfit hlen
  go_enter Tryz.func268, Tryz.ntmps268
  go_wp2_with fail
  refine (HR.out _).mono ?_
  rintro r w1 ⟨rfl, hb1⟩
  have B1 : Blk w1 w.heap.size 225 #[.slice ad 0 cd, .int .i64 o, .int .i64 m] := (Blk.new w _ _).later hb1
  have x1 : w1.cell? ⟨w.heap.size, 1, none⟩ = some (.int .i64 o) := B1.cell 1
  have x2 : w1.cell? ⟨w.heap.size, 2, none⟩ = some (.int .i64 m) := B1.cell 2
  have hbw1 : Below w.heap.size w w1 := by (repeat (first | exact Below.refl _ _ | assumption | (refine below_alloc ?_ _) | (refine Below.setCell ?_ (by first | omega | (simp; done) | (simp; omega)) _) | (refine Below.drew ?_) | (refine below_drewN ?_ _) | (refine below_then (by assumption) ?_)))
  go_wp2_with fail
  refine (HV.out _ hbw1).mono ?_
  rintro r w2 ⟨rfl, a2, c2, hp2, ht2, ha2⟩
  have B2 := B1.tch ht2 (fun hf => by have := HNO.out _ hf; omega)
  have y1 : w2.cell? ⟨w.heap.size, 1, none⟩ = some (.int .i64 o) := B2.cell 1
  have HQ := hid (varint_put w2 hp2 (o - 1) (by omega) (by rw [List.length_append]; have := hfit'.out; omega) (by rw [List.length_append]; have := hlen'.out; omega))
  rw [show ((o - 1 : Nat) : Int) = (o : Int) - 1 by omega] at HQ
  clear x1 x2
  go_wp2_with fail
  refine HQ.out.mono ?_
  rintro r w3 ⟨rfl, hst⟩
  have hst2 := PenStep.later hbw1 (PenStep.trans (J := J) ht2 ha2 hst)
  rw [List.append_assoc] at hst2
  have HST := hid hst2
  clear hst hst2
  go_wp2
  first | go_end0 | refine bodyPost_ret (results_none rfl _ _ _) rfl ?_
  exact ⟨rfl, HST.out⟩
end Go.Proofs.YtlbffbkbkajciaaGreat
namespace Go.Proofs.YtlbffbkbkajciaaGreat
open Go.RowKit Go.Bs Go.Maps
set_option linter.unusedVariables false
set_option linter.unusedSimpArgs false

def roomT (xs : List Tok) : Nat := (xs.map fun t => t.lit.length + 20).sum
def tokensB (xs : List Tok) : List UInt8 := (xs.map tokB).flatten
theorem roomT_step (xs : List Tok) (k : Nat) (h : k < xs.length) : roomT (xs.take (k + 1)) = roomT (xs.take k) + (xs[k].lit.length + 20) := by
  unfold roomT
  rw [List.take_succ_eq_append_getElem h, List.map_append, List.sum_append]; simp
theorem tokensB_step (xs : List Tok) (k : Nat) (h : k < xs.length) : tokensB (xs.take (k + 1)) = tokensB (xs.take k) ++ tokB xs[k] := by
  unfold tokensB
  rw [List.take_succ_eq_append_getElem h, List.map_append, List.flatten_append]; simp
theorem roomT_le (xs : List Tok) (hL : ∀ t ∈ xs, t.lit.length ≤ 1048576) (k : Nat) (hk : k ≤ xs.length) : roomT (xs.take k) ≤ k * 1048596 := by
  induction k with
  | zero => simp [roomT]
  | succ k ih =>
    rw [roomT_step xs k (by omega)]
    have := ih (by omega)
    have := hL _ (List.getElem_mem (show k < xs.length by omega))
    omega
theorem roomT_mono (xs : List Tok) (k : Nat) : roomT (xs.take k) ≤ roomT xs := by
  have : roomT xs = roomT (xs.take k) + roomT (xs.drop k) := by
    unfold roomT
    conv => lhs; rw [← List.take_append_drop k xs]
    rw [List.map_append, List.sum_append]
  omega
theorem tokB_len (t : Tok) : (tokB t).length ≤ t.lit.length + 20 := by
  unfold tokB
  split
  · rw [List.length_append]; have := varB_len (2 * t.lit.length - 2); omega
  · rw [List.length_append]; have := varB_len (2 * t.len.toNat - 7); have := varB_len (t.off.toNat - 1); omega
theorem tokensB_len (xs : List Tok) : (tokensB xs).length ≤ roomT xs := by
  unfold tokensB roomT
  induction xs with
  | nil => simp
  | cons t xs ih => simp only [List.map_cons, List.flatten_cons, List.length_append, List.sum_cons]; have := tokB_len t; omega
theorem varB_most : (varB 18446744073709551615).length = 10 := by decide +kernel
theorem right_forms {t : Tok} (h : rightB t = true) : (∃ D, t = ⟨D, 0, 0⟩ ∧ 1 ≤ D.length ∧ D.length ≤ 1048576) ∨ ∃ o m : Nat, t = ⟨[], (o : Int), (m : Int)⟩ ∧ 1 ≤ o ∧ o ≤ 65536 ∧ 4 ≤ m ∧ m ≤ 1048576 := by
  obtain ⟨D, o, m⟩ := t
  simp only [rightB, runB, copyB, Bool.or_eq_true, Bool.and_eq_true, decide_eq_true_eq] at h
  rcases h with ⟨rfl, rfl, h1, h2⟩ | ⟨h0, h1, h2, h3, h4⟩
  · exact .inl ⟨D, rfl, h1, h2⟩
  · refine .inr ⟨o.toNat, m.toNat, ?_, by omega, by omega, by omega, by omega⟩
    rw [List.eq_nil_of_length_eq_zero h0, Int.toNat_of_nonneg (by omega), Int.toNat_of_nonneg (by omega)]

set_option maxRecDepth 100000 in
set_option maxHeartbeats 3200000 in
theorem token_room (xs : List Tok) (a : Option Addr) (n c : Nat) (w : World) (hl : rToks.r (· < w.heap.size) w [.slice a n c] xs) (hx : xs.length ≤ 10000000) (hL : ∀ t ∈ xs, t.lit.length ≤ 1048576) :
    Calls Tryz.prog 267 #[.slice a n c] w fun r w' => r = .returned (.int .i64 (roomT xs)) ∧ Below w.heap.size w w' := by
  obtain ⟨rfl, hm, _, _⟩ := sl_len hl
  have HL := hid hl; clear hl
  go_enter Tryz.func267, Tryz.ntmps267
  go_wp2_with fail
  go_loopw [3, 8] (fun s i wr => ∃ k : Nat, k ≤ xs.length ∧ i = .int .i64 k ∧ (∃ t : Nat, s = .int .i64 t ∧ Hid (t = roomT (xs.take k))) ∧ Below w.heap.size w wr) (fun _ i _ => xs.length - (intOf i).toNat)
  case atStart => exact ⟨0, Nat.zero_le _, rfl, ⟨0, rfl, hid (by simp [roomT])⟩, Below.refl _ _⟩
  case round =>
    obtain ⟨k, hk, rfl, ⟨t, rfl, ht⟩, hb⟩ := hrel
    rcases Nat.lt_or_ge k xs.length with hlt | hge
    · obtain ⟨b, o, hA, hbb, a2, c2, x0, x1, x2, _, _, _⟩ := tok_at HL.out hlt
      subst hA
      have X0 := (hb.cell (p := ⟨b, o + k * 3, none⟩) hbb).trans x0
      have X1 := (hb.cell (p := ⟨b, o + k * 3 + 1, none⟩) hbb).trans x1
      have X2 := (hb.cell (p := ⟨b, o + k * 3 + 2, none⟩) hbb).trans x2
      have hn := hid (roomT_step xs k hlt)
      have hle := roomT_le xs hL k (by omega)
      have hD := hL _ (List.getElem_mem hlt)
      rw [← ht.out] at hle
      clear x0 x1 x2
      generalize xs[k] = y at *
      obtain ⟨D, yo, ym⟩ := y
      dsimp only at *
      have hbs := hb.size
      have i1 : (k : Int) < (xs.length : Int) := by omega
      go_wp2_with fail
      refine wp_world (fun W => Below wr.heap.size wr W ∧ wr.heap.size < W.heap.size ∧ W.cell? ⟨wr.heap.size, 0, none⟩ = some (.slice a2 D.length c2)) ⟨by (repeat (first | exact Below.refl _ _ | assumption | (refine below_alloc ?_ _) | (refine Below.setCell ?_ (by first | omega | (simp; done) | (simp; omega)) _) | (refine Below.drew ?_) | (refine below_drewN ?_ _) | (refine below_then (by assumption) ?_))), by simp, by go_simp⟩ ?_
      intro W ⟨hbW, hzW, u0⟩
      have U0 := fun s : Later W => s.cell u0
      have HS := hid (fun s : Later W => varint_size 18446744073709551615 (by omega) s.at_)
      rw [varB_most] at HS
      have hbw := below_then hbW hb
      clear X0 X1 X2 u0
      refine wp_region_later (by kernel_rfl) (by kernel_rfl) ?_
      repeat (go_big_quiet_step (((go_at_call 249; exact later_of (HS.out _)))))
      refine wpQuiet_nil ?_
      rintro W5 ⟨⟨W5', hb5⟩, rfl⟩
      go_wp2
      go_roundw
      case rel => exact ⟨k + 1, by omega, by go_num, ⟨t + (D.length + 20), by go_num, hid (by rw [hn.out, ht.out])⟩, below_then hb5 hbw⟩
      case measure => simp [intOf]; omega
    · obtain rfl : k = xs.length := by omega
      rw [List.take_length] at ht
      go_wp2
      go_ret
      exact ⟨by rw [← ht.out]; rfl, hb⟩
end Go.Proofs.YtlbffbkbkajciaaGreat
namespace Go.Proofs.YtlbffbkbkajciaaGreat
open Go.RowKit Go.Bs Go.Maps
set_option linter.unusedVariables false
set_option linter.unusedSimpArgs false

theorem PenAt.below {w w' : World} {g base most : Nat} {J J' : List UInt8} {a : Option Addr} {c B : Nat} (h : PenAt w g base most J a c) (hB : B ≤ base) (hB2 : B ≤ w.heap.size) (k : PenStep w g base most J' a w') : Below B w w' := by
  obtain ⟨a', c', k1, k2, k3⟩ := k
  exact k2.to_below hB2 fun b _ hb => Nat.le_trans hB (h.own_lt hb).1

set_option maxRecDepth 100000 in
set_option maxHeartbeats 3200000 in
theorem token_bytes (xs : List Tok) (a : Option Addr) (n c : Nat) (w : World) (hl : rToks.r (· < w.heap.size) w [.slice a n c] xs) (hx : xs.length ≤ 10000000) (hR : ∀ t ∈ xs, rightB t = true) :
    Calls Tryz.prog 248 #[.slice a n c] w fun r w' => ∃ v, r = .returned (.tuple #[v, .int .i64 0]) ∧ rBytes.r (fun q => w.heap.size ≤ q ∧ q < w'.heap.size) w' [v] (tokensB xs) ∧ Below w.heap.size w w' := by
  obtain ⟨rfl, hm, _, _⟩ := sl_len hl
  have hL : ∀ t ∈ xs, t.lit.length ≤ 1048576 := fun t ht => by
    rcases right_forms (hR t ht) with ⟨D, rfl, h1, h2⟩ | ⟨o, m, rfl, _⟩
    · exact h2
    · simp
  have HRM := hid (token_room xs a _ c w hl hx hL)
  have hrl := roomT_le xs hL xs.length (Nat.le_refl _)
  rw [List.take_length] at hrl
  have HMO := hid (fun k => roomT_mono xs k)
  have HL := hid hl; have HR := hid hR
  clear hl hR hL
  generalize hM : roomT xs = M at *
  have hMM := hid hM; clear hM
  go_enter Tryz.func248, Tryz.ntmps248
  go_wp2_with fail
  refine HRM.out.mono ?_
  rintro r w1 ⟨rfl, hb1⟩
  have HN := hid (pen_new w1 M (by omega))
  go_wp2_with fail
  refine HN.out.mono ?_
  rintro r w2 ⟨rfl, hp2, hb2⟩
  have hs1 := hb1.size
  have hs2 := hb2.size
  have HP2 := hid hp2
  have hbw2 := below_then hb2 hb1
  clear hp2
  generalize hg : w1.heap.size = g at *
  go_wp2_with fail
  go_loopw [12] (fun i wr => ∃ k : Nat, k ≤ xs.length ∧ i = .int .i64 k ∧ Hid (∃ ap cp, PenAt wr g g M (tokensB (xs.take k)) ap cp) ∧ Below g w2 wr) (fun i _ => xs.length - (intOf i).toNat)
  case atStart => exact ⟨0, Nat.zero_le _, rfl, hid ⟨_, _, by simpa [tokensB] using HP2.out⟩, Below.refl _ _⟩
  case round =>
    obtain ⟨k, hk, rfl, hpen, hb⟩ := hrel
    obtain ⟨ap, cp, hP⟩ := hpen.out
    have hbw : Below w.heap.size w wr := ⟨hb.os.trans hbw2.os, hb.tape.trans hbw2.tape, hb.output.trans hbw2.output, by have := hb.size; omega, fun q hq => (hb.block q (by omega)).trans (hbw2.block q hq)⟩
    have hgl := hP.blk.lt
    rcases Nat.lt_or_ge k xs.length with hlt | hge
    · obtain ⟨b, o, hA, hbb, a2, c2, x0, x1, x2, _, _, xl⟩ := tok_at HL.out hlt
      subst hA
      have X0 := (hbw.cell (p := ⟨b, o + k * 3, none⟩) hbb).trans x0
      have X1 := (hbw.cell (p := ⟨b, o + k * 3 + 1, none⟩) hbb).trans x1
      have X2 := (hbw.cell (p := ⟨b, o + k * 3 + 2, none⟩) hbb).trans x2
      have hst := tokensB_step xs k hlt
      have hfit : (tokensB (xs.take k)).length + (tokB xs[k]).length ≤ M := by
        have h1 := tokensB_len (xs.take (k + 1))
        rw [hst, List.length_append] at h1
        have h2 := HMO.out (k + 1)
        omega
      have hr := HR.out _ (List.getElem_mem hlt)
      have HST := hid hst
      have HXL := hid xl
      have HFIT := hid hfit
      clear x0 x1 x2 xl hst hfit
      generalize xs[k] = y at *
      generalize tokensB (xs.take k) = J at *
      have hbs := hb.size
      have i1 : (k : Int) < (xs.length : Int) := by omega
      have HP := hid hP
      clear hP hpen
      rcases right_forms hr with ⟨D, rfl, k1, k2⟩ | ⟨yo, ym, rfl, k1, k2, k3, k4⟩
      · dsimp only at X0 X1 X2 HXL
        clear hr
        go_wp2_with fail
        have hbW : Below wr.heap.size wr (wr.alloc (.cells #[.slice a2 D.length c2, .int .i64 0, .int .i64 0] 225)) := by (repeat (first | exact Below.refl _ _ | assumption | (refine below_alloc ?_ _) | (refine Below.setCell ?_ (by first | omega | (simp; done) | (simp; omega)) _) | (refine Below.drew ?_) | (refine below_drewN ?_ _) | (refine below_then (by assumption) ?_)))
        generalize wr.alloc (.cells #[.slice a2 D.length c2, .int .i64 0, .int .i64 0] 225) = W at *
        have hzW := hbW.size
        have hPW := HP.out.later hbW
        have HQ := hid (token_put_run W hPW D k1 k2 a2 c2 (rBytes.mono (rBytes.keep HXL.out fun q hq => (below_then hbW hbw).block q hq) fun q hq => ⟨Nat.lt_of_lt_of_le hq (by have := hbw.size; omega), fun hf => by have := (hPW.own_lt hf).1; have hq' : q < w.heap.size := hq; omega⟩) HFIT.out (by have := HFIT.out; omega))
        have HPW := hid hPW
        clear X0 X1 X2 hPW
        refine HQ.out.mono ?_
        rintro r w5 ⟨rfl, hps⟩
        have hb5 : Below g w2 w5 := by
          have e1 : Below g W w5 := HPW.out.below (Nat.le_refl _) (by omega) hps
          exact (hb.trans (hbW.mono (by omega))).trans e1
        obtain ⟨a5, c5, hP5, _, _⟩ := hps
        have HP5 := hid (⟨a5, c5, by rw [HST.out]; exact hP5⟩ : ∃ ap cp, PenAt w5 g g M (tokensB (xs.take (k + 1))) ap cp)
        clear hP5
        go_wp2
        go_roundw
        case rel => exact ⟨k + 1, by omega, by go_num, HP5, hb5⟩
        case measure => simp [intOf]; omega
      · dsimp only [List.length_nil] at X0 X1 X2 HXL
        clear hr
        go_wp2_with fail
        have hbW : Below wr.heap.size wr (wr.alloc (.cells #[.slice a2 0 c2, .int .i64 yo, .int .i64 ym] 225)) := by (repeat (first | exact Below.refl _ _ | assumption | (refine below_alloc ?_ _) | (refine Below.setCell ?_ (by first | omega | (simp; done) | (simp; omega)) _) | (refine Below.drew ?_) | (refine below_drewN ?_ _) | (refine below_then (by assumption) ?_)))
        generalize wr.alloc (.cells #[.slice a2 0 c2, .int .i64 yo, .int .i64 ym] 225) = W at *
        have hzW := hbW.size
        have hPW := HP.out.later hbW
        have HQ := hid (token_put_copy W hPW yo ym k1 k2 k3 k4 a2 c2 HFIT.out (by have := HFIT.out; omega))
        have HPW := hid hPW
        clear X0 X1 X2 hPW
        refine HQ.out.mono ?_
        rintro r w5 ⟨rfl, hps⟩
        have hb5 : Below g w2 w5 := by
          have e1 : Below g W w5 := HPW.out.below (Nat.le_refl _) (by omega) hps
          exact (hb.trans (hbW.mono (by omega))).trans e1
        obtain ⟨a5, c5, hP5, _, _⟩ := hps
        have HP5 := hid (⟨a5, c5, by rw [HST.out]; exact hP5⟩ : ∃ ap cp, PenAt w5 g g M (tokensB (xs.take (k + 1))) ap cp)
        clear hP5
        go_wp2
        go_roundw
        case rel => exact ⟨k + 1, by omega, by go_num, HP5, hb5⟩
        case measure => simp [intOf]; omega
    · obtain rfl : k = xs.length := by omega
      rw [List.take_length] at hP
      have HB := hid (pen_bytes wr hP)
      clear hP hpen
      go_wp2_with fail
      refine HB.out.mono ?_
      rintro r w5 ⟨v, rfl, hv, hb5⟩
      have hbe := below_then hb5 hbw
      have HV := hid (rBytes.mono (S' := fun q => w.heap.size ≤ q ∧ q < w5.heap.size) hv fun q hq => ⟨by have := hq.1; have := hbw.size; omega, hq.2⟩)
      clear hv
      go_wp2
      go_ret2
      exact ⟨_, rfl, HV.out, hbe⟩
end Go.Proofs.YtlbffbkbkajciaaGreat
namespace Go.Proofs.YtlbffbkbkajciaaGreat
open Go.RowKit Go.Bs Go.Maps
set_option linter.unusedVariables false
set_option linter.unusedSimpArgs false

theorem byteCells_app (J D : List UInt8) : byteCells J ++ byteCells D = byteCells (J ++ D) := by simp [byteCells]

set_option maxRecDepth 100000 in
set_option maxHeartbeats 3200000 in
theorem ref11_bytes (xs : List Tok) (a : Option Addr) (n c : Nat) (w : World) (hl : rToks.r (· < w.heap.size) w [.slice a n c] xs) (hx : xs.length ≤ 10000000) (hR : ∀ t ∈ xs, rightB t = true) :
    Calls Tryz.prog 225 #[.slice a n c] w fun r w' => ∃ v, r = .returned v ∧ rBytes.r (fun q => w.heap.size ≤ q ∧ q < w'.heap.size) w' [v] (tokensB xs) ∧ Below w.heap.size w w' := by
  obtain ⟨rfl, hm, _, _⟩ := sl_len hl
  obtain ⟨i0, hi, hz0, hz1, hz2⟩ := info_parts info8
  have hL : ∀ t ∈ xs, t.lit.length ≤ 1048576 := fun t ht => by
    rcases right_forms (hR t ht) with ⟨D, rfl, h1, h2⟩ | ⟨o, m, rfl, _⟩
    · exact h2
    · simp
  have HRL := hid (fun k (hk : k ≤ xs.length) => Nat.le_trans (tokensB_len (xs.take k)) (roomT_le xs hL k hk))
  have HL := hid hl; have HR := hid hR
  clear hl hR hL
  go_enter Tryz.func225, Tryz.ntmps225
  go_wp2_with fail
  go_loopw [3, 4] (fun v i wr => ∃ k : Nat, k ≤ xs.length ∧ i = .int .i64 k ∧ wr.ownsRow w.heap.size 5 1 v (tokensB (xs.take k)).length (byteCells (tokensB (xs.take k))) ∧ Below w.heap.size w wr) (fun _ i _ => xs.length - (intOf i).toNat)
  case atStart => exact ⟨0, Nat.zero_le _, rfl, ⟨rfl, .inl ⟨rfl, rfl⟩⟩, Below.refl _ _⟩
  case round =>
    obtain ⟨k, hk, rfl, hown, hb⟩ := hrel
    have hbs := hb.size
    rcases Nat.lt_or_ge k xs.length with hlt | hge
    · obtain ⟨b, o, hA, hbb, a2, c2, x0, x1, x2, _, _, xl⟩ := tok_at HL.out hlt
      subst hA
      have X0 := (hb.cell (p := ⟨b, o + k * 3, none⟩) hbb).trans x0
      have X1 := (hb.cell (p := ⟨b, o + k * 3 + 1, none⟩) hbb).trans x1
      have X2 := (hb.cell (p := ⟨b, o + k * 3 + 2, none⟩) hbb).trans x2
      have hst := hid (tokensB_step xs k hlt)
      have hle := HRL.out (k + 1) hlt
      rw [hst.out, List.length_append] at hle
      have hr := HR.out _ (List.getElem_mem hlt)
      have HXL := hid xl
      have HX := hid (And.intro x0 (And.intro x1 x2))
      clear x0 x1 x2 xl
      obtain ⟨aJ, cJ, rfl⟩ := own_form hown
      generalize xs[k] = y at *
      generalize tokensB (xs.take k) = J at *
      have i1 : (k : Int) < (xs.length : Int) := by omega
      have HO := hid hown
      clear hown
      rcases right_forms hr with ⟨D, rfl, k1, k2⟩ | ⟨yo, ym, rfl, k1, k2, k3, k4⟩
      · have hrun : runB ⟨D, 0, 0⟩ = true := by simp [runB]; omega
        have HRUN := hid (ref11_run ⟨D, 0, 0⟩ a2 c2 wr (by dsimp only; omega) ⟨by simp, by simp⟩ ⟨by simp, by simp⟩)
        rw [hrun] at HRUN
        have hT := tokB_run D k1 k2
        rw [hT] at hle hst
        rw [List.length_append] at hle
        have HV := hid (fun (W : World) => ref04_bytes (2 * D.length - 2) (by omega) W)
        rw [show (((2 * D.length - 2 : Nat)) : Int) = 2 * (D.length : Int) - 2 by omega] at HV
        dsimp only at X0 X1 X2 HXL HX
        clear hr hrun hT
        go_wp2_with fail
        refine HRUN.out.mono ?_
        rintro r w1 ⟨rfl, hb1⟩
        have hbw1 := below_then hb1 hb
        have Y0 := (hbw1.cell (p := ⟨b, o + k * 3, none⟩) hbb).trans HX.out.1
        have hs1 := hb1.size
        clear X0 X1 X2
        go_wp2_with fail
        refine (HV.out _).mono ?_
        rintro r w2 ⟨v2, rfl, hv2, hb2⟩
        obtain ⟨a3, c3, hv3, hr3, _⟩ := sl_form hv2
        simp only [List.cons.injEq, and_true] at hv3
        subst hv3
        have hs2 := hb2.size
        have hb12 := below_then hb2 hb1
        have hbw2 := below_then hb2 hbw1
        have HO2 := hid (own_below (own_below HO.out hb1) hb2)
        have HS := hid (src_bytes (rBytes.mono (S' := (· < w2.heap.size)) hr3 fun q hq => hq.2))
        generalize varB (2 * D.length - 2) = E at *
        have HONE := hid (byteCells_one E)
        clear hv2 hr3 Y0
        go_wp2_with (first
          | (at_builtin; go_loud (refine wpList_append_src rfl _ _ _ rfl w.heap.size 5 i0 (.int .u8 0) 1 1 Tryz.underlying25 hi hz0 hz1 hz2 rfl (by decide) (.slice aJ J.length cJ) J.length (byteCells J) rfl HO2.out a3 E.length c3 (byteCells E) rfl HS.out HONE.out (by simp only [maxLen]; omega) (by omega) (by omega) ?_; intro v' w3 hown3 hgrow3 hat3; obtain ⟨a4, c4, rfl⟩ := own_form hown3; have HG3 := hid hgrow3; have HO3 := hid hown3; have hbw3 : Below w.heap.size w w3 := (Below.grown hbw2 hgrow3 (by omega) (fun g e => (HO.out.lt g e).1)); have Z0 := (hbw3.cell (p := ⟨b, o + k * 3, none⟩) hbb).trans HX.out.1; have hs3 := hgrow3.size; have HS3 := hid (src_bytes (lift HXL.out hbw3)); have HONE3 := hid (byteCells_one D); clear hgrow3 hown3 hat3))
          | (at_builtin; go_loud (refine wpList_append_src rfl _ _ _ rfl w.heap.size 5 i0 (.int .u8 0) 1 1 Tryz.underlying25 hi hz0 hz1 hz2 rfl (by decide) (.slice a4 (J.length + E.length) c4) (J.length + E.length) (byteCells J ++ byteCells E) rfl HO3.out a2 D.length c2 (byteCells D) rfl HS3.out HONE3.out (by simp only [maxLen]; omega) (by omega) (by omega) ?_; intro v' w5 hown5 hgrow5 hat5; have HG5 := hid hgrow5; have HO5 := hid hown5; clear hgrow5 hown5 hat5)))
        have ho := HO5.out
        rw [byteCells_app, byteCells_app, List.append_assoc, ← hst.out] at ho
        have hln : J.length + E.length + D.length = (tokensB (xs.take (k + 1))).length := by rw [hst.out]; simp only [List.length_append]; omega
        rw [hln] at ho
        have HOF := hid ho
        have hbF : Below w.heap.size w w5 := Below.grown hbw3 HG5.out (by omega) (fun g e => (HO3.out.lt g e).1)
        clear ho hln Z0
        go_wp2
        go_roundw
        case rel => exact ⟨k + 1, by omega, by go_num, HOF.out, hbF⟩
        case measure => simp [intOf]; omega
      · have hrun : runB ⟨[], (yo : Int), (ym : Int)⟩ = false := by simp [runB]
        have HRUN := hid (ref11_run ⟨[], (yo : Int), (ym : Int)⟩ a2 c2 wr (by simp) (by dsimp only; omega) (by dsimp only; omega))
        rw [hrun] at HRUN
        have hT := tokB_copy yo ym k1
        rw [hT] at hle hst
        rw [List.length_append] at hle
        have HV := hid (fun (W : World) => ref04_bytes (2 * ym - 7) (by omega) W)
        have HV2 := hid (fun (W : World) => ref04_bytes (yo - 1) (by omega) W)
        rw [show (((2 * ym - 7 : Nat)) : Int) = 2 * (ym : Int) - 7 by omega] at HV
        rw [show (((yo - 1 : Nat)) : Int) = (yo : Int) - 1 by omega] at HV2
        dsimp only [List.length_nil] at X0 X1 X2 HXL HX HRUN
        clear hr hrun hT
        go_wp2_with fail
        refine HRUN.out.mono ?_
        rintro r w1 ⟨rfl, hb1⟩
        have hbw1 := below_then hb1 hb
        have Y2 := (hbw1.cell (p := ⟨b, o + k * 3 + 2, none⟩) hbb).trans HX.out.2.2
        have hs1 := hb1.size
        clear X0 X1 X2
        go_wp2_with fail
        refine (HV.out _).mono ?_
        rintro r w2 ⟨v2, rfl, hv2, hb2⟩
        obtain ⟨a3, c3, hv3, hr3, _⟩ := sl_form hv2
        simp only [List.cons.injEq, and_true] at hv3
        subst hv3
        have hs2 := hb2.size
        have hb12 := below_then hb2 hb1
        have hbw2 := below_then hb2 hbw1
        have HO2 := hid (own_below (own_below HO.out hb1) hb2)
        have HS := hid (src_bytes (rBytes.mono (S' := (· < w2.heap.size)) hr3 fun q hq => hq.2))
        generalize varB (2 * ym - 7) = E at *
        have HONE := hid (byteCells_one E)
        clear hv2 hr3 Y2
        go_wp2_with (at_builtin; go_loud (refine wpList_append_src rfl _ _ _ rfl w.heap.size 5 i0 (.int .u8 0) 1 1 Tryz.underlying25 hi hz0 hz1 hz2 rfl (by decide) (.slice aJ J.length cJ) J.length (byteCells J) rfl HO2.out a3 E.length c3 (byteCells E) rfl HS.out HONE.out (by simp only [maxLen]; omega) (by omega) (by omega) ?_; intro v' w3 hown3 hgrow3 hat3; obtain ⟨a4, c4, rfl⟩ := own_form hown3; have HG3 := hid hgrow3; have HO3 := hid hown3; have hbw3 : Below w.heap.size w w3 := (Below.grown hbw2 hgrow3 (by omega) (fun g e => (HO.out.lt g e).1)); have Z1 := (hbw3.cell (p := ⟨b, o + k * 3 + 1, none⟩) hbb).trans HX.out.2.1; have hs3 := hgrow3.size; clear hgrow3 hown3 hat3))
        refine (HV2.out _).mono ?_
        rintro r w4 ⟨v4, rfl, hv4, hb4⟩
        obtain ⟨a5, c5, hv5, hr5, _⟩ := sl_form hv4
        simp only [List.cons.injEq, and_true] at hv5
        subst hv5
        have hs4 := hb4.size
        have hbw4 := below_then hb4 hbw3
        have HO4 := hid (own_below HO3.out hb4)
        have HS4 := hid (src_bytes (rBytes.mono (S' := (· < w4.heap.size)) hr5 fun q hq => hq.2))
        generalize varB (yo - 1) = E2 at *
        have HONE4 := hid (byteCells_one E2)
        clear hv4 hr5
        go_wp2_with (at_builtin; go_loud (refine wpList_append_src rfl _ _ _ rfl w.heap.size 5 i0 (.int .u8 0) 1 1 Tryz.underlying25 hi hz0 hz1 hz2 rfl (by decide) (.slice a4 (J.length + E.length) c4) (J.length + E.length) (byteCells J ++ byteCells E) rfl HO4.out a5 E2.length c5 (byteCells E2) rfl HS4.out HONE4.out (by simp only [maxLen]; omega) (by omega) (by omega) ?_; intro v' w5 hown5 hgrow5 hat5; have HG5 := hid hgrow5; have HO5 := hid hown5; clear hgrow5 hown5 hat5))
        have ho := HO5.out
        rw [byteCells_app, byteCells_app, List.append_assoc, ← hst.out] at ho
        have hln : J.length + E.length + E2.length = (tokensB (xs.take (k + 1))).length := by rw [hst.out]; simp only [List.length_append]; omega
        rw [hln] at ho
        have HOF := hid ho
        have hbF : Below w.heap.size w w5 := Below.grown hbw4 HG5.out (by omega) (fun g e => (HO4.out.lt g e).1)
        clear ho hln Z1
        go_wp2
        go_roundw
        case rel => exact ⟨k + 1, by omega, by go_num, HOF.out, hbF⟩
        case measure => simp [intOf]; omega
    · obtain rfl : k = xs.length := by omega
      rw [List.take_length] at hown
      have hV := own_bytes2 rfl hown
      have HV := hid hV
      clear hV hown
      go_wp2
      go_ret
      exact ⟨_, rfl, HV.out, hb⟩
end Go.Proofs.YtlbffbkbkajciaaGreat
namespace Go.Bs
open Go.RowKit
theorem own_bytes3 {w : World} {base : Nat} {e : TypeId} {v : Value} {l : List UInt8} {n : Nat} (hn : n = l.length) (h : w.ownsRow base e 1 v n (byteCells l)) : rBytes.r (fun b => v.ownBlock = some b) w [v] l := by
  subst hn
  rcases h.2 with ⟨rfl, h0⟩ | ⟨g, cap, cur, rfl, hbg, hg, hn, hc, hcur, hx⟩
  · have : l = [] := List.eq_nil_of_length_eq_zero h0
    subst this
    exact rSl_mk rfl (Nat.le_refl _) (Nat.zero_le _) (.inl rfl)
  · refine rSl_mk rfl hn hc (.inr ⟨g, 0, rfl, rfl, fun i x hi => ⟨[.int .u8 (x.toNat : Int)], rfl, fun j v hj => ?_, rfl⟩⟩)
    have hj0 : j = 0 := by
      rcases j with _ | j
      · rfl
      · simp at hj
    subst hj0
    simp at hj
    subst hj
    have hi' : i < l.length := (List.getElem?_eq_some_iff.1 hi).1
    rw [Nat.zero_add, Nat.mul_one, Nat.add_zero, Blk.cell hg i]
    have e1 : cur[i]? = (cur.toList.take (l.length * 1))[i]? := by
      rw [List.getElem?_take, if_pos (by omega)]; simp
    rw [e1, hx]
    simp [byteCells, hi]
end Go.Bs
namespace Go.Proofs.YtlbffbkbkajciaaGreat
open Go.RowKit Go.Bs Go.Maps
set_option linter.unusedVariables false
set_option linter.unusedSimpArgs false

/-- A token, or a run whose bytes are still being read. -/
def rTV : Rp (Tok ⊕ Value) :=
  ⟨fun S w cs x => match x with | .inl t => rTok.r S w cs t | .inr v => cs = [v, .int .i64 0, .int .i64 0],
   fun {S w w' cs x} h hk => by cases x with | inl b => exact rTok.keep h hk | inr y => exact h,
   fun {S S' w cs x} h hk => by cases x with | inl b => exact rTok.mono h hk | inr y => exact h⟩

structure TBld (lo : Nat) (w : World) (g c : Nat) (cells : List (List Value)) (ts : List Tok) (D : List UInt8) (vl : Value) : Prop where
  own : OwnElsF (fun x => lo ≤ x ∧ x < w.heap.size ∧ vl.ownBlock ≠ some x) rTV lo 225 3 w (.slice (some ⟨g, 0, none⟩) (ts.length + 1) c) (ts.map .inl ++ [.inr vl]) (cells ++ [[vl, .int .i64 0, .int .i64 0]])
  len : cells.length = ts.length
  last : w.ownsRow lo 5 1 vl D.length (byteCells D)
  ne : vl.ownBlock ≠ some g

theorem tok_inl {w : World} {F : Nat → Prop} {base : Nat} {e : TypeId} {sz : Nat} {v : Value} {xs : List Tok} {cells : List (List Value)} (h : OwnElsF F rTok base e sz w v xs cells) : OwnElsF F rTV base e sz w v (xs.map .inl) cells := by
  obtain ⟨ho, hlen, hsz, hA⟩ := h
  refine ⟨by simpa using ho, by simpa using hlen, hsz, fun i cs x hi hx => ?_⟩
  rw [List.getElem?_map] at hx
  cases hxi : xs[i]? with
  | none => rw [hxi] at hx; cases hx
  | some y => rw [hxi] at hx; cases hx; exact hA i cs y hi hxi

theorem TBld.g_lt {lo : Nat} {w : World} {g c : Nat} {cells : List (List Value)} {ts : List Tok} {D : List UInt8} {vl : Value} (h : TBld lo w g c cells ts D vl) : lo ≤ g ∧ g < w.heap.size := h.own.1.lt g rfl

theorem TBld.close {lo : Nat} {w : World} {g c : Nat} {cells : List (List Value)} {ts : List Tok} {D : List UInt8} {vl : Value} (h : TBld lo w g c cells ts D vl) :
    OwnElsAt lo rTok lo 225 3 w (.slice (some ⟨g, 0, none⟩) (ts.length + 1) c) (ts ++ [⟨D, 0, 0⟩]) (cells ++ [[vl, .int .i64 0, .int .i64 0]]) := by
  obtain ⟨⟨ho, hlen, hsz, hA⟩, h1, h4, h5⟩ := h
  refine ⟨by simpa using ho, by simpa using hlen, hsz, fun i cs x hi hx => ?_⟩
  by_cases hlt : i < ts.length
  · rw [List.getElem?_append_left hlt] at hx
    have := hA i cs (.inl x) hi (by rw [List.getElem?_append_left (by simpa using hlt), List.getElem?_map, hx]; rfl)
    exact rTok.mono this fun b hb => ⟨hb.1.1, hb.1.2.1, hb.2⟩
  · have hii : i = ts.length := by
      have := (List.getElem?_eq_some_iff.1 hx).1
      simp at this
      omega
    subst hii
    rw [List.getElem?_append_right (by omega)] at hi
    rw [List.getElem?_append_right (Nat.le_refl _)] at hx
    simp [h1] at hi
    simp at hx
    subst hi hx
    exact tok_mk (x := ⟨D, 0, 0⟩) (rBytes.mono (own_bytes3 rfl h4) fun b hb => ⟨(h4.lt b hb).1, (h4.lt b hb).2, fun e => h5 (by rw [hb]; exact e.symm)⟩) (by simp) (by simp)

/-- A run of one byte is put behind all tokens. -/
theorem TBld.start {lo : Nat} {w w' : World} {g c : Nat} {v : Value} {ts : List Tok} {y : UInt8} {cells : List (List Value)} (hlo : lo ≤ w.heap.size) (h : OwnElsAt lo rTok lo 225 3 w v ts cells)
    (hown : w'.ownsRow lo 225 3 (.slice (some ⟨g, 0, none⟩) (ts.length + 1) c) (ts.length + 1) (cells.flatten ++ [.slice (some ⟨w.heap.size, 0, none⟩) 1 1, .int .i64 0, .int .i64 0]))
    (hg : ((w.alloc (.cells #[.int .u8 (y.toNat : Int)] 5)).alloc (.cells #[.slice (some ⟨w.heap.size, 0, none⟩) 1 1, .int .i64 0, .int .i64 0] 225)).grownBy w' v.ownBlock)
    (hat : (Value.slice (some ⟨g, 0, none⟩) (ts.length + 1) c).ownBlock = v.ownBlock ∨ (Value.slice (some ⟨g, 0, none⟩) (ts.length + 1) c).ownBlock = some ((w.alloc (.cells #[.int .u8 (y.toNat : Int)] 5)).alloc (.cells #[.slice (some ⟨w.heap.size, 0, none⟩) 1 1, .int .i64 0, .int .i64 0] 225)).heap.size) :
    TBld lo w' g c cells ts [y] (.slice (some ⟨w.heap.size, 0, none⟩) 1 1) := by
  have hv := fun q (hq : v.ownBlock = some q) => (h.1.lt q hq).2
  generalize hW : (w.alloc (.cells #[.int .u8 (y.toNat : Int)] 5)).alloc (.cells #[.slice (some ⟨w.heap.size, 0, none⟩) 1 1, .int .i64 0, .int .i64 0] 225) = W at *
  have keep : ∀ b, b < w.heap.size → W.heap[b]? = w.heap[b]? := fun b hb => by
    rw [← hW, Below.heap_alloc _ _ _ (by simp; omega), Below.heap_alloc _ _ _ hb]
  have hs : W.heap.size = w.heap.size + 2 := by rw [← hW]; simp
  have hnew : W.heap[w.heap.size]? = some (.cells #[.int .u8 (y.toNat : Int)] 5 (0, 0)) := by
    rw [← hW, Below.heap_alloc _ _ _ (by simp)]
    exact World.alloc_heap_new w _
  have hgw : g ≠ w.heap.size := fun e => by
    rcases hat with h1 | h1
    · have := hv g (by rw [← h1]; rfl); omega
    · have := Option.some.inj h1; simp at this; omega
  have hs' := hg.size
  have h1 := tok_inl (((OwnElsF.of h).keep (w' := W) (fun b hb => keep b hb.2) (fun q hq => keep q (hv q hq))).mono (F' := fun x => lo ≤ x ∧ x < W.heap.size ∧ x ≠ w.heap.size) fun b hb => ⟨hb.1, by omega, by omega⟩)
  have h2 := OwnElsF.push (v' := .slice (some ⟨g, 0, none⟩) (ts.length + 1) c) (x := (.inr (.slice (some ⟨w.heap.size, 0, none⟩) 1 1) : Tok ⊕ Value)) h1 (fun b hb => hb.2.1) (news := [.slice (some ⟨w.heap.size, 0, none⟩) 1 1, .int .i64 0, .int .i64 0]) rfl rfl (by simpa using hown) hg hat
  refine ⟨h2.mono fun b hb => ⟨hb.1, by omega, fun e => hb.2.2 (Option.some.inj e).symm⟩, h.2.1, ?_, fun e => hgw (Option.some.inj e).symm⟩
  refine own_new1 hlo ((hg.block w.heap.size (by omega) (fun e => ?_)).trans hnew)
  have := hv w.heap.size e.symm
  omega

/-- The run has grown by one byte. -/
theorem TBld.grow {lo : Nat} {w w' : World} {g c : Nat} {cells : List (List Value)} {ts : List Tok} {D D' : List UInt8} {vl vl' : Value} (h : TBld lo w g c cells ts D vl)
    (hk : ∀ b, b < w.heap.size → vl.ownBlock ≠ some b → w'.heap[b]? = w.heap[b]?) (hs : w.heap.size ≤ w'.heap.size) (hl : w'.ownsRow lo 5 1 vl' D'.length (byteCells D'))
    (hat : vl'.ownBlock = vl.ownBlock ∨ ∃ q, vl'.ownBlock = some q ∧ w.heap.size ≤ q) :
    TBld lo (w'.setCell ⟨g, ts.length * 3, none⟩ vl') g c cells ts D' vl' := by
  have hgl := h.g_lt
  obtain ⟨ho, h1, h4, h5⟩ := h
  have hsame : (w'.setCell ⟨g, ts.length * 3, none⟩ vl').heap.size = w'.heap.size := by simp [World.setCell]
  have hne' : vl'.ownBlock ≠ some g := fun e => by
    rcases hat with h | ⟨q, h, hq⟩
    · exact h5 (h ▸ e)
    · rw [h] at e; have := Option.some.inj e; omega
  have ho' := ho.keep (w' := w') (fun b hb => hk b hb.2.1 hb.2.2) (fun g' hg' => by
    have e : g = g' := by simpa [Value.ownBlock] using hg'
    subst e
    exact hk g hgl.2 h5)
  have h7 := OwnElsF.setLast (x' := (.inr vl' : Tok ⊕ Value)) (j := 0) (u := vl') ho' (by simpa using h1) (by omega) (show _ = _ from rfl)
  rw [Nat.add_zero, List.length_map] at h7
  have h8 : OwnElsF (fun x => lo ≤ x ∧ x < w.heap.size ∧ vl.ownBlock ≠ some x) rTV lo 225 3 (w'.setCell ⟨g, ts.length * 3, none⟩ vl') (.slice (some ⟨g, 0, none⟩) (ts.length + 1) c) (ts.map .inl ++ [.inr vl']) (cells ++ [[vl', .int .i64 0, .int .i64 0]]) := h7
  refine ⟨OwnElsF.mono h8 fun b hb => ⟨hb.1, by rw [hsame]; omega, fun e => ?_⟩, h1, own_keep hl fun q hq => Below.heap_setCell _ _ _ _ (fun e => hne' (by rw [hq]; exact congrArg some e)), hne'⟩
  rcases hat with h | ⟨q, h, hq⟩
  · exact hb.2.2 (h ▸ e)
  · rw [h] at e; have := Option.some.inj e; omega

theorem TBld.later {lo : Nat} {w w' : World} {g c : Nat} {cells : List (List Value)} {ts : List Tok} {D : List UInt8} {vl : Value} (h : TBld lo w g c cells ts D vl) (hb : Below w.heap.size w w') : TBld lo w' g c cells ts D vl := by
  have hgl := h.g_lt
  obtain ⟨ho, h1, h4, h5⟩ := h
  refine ⟨(ho.keep (w' := w') (fun b h => hb.block b h.2.1) (fun g' hg' => hb.block g' (ho.1.lt g' hg').2)).mono fun b hb' => ⟨hb'.1, by have := hb.size; omega, hb'.2.2⟩, h1, own_below h4 hb, h5⟩

theorem TBld.place {lo : Nat} {w : World} {g c : Nat} {cells : List (List Value)} {ts : List Tok} {D : List UInt8} {vl : Value} (h : TBld lo w g c cells ts D vl) :
    w.cell? ⟨g, ts.length * 3, none⟩ = some vl ∧ w.cell? ⟨g, ts.length * 3 + 1, none⟩ = some (.int .i64 0) ∧ w.frozen? ⟨g, ts.length * 3, none⟩ = false := by
  obtain ⟨⟨ho, hlen, hsz, hA⟩, h1, _⟩ := h
  rcases ho.2 with ⟨h0, _⟩ | ⟨g', cap, cur, hv, hbg, hg, hn, hc, hcur, hx⟩
  · cases h0
  · simp at hv
    obtain ⟨rfl, rfl⟩ := hv
    have hf : ∀ j u, [vl, Value.int .i64 0, .int .i64 0][j]? = some u → cur[ts.length * 3 + j]? = some u := fun j u hu => by
      have hf := flatten_at 3 (cells ++ [[vl, .int .i64 0, .int .i64 0]]) hsz ts.length j [vl, .int .i64 0, .int .i64 0] u (by rw [List.getElem?_append_right (by omega), h1]; simp) hu
      rw [← hx, List.getElem?_take] at hf
      split at hf
      · simpa using hf
      · cases hf
    refine ⟨?_, ?_, Blk.free hg _⟩
    · rw [Blk.cell hg]; exact hf 0 vl rfl
    · rw [Blk.cell hg]; exact hf 1 _ rfl
end Go.Proofs.YtlbffbkbkajciaaGreat
namespace Go.Proofs.YtlbffbkbkajciaaGreat
open Go.RowKit Go.Bs Go.Maps
set_option linter.unusedVariables false
set_option linter.unusedSimpArgs false

/-- What is still to come. -/
def Rest (b : List UInt8) (p i : Nat) (O : List Tok) : Prop := ∃ f, b.length ≤ p + f ∧ toksR b = O ++ toksF b f p i
theorem Rest.copy {b : List UInt8} {p i o m : Nat} {O : List Tok} (h : Rest b p i O) (hp : p < b.length) (hb : bestR b p = (o, m)) (hm : m ≠ 0) : Rest b (p + m) (p + m) (O ++ litT b i p ++ [⟨[], (o : Int), (m : Int)⟩]) := by
  obtain ⟨f, hf, h⟩ := h
  obtain ⟨f, rfl⟩ : ∃ f', f = f' + 1 := ⟨f - 1, by omega⟩
  refine ⟨f, by omega, ?_⟩
  rw [h]
  simp only [toksF, if_pos hp, hb, if_neg hm]
  simp
theorem Rest.none {b : List UInt8} {p i o : Nat} {O : List Tok} (h : Rest b p i O) (hp : p < b.length) (hb : bestR b p = (o, 0)) : Rest b (p + 1) i O := by
  obtain ⟨f, hf, h⟩ := h
  obtain ⟨f, rfl⟩ : ∃ f', f = f' + 1 := ⟨f - 1, by omega⟩
  refine ⟨f, by omega, ?_⟩
  rw [h]
  simp only [toksF, if_pos hp, hb, if_true]
theorem Rest.fin {b : List UInt8} {i : Nat} {O : List Tok} (h : Rest b b.length i O) : toksR b = O ++ litT b i b.length := by
  obtain ⟨f, hf, h⟩ := h
  rw [h]
  cases f with
  | zero => rfl
  | succ f => simp only [toksF, if_neg (Nat.lt_irrefl _)]

def LastCopy (O : List Tok) : Prop := ∀ n, O.length = n + 1 → ∀ t, O[n]? = some t → t.off ≠ 0
theorem LastCopy.snoc (O : List Tok) {o m : Nat} (ho : o ≠ 0) : LastCopy (O ++ [⟨[], (o : Int), (m : Int)⟩]) := fun n hn t ht => by
  have e : n = O.length := by simp at hn; omega
  subst e
  simp at ht
  subst ht
  simpa using ho

/-- The tokens so far. -/
def TOut (lo : Nat) (b : List UInt8) (w : World) (v : Value) (O : List Tok) (i p : Nat) : Prop :=
  (i = p ∧ ∃ cells, OwnElsAt lo rTok lo 225 3 w v O cells) ∨ (i < p ∧ ∃ g c cells vl, v = .slice (some ⟨g, 0, none⟩) (O.length + 1) c ∧ TBld lo w g c cells O ((b.drop i).take (p - i)) vl)
theorem TOut.close {lo : Nat} {b : List UInt8} {w : World} {v : Value} {O : List Tok} {i p : Nat} (h : TOut lo b w v O i p) : ∃ cells, OwnElsAt lo rTok lo 225 3 w v (O ++ litT b i p) cells := by
  rcases h with ⟨rfl, cells, h⟩ | ⟨h0, g, c, cells, vl, rfl, h⟩
  · exact ⟨cells, by simpa [litT] using h⟩
  · exact ⟨_, by have := h.close; simpa [litT, h0] using this⟩
theorem lit_snoc {b : List UInt8} {i p : Nat} (hi : i ≤ p) (hp : p < b.length) : (b.drop i).take (p + 1 - i) = (b.drop i).take (p - i) ++ [b[p]] := by
  rw [show p + 1 - i = (p - i) + 1 by omega, List.take_succ_eq_append_getElem (by simp; omega)]
  congr 2
  simp
  congr 1
  omega

set_option maxRecDepth 100000 in
set_option maxHeartbeats 6400000 in
theorem ref15_tokens (b : List UInt8) (a : Option Addr) (n c : Nat) (w : World) (hl : rBytes.r (· < w.heap.size) w [.slice a n c] b) (hlen : b.length ≤ 1048576) :
    Calls Tryz.prog 226 #[.slice a n c] w fun r w' => ∃ v, r = .returned v ∧ rToks.r (fun q => w.heap.size ≤ q ∧ q < w'.heap.size) w' [v] (toksR b) ∧ Below w.heap.size w w' := by
  obtain ⟨rfl, hm, _, _⟩ := sl_len hl
  obtain ⟨i0, hi, hz0, hz1, hz2⟩ := info_parts info8
  obtain ⟨j0, hj0, hy0, hy1, hy2⟩ := info_parts infoTok
  have HL := hid hl
  clear hl
  go_enter Tryz.func226, Tryz.ntmps226
  go_wp2_with fail
  go_loopw [3, 4] (fun v pv wr => ∃ (p i : Nat) (O : List Tok), pv = .int .i64 p ∧ p ≤ b.length ∧ i ≤ p ∧ O.length ≤ i ∧ Hid (Rest b p i O) ∧ Hid (LastCopy O) ∧ Hid (TOut w.heap.size b wr v O i p) ∧ Below w.heap.size w wr) (fun _ pv _ => b.length - (intOf pv).toNat)
  case atStart => exact ⟨0, 0, [], rfl, Nat.zero_le _, Nat.le_refl _, Nat.le_refl _, hid ⟨b.length, by omega, rfl⟩, hid (fun n hn => by simp at hn), hid (.inl ⟨rfl, OwnEls.nil⟩), Below.refl _ _⟩
  case round =>
    obtain ⟨p, i, O, rfl, hp, hip, hOi, hrest, hlc, hout, hb⟩ := hrel
    have hbs := hb.size
    obtain ⟨cells3, hcl⟩ := hout.out.close
    obtain ⟨av, cv, rfl⟩ := own_form hcl.1
    have hLL : (O ++ litT b i p).length ≤ p := by
      unfold litT
      split <;> simp <;> omega
    rcases Nat.lt_or_ge p b.length with hlt | hge
    · have HB := hid (ref14_best1 b p a _ c wr (lift HL.out hb) hlen)
      have hfc := hid (bestR_facts b p)
      have hroom := bestR_room b p
      generalize hom : bestR b p = om at *
      obtain ⟨o, m⟩ := om
      dsimp only at hroom
      have HOM := hid hom; have HCL := hid hcl
      clear hom hcl
      by_cases hm0 : m = 0
      · subst hm0
        have hrn := hid (hrest.out.none hlt HOM.out)
        have hyb := byte_at HL.out hlt
        obtain ⟨ab, ob, hA, hab, hcb⟩ := hyb
        subst hA
        have hab' : ab < w.heap.size := hab
        rcases hout.out with ⟨hipe, cells, hcl0⟩ | ⟨h0, g, cg, cells, vl, hv, htb⟩
        · subst hipe
          have hlit : litT b i i = [] := by simp [litT]
          have HLS := hid (lit_snoc (Nat.le_refl i) hlt)
          simp only [Nat.sub_self, List.take_zero, List.nil_append] at HLS
          simp only [hlit, List.append_nil] at hcl0 hLL hrn ⊢
          generalize b[i] = y at *
          clear hlit hout HCL
          have HCB := hid hcb
          clear hcb
          rcases Nat.eq_zero_or_pos O.length with hO0 | hO0
          · obtain rfl : O = [] := List.eq_nil_of_length_eq_zero hO0
            clear hO0
            simp only [List.length_nil] at *
            go_wp2_with fail
            refine HB.out.mono ?_
            rintro r w2 ⟨rfl, hb2⟩
            have hs2 := hb2.size
            have hbw2 := below_then hb2 hb
            have HC2 := hid (hcl0.below hb2)
            have Yb := (hbw2.cell (p := ⟨ab, ob + i, none⟩) hab).trans HCB.out
            have i4 : (i : Int) < (b.length : Int) := by omega
            go_wp2_with (at_builtin; go_loud (refine wpList_append_src rfl _ _ _ rfl w.heap.size 225 j0 (.agg #[.slice none 0 0, .int .i64 0, .int .i64 0]) 3 40 Tryz.underlying214 hj0 hy0 hy1 hy2 rfl (by decide) (.slice av 0 cv) 0 cells.flatten rfl (own_below HC2.out.1 (by (repeat (first | exact Below.refl _ _ | assumption | (refine below_alloc ?_ _) | (refine Below.setCell ?_ (by first | omega | (simp; done) | (simp; omega)) _) | (refine Below.drew ?_) | (refine below_drewN ?_ _) | (refine below_then (by assumption) ?_))))) (some ⟨w2.heap.size + 1, 0, none⟩) 1 1 [.slice (some ⟨w2.heap.size, 0, none⟩) 1 1, .int .i64 0, .int .i64 0] rfl (src_new1 (w2.alloc (.cells #[.int .u8 (y.toNat : Int)] 5)) 225 _ rfl (by simp) rfl) (by intro u hu; simp at hu; rcases hu with rfl | rfl | rfl <;> rfl) (by simp only [maxLen]; omega) (by omega) (by simp; omega) ?_; intro v8 w8 hown8 hgrow8 hat8; obtain ⟨g8, c8, rfl⟩ := own_at hown8; have HG8 := hid hgrow8; have HO8 := hid hown8; have HA8 := hid hat8; clear hgrow8 hown8 hat8))
            have hst := TBld.start (by omega) HC2.out HO8.out HG8.out HA8.out
            have hb8 : Below w.heap.size w w8 := Below.grown (by (repeat (first | exact Below.refl _ _ | assumption | (refine below_alloc ?_ _) | (refine Below.setCell ?_ (by first | omega | (simp; done) | (simp; omega)) _) | (refine Below.drew ?_) | (refine below_drewN ?_ _) | (refine below_then (by assumption) ?_)))) HG8.out (by simp; omega) (fun g e => (HC2.out.1.lt g e).1)
            have hto : TOut w.heap.size b w8 (.slice (some ⟨g8, 0, none⟩) (0 + 1) c8) [] i (i + 1) := .inr ⟨by omega, g8, c8, cells, _, rfl, by rw [HLS.out]; exact hst⟩
            have HTO := hid hto
            clear hto hst
            go_wp2_with fail
            go_roundw
            case rel => exact ⟨i + 1, i, [] , by go_num, by omega, by omega, by omega, hrn, hlc, HTO, hb8⟩
            case measure => simp [intOf]; omega
          · obtain ⟨k, hk⟩ : ∃ k, O.length = k + 1 := ⟨O.length - 1, by omega⟩
            obtain ⟨gt, ot, hA2, hgt, at2, ct2, q0, q1, q2, zz1, zz2, zz3⟩ := tok_at (xs := O) (OwnEls.slice (Nat.le_refl _) ⟨_, hcl0⟩) (i := k) (by omega)
            have hoff := hlc.out k hk O[k] (List.getElem?_eq_getElem (by omega))
            have eo : (O[k].off == 0) = false := by simpa using hoff
            have HQ1 := hid q1
            have t1 : ((O.length : Int) - 1).toNat = k := by omega
            have t2 : (0 : Int) ≤ (O.length : Int) - 1 := by omega
            have t3 : (O.length : Int) - 1 < (O.length : Int) := by omega
            have d5 : decide ((0 : Int) ≤ (O.length : Int) - 1) = true := decide_eq_true t2
            generalize O[k].off = of at *
            have HHK := hid hk
            clear zz1 zz2 zz3 q0 q1 q2 hoff
            clear hk hO0
            have hgt' := hgt
            subst hA2
            go_wp2_with fail
            refine HB.out.mono ?_
            rintro r w2 ⟨rfl, hb2⟩
            have hs2 := hb2.size
            have hbw2 := below_then hb2 hb
            have HC2 := hid (hcl0.below hb2)
            have Q1 := (hb2.cell (p := ⟨gt, ot + k * 3 + 1, none⟩) hgt.2).trans HQ1.out
            have Yb := (hbw2.cell (p := ⟨ab, ob + i, none⟩) hab).trans HCB.out
            have i4 : (i : Int) < (b.length : Int) := by omega
            go_wp2_with (at_builtin; go_loud (refine wpList_append_src rfl _ _ _ rfl w.heap.size 225 j0 (.agg #[.slice none 0 0, .int .i64 0, .int .i64 0]) 3 40 Tryz.underlying214 hj0 hy0 hy1 hy2 rfl (by decide) (.slice (some ⟨gt, ot, none⟩) O.length cv) O.length cells.flatten rfl (own_below HC2.out.1 (by (repeat (first | exact Below.refl _ _ | assumption | (refine below_alloc ?_ _) | (refine Below.setCell ?_ (by first | omega | (simp; done) | (simp; omega)) _) | (refine Below.drew ?_) | (refine below_drewN ?_ _) | (refine below_then (by assumption) ?_))))) (some ⟨w2.heap.size + 1, 0, none⟩) 1 1 [.slice (some ⟨w2.heap.size, 0, none⟩) 1 1, .int .i64 0, .int .i64 0] rfl (src_new1 (w2.alloc (.cells #[.int .u8 (y.toNat : Int)] 5)) 225 _ rfl (by simp) rfl) (by intro u hu; simp at hu; rcases hu with rfl | rfl | rfl <;> rfl) (by simp only [maxLen]; omega) (by omega) (by simp; omega) ?_; intro v8 w8 hown8 hgrow8 hat8; obtain ⟨g8, c8, rfl⟩ := own_at hown8; have HG8 := hid hgrow8; have HO8 := hid hown8; have HA8 := hid hat8; clear hgrow8 hown8 hat8))
            have hst := TBld.start (by omega) HC2.out HO8.out HG8.out HA8.out
            have hb8 : Below w.heap.size w w8 := Below.grown (by (repeat (first | exact Below.refl _ _ | assumption | (refine below_alloc ?_ _) | (refine Below.setCell ?_ (by first | omega | (simp; done) | (simp; omega)) _) | (refine Below.drew ?_) | (refine below_drewN ?_ _) | (refine below_then (by assumption) ?_)))) HG8.out (by simp; omega) (fun g e => (HC2.out.1.lt g e).1)
            have hto : TOut w.heap.size b w8 (.slice (some ⟨g8, 0, none⟩) (O.length + 1) c8) O i (i + 1) := .inr ⟨by omega, g8, c8, cells, _, rfl, by rw [HLS.out]; exact hst⟩
            have HTO := hid hto
            clear hto hst
            go_wp2_with fail
            go_roundw
            case rel => exact ⟨i + 1, i, O , by go_num, by omega, by omega, by omega, hrn, hlc, HTO, hb8⟩
            case measure => simp [intOf]; omega
        · have hlt1 : (O ++ litT b i p).length = O.length + 1 := by simp [litT, h0]
          rw [hlt1] at *
          have HLS := hid (lit_snoc hip hlt)
          simp only [Value.slice.injEq] at hv
          obtain ⟨rfl, _, rfl⟩ := hv
          generalize hDD : (b.drop i).take (p - i) = D at *
          have hDl : D.length ≤ 1048576 := by rw [← hDD]; simp; omega
          generalize b[p] = y at *
          clear hDD hlt1 hout HCL
          obtain ⟨al, cl, rfl⟩ := own_form htb.last
          have HCB := hid hcb; have HTB := hid htb
          clear hcb htb
          have d5 : decide ((0 : Int) ≤ (O.length : Int)) = true := decide_eq_true (by omega)
          have kk : (O.length : Int) + 1 - 1 = (O.length : Int) := by omega
          have i3 : (O.length : Int) < (O.length : Int) + 1 := by omega
          have i4 : (p : Int) < (b.length : Int) := by omega
          have i5 : (0 : Int) ≤ (O.length : Int) := by omega
          go_wp2_with fail
          refine HB.out.mono ?_
          rintro r w2 ⟨rfl, hb2⟩
          have hs2 := hb2.size
          have hbw2 := below_then hb2 hb
          have HT2 := hid (HTB.out.later hb2)
          obtain ⟨pl0, pl1, pl2⟩ := HT2.out.place
          obtain ⟨hg1, hg2⟩ := HT2.out.g_lt
          have hne := HT2.out.ne
          have hol := fun q (hq : (Value.slice al D.length cl).ownBlock = some q) => HT2.out.last.lt q hq
          have HOL := hid hol; clear hol
          have Yb := (hbw2.cell (p := ⟨ab, ob + p, none⟩) hab).trans HCB.out
          have hab2 : ab < w2.heap.size := by omega
          go_wp2_with fail
          refine wp_region_last_held (fun w' => w'.cell? ⟨g, O.length * 3, none⟩ = some (.slice al D.length cl) ∧ w'.cell? ⟨ab, ob + p, none⟩ = some (.int .u8 (y.toNat : Int))) _ (by kernel_rfl) rfl (by kernel_rfl) ⟨pl0, Yb⟩ (fun hHeld => ?_)
          simp only [noopLast, noopOf]
          refine wpAnyH_take (i := 0) (oi := _) (v := ?_) rfl (by decide +kernel) (by decide +kernel) (by decide +kernel) (fun _ _ _ h => h) (Or.inl ⟨by rfl, ?_⟩) (by assumption) ?_
          rotate_left
          · (intro w hSw; (try dsimp only at hSw); go_simp <;> with_reducible rfl)
          (try simp only [Act.put, List.setIfInBounds_toArray, List.set_cons_zero, List.set_cons_succ])
          refine wpAnyH_take (i := 1) (oi := _) (v := ?_) rfl (by decide +kernel) (by decide +kernel) (by decide +kernel) (fun _ _ _ h => h) (Or.inl ⟨by rfl, ?_⟩) (by assumption) ?_
          rotate_left
          · (intro w hSw; (try dsimp only at hSw); go_simp <;> with_reducible rfl)
          (try simp only [Act.put, List.setIfInBounds_toArray, List.set_cons_zero, List.set_cons_succ])
          refine wpAnyH_take (i := 2) (oi := _) (v := ?_) rfl (by decide +kernel) (by decide +kernel) (by decide +kernel) (fun _ _ _ h => h) (Or.inl ⟨by rfl, ?_⟩) (by assumption) ?_
          rotate_left
          · (intro w hSw; (try dsimp only at hSw); go_simp <;> with_reducible rfl)
          (try simp only [Act.put, List.setIfInBounds_toArray, List.set_cons_zero, List.set_cons_succ])
          refine wpAnyH_take (i := 3) (oi := _) (v := ?_) rfl (by decide +kernel) (by decide +kernel) (by decide +kernel) (fun _ _ _ h => h) (Or.inl ⟨by rfl, ?_⟩) (by assumption) ?_
          rotate_left
          · (intro w hSw; (try dsimp only at hSw); go_simp <;> with_reducible rfl)
          (try simp only [Act.put, List.setIfInBounds_toArray, List.set_cons_zero, List.set_cons_succ])
          refine wpAnyH_take (i := 4) (oi := _) (v := ?_) rfl (by decide +kernel) (by decide +kernel) (by decide +kernel) (fun _ _ _ h => h) (Or.inl ⟨by rfl, ?_⟩) (by assumption) ?_
          rotate_left
          · (intro w hSw; (try dsimp only at hSw); go_simp <;> with_reducible rfl)
          (try simp only [Act.put, List.setIfInBounds_toArray, List.set_cons_zero, List.set_cons_succ])
          refine wpAnyH_take (i := 5) (oi := _) (v := ?_) rfl (by decide +kernel) (by decide +kernel) (by decide +kernel) (fun _ _ _ h => h) (Or.inl ⟨by rfl, ?_⟩) (by assumption) ?_
          rotate_left
          · (intro w hSw; (try dsimp only at hSw); go_simp <;> with_reducible rfl)
          (try simp only [Act.put, List.setIfInBounds_toArray, List.set_cons_zero, List.set_cons_succ])
          refine wpAnyH_take (i := 6) (oi := _) (v := ?_) rfl (by decide +kernel) (by decide +kernel) (by decide +kernel) (fun _ _ _ h => h) (Or.inl ⟨by rfl, ?_⟩) (by assumption) ?_
          rotate_left
          · (intro w hSw; (try dsimp only at hSw); go_simp <;> with_reducible rfl)
          (try simp only [Act.put, List.setIfInBounds_toArray, List.set_cons_zero, List.set_cons_succ])
          refine wpAnyH_take (i := 7) (oi := _) (v := ?_) rfl (by decide +kernel) (by decide +kernel) (by decide +kernel) (fun _ _ _ h => h) (Or.inl ⟨by rfl, ?_⟩) (by assumption) ?_
          rotate_left
          · (intro w hSw; (try dsimp only at hSw); go_simp <;> with_reducible rfl)
          (try simp only [Act.put, List.setIfInBounds_toArray, List.set_cons_zero, List.set_cons_succ])
          refine wpAnyH_take (i := 8) (oi := _) (v := ?_) rfl (by decide +kernel) (by decide +kernel) (by decide +kernel) (fun _ _ _ h => h) (Or.inl ⟨by rfl, ?_⟩) (by assumption) ?_
          rotate_left
          · (intro w hSw; (try dsimp only at hSw); go_simp <;> with_reducible rfl)
          (try simp only [Act.put, List.setIfInBounds_toArray, List.set_cons_zero, List.set_cons_succ])
          refine wpAnyH_take (i := 9) (oi := _) (v := ?_) rfl (by decide +kernel) (by decide +kernel) (by decide +kernel) (fun _ _ _ h => h) (Or.inl ⟨by rfl, ?_⟩) (by assumption) ?_
          rotate_left
          · (intro w hSw; (try dsimp only at hSw); go_simp <;> with_reducible rfl)
          (try simp only [Act.put, List.setIfInBounds_toArray, List.set_cons_zero, List.set_cons_succ])
          refine wpAnyH_take (i := 10) (oi := _) (v := ?_) rfl (by decide +kernel) (by decide +kernel) (by decide +kernel) (fun _ _ _ h => h) (Or.inl ⟨by rfl, ?_⟩) (by assumption) ?_
          rotate_left
          · (intro w hSw; (try dsimp only at hSw); go_simp <;> with_reducible rfl)
          (try simp only [Act.put, List.setIfInBounds_toArray, List.set_cons_zero, List.set_cons_succ])
          refine wpAnyH_ready (rs := [11]) (by decide +kernel) (by simp) ?_
          refine AllReadyH.cons (o := _) rfl (fun K hK => ?_) AllReadyH.nil
          go_simp
          refine hK.out _ _ ?_ (fun hHeld => ?_)
          · ((try dsimp only); refine ⟨?_, ?_⟩ <;> (first | assumption | (go_keep; done)))
          clear hK K
          (try simp only [Act.put, List.setIfInBounds_toArray, List.set_cons_zero, List.set_cons_succ])
          refine wpAnyH_ready (rs := [12]) (by decide +kernel) (by simp) ?_
          refine AllReadyH.cons (o := _) rfl (fun K hK => ?_) AllReadyH.nil
          (refine step_append_src (by rfl) _ _ _ (by rfl) w.heap.size 5 i0 (.int .u8 0) 1 1 Tryz.underlying25 hi hz0 hz1 hz2 rfl (by decide) (.slice al D.length cl) D.length (byteCells D) (by rfl) (own_below HT2.out.last (by (repeat (first | exact Below.refl _ _ | assumption | (refine below_alloc ?_ _) | (refine Below.setCell ?_ (by first | omega | (simp; done) | (simp; omega)) _) | (refine Below.drew ?_) | (refine below_drewN ?_ _) | (refine below_then (by assumption) ?_))))) (some ⟨w2.heap.size, 0, none⟩) 1 1 [.int .u8 (y.toNat : Int)] (by rfl) (src_new1 w2.drew 5 _ (by rfl) (by rfl) rfl) (by intro u hu; simp at hu; subst hu; rfl) (by simp only [maxLen]; omega) (by omega) (by simp; omega) ?_; intro a8 c8 w8 hown8 hgrow8 hat8; have G := fun b' (hb : b' < w2.heap.size) (hne : (Value.slice al D.length cl).ownBlock ≠ some b') => (hgrow8.block b' (by simp; omega) (fun e => hne e.symm)).trans (Below.heap_alloc w2.drew _ b' (by exact hb)); have m1 := (World.cell?_of_block (a := ⟨g, O.length * 3, none⟩) (G g hg2 hne)).trans pl0; have m2 := (World.frozen?_of_block (a := ⟨g, O.length * 3, none⟩) (G g hg2 hne)).trans pl2; have neb : (Value.slice al D.length cl).ownBlock ≠ some ab := fun e => by { have := (HOL.out _ e).1; omega }; have m3 := (World.cell?_of_block (a := ⟨ab, ob + p, none⟩) (G ab hab2 neb)).trans Yb; have m4 : g < w8.heap.size := Nat.lt_of_lt_of_le hg2 (Nat.le_trans (by simp) hgrow8.size); have HG8 := hid hgrow8; have HO8 := hid hown8; have HA8 := hid hat8; have HGG := hid G; clear hgrow8 hown8 hat8 G neb)
          refine hK.out _ _ ?_ (fun hHeld => ?_)
          · ((try dsimp only); refine ⟨?_, ?_⟩ <;> (first | assumption | (go_keep; done)))
          clear hK K
          (try simp only [Act.put, List.setIfInBounds_toArray, List.set_cons_zero, List.set_cons_succ])
          refine wpAnyH_take (i := 13) (oi := _) (v := ?_) rfl (by decide +kernel) (by decide +kernel) (by decide +kernel) (fun _ _ _ h => h) (Or.inl ⟨by rfl, ?_⟩) (by assumption) ?_
          rotate_left
          · (intro w hSw; (try dsimp only at hSw); go_simp <;> with_reducible rfl)
          (try simp only [Act.put, List.setIfInBounds_toArray, List.set_cons_zero, List.set_cons_succ])
          refine wpAnyH_take (i := 14) (oi := _) (v := ?_) rfl (by decide +kernel) (by decide +kernel) (by decide +kernel) (fun _ _ _ h => h) (Or.inl ⟨by rfl, ?_⟩) (by assumption) ?_
          rotate_left
          · (intro w hSw; (try dsimp only at hSw); go_simp <;> with_reducible rfl)
          (try simp only [Act.put, List.setIfInBounds_toArray, List.set_cons_zero, List.set_cons_succ])
          refine wpAnyH_take (i := 15) (oi := _) (v := ?_) rfl (by decide +kernel) (by decide +kernel) (by decide +kernel) (fun _ _ _ h => h) (Or.inl ⟨by rfl, ?_⟩) (by assumption) ?_
          rotate_left
          · (intro w hSw; (try dsimp only at hSw); go_simp <;> with_reducible rfl)
          (try simp only [Act.put, List.setIfInBounds_toArray, List.set_cons_zero, List.set_cons_succ])
          refine wpAnyH_done (by kernel_rfl) ?_ _
          show wpList _ _ _ _ _ _
          have hs8 : w2.heap.size + 1 ≤ w8.heap.size := by have := HG8.out.size; simpa using this
          have hgr := TBld.grow (w' := w8) (D' := D ++ [y]) (vl' := .slice a8 (D.length + 1) c8) HT2.out (fun q hq hn => HGG.out q hq hn) (by omega) (by rw [List.length_append, ← byteCells_snoc]; exact HO8.out) (by
            rcases HA8.out with h | h
            · exact .inl h
            · exact .inr ⟨_, h, by simp⟩)
          have hb8 : Below w.heap.size w w8 := Below.grown (by (repeat (first | exact Below.refl _ _ | assumption | (refine below_alloc ?_ _) | (refine Below.setCell ?_ (by first | omega | (simp; done) | (simp; omega)) _) | (refine Below.drew ?_) | (refine below_drewN ?_ _) | (refine below_then (by assumption) ?_)))) HG8.out (by simp; omega) (fun g e => (HOL.out g e).1)
          have hb9 : Below w.heap.size w (w8.setCell ⟨g, O.length * 3, none⟩ (.slice a8 (D.length + 1) c8)) := hb8.setCell hg1 _
          have hto : TOut w.heap.size b (w8.setCell ⟨g, O.length * 3, none⟩ (.slice a8 (D.length + 1) c8)) (.slice (some ⟨g, 0, none⟩) (O.length + 1) cv) O i (p + 1) := .inr ⟨by omega, g, cv, cells, _, rfl, by rw [HLS.out]; exact hgr⟩
          have HTO := hid hto
          clear hto hgr
          go_wp2_with fail
          go_roundw
          case rel => exact ⟨p + 1, i, O, by go_num, by omega, by omega, by omega, hrn, hlc, HTO, hb9⟩
          case measure => simp [intOf]; omega
      · have hm4 : 1 ≤ o ∧ 4 ≤ m := by
          rcases hfc.out with h | ⟨o', m', h, h1, h2, h3, _⟩
          · simp only [Prod.mk.injEq] at h; omega
          · simp only [Prod.mk.injEq] at h; omega
        have hrn := hid (hrest.out.copy hlt HOM.out hm0)
        have hls := hid (LastCopy.snoc (O ++ litT b i p) (o := o) (m := m) (by omega))
        have d1 : decide ((0 : Int) < (m : Int)) = true := by simp; omega
        have d1' : decide (0 < m) = true := by simp; omega
        generalize hL3 : O ++ litT b i p = L3 at *
        clear hL3 hm0
        go_wp2_with fail
        refine HB.out.mono ?_
        rintro r w2 ⟨rfl, hb2⟩
        have hs2 := hb2.size
        have hbw2 := below_then hb2 hb
        have HC2 := hid (HCL.out.below hb2)
        go_wp2_with (at_builtin; go_loud (refine wpList_append_src rfl _ _ _ rfl w.heap.size 225 j0 (.agg #[.slice none 0 0, .int .i64 0, .int .i64 0]) 3 40 Tryz.underlying214 hj0 hy0 hy1 hy2 rfl (by decide) (.slice av L3.length cv) L3.length cells3.flatten rfl (own_below HC2.out.1 (by (repeat (first | exact Below.refl _ _ | assumption | (refine below_alloc ?_ _) | (refine Below.setCell ?_ (by first | omega | (simp; done) | (simp; omega)) _) | (refine Below.drew ?_) | (refine below_drewN ?_ _) | (refine below_then (by assumption) ?_))))) (some ⟨w2.heap.size, 0, none⟩) 1 1 [.slice none 0 0, .int .i64 (o : Int), .int .i64 (m : Int)] rfl (src_new1 w2 225 _ rfl rfl rfl) (by intro u hu; simp at hu; rcases hu with rfl | rfl | rfl <;> rfl) (by simp only [maxLen]; omega) (by omega) (by simp; omega) ?_; intro v8 w8 hown8 hgrow8 hat8; obtain ⟨a8, c8, rfl⟩ := own_form hown8; have HG8 := hid hgrow8; have HO8 := hid hown8; have HA8 := hid hat8; clear hgrow8 hown8 hat8))
        have hx : rTok.r (fun q => w.heap.size ≤ q ∧ q < (w2.alloc (.cells #[.slice none 0 0, .int .i64 (o : Int), .int .i64 (m : Int)] 225)).heap.size ∧ (Value.slice av L3.length cv).ownBlock ≠ some q) (w2.alloc (.cells #[.slice none 0 0, .int .i64 (o : Int), .int .i64 (m : Int)] 225)) [.slice none 0 0, .int .i64 (o : Int), .int .i64 (m : Int)] ⟨[], o, m⟩ :=
          tok_mk (x := ⟨[], o, m⟩) (rSl_mk rfl (Nat.le_refl _) (Nat.zero_le _) (.inl rfl)) (by simp; omega) (by simp; omega)
        have hpu := OwnEls.push (HC2.out.below (by (repeat (first | exact Below.refl _ _ | assumption | (refine below_alloc ?_ _) | (refine Below.setCell ?_ (by first | omega | (simp; done) | (simp; omega)) _) | (refine Below.drew ?_) | (refine below_drewN ?_ _) | (refine below_then (by assumption) ?_))))) rfl hx HO8.out HG8.out HA8.out HG8.out.size
        have hb8 : Below w.heap.size w w8 := Below.grown (by (repeat (first | exact Below.refl _ _ | assumption | (refine below_alloc ?_ _) | (refine Below.setCell ?_ (by first | omega | (simp; done) | (simp; omega)) _) | (refine Below.drew ?_) | (refine below_drewN ?_ _) | (refine below_then (by assumption) ?_)))) HG8.out (by simp; omega) (fun g e => (HC2.out.1.lt g e).1)
        have hto : TOut w.heap.size b w8 (.slice a8 (L3.length + 1) c8) (L3 ++ [⟨[], (o : Int), (m : Int)⟩]) (p + m) (p + m) := .inl ⟨rfl, hpu⟩
        have HTO := hid hto
        clear hto hpu hx
        go_wp2_with fail
        go_roundw
        case rel => exact ⟨p + m, p + m, L3 ++ [⟨[], (o : Int), (m : Int)⟩], by go_num, by omega, Nat.le_refl _, by simp; omega, hrn, hls, HTO, hb8⟩
        case measure => simp [intOf]; omega
    · obtain rfl : p = b.length := by omega
      have hf := hrest.out.fin
      rw [← hf] at hcl
      have hV := OwnEls.slice (Nat.le_refl _) ⟨_, hcl⟩
      rw [← hf] at *
      have HV := hid hV
      clear hV hcl hf
      go_wp2
      go_ret
      exact ⟨_, rfl, HV.out, hb⟩
end Go.Proofs.YtlbffbkbkajciaaGreat
namespace Go.Proofs.YtlbffbkbkajciaaGreat
open Go.RowKit Go.Bs Go.Maps
set_option linter.unusedVariables false
set_option linter.unusedSimpArgs false

theorem good_right {b : List UInt8} (hb : b.length ≤ 1048576) : ∀ {f : Bool} {p : Nat} {ts : List Tok}, Good b f p ts → ∀ t ∈ ts, rightB t = true
  | _, _, _, .nil, t, ht => by simp at ht
  | _, _, _, .copy (p := p) (o := o) (m := m) hp hbe hm hg, t, ht => by
    rcases List.mem_cons.1 ht with rfl | ht
    · have h1 := bestR_facts b p
      have h2 := (bestR_room b p).1
      rw [hbe] at h1 h2
      simp only at h2
      rcases h1 with h1 | ⟨o', m', h1, g1, g2, g3, _⟩
      · simp only [Prod.mk.injEq] at h1; omega
      · simp only [Prod.mk.injEq] at h1
        unfold reach at g2
        simp [rightB, copyB]
        omega
    · exact good_right hb hg t ht
  | _, _, _, .run (p := p) (q := q) h1 h2 h3 hg, t, ht => by
    rcases List.mem_cons.1 ht with rfl | ht
    · simp [rightB, runB]
      omega
    · exact good_right hb hg t ht
theorem toks_right {b : List UInt8} (hb : b.length ≤ 1048576) : ∀ t ∈ toksR b, rightB t = true := good_right hb (good_toksR b)
theorem toks_len2 {b : List UInt8} (hb : b.length ≤ 1048576) : (toksR b).length ≤ 10000000 := by
  have := toks_len b b.length 0 0
  unfold toksR
  omega

set_option maxRecDepth 100000 in
theorem press_bytes (w : World) (b : List UInt8) (a : Option Addr) (n c : Nat) (hl : rBytes.r (· < w.heap.size) w [.slice a n c] b) (hlen : b.length ≤ 1048576) :
    Calls Tryz.prog 216 #[.slice a n c] w fun r w' => ∃ v, r = .returned (.tuple #[v, .int .i64 0]) ∧ rBytes.r (fun q => w.heap.size ≤ q ∧ q < w'.heap.size) w' [v] (tokensB (toksR b)) ∧ Below w.heap.size w w' := by
  obtain ⟨rfl, hm, _, _⟩ := sl_len hl
  have HT := hid (press_tokens w b a _ c hl hlen)
  have hri := toks_right hlen
  have hl2 := toks_len2 hlen
  clear hl
  generalize toksR b = T at *
  go_enter Tryz.func216, Tryz.ntmps216
  go_wp2_with fail
  refine HT.out.mono ?_
  rintro r w1 ⟨v, rfl, hr, hb1⟩
  obtain ⟨a1, c1, hv, hr2, _⟩ := sl_form hr
  simp only [List.cons.injEq, and_true] at hv
  subst hv
  have HB := hid (token_bytes T a1 _ c1 w1 (rToks.mono hr2 fun q hq => hq.2) hl2 hri)
  have hs1 := hb1.size
  clear hr hr2
  go_wp2_with fail
  refine HB.out.mono ?_
  rintro r w2 ⟨v2, rfl, hv2, hb2⟩
  have hbe := below_then hb2 hb1
  have HV := hid (rBytes.mono (S' := fun q => w.heap.size ≤ q ∧ q < w2.heap.size) hv2 fun q hq => ⟨by have := hq.1; omega, hq.2⟩)
  clear hv2
  go_wp2
  go_ret2
  exact ⟨_, rfl, HV.out, hbe⟩

end Go.Proofs.YtlbffbkbkajciaaGreat
namespace Go.Proofs.YtlbffbkbkajciaaGreat
open Go.RowKit Go.Bs Go.Maps
set_option linter.unusedVariables false
set_option linter.unusedSimpArgs false

set_option maxRecDepth 100000 in
set_option maxHeartbeats 1600000 in
theorem ref04_own (x : Nat) : ∀ (hx : x < 18446744073709551616) (w : World),
    Calls Tryz.prog 104 #[.int .u64 x] w fun r w' => ∃ v, r = .returned v ∧ w'.ownsRow w.heap.size 5 1 v (varB x).length (byteCells (varB x)) ∧ Below w.heap.size w w' := by
  induction x using Nat.strongRecOn with
  | ind x ih =>
  intro hx w
  obtain ⟨i0, hi, hz0, hz1, hz2⟩ := info_parts info8
  by_cases h : x < 128
  · have d1 : decide ((x : Int) < 128) = true := by simp; omega
    have hfin : Hid (varB x = [UInt8.ofNat x]) := hid (varB_small h)
    have hby : Hid ((x : Int) = ((UInt8.ofNat x).toNat : Int)) := hid (byte_small (by omega))
    have HIH := hid ih; clear ih
    go_enter Tryz.func104, Tryz.ntmps104
    go_wp2_with fail
    have e0 : [Value.int .u8 (x : Int)] = byteCells (varB x) := by rw [hfin.out, hby.out]; rfl
    have ho : (w.alloc (.cells #[.int .u8 (x : Int)] 5)).ownsRow w.heap.size 5 1 (.slice (some ⟨w.heap.size, 0, none⟩) 1 1) 1 (byteCells (varB x)) := e0 ▸ own_new1 (w := w.alloc (.cells #[.int .u8 (x : Int)] 5)) (base := w.heap.size) (e := 5) (Nat.le_refl _) (World.alloc_heap_new w _)
    have HL1 : Hid ((varB x).length = 1) := hid (by rw [hfin.out]; rfl)
    have HV := hid ho
    clear ho e0
    go_ret
    exact ⟨_, rfl, by rw [HL1.out]; exact HV.out, by (repeat (first | exact Below.refl _ _ | assumption | (refine below_alloc ?_ _) | (refine Below.setCell ?_ (by first | omega | (simp; done) | (simp; omega)) _) | (refine Below.drew ?_) | (refine below_drewN ?_ _) | (refine below_then (by assumption) ?_)))⟩
  · have d1 : decide ((x : Int) < 128) = false := by simp; omega
    have HIH := hid (fun (W : World) => ih (x / 128) (by omega) (by omega) W)
    clear ih
    rw [show ((x / 128 : Nat) : Int) = (x : Int) / 128 by omega] at HIH
    have hfin : Hid (varB x = [UInt8.ofNat (128 + x % 128)] ++ varB (x / 128)) := hid (by rw [varB_step h (by omega)]; rfl)
    have hby : Hid (128 + (x : Int) % 128 = ((UInt8.ofNat (128 + x % 128)).toNat : Int)) := hid (by rw [← byte_small (by omega)]; omega)
    have hlb := varB_len (x / 128)
    go_enter Tryz.func104, Tryz.ntmps104
    go_wp2_with fail
    refine (HIH.out _).mono ?_
    rintro r w1 ⟨v1, rfl, hr1, hb1⟩
    have ho := own_new1 (w := w.alloc (.cells #[.int .u8 (128 + (x : Int) % 128)] 5)) (base := w.heap.size) (e := 5) (Nat.le_refl _) (World.alloc_heap_new w _)
    have ho1 := own_below ho hb1
    obtain ⟨a1, c1, rfl⟩ := own_form hr1
    have hr3 := src_bytes (rBytes.mono (own_bytes2 rfl hr1) (S' := (· < w1.heap.size)) fun b hb => hb.2)
    have HS := hid hr3; have HO := hid ho1; have HONE := hid (byteCells_one (varB (x / 128)))
    have hz1w : w.heap.size + 1 ≤ w1.heap.size := by have := hb1.size; simpa using this
    have hbw1 : Below w.heap.size w w1 := by (repeat (first | exact Below.refl _ _ | assumption | (refine below_alloc ?_ _) | (refine Below.setCell ?_ (by first | omega | (simp; done) | (simp; omega)) _) | (refine Below.drew ?_) | (refine below_drewN ?_ _) | (refine below_then (by assumption) ?_)))
    clear hr1 hr3 ho ho1
    go_wp2_with (at_builtin; go_loud (refine wpList_append_src rfl _ _ _ rfl w.heap.size 5 i0 (.int .u8 0) 1 1 Tryz.underlying25 hi hz0 hz1 hz2 rfl (by decide) (.slice (some ⟨w.heap.size, 0, none⟩) 1 1) 1 _ rfl HO.out a1 (varB (x / 128)).length c1 (byteCells (varB (x / 128))) rfl HS.out HONE.out (by simp only [maxLen]; omega) (by omega) (by omega) ?_; intro v' w2 hown2 hgrow2 hat2; have HG := hid hgrow2; have HO2 := hid hown2; clear hgrow2 hown2 hat2))
    have ho := HO2.out
    rw [hby.out, show [Value.int .u8 ((UInt8.ofNat (128 + x % 128)).toNat : Int)] = byteCells [UInt8.ofNat (128 + x % 128)] from rfl, byteCells, byteCells, ← List.map_append, ← hfin.out] at ho
    rw [show 1 + (varB (x / 128)).length = (varB x).length by rw [hfin.out]; simp; omega] at ho
    have hB : Below w.heap.size w w2 := Below.grown hbw1 HG.out (by omega) (fun g e => (HO.out.lt g e).1)
    have HV := hid ho
    clear ho
    go_ret
    exact ⟨_, rfl, HV.out, hB⟩

def blobB (D : List UInt8) : List UInt8 := varB D.length ++ D
theorem blobB_len (D : List UInt8) : (blobB D).length = (varB D.length).length + D.length := by simp [blobB]

set_option maxRecDepth 100000 in
theorem blob_size (n : Nat) (hn : n ≤ 100000000000000) (w : World) :
    Calls Tryz.prog 217 #[.int .i64 n] w fun r w' => r = .returned (.int .i64 ((varB n).length + n : Nat)) ∧ Below w.heap.size w w' := by
  have HS := hid (fun (W : World) => varint_size n (by omega) W)
  have hl := varB_len n
  generalize (varB n).length = k at *
  go_enter Tryz.func217, Tryz.ntmps217
  go_wp2_with fail
  refine (HS.out _).mono ?_
  rintro r w1 ⟨rfl, hb1⟩
  go_wp2
  go_ret
  exact ⟨by first | rfl | simp, hb1⟩

set_option maxRecDepth 100000 in
theorem blob_put (w : World) {g base most : Nat} {J : List UInt8} {a : Option Addr} {c : Nat} (h : PenAt w g base most J a c) (D : List UInt8) (ad : Option Addr) (nd cd : Nat)
    (hD : rBytes.r (fun q => q < w.heap.size ∧ ¬ PenF g a q) w [.slice ad nd cd] D) (hfit : J.length + (blobB D).length ≤ most) (hlen : J.length + (blobB D).length ≤ 100000000000000) :
    Calls Tryz.prog 154 #[.pointer (some ⟨g, 0, none⟩), .slice ad nd cd] w fun r w' => r = .returned (.tuple #[]) ∧ PenStep w g base most (J ++ blobB D) a w' := by
  obtain ⟨rfl, hm, _, _⟩ := sl_len hD
  rw [blobB_len] at hfit hlen
  have HV := hid (varint_put w h D.length (by omega) (by omega) (by omega))
  have HD := hid hD
  have hfit' := hid hfit; have hlen' := hid hlen
  clear h hD hfit hlen
  go_enter Tryz.func154, Tryz.ntmps154
  go_wp2_with fail
  refine HV.out.mono ?_
  rintro r w2 ⟨rfl, a2, c2, hp2, ht2, ha2⟩
  have hs2 := ht2.size
  have HQ := hid (pen_put w2 hp2 D ad _ cd (rBytes.mono (rBytes.keep HD.out fun q hq => ht2.block q hq.1 hq.2) fun q hq => Nat.lt_of_lt_of_le hq.1 hs2) (by rw [List.length_append]; have := hfit'.out; omega) (by rw [List.length_append]; have := hlen'.out; omega))
  go_wp2_with fail
  refine HQ.out.mono ?_
  rintro r w3 ⟨rfl, hst⟩
  have hst2 := PenStep.trans (J := J) ht2 ha2 hst
  rw [List.append_assoc] at hst2
  have HST := hid hst2
  clear hst hst2
  go_wp2
  first | go_end0 | refine bodyPost_ret (results_none rfl _ _ _) rfl ?_
  exact ⟨rfl, HST.out⟩

set_option maxRecDepth 100000 in
theorem ref06_own (w : World) (D : List UInt8) (a : Option Addr) (n c : Nat) (hl : rBytes.r (· < w.heap.size) w [.slice a n c] D) (hlen : D.length ≤ 10000000000000) :
    Calls Tryz.prog 134 #[.slice a n c] w fun r w' => ∃ v, r = .returned v ∧ w'.ownsRow w.heap.size 5 1 v (blobB D).length (byteCells (blobB D)) ∧ Below w.heap.size w w' := by
  obtain ⟨rfl, hm, _, _⟩ := sl_len hl
  obtain ⟨i0, hi, hz0, hz1, hz2⟩ := info_parts info8
  have HL := hid hl
  have HV := hid (ref04_own D.length (by omega) w)
  have HONE := hid (byteCells_one D)
  have hvl := varB_len D.length
  have hbl := hid (blobB_len D)
  have hbd : Hid (blobB D = varB D.length ++ D) := hid rfl
  clear hl
  generalize varB D.length = E at *
  go_enter Tryz.func134, Tryz.ntmps134
  go_wp2_with fail
  refine HV.out.mono ?_
  rintro r w1 ⟨v, rfl, ho, hb1⟩
  obtain ⟨a1, c1, rfl⟩ := own_form ho
  have hs1 := hb1.size
  have HO := hid ho
  have HS := hid (src_bytes (lift HL.out hb1))
  clear ho
  go_wp2_with (at_builtin; go_loud (refine wpList_append_src rfl _ _ _ rfl w.heap.size 5 i0 (.int .u8 0) 1 1 Tryz.underlying25 hi hz0 hz1 hz2 rfl (by decide) (.slice a1 E.length c1) E.length (byteCells E) rfl HO.out a D.length c (byteCells D) rfl HS.out HONE.out (by simp only [maxLen]; omega) (by omega) (by omega) ?_; intro v' w2 hown2 hgrow2 hat2; have HG := hid hgrow2; have HO2 := hid hown2; clear hgrow2 hown2 hat2))
  have ho := HO2.out
  rw [byteCells_app, ← hbd.out, show E.length + D.length = (blobB D).length from hbl.out.symm] at ho
  have hB : Below w.heap.size w w2 := Below.grown hb1 HG.out (by omega) (fun g e => (HO.out.lt g e).1)
  have HV2 := hid ho
  clear ho
  go_ret
  exact ⟨_, rfl, HV2.out, hB⟩

set_option maxRecDepth 100000 in
theorem ref15_bytes (w : World) (b : List UInt8) (a : Option Addr) (n c : Nat) (hl : rBytes.r (· < w.heap.size) w [.slice a n c] b) (hlen : b.length ≤ 1048576) :
    Calls Tryz.prog 175 #[.slice a n c] w fun r w' => ∃ v, r = .returned v ∧ rBytes.r (fun q => w.heap.size ≤ q ∧ q < w'.heap.size) w' [v] (tokensB (toksR b)) ∧ Below w.heap.size w w' := by
  obtain ⟨rfl, hm, _, _⟩ := sl_len hl
  have HT := hid (ref15_tokens b a _ c w hl hlen)
  have hri := toks_right hlen
  have hl2 := toks_len2 hlen
  clear hl
  generalize toksR b = T at *
  go_enter Tryz.func175, Tryz.ntmps175
  go_wp2_with fail
  refine HT.out.mono ?_
  rintro r w1 ⟨v, rfl, hr, hb1⟩
  obtain ⟨a1, c1, hv, hr2, _⟩ := sl_form hr
  simp only [List.cons.injEq, and_true] at hv
  subst hv
  have HB := hid (ref11_bytes T a1 _ c1 w1 (rToks.mono hr2 fun q hq => hq.2) hl2 hri)
  have hs1 := hb1.size
  clear hr hr2
  go_wp2_with fail
  refine HB.out.mono ?_
  rintro r w2 ⟨v2, rfl, hv2, hb2⟩
  have hbe := below_then hb2 hb1
  have HV := hid (rBytes.mono (S' := fun q => w.heap.size ≤ q ∧ q < w2.heap.size) hv2 fun q hq => ⟨by have := hq.1; omega, hq.2⟩)
  clear hv2
  go_wp2
  go_ret
  exact ⟨_, rfl, HV.out, hbe⟩
end Go.Proofs.YtlbffbkbkajciaaGreat
namespace Go.Proofs.YtlbffbkbkajciaaGreat
open Go.RowKit Go.Bs Go.Maps
set_option linter.unusedVariables false
set_option linter.unusedSimpArgs false

/-- A text, pressed. -/
def pressB (p : List UInt8) : List UInt8 := tokensB (toksR p)
def packR (p : List UInt8) : Bool := decide ((blobB (pressB p)).length < p.length)
def blockB (p : List UInt8) : List UInt8 := varB p.length ++ (if packR p then 1 :: blobB (pressB p) else 0 :: p)
theorem pressB_small {b : List UInt8} (hb : b.length ≤ 1048576) : (pressB b).length ≤ 10000000000000 := by
  have hL : ∀ t ∈ toksR b, t.lit.length ≤ 1048576 := fun t ht => by
    rcases right_forms (toks_right hb t ht) with ⟨D, rfl, h1, h2⟩ | ⟨o, m, rfl, _⟩
    · exact h2
    · simp
  have h1 := tokensB_len (toksR b)
  have h2 := roomT_le (toksR b) hL (toksR b).length (Nat.le_refl _)
  rw [List.take_length] at h2
  have h3 := toks_len b b.length 0 0
  unfold pressB
  unfold toksR at *
  omega

set_option maxRecDepth 100000 in
theorem ref16_packed (w : World) (p : List UInt8) (a : Option Addr) (n c : Nat) (hl : rBytes.r (· < w.heap.size) w [.slice a n c] p) (hlen : p.length ≤ 1048576) :
    Calls Tryz.prog 174 #[.slice a n c] w fun r w' => r = .returned (.bool (packR p)) ∧ Below w.heap.size w w' := by
  obtain ⟨rfl, hm, _, _⟩ := sl_len hl
  have HT := hid (ref15_bytes w p a _ c hl hlen)
  have hsm := pressB_small hlen
  have hpk : Hid (packR p = decide ((blobB (pressB p)).length < p.length)) := hid rfl
  have hpI : Hid (decide (((blobB (pressB p)).length : Int) < (p.length : Int)) = packR p) := hid (by rw [hpk.out]; by_cases h : (blobB (pressB p)).length < p.length <;> simp [h])
  clear hl
  rw [show tokensB (toksR p) = pressB p from rfl] at HT
  generalize pressB p = E at *
  generalize packR p = R at *
  have HB := hid (fun (W : World) (a1 : Option Addr) (c1 : Nat) (h : rBytes.r (· < W.heap.size) W [.slice a1 E.length c1] E) => ref06_own W E a1 _ c1 h hsm)
  generalize blobB E = G at *
  clear hpk
  go_enter Tryz.func174, Tryz.ntmps174
  go_wp2_with fail
  refine HT.out.mono ?_
  rintro r w1 ⟨v, rfl, hr, hb1⟩
  obtain ⟨a1, c1, hv, hr2, _⟩ := sl_form hr
  simp only [List.cons.injEq, and_true] at hv
  subst hv
  have HR := hid (rBytes.mono hr2 (S' := (· < w1.heap.size)) fun q hq => hq.2)
  clear hr hr2
  go_wp2_with fail
  refine (HB.out _ a1 c1 HR.out).mono ?_
  rintro r w2 ⟨v2, rfl, ho, hb2⟩
  obtain ⟨a2, c2, rfl⟩ := own_form ho
  have hbe := below_then hb2 hb1
  clear ho
  have hpI' := hpI.out
  clear hpI
  cases R
  · have d1 : decide ((G.length : Int) < (p.length : Int)) = false := hpI'
    have d1' : decide (G.length < p.length) = false := by simp at d1; simp; omega
    clear hpI'
    go_wp2
    go_ret
    exact ⟨rfl, hbe⟩
  · have d1 : decide ((G.length : Int) < (p.length : Int)) = true := hpI'
    have d1' : decide (G.length < p.length) = true := by simp at d1; simp; omega
    clear hpI'
    go_wp2
    go_ret
    exact ⟨rfl, hbe⟩

set_option maxRecDepth 100000 in
theorem block_packed (w : World) (p : List UInt8) (a : Option Addr) (n c : Nat) (hl : rBytes.r (· < w.heap.size) w [.slice a n c] p) (hlen : p.length ≤ 1048576) :
    Calls Tryz.prog 153 #[.slice a n c] w fun r w' => ∃ v, r = .returned (.tuple #[v, .bool (packR p)]) ∧ (packR p = true → rBytes.r (fun q => w.heap.size ≤ q ∧ q < w'.heap.size) w' [v] (pressB p)) ∧ (packR p = false → v = .slice none 0 0) ∧ Below w.heap.size w w' := by
  obtain ⟨rfl, hm, _, _⟩ := sl_len hl
  have HT := hid (press_bytes w p a _ c hl hlen)
  have hsm := pressB_small hlen
  have hbl := blobB_len (pressB p)
  have hpk : Hid (packR p = decide ((blobB (pressB p)).length < p.length)) := hid rfl
  clear hl
  rw [show tokensB (toksR p) = pressB p from rfl] at HT
  generalize pressB p = E at *
  rw [hbl] at hpk
  generalize packR p = R at *
  have HS := hid (fun (W : World) => blob_size E.length (by omega) W)
  have hvl := varB_len E.length
  clear hbl
  generalize (varB E.length).length = k at *
  go_enter Tryz.func153, Tryz.ntmps153
  go_wp2_with fail
  refine HT.out.mono ?_
  rintro r w1 ⟨v, rfl, hr, hb1⟩
  obtain ⟨a1, c1, hv, hr2, _⟩ := sl_form hr
  simp only [List.cons.injEq, and_true] at hv
  subst hv
  have HR := hid hr2
  have hs1 := hb1.size
  clear hr hr2
  go_wp2_with fail
  refine (HS.out _).mono ?_
  rintro r w2 ⟨rfl, hb2⟩
  have hbe := below_then hb2 hb1
  have hs2 := hb2.size
  have HR2 := hid (rBytes.mono (S' := fun q => w.heap.size ≤ q ∧ q < w2.heap.size) (rBytes.keep HR.out fun q hq => hb2.block q hq.2) fun q hq => ⟨hq.1, by omega⟩)
  have hpk' := hpk.out
  clear hpk
  cases R
  · have hle : ¬ k + E.length < p.length := of_decide_eq_false hpk'.symm
    have d1 : decide ((p.length : Int) ≤ (k : Int) + (E.length : Int)) = true := decide_eq_true (by omega)
    have d1' : decide ((p.length : Int) ≤ ((k + E.length : Nat) : Int)) = true := decide_eq_true (by omega)
    have d1'' : decide (p.length ≤ k + E.length) = true := decide_eq_true (by omega)
    clear hpk' hle
    go_wp2
    go_ret2
    exact ⟨_, rfl, rfl, hbe⟩
  · have hle : k + E.length < p.length := of_decide_eq_true hpk'.symm
    have d1 : decide ((p.length : Int) ≤ (k : Int) + (E.length : Int)) = false := decide_eq_false (by omega)
    have d1' : decide ((p.length : Int) ≤ ((k + E.length : Nat) : Int)) = false := decide_eq_false (by omega)
    have d1'' : decide (p.length ≤ k + E.length) = false := decide_eq_false (by omega)
    clear hpk' hle
    go_wp2
    go_ret2
    exact ⟨_, rfl, HR2.out, hbe⟩

end Go.Proofs.YtlbffbkbkajciaaGreat
namespace Go.Proofs.YtlbffbkbkajciaaGreat
open Go.RowKit Go.Bs Go.Maps
set_option linter.unusedVariables false
set_option linter.unusedSimpArgs false

set_option maxRecDepth 100000 in
set_option maxHeartbeats 1600000 in
theorem ref16_bytes (w : World) (p : List UInt8) (a : Option Addr) (n c : Nat) (hl : rBytes.r (· < w.heap.size) w [.slice a n c] p) (hlen : p.length ≤ 1048576) :
    Calls Tryz.prog 107 #[.slice a n c] w fun r w' => ∃ v, r = .returned v ∧ rBytes.r (fun q => w.heap.size ≤ q ∧ q < w'.heap.size) w' [v] (blockB p) ∧ Below w.heap.size w w' := by
  obtain ⟨rfl, hm, _, _⟩ := sl_len hl
  obtain ⟨i0, hi, hz0, hz1, hz2⟩ := info_parts info8
  have HL := hid hl
  have HV := hid (ref04_own p.length (by omega) w)
  have HPK := hid (fun (W : World) (hW : Below w.heap.size w W) => ref16_packed W p a _ c (lift HL.out hW) hlen)
  have HPB := hid (fun (W : World) (hW : Below w.heap.size w W) => ref15_bytes W p a _ c (lift HL.out hW) hlen)
  have hsm := pressB_small hlen
  have hbk : Hid (blockB p = varB p.length ++ (if packR p then 1 :: blobB (pressB p) else 0 :: p)) := hid rfl
  have hvl := varB_len p.length
  have HONE := hid (byteCells_one p)
  clear hl
  rw [show tokensB (toksR p) = pressB p from rfl] at HPB
  generalize pressB p = E at *
  have HB := hid (fun (W : World) (av : Option Addr) (cv : Nat) (h : rBytes.r (· < W.heap.size) W [.slice av E.length cv] E) => ref06_own W E av _ cv h hsm)
  have hgl := blobB_len E
  have hvE := varB_len E.length
  have hG : (blobB E).length ≤ 20000000000000 := by omega
  clear hgl hvE
  generalize blobB E = G at *
  generalize varB p.length = V at *
  generalize packR p = R at *
  generalize blockB p = K at *
  cases R
  · have hK : K = V ++ (0 :: p) := hbk.out
    have HK := hid hK
    clear hK hbk
    go_enter Tryz.func107, Tryz.ntmps107
    go_wp2_with fail
    refine HV.out.mono ?_
    rintro r w1 ⟨v, rfl, ho1, hb1⟩
    obtain ⟨a1, c1, rfl⟩ := own_form ho1
    have HO1 := hid ho1
    clear ho1
    go_wp2_with fail
    refine (HPK.out _ hb1).mono ?_
    rintro r w2 ⟨rfl, hb2⟩
    have hs1 := hb1.size
    have hs2 := hb2.size
    have hbw2 := below_then hb2 hb1
    have HO2 := hid (own_below HO1.out hb2)
    go_wp2_with (first
      | (at_builtin; go_loud (refine wpList_append_src rfl _ _ _ rfl w.heap.size 5 i0 (.int .u8 0) 1 1 Tryz.underlying25 hi hz0 hz1 hz2 rfl (by decide) (.slice a1 V.length c1) V.length (byteCells V) rfl (own_below HO2.out (by (repeat (first | exact Below.refl _ _ | assumption | (refine below_alloc ?_ _) | (refine Below.setCell ?_ (by first | omega | (simp; done) | (simp; omega)) _) | (refine Below.drew ?_) | (refine below_drewN ?_ _) | (refine below_then (by assumption) ?_))))) (some ⟨w2.heap.size, 0, none⟩) 1 1 [.int .u8 0] rfl (src_new1 w2 5 _ rfl rfl rfl) (by intro u hu; simp at hu; subst hu; rfl) (by simp only [maxLen]; omega) (by omega) (by simp; omega) ?_; intro v' w3 hown3 hgrow3 hat3; obtain ⟨a3, c3, rfl⟩ := own_form hown3; have HO3 := hid hown3; have hbw3 : Below w.heap.size w w3 := (Below.grown (by (repeat (first | exact Below.refl _ _ | assumption | (refine below_alloc ?_ _) | (refine Below.setCell ?_ (by first | omega | (simp; done) | (simp; omega)) _) | (refine Below.drew ?_) | (refine below_drewN ?_ _) | (refine below_then (by assumption) ?_)))) hgrow3 (by simp; omega) (fun g e => (HO2.out.lt g e).1)); have hs3 : w2.heap.size ≤ w3.heap.size := (Nat.le_trans (by simp) hgrow3.size); have HS3 := hid (src_bytes (lift HL.out hbw3)); clear hgrow3 hown3 hat3))
      | (at_builtin; go_loud (refine wpList_append_src rfl _ _ _ rfl w.heap.size 5 i0 (.int .u8 0) 1 1 Tryz.underlying25 hi hz0 hz1 hz2 rfl (by decide) (.slice a3 (V.length + 1) c3) (V.length + 1) (byteCells V ++ [.int .u8 0]) rfl HO3.out a p.length c (byteCells p) rfl HS3.out HONE.out (by simp only [maxLen]; omega) (by omega) (by omega) ?_; intro v' w5 hown5 hgrow5 hat5; have HG5 := hid hgrow5; have HO5 := hid hown5; clear hgrow5 hown5 hat5)))
    have ho := HO5.out
    rw [show [Value.int .u8 0] = byteCells [0] from rfl, byteCells_app, byteCells_app, List.append_assoc, show [(0 : UInt8)] ++ p = 0 :: p from rfl, ← HK.out] at ho
    have hln : V.length + 1 + p.length = K.length := by rw [HK.out]; simp; omega
    have hV5 := own_bytes2 hln ho
    have hbF : Below w.heap.size w w5 := Below.grown hbw3 HG5.out (by omega) (fun g e => (HO3.out.lt g e).1)
    have HV5 := hid hV5
    clear ho hln hV5
    go_ret
    exact ⟨_, rfl, HV5.out, hbF⟩
  · have hK : K = V ++ (1 :: G) := hbk.out
    have HK := hid hK
    clear hK hbk
    go_enter Tryz.func107, Tryz.ntmps107
    go_wp2_with fail
    refine HV.out.mono ?_
    rintro r w1 ⟨v, rfl, ho1, hb1⟩
    obtain ⟨a1, c1, rfl⟩ := own_form ho1
    have HO1 := hid ho1
    clear ho1
    go_wp2_with fail
    refine (HPK.out _ hb1).mono ?_
    rintro r w2 ⟨rfl, hb2⟩
    have hs1 := hb1.size
    have hs2 := hb2.size
    have hbw2 := below_then hb2 hb1
    have HO2 := hid (own_below HO1.out hb2)
    go_wp2_with (at_builtin; go_loud (refine wpList_append_src rfl _ _ _ rfl w.heap.size 5 i0 (.int .u8 0) 1 1 Tryz.underlying25 hi hz0 hz1 hz2 rfl (by decide) (.slice a1 V.length c1) V.length (byteCells V) rfl (own_below HO2.out (by (repeat (first | exact Below.refl _ _ | assumption | (refine below_alloc ?_ _) | (refine Below.setCell ?_ (by first | omega | (simp; done) | (simp; omega)) _) | (refine Below.drew ?_) | (refine below_drewN ?_ _) | (refine below_then (by assumption) ?_))))) (some ⟨w2.heap.size, 0, none⟩) 1 1 [.int .u8 1] rfl (src_new1 w2 5 _ rfl rfl rfl) (by intro u hu; simp at hu; subst hu; rfl) (by simp only [maxLen]; omega) (by omega) (by simp; omega) ?_; intro v' w3 hown3 hgrow3 hat3; obtain ⟨a3, c3, rfl⟩ := own_form hown3; have HO3 := hid hown3; have hbw3 : Below w.heap.size w w3 := (Below.grown (by (repeat (first | exact Below.refl _ _ | assumption | (refine below_alloc ?_ _) | (refine Below.setCell ?_ (by first | omega | (simp; done) | (simp; omega)) _) | (refine Below.drew ?_) | (refine below_drewN ?_ _) | (refine below_then (by assumption) ?_)))) hgrow3 (by simp; omega) (fun g e => (HO2.out.lt g e).1)); have hs3 : w2.heap.size ≤ w3.heap.size := (Nat.le_trans (by simp) hgrow3.size); have HS3 := hid (src_bytes (lift HL.out hbw3)); clear hgrow3 hown3 hat3))
    refine (HPB.out _ hbw3).mono ?_
    rintro r w4 ⟨v4, rfl, hr4, hb4⟩
    obtain ⟨a4, c4, hv4, hr4', _⟩ := sl_form hr4
    simp only [List.cons.injEq, and_true] at hv4
    subst hv4
    have HR4 := hid (rBytes.mono hr4' (S' := (· < w4.heap.size)) fun q hq => hq.2)
    clear hr4 hr4'
    go_wp2_with fail
    refine (HB.out _ a4 c4 HR4.out).mono ?_
    rintro r w5 ⟨v5, rfl, ho5, hb5⟩
    obtain ⟨a5, c5, rfl⟩ := own_form ho5
    have hs4 := hb4.size
    have hs5 := hb5.size
    have hb35 := below_then hb5 hb4
    have hbw5 := below_then hb35 hbw3
    have HS5 := hid (src_bytes (own_bytes rfl ho5))
    have HO5 := hid (own_below HO3.out hb35)
    have HONE5 := hid (byteCells_one G)
    clear ho5
    go_wp2_with (at_builtin; go_loud (refine wpList_append_src rfl _ _ _ rfl w.heap.size 5 i0 (.int .u8 0) 1 1 Tryz.underlying25 hi hz0 hz1 hz2 rfl (by decide) (.slice a3 (V.length + 1) c3) (V.length + 1) (byteCells V ++ [.int .u8 1]) rfl HO5.out a5 G.length c5 (byteCells G) rfl HS5.out HONE5.out (by simp only [maxLen]; omega) (by omega) (by omega) ?_; intro v' w6 hown6 hgrow6 hat6; have HG6 := hid hgrow6; have HO6 := hid hown6; clear hgrow6 hown6 hat6))
    have ho := HO6.out
    rw [show [Value.int .u8 1] = byteCells [1] from rfl, byteCells_app, byteCells_app, List.append_assoc, show [(1 : UInt8)] ++ G = 1 :: G from rfl, ← HK.out] at ho
    have hln : V.length + 1 + G.length = K.length := by rw [HK.out]; simp; omega
    have hV6 := own_bytes2 hln ho
    have hbF : Below w.heap.size w w6 := Below.grown hbw5 HG6.out (by omega) (fun g e => (HO5.out.lt g e).1)
    have HV6 := hid hV6
    clear ho hln hV6
    go_ret
    exact ⟨_, rfl, HV6.out, hbF⟩
end Go.Proofs.YtlbffbkbkajciaaGreat
namespace Go.Proofs.YtlbffbkbkajciaaGreat
open Go.RowKit Go.Bs Go.Maps
set_option linter.unusedVariables false
set_option linter.unusedSimpArgs false

theorem penF_old {w : World} {g : Nat} {a a1 : Option Addr} (h : a1.map Addr.block = a.map Addr.block ∨ ∃ q, a1.map Addr.block = some q ∧ w.heap.size ≤ q) {q : Nat} (hq : q < w.heap.size) (hn : ¬ PenF g a q) : ¬ PenF g a1 q := by
  rw [penF_is] at hn ⊢
  intro e
  rcases e with e | e
  · exact hn (.inl e)
  · rcases h with h | ⟨q', h, h2⟩
    · exact hn (.inr (h ▸ e))
    · rw [h] at e; have := Option.some.inj e; omega
theorem lit_one (w : World) (y : UInt8) : rBytes.r (· < (w.alloc (.cells #[.int .u8 (y.toNat : Int)] 5)).heap.size) (w.alloc (.cells #[.int .u8 (y.toNat : Int)] 5)) [.slice (some ⟨w.heap.size, 0, none⟩) 1 1] [y] :=
  own_bytes (l := [y]) rfl (own_new1 (base := 0) (Nat.zero_le _) (World.alloc_heap_new w _))

set_option maxRecDepth 100000 in
set_option maxHeartbeats 1600000 in
theorem block_put (w : World) {g base most : Nat} {J : List UInt8} {a : Option Addr} {c : Nat} (h : PenAt w g base most J a c) (p : List UInt8) (ad : Option Addr) (nd cd : Nat)
    (hD : rBytes.r (fun q => q < w.heap.size ∧ ¬ PenF g a q) w [.slice ad nd cd] p) (hp : p.length ≤ 1048576) (hfit : J.length + (blockB p).length ≤ most) (hlen : J.length + (blockB p).length ≤ 100000000000000) :
    Calls Tryz.prog 74 #[.pointer (some ⟨g, 0, none⟩), .slice ad nd cd] w fun r w' => r = .returned (.tuple #[]) ∧ PenStep w g base most (J ++ blockB p) a w' := by
  obtain ⟨rfl, hm, _, _⟩ := sl_len hD
  have d1 : decide ((1048576 : Int) < (p.length : Int)) = false := decide_eq_false (by omega)
  have hbk : Hid (blockB p = varB p.length ++ (if packR p then 1 :: blobB (pressB p) else 0 :: p)) := hid rfl
  have hvl : (varB p.length).length ≤ (blockB p).length := by rw [hbk.out]; simp
  have HV := hid (varint_put w h p.length (by omega) (by omega) (by omega))
  have HPK := hid (fun (W : World) (hl : rBytes.r (· < W.heap.size) W [.slice ad p.length cd] p) => block_packed W p ad _ cd hl hp)
  have HD := hid hD
  have HFIT := hid hfit; have HLEN := hid hlen
  clear h hD hfit hlen hvl
  generalize packR p = R at *
  generalize pressB p = E at *
  generalize varB p.length = V at *
  generalize blockB p = K at *
  cases R
  · have HK : Hid (K = V ++ (0 :: p)) := hid hbk.out
    clear hbk
    go_enter Tryz.func74, Tryz.ntmps74
    go_wp2_with fail
    refine HV.out.mono ?_
    rintro r w1 ⟨rfl, a1, c1, hp1, ht1, ha1⟩
    have hs1 := ht1.size
    have hD1 : rBytes.r (fun q => q < w1.heap.size ∧ ¬ PenF g a1 q) w1 [.slice ad p.length cd] p := rBytes.mono (rBytes.keep HD.out fun q hq => ht1.block q hq.1 hq.2) fun q hq => ⟨by omega, penF_old ha1 hq.1 hq.2⟩
    have HD1 := hid hD1
    clear hD1
    go_wp2_with fail
    refine (HPK.out _ (rBytes.mono HD1.out fun q hq => hq.1)).mono ?_
    rintro r w2 ⟨v2, rfl, _, hv2, hb2⟩
    obtain rfl := hv2 trivial
    have hs2 := hb2.size
    have hp2 := hp1.later hb2
    go_wp2_with fail
    have hbW : Below w2.heap.size w2 (w2.alloc (.cells #[.int .u8 0] 5)) := by (repeat (first | exact Below.refl _ _ | assumption | (refine below_alloc ?_ _) | (refine Below.setCell ?_ (by first | omega | (simp; done) | (simp; omega)) _) | (refine Below.drew ?_) | (refine below_drewN ?_ _) | (refine below_then (by assumption) ?_)))
    have hlit : rBytes.r (· < (w2.alloc (.cells #[.int .u8 0] 5)).heap.size) (w2.alloc (.cells #[.int .u8 0] 5)) [.slice (some ⟨w2.heap.size, 0, none⟩) 1 1] [0] := lit_one w2 0
    generalize w2.alloc (.cells #[.int .u8 0] 5) = W at *
    have hsW := hbW.size
    refine (pen_put W (hp2.later hbW) [0] (some ⟨w2.heap.size, 0, none⟩) 1 1 hlit (by have := HFIT.out; rw [HK.out] at this; simp at this ⊢; omega) (by have := HLEN.out; rw [HK.out] at this; simp at this ⊢; omega)).mono ?_
    rintro r w3 ⟨rfl, a3, c3, hp3, ht3, ha3⟩
    have hs3 := ht3.size
    have hD3 : rBytes.r (· < w3.heap.size) w3 [.slice ad p.length cd] p := rBytes.mono (rBytes.keep HD1.out fun q hq => (ht3.block q (by omega) hq.2).trans ((hbW.block q (by omega)).trans (hb2.block q hq.1))) fun q hq => by omega
    have HQ := hid (pen_put w3 hp3 p ad _ cd hD3 (by have := HFIT.out; rw [HK.out] at this; simp at this ⊢; omega) (by have := HLEN.out; rw [HK.out] at this; simp at this ⊢; omega))
    clear hD3 hlit
    go_wp2_with fail
    refine HQ.out.mono ?_
    rintro r w4 ⟨rfl, hst⟩
    have hst2 := PenStep.trans (J := J) ht1 ha1 (PenStep.later hb2 (PenStep.later hbW (PenStep.trans (J := J) ht3 ha3 hst)))
    have HST : Hid (PenStep w g base most (J ++ K) a w4) := hid (by rw [HK.out]; simpa using hst2)
    clear hst hst2
    go_wp2
    first | go_end0 | refine bodyPost_ret (results_none rfl _ _ _) rfl ?_
    exact ⟨rfl, HST.out⟩
  · have HK : Hid (K = V ++ (1 :: blobB E)) := hid hbk.out
    clear hbk
    go_enter Tryz.func74, Tryz.ntmps74
    go_wp2_with fail
    refine HV.out.mono ?_
    rintro r w1 ⟨rfl, a1, c1, hp1, ht1, ha1⟩
    have hs1 := ht1.size
    have hD1 : rBytes.r (fun q => q < w1.heap.size ∧ ¬ PenF g a1 q) w1 [.slice ad p.length cd] p := rBytes.mono (rBytes.keep HD.out fun q hq => ht1.block q hq.1 hq.2) fun q hq => ⟨by omega, penF_old ha1 hq.1 hq.2⟩
    have HD1 := hid hD1
    clear hD1
    go_wp2_with fail
    refine (HPK.out _ (rBytes.mono HD1.out fun q hq => hq.1)).mono ?_
    rintro r w2 ⟨v2, rfl, hv2, _, hb2⟩
    obtain ⟨a2, c2, hve, hr2, _⟩ := sl_form (hv2 trivial)
    simp only [List.cons.injEq, and_true] at hve
    subst hve
    have HE := hid hr2
    clear hv2 hr2
    have hs2 := hb2.size
    have hp2 := hp1.later hb2
    go_wp2_with fail
    have hbW : Below w2.heap.size w2 (w2.alloc (.cells #[.int .u8 1] 5)) := by (repeat (first | exact Below.refl _ _ | assumption | (refine below_alloc ?_ _) | (refine Below.setCell ?_ (by first | omega | (simp; done) | (simp; omega)) _) | (refine Below.drew ?_) | (refine below_drewN ?_ _) | (refine below_then (by assumption) ?_)))
    have hlit : rBytes.r (· < (w2.alloc (.cells #[.int .u8 1] 5)).heap.size) (w2.alloc (.cells #[.int .u8 1] 5)) [.slice (some ⟨w2.heap.size, 0, none⟩) 1 1] [1] := lit_one w2 1
    generalize w2.alloc (.cells #[.int .u8 1] 5) = W at *
    have hsW := hbW.size
    refine (pen_put W (hp2.later hbW) [1] (some ⟨w2.heap.size, 0, none⟩) 1 1 hlit (by have := HFIT.out; rw [HK.out] at this; simp at this ⊢; omega) (by have := HLEN.out; rw [HK.out] at this; simp at this ⊢; omega)).mono ?_
    rintro r w3 ⟨rfl, a3, c3, hp3, ht3, ha3⟩
    have hs3 := ht3.size
    have hno : ∀ q, w1.heap.size ≤ q → ¬ PenF g a1 q := fun q hq hf => by have := (hp1.own_lt hf).2; omega
    have hE3 : rBytes.r (fun q => q < w3.heap.size ∧ ¬ PenF g a3 q) w3 [.slice a2 E.length c2] E := rBytes.mono (rBytes.keep HE.out fun q hq => (ht3.block q (by omega) (hno q hq.1)).trans (hbW.block q (by omega))) fun q hq => ⟨by omega, penF_old ha3 (by omega) (hno q hq.1)⟩
    have HQ := hid (blob_put w3 hp3 E a2 _ c2 hE3 (by have := HFIT.out; rw [HK.out] at this; simp at this ⊢; omega) (by have := HLEN.out; rw [HK.out] at this; simp at this ⊢; omega))
    clear hE3 hlit hno
    go_wp2_with fail
    refine HQ.out.mono ?_
    rintro r w4 ⟨rfl, hst⟩
    have hst2 := PenStep.trans (J := J) ht1 ha1 (PenStep.later hb2 (PenStep.later hbW (PenStep.trans (J := J) ht3 ha3 hst)))
    have HST : Hid (PenStep w g base most (J ++ K) a w4) := hid (by rw [HK.out]; simpa using hst2)
    clear hst hst2
    go_wp2
    first | go_end0 | refine bodyPost_ret (results_none rfl _ _ _) rfl ?_
    exact ⟨rfl, HST.out⟩
end Go.Proofs.YtlbffbkbkajciaaGreat
namespace Go.Proofs.YtlbffbkbkajciaaGreat
open Go.RowKit Go.Bs Go.Maps
set_option linter.unusedVariables false
set_option linter.unusedSimpArgs false

theorem toNat_cast {x : Int} (h : 0 ≤ x) : ((x.toNat : Nat) : Int) = x := Int.toNat_of_nonneg h
/-- Numbers' bytes, one behind the other. -/
def numsB (l : List Int) : List UInt8 := (l.map fun x => varB x.toNat).flatten
def deltaB (pos : Int) (l : List Int) : List UInt8 := varB l.length ++ numsB (stepsL pos l)
/-- By how much each stream is above the one ahead. -/
def upsL : Option Int → List Link → List Int
  | _, [] => []
  | p, x :: l => (match p with | none => x.stream | some q => x.stream - q - 1) :: upsL (some x.stream) l
def lnkF (pos : Int) : Option Int → List Link → List UInt8
  | _, [] => []
  | p, x :: l => varB (match p with | none => x.stream | some q => x.stream - q - 1).toNat ++ deltaB pos x.backs ++ lnkF pos (some x.stream) l
def linksB (pos : Int) (l : List Link) : List UInt8 := varB l.length ++ lnkF pos none l
/-- The numbers of links are some. -/
def linkN (x : Link) : Prop := (0 ≤ x.stream ∧ x.stream ≤ 18446744073709551615) ∧ ∀ y ∈ x.backs, 0 ≤ y
theorem numsB_nil : numsB [] = [] := rfl
theorem numsB_cons (x : Int) (l : List Int) : numsB (x :: l) = varB x.toNat ++ numsB l := by simp [numsB]
theorem numsB_app (l l' : List Int) : numsB (l ++ l') = numsB l ++ numsB l' := by simp [numsB]
theorem numsB_step (l : List Int) (k : Nat) (h : k < l.length) : numsB (l.take (k + 1)) = numsB (l.take k) ++ varB l[k].toNat := by
  rw [List.take_succ_eq_append_getElem h, numsB_app, numsB_cons, numsB_nil, List.append_nil]
theorem numsB_len (l : List Int) : (numsB l).length ≤ 10 * l.length := by
  induction l with
  | nil => simp [numsB]
  | cons x l ih =>
    rw [numsB_cons, List.length_append, List.length_cons]
    have := (varB_len x.toNat).1
    omega
theorem numsB_take_le (l : List Int) (k : Nat) : (numsB (l.take k)).length ≤ (numsB l).length := by
  have : numsB l = numsB (l.take k) ++ numsB (l.drop k) := by rw [← numsB_app, List.take_append_drop]
  rw [this, List.length_append]; omega
theorem stepsL_len : ∀ (p : Int) (l : List Int), (stepsL p l).length = l.length
  | _, [] => rfl
  | p, x :: l => by simp only [stepsL, List.length_cons, stepsL_len x l]
theorem upsL_len : ∀ (p : Option Int) (l : List Link), (upsL p l).length = l.length
  | _, [] => rfl
  | p, x :: l => by simp only [upsL, List.length_cons, upsL_len _ l]
theorem varB_len_small {x : Nat} (h : x < 128) : (varB x).length = 1 := by rw [varB_small h]; rfl
theorem deltaB_len (pos : Int) (l : List Int) (h : l.length < 128) : (deltaB pos l).length ≤ 1 + 10 * l.length := by
  have := numsB_len (stepsL pos l)
  rw [stepsL_len] at this
  unfold deltaB
  rw [List.length_append, varB_len_small h]
  omega
/-- What was there, and no part of the pen, is there yet. -/
theorem pen_data {α : Type} {A : Rp α} {w w1 : World} {g : Nat} {a a1 : Option Addr} {cs : List Value} {x : α} (ht : Tch (PenF g a) w w1) (ha : a1.map Addr.block = a.map Addr.block ∨ ∃ q, a1.map Addr.block = some q ∧ w.heap.size ≤ q)
    (h : A.r (fun q => q < w.heap.size ∧ ¬ PenF g a q) w cs x) : A.r (fun q => q < w1.heap.size ∧ ¬ PenF g a1 q) w1 cs x :=
  A.mono (A.keep h fun q hq => ht.block q hq.1 hq.2) fun q hq => ⟨Nat.lt_of_lt_of_le hq.1 ht.size, penF_old ha hq.1 hq.2⟩
theorem pen_later {α : Type} {A : Rp α} {w w1 : World} {g : Nat} {a : Option Addr} {cs : List Value} {x : α} (hb : Below w.heap.size w w1)
    (h : A.r (fun q => q < w.heap.size ∧ ¬ PenF g a q) w cs x) : A.r (fun q => q < w1.heap.size ∧ ¬ PenF g a q) w1 cs x :=
  A.mono (A.keep h fun q hq => hb.block q hq.1) fun q hq => ⟨Nat.lt_of_lt_of_le hq.1 hb.size, hq.2⟩
theorem pen_low {α : Type} {A : Rp α} {w : World} {g : Nat} {a : Option Addr} {cs : List Value} {x : α} (h : A.r (fun q => q < w.heap.size ∧ ¬ PenF g a q) w cs x) : A.r (· < w.heap.size) w cs x := A.mono h fun q hq => hq.1
/-- What came behind a pen is no part of it. -/
theorem pen_new_data {α : Type} {A : Rp α} {w w1 : World} {g base most : Nat} {J : List UInt8} {a : Option Addr} {c : Nat} {cs : List Value} {x : α} (hp : PenAt w g base most J a c) (h : A.r (fun q => w.heap.size ≤ q ∧ q < w1.heap.size) w1 cs x) : A.r (fun q => q < w1.heap.size ∧ ¬ PenF g a q) w1 cs x :=
  A.mono h fun q hq => ⟨hq.2, fun hf => by have := (hp.own_lt hf).2; omega⟩
end Go.Proofs.YtlbffbkbkajciaaGreat
namespace Go.Proofs.YtlbffbkbkajciaaGreat
open Go.RowKit Go.Bs
set_option linter.unusedVariables false
set_option linter.unusedSimpArgs false
theorem info64 : (Tryz.prog.info? 22).map (fun i => (i.zero, i.size, i.bytes)) = some (some (.int .u64 0), 1, 8) := by kernel_rfl

/-- Blocks made since a world, in another. -/
def Fresh (w w' : World) (b : Nat) : Prop := w.heap.size ≤ b ∧ b < w'.heap.size

theorem u64s_bounds {S : Nat → Prop} {w : World} {a : Option Addr} {n c : Nat} {l : List Int} (h : rU64s.r S w [.slice a n c] l) : ∀ x ∈ l, 0 ≤ x ∧ x ≤ 18446744073709551615 := by
  intro x hx
  obtain ⟨i, hi, rfl⟩ := List.getElem_of_mem hx
  obtain ⟨b, o, _, _, _, h2⟩ := u64_at h hi
  exact h2

set_option maxHeartbeats 800000 in
theorem link_copied (x : Link) (a : Option Addr) (n c : Nat) (w : World) (hl : rU64s.r (· < w.heap.size) w [.slice a n c] x.backs) (hlen : x.backs.length ≤ 1000000000000) :
    Calls Tryz.prog 171 #[.agg #[.int .u64 x.stream, .slice a n c]] w fun r w' => ∃ v, r = .returned (.agg #[.int .u64 x.stream, v]) ∧ rU64s.r (Fresh w w') w' [v] x.backs ∧ Below w.heap.size w w' := by
  obtain ⟨rfl, hm, _, _⟩ := sl_len hl
  obtain ⟨i0, hi, hz0, hz1, hz2⟩ := info_parts info64
  have hw := hid (u64s_bounds hl)
  have HL := hid hl; clear hl
  have hone := u64Cells_one x.backs
  have HONE := hid hone; clear hone
  go_enter Tryz.func171, Tryz.ntmps171
  have hfree : ∀ (W : World), W.heap.size = w.heap.size + 1 + 1 → (W.alloc (.cells #[] 22)).ownsRow (w.heap.size + 1 + 1) 22 1 (.slice (some ⟨w.heap.size + 1 + 1, 0, none⟩) 0 0) 0 [] := fun W h => own_empty W (by omega) h.symm
  have HF := hid hfree; clear hfree
  have hbel : ∀ W : World, Below w.heap.size w W → Src W a x.backs.length 1 (u64Cells x.backs) := fun W h => src_u64s (lift HL.out h)
  have HB := hid hbel; clear hbel
  go_wp2_with (at_builtin; go_loud (refine wpList_append_src rfl _ _ _ rfl (w.heap.size + 1 + 1) 22 i0 (.int .u64 0) 1 8 Tryz.underlying23 hi hz0 hz1 hz2 rfl (by decide) (.slice (some ⟨w.heap.size + 1 + 1, 0, none⟩) 0 0) 0 [] rfl (HF.out _ (by simp)) a x.backs.length c (u64Cells x.backs) rfl (HB.out _ (by (repeat (first | exact Below.refl _ _ | assumption | (refine below_alloc ?_ _) | (refine Below.setCell ?_ (by first | omega | (simp; done) | (simp; omega)) _) | (refine Below.drew ?_) | (refine below_drewN ?_ _) | (refine below_then (by assumption) ?_))))) HONE.out (by simp only [maxLen]; omega) (by omega) (by first | (simp; done) | (simp; omega)) ?_; intro v1 w1 hown1 hgrow1 hat1; rw [Nat.zero_add, List.nil_append] at hown1; obtain ⟨av, cv, hv1⟩ := own_form hown1; subst hv1; have HG := hid hgrow1; have HO := hid hown1; have HA := hid hat1; clear hown1 hgrow1 hat1; have q0 : Blk w1 w.heap.size 151 #[.int .u64 x.stream, .slice a x.backs.length c] := (((Blk.new w _ _).alloc _).alloc _).grown HG.out (by simp only [Value.ownBlock, ne_eq, Option.some.injEq]; omega); have q1 : Blk w1 (w.heap.size + 1) 151 #[.int .u64 0, .slice none 0 0] := ((Blk.new1 w _ _ _).alloc _).grown HG.out (by simp only [Value.ownBlock, ne_eq, Option.some.injEq]; omega); have c00 : w1.cell? ⟨w.heap.size, 0, none⟩ = some (.int .u64 x.stream) := q0.cell 0; have c01 : w1.cell? ⟨w.heap.size, 1, none⟩ = some (.slice a x.backs.length c) := q0.cell 1; have c10 : w1.cell? ⟨w.heap.size + 1, 0, none⟩ = some (.int .u64 0) := q1.cell 0; have c11 : w1.cell? ⟨w.heap.size + 1, 1, none⟩ = some (.slice none 0 0) := q1.cell 1; have f00 := q0.free 0; have f01 := q0.free 1; have f10 := q1.free 0; have f11 := q1.free 1; have Q0 := hid q0; have Q1 := hid q1; clear q0 q1))
  have hb1 : Below w.heap.size w w1 := Below.grown (by (repeat (first | exact Below.refl _ _ | assumption | (refine below_alloc ?_ _) | (refine Below.setCell ?_ (by first | omega | (simp; done) | (simp; omega)) _) | (refine Below.drew ?_) | (refine below_drewN ?_ _) | (refine below_then (by assumption) ?_)))) HG.out (by first | (simp; done) | (simp; omega)) (fun g e => by simp only [Value.ownBlock, Option.some.injEq] at e; omega)
  have hr1 := own_ints64 hw.out rfl HO.out
  have hz1 : w.heap.size + 1 + 1 < w1.heap.size := by have := HG.out.size; simp at this; omega
  clear HG HO HA
  refine bodyPost_ret (v := .agg #[.int .u64 x.stream, .slice av x.backs.length cv]) (by simp [results, Tryz.results171, go_sem, c00, c01, c10, c11]) rfl ⟨.slice av x.backs.length cv, rfl, ?_, by (repeat (first | exact Below.refl _ _ | assumption | (refine below_alloc ?_ _) | (refine Below.setCell ?_ (by first | omega | (simp; done) | (simp; omega)) _) | (refine Below.drew ?_) | (refine below_drewN ?_ _) | (refine below_then (by assumption) ?_)))⟩
  refine rU64s.mono (rU64s.keep hr1 fun b hb => ?_) fun b hb => ⟨by omega, by simp; omega⟩
  repeat rw [Below.heap_setCell _ _ _ _ (by dsimp only; omega)]
end Go.Proofs.YtlbffbkbkajciaaGreat
