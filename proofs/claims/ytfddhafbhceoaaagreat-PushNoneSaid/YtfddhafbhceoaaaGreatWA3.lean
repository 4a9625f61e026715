/- Needed by pushNone_walk, part 3: texts put together by shake.py; no condition. -/
import Derived.Deep.RegionHeld3
import Derived.IntWalk
import Derived.Test.YtfddhafbhceoaaaGreatWA2
import Derived.ScopeJumps
import Derived.WalkMore
import Derived.Test.YtfddhafbhceoaaaGreatWA1
import Derived.Deep.Cut
import Derived.BigRegion
import Derived.Test.YtfddhafbhceoaaaGreatRows
import Derived.Laws.IdiomStrings
import Derived.Laws.BytesArg
import Derived.Lib.SlBytesConst
namespace Go.Proofs.YtfddhafbhceoaaaGreat
open Go.RowKit Go.Bs Go.Maps
set_option linter.unusedVariables false
set_option linter.unusedSimpArgs false

theorem Rs.skip_true {s : Rs} {L : Nat} {n : Int} (h : (s.skip L n).1 = true) : s.k = 0 ∧ 0 ≤ n ∧ n ≤ (L : Int) - s.p ∧ (s.skip L n).2 = ⟨s.p + n.toNat, 0, 0⟩ := by
  unfold Rs.skip at *
  split at h
  · rename_i h0
    split at h
    · simp at h
    · split at h
      · simp at h
      · rename_i h1 h2
        exact ⟨h0, by omega, by omega, by rw [if_pos h0, if_neg h1, if_neg h2]⟩
  · simp at h
theorem Rs.skip_false {s : Rs} {L : Nat} {n : Int} (h : (s.skip L n).1 = false) : (s.skip L n).2.k ≠ 0 ∧ (s.skip L n).2.p = s.p := by
  unfold Rs.skip at *
  split at h
  · rename_i h0
    split at h
    · rename_i h1
      rw [if_pos h0, if_pos h1]; simp
    · rename_i h1
      split at h
      · rename_i h2
        rw [if_pos h0, if_neg h1, if_pos h2]; simp
      · simp at h
  · rename_i h0
    rw [if_neg h0]; exact ⟨h0, rfl⟩

set_option maxRecDepth 100000 in
theorem rd_byte (w : World) {g : Nat} {B : List UInt8} {a : Option Addr} {s : Rs} (h : RdAt w g B a s) : Calls Tryz.prog 195 #[.pointer (some ⟨g, 0, none⟩)] w fun r w' => r = .returned (.int .u8 ((s.byte B).2.toNat : Int)) ∧ RdStep w g B a (s.byte B).1 w' := by
  have HS := hid (rd_skip w h 1 (by omega))
  have hle2 := h.len
  unfold Rs.byte
  cases hk : (s.skip B.length 1).1
  · rw [hk] at HS
    generalize (s.skip B.length 1).2 = s1 at *
    clear h hk
    go_enter Tryz.func195, Tryz.ntmps195
    go_wp2_with fail
    refine HS.out.mono ?_
    rintro r w1 ⟨rfl, hst⟩
    have HST := hid hst
    clear hst
    go_wp2
    go_ret
    exact ⟨rfl, HST.out⟩
  · obtain ⟨h0, _, h2, h3⟩ := Rs.skip_true hk
    rw [hk, h3] at HS
    rw [h3]
    have hp : s.p < B.length := by omega
    have hbd : B.getD s.p 0 = B[s.p] := by simp [hp]
    simp only [if_true]
    rw [hbd]
    generalize hx : B[s.p] = x
    have HX := hid hx
    rw [show s.p + (1 : Int).toNat = s.p + 1 by omega] at *
    clear h hk h0 h2 h3 hbd hx
    go_enter Tryz.func195, Tryz.ntmps195
    go_wp2_with fail
    refine HS.out.mono ?_
    rintro r w1 ⟨rfl, hst⟩
    obtain ⟨ga, oa, hA, hga, hc⟩ := byte_at hst.1.dat hp
    rw [HX.out] at hc
    subst hA
    have c1 := hst.1.blk.cell 1
    simp at c1
    have C0 := fun s : Later w1 => s.cell (hst.1.blk.cell 0)
    have C1 := fun s : Later w1 => s.cell c1
    have CB := fun s : Later w1 => s.cell hc
    simp at C0
    have HST := hid hst
    clear hst hc c1
    have i1 : (s.p : Int) < (B.length : Int) := by omega
    have i2 : (0 : Int) ≤ (s.p : Int) := by omega
    have hb1 : (s.p : Int) ≤ 9223372036854775807 := by omega
    go_wp2_with fail
    have i3 : wrap64 (s.p : Int) = s.p := by simp only [wrap64]; omega
    refine wp_region_later (by kernel_rfl) (by kernel_rfl) ?_
    repeat (go_big_quiet_step (fail))
    refine wpQuiet_nil ?_
    clear i3
    rintro W5 ⟨⟨W5', hb5⟩, rfl⟩
    go_wp2
    go_ret
    exact ⟨rfl, HST.out.then hb5⟩

set_option maxRecDepth 100000 in
set_option maxHeartbeats 1600000 in
theorem rd_take (w : World) {g : Nat} {B : List UInt8} {a : Option Addr} {s : Rs} (h : RdAt w g B a s) (n : Int) (hn : n ≤ 9223372036854775807) (hB : B.length ≤ 1000000000000) : Calls Tryz.prog 200 #[.pointer (some ⟨g, 0, none⟩), .int .i64 n] w fun r w' => ∃ v, r = .returned v ∧ rBytes.r (fun q => w.heap.size ≤ q ∧ q < w'.heap.size) w' [v] (s.take B n).2 ∧ RdStep w g B a (s.take B n).1 w' := by
  have HS := hid (rd_skip w h n hn)
  unfold Rs.take
  cases hk : (s.skip B.length n).1
  · rw [hk] at HS
    generalize (s.skip B.length n).2 = s1 at *
    clear h hk
    go_enter Tryz.func200, Tryz.ntmps200
    go_wp2_with fail
    refine HS.out.mono ?_
    rintro r w1 ⟨rfl, hst⟩
    have HST := hid hst
    clear hst
    go_wp2
    go_ret
    exact ⟨_, rfl, empty_bytes rfl rfl (by omega), HST.out⟩
  · obtain ⟨h0, h1, h2, h3⟩ := Rs.skip_true hk
    rw [hk, h3] at HS
    rw [h3]
    obtain ⟨m, rfl⟩ : ∃ m : Nat, n = m := ⟨n.toNat, by omega⟩
    rw [show ((m : Int)).toNat = m by omega] at *
    obtain ⟨i0, hi, hz0, hz1, hz2⟩ := info_parts info8
    have hp : s.p + m ≤ B.length := by have := h.ok.le; omega
    simp only [if_true]
    clear h hk h0 h1 h2 h3
    go_enter Tryz.func200, Tryz.ntmps200
    go_wp2_with fail
    refine HS.out.mono ?_
    rintro r w1 ⟨rfl, hst⟩
    obtain ⟨aD, cD, hsl, hsub⟩ := cut_bytes hst.1.dat (lo := s.p) (hi := s.p + m) (by omega) hp
    have hlD : ((B.drop s.p).take (s.p + m - s.p)).length = m := by simp; omega
    rw [show s.p + m - s.p = m by omega] at hsl hsub hlD
    generalize hDe : (B.drop s.p).take m = D at *
    have HDE := hid hDe
    clear hDe
    have hDm : m = D.length := hlD.symm
    obtain ⟨P1, hP1⟩ : ∃ P1 : Nat, P1 = s.p + m := ⟨_, rfl⟩
    rw [← hP1, show (s.p : Int) = (P1 : Int) - (m : Int) by omega] at hsl
    have HSB := hid (fun (W : World) (hW : Below w1.heap.size w1 W) => src_bytes (l := D) (lift (w := w1) (A := rBytes) (cs := [.slice aD D.length cD]) (by rw [← hDm]; exact rBytes.mono hsub fun q hq => hq.1) hW))
    have HONE := hid (byteCells_one D)
    have c1 := hst.1.blk.cell 1
    have c0 := hst.1.blk.cell 0
    simp at c0
    rw [← hP1] at c1 hst hp
    simp at c1
    have lt := hst.1.blk.lt
    have HST := hid hst
    have HDM := hid hDm
    have hs1 := hst.size
    have HP1 := hid hP1
    have hPm : m ≤ P1 := by omega
    clear hst hsub hlD hDm hP1
    have hb1 : (P1 : Int) ≤ 9223372036854775807 := by omega
    go_wp2_with fail
    have j1 : IntKind.i64.wrap ((P1 : Int) - (m : Int)) = (P1 : Int) - (m : Int) := IntWalk.i64_in _ (by omega)
    go_region_held3 (fun w' => w'.cell? ⟨g, 0, none⟩ = some (.slice a B.length B.length) ∧ w'.cell? ⟨g, 1, none⟩ = some (.int .i64 (P1 : Int))) (((try dsimp only); refine ⟨?_, ?_⟩ <;> (first | assumption | (go_keep; done))))
      ((go_loud (refine step_append_src (by rfl) _ _ _ (by rfl) w1.heap.size 5 i0 (.int .u8 0) 1 1 Tryz.underlying22 hi hz0 hz1 hz2 rfl (by decide) _ 0 [] (by rfl) (own_empty _ (by simp) (by rfl)) aD m cD (byteCells D) (by rfl) (by rw [HDM.out]; exact HSB.out _ (by (repeat (first | exact Below.refl _ _ | assumption | (refine below_alloc ?_ _) | (refine Below.setCell ?_ (by first | omega | (simp; done) | (simp; omega)) _) | (refine Below.drew ?_) | (refine below_drewN ?_ _) | (refine below_then (by assumption) ?_))))) HONE.out (by clear j1; simp only [maxLen]; omega) (by clear j1; omega) (by simp) ?_; intro a5 c5 w5 hown5 hgrow5 hat5; rw [Nat.zero_add] at hown5; have k5 : Below w1.heap.size w1 w5 := Below.grown (by (repeat (first | exact Below.refl _ _ | assumption | (refine below_alloc ?_ _) | (refine Below.setCell ?_ (by first | omega | (simp; done) | (simp; omega)) _) | (refine Below.drew ?_) | (refine below_drewN ?_ _) | (refine below_then (by assumption) ?_)))) hgrow5 (by simp) (fun g e => by { have e' : some w1.heap.size = some g := e; injection e' with e'; clear j1; omega }); have e0 := (k5.cell (p := ⟨g, 0, none⟩) lt).trans c0; have e1 := (k5.cell (p := ⟨g, 1, none⟩) lt).trans c1; have HK5 := hid k5; have HO5 := hid hown5; clear hown5 hgrow5 hat5 k5)))
    all_goals
      clear j1
      have ho := HO5.out
      rw [List.nil_append] at ho
      have hA := own_bytes2 HDM.out ho
      have HA := hid hA
      clear ho hA
      go_wp2
      go_ret
      refine ⟨_, rfl, ?_, ?_⟩
      · rw [HDE.out]
        exact rBytes.mono HA.out fun q hq => ⟨by omega, hq.2⟩
      · rw [← HP1.out]
        exact HST.out.then HK5.out

set_option maxRecDepth 100000 in
set_option maxHeartbeats 1600000 in
theorem rd_since (w : World) {g : Nat} {B : List UInt8} {a : Option Addr} {s : Rs} (h : RdAt w g B a s) (at_ : Nat) (hat : at_ ≤ s.p) (hB : B.length ≤ 1000000000000) : Calls Tryz.prog 214 #[.pointer (some ⟨g, 0, none⟩), .int .i64 (at_ : Int)] w fun r w' => ∃ v, r = .returned v ∧ rBytes.r (fun q => w.heap.size ≤ q ∧ q < w'.heap.size) w' [v] ((B.drop at_).take (s.p - at_)) ∧ Below w.heap.size w w' := by
  obtain ⟨i0, hi, hz0, hz1, hz2⟩ := info_parts info8
  have hp : s.p ≤ B.length := h.ok.le
  obtain ⟨aD, cD, hsl, hsub⟩ := cut_bytes h.dat (lo := at_) (hi := s.p) hat hp
  have hlD : ((B.drop at_).take (s.p - at_)).length = s.p - at_ := by simp; omega
  obtain ⟨m, hm⟩ : ∃ m : Nat, m = s.p - at_ := ⟨_, rfl⟩
  rw [← hm] at hsl hsub hlD ⊢
  generalize (B.drop at_).take m = D at *
  have hDm : m = D.length := hlD.symm
  have HSB := hid (fun (W : World) (hW : Below w.heap.size w W) => src_bytes (l := D) (lift (w := w) (A := rBytes) (cs := [.slice aD D.length cD]) (by rw [← hDm]; exact rBytes.mono hsub fun q hq => hq.1) hW))
  have HONE := hid (byteCells_one D)
  have c1 := h.blk.cell 1
  have c0 := h.blk.cell 0
  simp at c0 c1
  have lt := h.blk.lt
  have HDM := hid hDm
  generalize s.p = P1 at *
  have d1 : decide ((at_ : Int) < 0) = false := decide_eq_false (by omega)
  have d2 : decide ((P1 : Int) < (at_ : Int)) = false := decide_eq_false (by omega)
  have d3 : decide (P1 < at_) = false := decide_eq_false (by omega)
  have hmB : m ≤ B.length := by omega
  clear h hsub hlD hDm hm
  go_enter Tryz.func214, Tryz.ntmps214
  go_wp2_with fail
  go_region_held3 (fun w' => w'.cell? ⟨g, 0, none⟩ = some (.slice a B.length B.length) ∧ w'.cell? ⟨g, 1, none⟩ = some (.int .i64 (P1 : Int))) (((try dsimp only); refine ⟨?_, ?_⟩ <;> (first | assumption | (go_keep; done))))
    ((go_loud (refine step_append_src (by rfl) _ _ _ (by rfl) w.heap.size 5 i0 (.int .u8 0) 1 1 Tryz.underlying22 hi hz0 hz1 hz2 rfl (by decide) _ 0 [] (by rfl) (own_empty _ (by simp) (by rfl)) aD m cD (byteCells D) (by rfl) (by rw [HDM.out]; exact HSB.out _ (by (repeat (first | exact Below.refl _ _ | assumption | (refine below_alloc ?_ _) | (refine Below.setCell ?_ (by first | omega | (simp; done) | (simp; omega)) _) | (refine Below.drew ?_) | (refine below_drewN ?_ _) | (refine below_then (by assumption) ?_))))) HONE.out (by simp only [maxLen]; omega) (by omega) (by simp) ?_; intro a5 c5 w5 hown5 hgrow5 hat5; rw [Nat.zero_add] at hown5; have k5 : Below w.heap.size w w5 := Below.grown (by (repeat (first | exact Below.refl _ _ | assumption | (refine below_alloc ?_ _) | (refine Below.setCell ?_ (by first | omega | (simp; done) | (simp; omega)) _) | (refine Below.drew ?_) | (refine below_drewN ?_ _) | (refine below_then (by assumption) ?_)))) hgrow5 (by simp) (fun g e => by { have e' : some w.heap.size = some g := e; injection e' with e'; omega }); have e0 := (k5.cell (p := ⟨g, 0, none⟩) lt).trans c0; have e1 := (k5.cell (p := ⟨g, 1, none⟩) lt).trans c1; have HK5 := hid k5; have HO5 := hid hown5; clear hown5 hgrow5 hat5 k5)))
  all_goals
    have ho := HO5.out
    rw [List.nil_append] at ho
    have hA := own_bytes2 HDM.out ho
    have HA := hid hA
    clear ho hA
    go_wp2
    go_ret
    exact ⟨_, rfl, HA.out, HK5.out⟩

theorem f_blk {w : World} {g : Nat} {t : TypeId} {v0 v1 : Value} (h : Blk w g t #[v0, v1]) : w.cell? ⟨g, 0, none⟩ = some v0 ∧ w.cell? ⟨g, 1, none⟩ = some v1 ∧ w.frozen? ⟨g, 0, none⟩ = false ∧ w.frozen? ⟨g, 1, none⟩ = false ∧ g < w.heap.size :=
  ⟨h.cell 0, h.cell 1, h.free 0, h.free 1, h.lt⟩

/-- The number that bytes begin with, how many were looked at, the code. -/
def vget : Nat → Nat → List UInt8 → Nat × Nat × Int
  | i, x, [] => (0, i, 1)
  | i, x, c :: l =>
    if i = 9 ∧ 1 < c.toNat then (0, i + 1, 5)
    else if 0 < i ∧ c.toNat = 0 then (0, i + 1, 4)
    else if c.toNat < 128 then (x + c.toNat * 128 ^ i, i + 1, 0)
    else vget (i + 1) (x + c.toNat % 128 * 128 ^ i) l
def Rs.num (B : List UInt8) (s : Rs) : Rs × Nat :=
  if s.k = 0 then
    let r := vget 0 0 (B.drop s.p)
    (⟨s.p + r.2.1, r.2.2, if r.2.2 = 0 then 0 else if r.2.2 = 1 then B.length else s.p + r.2.1 - 1⟩, r.1)
  else (s, 0)
theorem vget_used : ∀ (l : List UInt8) (i x : Nat), (vget i x l).2.1 ≤ i + l.length ∧ i ≤ (vget i x l).2.1 ∧ ((vget i x l).2.2 = 0 ∨ (vget i x l).2.2 = 1 ∨ (vget i x l).2.2 = 4 ∨ (vget i x l).2.2 = 5) ∧ ((vget i x l).2.2 = 1 → (vget i x l).2.1 = i + l.length) ∧ ((vget i x l).2.2 ≠ 1 → i < (vget i x l).2.1)
  | [], i, x => by simp [vget]
  | c :: l, i, x => by
    unfold vget
    split
    · simp
    · split
      · simp
      · split
        · simp
        · have := vget_used l (i + 1) (x + c.toNat % 128 * 128 ^ i)
          refine ⟨by simp; omega, by omega, this.2.2.1, fun h => by have := this.2.2.2.1 h; simp; omega, fun h => by have := this.2.2.2.2 h; omega⟩
theorem Rs.num_ok {B : List UInt8} {s : Rs} (h : s.ok B.length) : (s.num B).1.ok B.length := by
  unfold Rs.num
  split
  · have := vget_used (B.drop s.p) 0 0
    have hl : (B.drop s.p).length = B.length - s.p := by simp
    refine ⟨by dsimp only; have := h.le; omega, fun e => by dsimp only at e ⊢; rw [if_pos e]⟩
  · exact h
theorem Rs.num_p {B : List UInt8} {s : Rs} : s.p ≤ (s.num B).1.p := by
  unfold Rs.num
  split
  · dsimp only; omega
  · exact Nat.le_refl _
theorem Rs.num_bad {B : List UInt8} {s : Rs} (h : (s.num B).1.k ≠ 0) : (s.num B).2 = 0 := by
  have key : ∀ (l : List UInt8) (i x : Nat), (vget i x l).2.2 ≠ 0 → (vget i x l).1 = 0 := by
    intro l
    induction l with
    | nil => intro i x h; rfl
    | cons c l ih =>
      intro i x h
      unfold vget at h ⊢
      split
      · rfl
      · rename_i h1
        rw [if_neg h1] at h
        split
        · rfl
        · rename_i h2
          rw [if_neg h2] at h
          split
          · rename_i h3
            rw [if_pos h3] at h; simp at h
          · rename_i h3
            rw [if_neg h3] at h
            exact ih _ _ h
  unfold Rs.num at *
  split
  · rename_i h0
    rw [if_pos h0] at h
    exact key _ _ _ h
  · rfl
theorem vget_small : ∀ (l : List UInt8) (i x : Nat), i ≤ 9 → x < 128 ^ i → (vget i x l).1 < 18446744073709551616
  | [], i, x, _, _ => by simp [vget]
  | c :: l, i, x, hi, hx => by
    unfold vget
    have hc := c.toNat_lt
    split
    · simp
    · rename_i h9
      split
      · simp
      · split
        · rename_i h3
          dsimp only
          by_cases h : i = 9
          · subst h
            have : c.toNat ≤ 1 := by omega
            have h1 : c.toNat * 128 ^ 9 ≤ 1 * 128 ^ 9 := Nat.mul_le_mul_right _ this
            have h2 : (128 : Nat) ^ 9 = 9223372036854775808 := by decide
            rw [h2] at *
            omega
          · have h1 : c.toNat * 128 ^ i ≤ 127 * 128 ^ i := Nat.mul_le_mul_right _ (by omega)
            have h2 : (128 : Nat) ^ i ≤ 128 ^ 8 := Nat.pow_le_pow_right (by omega) (by omega)
            have h3 : (128 : Nat) ^ 8 = 72057594037927936 := by decide
            rw [h3] at h2
            omega
        · rename_i h3
          have h9' : i ≠ 9 := fun e => h9 ⟨e, by omega⟩
          refine vget_small l (i + 1) _ (by omega) ?_
          have h1 : c.toNat % 128 * 128 ^ i ≤ 127 * 128 ^ i := Nat.mul_le_mul_right _ (by omega)
          rw [Nat.pow_succ]
          omega
theorem Rs.num_small {B : List UInt8} {s : Rs} : (s.num B).2 < 18446744073709551616 := by
  unfold Rs.num
  split
  · exact vget_small _ 0 0 (by omega) (by simp)
  · simp
end Go.Proofs.YtfddhafbhceoaaaGreat
namespace Go.Bs
open Go.RowKit
set_option linter.unusedVariables false

/-- As Q; by a goto to any label l: J l. -/
def manyX (J : Nat → Act → World → Prop) (Q : Exit → Act → World → Prop) : Exit → Act → World → Prop
  | .goto l, a, w => J l a w
  | e, a, w => Q e a w
section
variable {P : Program} {a : Act} {w : World} {Q : Exit → Act → World → Prop}
theorem wp_scope_many {c : Code} (J : Nat → Act → World → Prop) (μ : Nat → Act → World → Nat)
    (pass : ∀ l a w, J l a w → ∃ rest, findLabel c l = some rest ∧ rest.wp P (manyX (fun l' a' w' => J l' a' w' ∧ μ l' a' w' < μ l a w) Q) a w)
    (first : c.wp P (manyX J Q) a w) : (Code.scope c).wp P Q a w := by
  intro b k cs
  have hg : ∀ {l rest}, findLabel c l = some rest → gotoIn l (.inScope c :: k) = some (.code rest :: .inScope c :: k) := fun hf => by simp [gotoIn, hf]
  have key : ∀ n l a w rest, findLabel c l = some rest → μ l a w = n → J l a w → ∃ e a' w', Q e a' w' ∧ Arrives P (lone (b.at a (.code rest :: .inScope c :: k)) cs w) b k cs e a' w' := by
    intro n
    induction n using Nat.strongRecOn with
    | _ n ih =>
      intro l a w rest hf hn hJ
      obtain ⟨rest', hf', hp⟩ := pass l a w hJ
      obtain rfl : rest' = rest := Option.some.inj (hf'.symm.trans hf)
      obtain ⟨e, a₁, w₁, hq, harr⟩ := hp b (.inScope c :: k) cs
      cases e with
      | normal => exact ⟨.normal, a₁, w₁, hq, Steps.trans harr (.one step_inScope)⟩
      | exit id => exact ⟨.exit id, a₁, w₁, hq, fun k' hk => harr k' (by simp [exitTo, hk])⟩
      | goto l' =>
        obtain ⟨hJ', hlt⟩ := hq
        obtain ⟨rest2, hf2, _⟩ := pass l' a₁ w₁ hJ'
        obtain ⟨e₂, a₂, w₂, hq₂, harr₂⟩ := ih _ (by omega) l' a₁ w₁ rest2 hf2 rfl hJ'
        exact ⟨e₂, a₂, w₂, hq₂, .of_steps (harr _ (hg hf2)) harr₂⟩
      | ret => exact ⟨_, a₁, w₁, hq, harr⟩
      | panic ch => exact ⟨_, a₁, w₁, hq, harr⟩
      | outgrown => exact ⟨_, a₁, w₁, hq, harr⟩
  obtain ⟨e, a₁, w₁, hq, harr⟩ := first b (.inScope c :: k) cs
  cases e with
  | normal => exact ⟨.normal, a₁, w₁, hq, .head step_scope (Steps.trans harr (.one step_inScope))⟩
  | exit id => exact ⟨.exit id, a₁, w₁, hq, fun k' hk => .head step_scope (harr k' (by simp [exitTo, hk]))⟩
  | goto l' =>
    obtain ⟨rest2, hf2, _⟩ := pass l' a₁ w₁ hq
    obtain ⟨e₂, a₂, w₂, hq₂, harr₂⟩ := key _ l' a₁ w₁ rest2 hf2 rfl hq
    exact ⟨e₂, a₂, w₂, hq₂, .of_steps (.head step_scope (harr _ (hg hf2))) harr₂⟩
  | ret => exact ⟨_, a₁, w₁, hq, .of_steps (.one step_scope) harr⟩
  | panic ch => exact ⟨_, a₁, w₁, hq, .of_steps (.one step_scope) harr⟩
  | outgrown => exact ⟨_, a₁, w₁, hq, .of_steps (.one step_scope) harr⟩

theorem wp_skip_seq {c : Code} (h : c.wp P Q a w) : (Code.skip.seq c).wp P Q a w := wp_seq (wp_skip h)
/-- One label at which a scope's passes begin. 'first' walks up to the label alone. -/
theorem wp_scope_entry {c rest : Code} (l : Nat) (J : Act → World → Prop) (μ : Act → World → Nat) (hf : findLabel c l = some (Code.skip.seq rest))
    (pass : ∀ a w, J a w → rest.wp P (Exit.jump l (fun a' w' => J a' w' ∧ μ a' w' < μ a w) Q) a w)
    (first : ∀ K : Exit → Act → World → Prop, (∀ a w, J a w → rest.wp P K a w) → c.wp P K a w) : (Code.scope c).wp P Q a w :=
  wp_scope_jumps l J μ hf (first _ fun a w h => wp_mono (pass a w h) fun e a' w' hq => by
    cases e <;> first | exact hq | exact ⟨hq.1, hq.2.1⟩) fun a w h => wp_skip_seq (pass a w h)
/-- Two labels: the passes begin at l; label m is jumped to from there, and its code jumps no more. -/
theorem wp_scope_two {c rest rest2 : Code} (l m : Nat) (hlm : l ≠ m) (J J2 : Act → World → Prop) (μ : Act → World → Nat) (hf : findLabel c l = some (Code.skip.seq rest)) (hf2 : findLabel c m = some (Code.skip.seq rest2))
    (pass : ∀ a w, J a w → rest.wp P (manyX (fun l' a' w' => (l' = l ∧ J a' w' ∧ μ a' w' < μ a w) ∨ (l' = m ∧ J2 a' w')) Q) a w)
    (last : ∀ a w, J2 a w → rest2.wp P (manyX (fun _ _ _ => False) Q) a w)
    (first : ∀ K : Exit → Act → World → Prop, (∀ a w, J a w → rest.wp P K a w) → c.wp P K a w) : (Code.scope c).wp P Q a w := by
  refine wp_scope_many (fun l' a w => (l' = l ∧ J a w) ∨ (l' = m ∧ J2 a w)) (fun l' a w => if l' = l then μ a w + 1 else 0) ?_ ?_
  · rintro l' a w (⟨rfl, h⟩ | ⟨rfl, h⟩)
    · refine ⟨_, hf, wp_skip_seq (wp_mono (pass a w h) fun e a' w' hq => ?_)⟩
      cases e <;> first | exact hq | skip
      rcases hq with ⟨rfl, h1, h2⟩ | ⟨rfl, h1⟩
      · exact ⟨.inl ⟨rfl, h1⟩, by simp; omega⟩
      · exact ⟨.inr ⟨rfl, h1⟩, by simp [Ne.symm hlm]⟩
    · refine ⟨_, hf2, wp_skip_seq (wp_mono (last a w h) fun e a' w' hq => ?_)⟩
      cases e <;> first | exact hq | exact hq.elim
  · refine first _ fun a w h => wp_mono (pass a w h) fun e a' w' hq => ?_
    cases e <;> first | exact hq | skip
    rcases hq with ⟨rfl, h1, _⟩ | ⟨rfl, h1⟩
    · exact .inl ⟨rfl, h1⟩
    · exact .inr ⟨rfl, h1⟩
end
end Go.Bs
namespace Go.Proofs.YtfddhafbhceoaaaGreat
open Go.RowKit Go.Bs Go.Maps
set_option linter.unusedVariables false
set_option linter.unusedSimpArgs false

def vfin (L p i : Nat) (r : Nat × Nat × Int) : Rs × Nat := (⟨p + r.2.1 - i, r.2.2, if r.2.2 = 0 then 0 else if r.2.2 = 1 then L else ((p + r.2.1 - i : Nat) : Int) - 1⟩, r.1)
def vgo (B : List UInt8) (i X : Nat) (s : Rs) : Rs × Nat := if s.k = 0 then vfin B.length s.p i (vget i X (B.drop s.p)) else (s, 0)
theorem vgo_num (B : List UInt8) (s : Rs) : vgo B 0 0 s = s.num B := by
  unfold vgo Rs.num vfin
  simp
theorem vget_cons (i x : Nat) (c : UInt8) (l : List UInt8) : vget i x (c :: l) = if i = 9 ∧ 1 < c.toNat then (0, i + 1, 5) else if 0 < i ∧ c.toNat = 0 then (0, i + 1, 4) else if c.toNat < 128 then (x + c.toNat * 128 ^ i, i + 1, 0) else vget (i + 1) (x + c.toNat % 128 * 128 ^ i) l := by rw [vget]
theorem vgo_step {B : List UInt8} {s : Rs} (hs : s.ok B.length) (i X : Nat) : vgo B i X s =
    if (s.byte B).1.k = 0 then
      (if i = 9 ∧ 1 < (s.byte B).2.toNat then ((s.byte B).1.fail 5 ((s.byte B).1.p - 1), 0)
      else if 0 < i ∧ (s.byte B).2.toNat = 0 then ((s.byte B).1.fail 4 ((s.byte B).1.p - 1), 0)
      else if (s.byte B).2.toNat < 128 then ((s.byte B).1, X + (s.byte B).2.toNat * 128 ^ i)
      else vgo B (i + 1) (X + (s.byte B).2.toNat % 128 * 128 ^ i) (s.byte B).1)
    else ((s.byte B).1, 0) := by
  have hle := hs.le
  unfold Rs.byte
  by_cases h0 : s.k = 0
  · by_cases h1 : s.p < B.length
    · have e : s.skip B.length 1 = (true, ⟨s.p + 1, 0, 0⟩) := by
        unfold Rs.skip; rw [if_pos h0, if_neg (by omega), if_neg (by omega)]; simp
      rw [e]
      have hd : B.drop s.p = B.getD s.p 0 :: B.drop (s.p + 1) := by
        rw [List.drop_eq_getElem_cons h1]; simp [h1]
      simp only [if_true]
      unfold vgo
      rw [if_pos h0, hd, vget_cons]
      have hu := (vget_used (B.drop (s.p + 1)) (i + 1) (X + (B.getD s.p 0).toNat % 128 * 128 ^ i)).2.1
      have e1 : s.p + (i + 1) - i = s.p + 1 := by omega
      split
      · simp [vfin, Rs.fail, e1]
      · split
        · simp [vfin, Rs.fail, e1]
        · split
          · simp [vfin, e1]
          · generalize vget (i + 1) (X + (B.getD s.p 0).toNat % 128 * 128 ^ i) (B.drop (s.p + 1)) = r at *
            simp only [if_true, vfin]
            rw [show s.p + r.2.1 - i = s.p + 1 + r.2.1 - (i + 1) by omega]
    · have e : s.skip B.length 1 = (false, ⟨s.p, 1, B.length⟩) := by
        unfold Rs.skip; rw [if_pos h0, if_neg (by omega), if_pos (by omega)]
      rw [e]
      have hd : B.drop s.p = [] := List.drop_eq_nil_of_le (by omega)
      unfold vgo
      rw [if_pos h0, hd]
      simp [vget, vfin]
  · have e : s.skip B.length 1 = (false, s) := by unfold Rs.skip; rw [if_neg h0]
    rw [e]
    unfold vgo
    rw [if_neg h0]
    simp [h0]

theorem or_digit {i X m : Nat} (hX : X < 128 ^ i) (hx : X < 18446744073709551616) (hm : m * 128 ^ i < 18446744073709551616) : bits .or .u64 (X : Int) ((m * 128 ^ i : Nat) : Int) = ((X + m * 128 ^ i : Nat) : Int) := by
  rw [bits_or_u64_nat _ _ hx hm]
  have h1 : (128 : Nat) ^ i = 2 ^ (7 * i) := by rw [Nat.pow_mul]
  rw [h1] at hX ⊢
  rw [Nat.or_comm, ← Nat.shiftLeft_eq, ← Nat.shiftLeft_add_eq_or_of_lt hX, Nat.add_comm]
theorem or_digit2 {i X c : Nat} (hX : X < 128 ^ i) (hx : X < 18446744073709551616) (hm : c % 128 * 128 ^ i < 18446744073709551616) : bits .or .u64 (X : Int) (IntKind.u64.wrap ((c : Int) % 128 * 2 ^ (7 * i))) = ((X + c % 128 * 128 ^ i : Nat) : Int) := by
  have e : (c : Int) % 128 * 2 ^ (7 * i) = ((c % 128 * 128 ^ i : Nat) : Int) := by
    rw [show (128 : Nat) ^ i = 2 ^ (7 * i) by rw [Nat.pow_mul]]
    simp
  rw [e, IntKind.wrap_u64, Int.emod_eq_of_lt (by omega) (by omega)]
  exact or_digit hX hx hm
theorem digit_next {i X c : Nat} (hX : X < 128 ^ i) : X + c % 128 * 128 ^ i < 128 ^ (i + 1) := by
  have h1 : c % 128 * 128 ^ i ≤ 127 * 128 ^ i := Nat.mul_le_mul_right _ (by omega)
  rw [Nat.pow_succ]
  omega
theorem digit_fits {i X c : Nat} (hi : i ≤ 9) (hX : X < 128 ^ i) (h : i = 9 → c ≤ 1) : c % 128 * 128 ^ i < 18446744073709551616 ∧ X < 18446744073709551616 := by
  by_cases h9 : i = 9
  · subst h9
    have h1 : (128 : Nat) ^ 9 = 9223372036854775808 := by decide
    rw [h1] at *
    have := h rfl
    have h2 : c % 128 * 9223372036854775808 ≤ 1 * 9223372036854775808 := Nat.mul_le_mul_right _ (by omega)
    omega
  · have h1 : (128 : Nat) ^ i ≤ 128 ^ 8 := Nat.pow_le_pow_right (by omega) (by omega)
    have h3 : (128 : Nat) ^ 8 = 72057594037927936 := by decide
    have h2 : c % 128 * 128 ^ i ≤ 127 * 128 ^ i := Nat.mul_le_mul_right _ (by omega)
    omega
theorem byte_p {B : List UInt8} {s : Rs} {q : Nat} (hp : s.p = q) (h : (s.byte B).1.k = 0) : (s.byte B).1.p = q + 1 := by
  have h' : (s.skip B.length 1).2.k = 0 := h
  cases hk : (s.skip B.length 1).1
  · exact absurd h' (Rs.skip_false hk).1
  · have := (Rs.skip_true hk).2.2.2
    show (s.skip B.length 1).2.p = _
    rw [this, hp]; rfl
set_option maxRecDepth 100000 in
set_option maxHeartbeats 3200000 in
theorem varint_read (w : World) {g : Nat} {B : List UInt8} {a : Option Addr} {s : Rs} (h : RdAt w g B a s) (hB : B.length ≤ 1000000000000) : Calls Tryz.prog 174 #[.pointer (some ⟨g, 0, none⟩)] w fun r w' => r = .returned (.int .u64 ((s.num B).2 : Int)) ∧ RdStep w g B a (s.num B).1 w' := by
  have HH := hid h
  have HA := hid (rd_at w h)
  have hpL := h.ok.le
  clear h
  go_enter Tryz.func174, Tryz.ntmps174
  go_wp2
  refine wp_scope_entry 0 (fun a' W => ∃ (i X : Nat) (s' : Rs) (rest : Hid (vgo B i X s' = s.num B)) (u1 u4 u7 u8 u9 u10 u11 u12 u13 u14 u15 u16 u17 u18 u19 u20 u21 u22 u23 u24 u25 u26 u27 u28 u29 u30 u31 u32 u33 u34 u35 u36 u37 u38 u39 u40 u41 u42 u43 u44 u45 u46 u47 u48 u49 u50 u51 u52 u53 : Value), RdStep w g B a s' W ∧ s'.p = s.p + i ∧ i ≤ 9 ∧ X < 128 ^ i ∧ a' = { tmps := #[.pointer (some ⟨g, 0, none⟩), u1, .int .u64 0, .int .u64 (X : Int), u4, .int .i64 (7 * (i : Int)), .int .i64 (s.p : Int), u7, u8, u9, u10, u11, u12, u13, u14, u15, u16, u17, u18, u19, u20, u21, u22, u23, u24, u25, u26, u27, u28, u29, u30, u31, u32, u33, u34, u35, u36, u37, u38, u39, u40, u41, u42, u43, u44, u45, u46, u47, u48, u49, u50, u51, u52, u53], defers := [] }) (fun a' _ => 70 - (intOf (a'.tmps.getD 5 undef)).toNat) rfl ?_ ?_
  · rintro a' W ⟨i, X, s', hrest, u1, u4, u7, u8, u9, u10, u11, u12, u13, u14, u15, u16, u17, u18, u19, u20, u21, u22, u23, u24, u25, u26, u27, u28, u29, u30, u31, u32, u33, u34, u35, u36, u37, u38, u39, u40, u41, u42, u43, u44, u45, u46, u47, u48, u49, u50, u51, u52, u53, hst, hp, hi, hX, rfl⟩
    have hk := hst.1
    have hB1 := hid (rd_byte W hk)
    have hvs := hid (vgo_step hk.ok i X)
    have hbok := Rs.byte_ok hk.ok
    have HBP : Hid ((s'.byte B).1.k = 0 → (s'.byte B).1.p = s.p + i + 1) := hid (byte_p hp)
    rw [hrest.out] at hvs
    clear hrest
    generalize s'.byte B = b at *
    obtain ⟨b1, c⟩ := b
    dsimp only at hB1 hvs hbok
    go_wp2_with fail
    refine hB1.out.mono ?_
    rintro r w1 ⟨rfl, hst1⟩
    have hstW := hst
    by_cases hbk : b1.k = 0
    · have hG := rd_good w1 hst1.1
      rw [decide_eq_true hbk] at hG
      have HG := hid hG
      have HK := hid hbk
      have hc := c.toNat_lt
      have hbge : 1 ≤ b1.p := by have := HBP.out hbk; omega
      have hpl := hbok.le
      clear hG hbk
      go_wp2_with fail
      refine HG.out.mono ?_
      rintro r w2 ⟨rfl, hb2⟩
      by_cases h9 : i = 9
      · have d1 : ((7 * (i : Int)) == 63) = true := by rw [h9]; rfl
        by_cases hc1 : 1 < c.toNat
        · have d2 : decide ((1 : Int) < (c.toNat : Int)) = true := decide_eq_true (by omega)
          have HF := hid (rd_fail w2 (hst1.1.later hb2) 5 ((b1.p : Int) - 1) (by omega))
          have HAT := hid (rd_at w2 (hst1.1.later hb2))
          replace hvs := hvs.out
          rw [if_pos HK.out, if_pos ⟨h9, hc1⟩] at hvs
          have HN := hid hvs
          clear hvs
          (try clear h9); (try clear hc0); (try clear hc1); (try clear hi0); (try clear hc7)
          have HST1 := hid hst1
          clear hst1 hst hk hbok
          go_wp2_with fail
          refine HAT.out.mono ?_
          rintro r w2' ⟨rfl, rfl⟩
          go_wp2_with fail
          refine HF.out.mono ?_
          rintro r w3 ⟨rfl, hst3⟩
          have HST3 := hid (RdStep.trans HST1.out.2 (RdStep.trans (Tch.of_later (F := (· = g)) hb2) hst3))
          have HSTW := hid hstW
          clear hst3 hstW
          go_wp2
          simp only [Exit.jump]
          go_ret
          rw [HN.out]; exact ⟨rfl, RdStep.trans HSTW.out.2 HST3.out⟩
        · have d2 : decide ((1 : Int) < (c.toNat : Int)) = false := decide_eq_false (by omega)
          have d5 : decide ((128 : Int) ≤ (c.toNat : Int)) = false := decide_eq_false (by omega)
          by_cases hc0 : c.toNat = 0
          · have d3 : ((c.toNat : Int) == 0) = true := by rw [hc0]; rfl
            have d4 : decide ((s.p : Int) < (b1.p : Int) - 1) = true := decide_eq_true (by have := HBP.out HK.out; omega)
            have HF := hid (rd_fail w2 (hst1.1.later hb2) 4 ((b1.p : Int) - 1) (by omega))
            have HAT := hid (rd_at w2 (hst1.1.later hb2))
            replace hvs := hvs.out
            rw [if_pos HK.out, if_neg (fun e => hc1 e.2), if_pos ⟨by omega, hc0⟩] at hvs
            have HN := hid hvs
            clear hvs
            (try clear h9); (try clear hc0); (try clear hc1); (try clear hi0); (try clear hc7)
            have HST1 := hid hst1
            clear hst1 hst hk hbok
            go_wp2_with fail
            refine HAT.out.mono ?_
            rintro r w2' ⟨rfl, rfl⟩
            go_wp2_with fail
            refine HAT.out.mono ?_
            rintro r w2' ⟨rfl, rfl⟩
            go_wp2_with fail
            refine HF.out.mono ?_
            rintro r w3 ⟨rfl, hst3⟩
            have HST3 := hid (RdStep.trans HST1.out.2 (RdStep.trans (Tch.of_later (F := (· = g)) hb2) hst3))
            have HSTW := hid hstW
            clear hst3 hstW
            go_wp2
            simp only [Exit.jump]
            go_ret
            rw [HN.out]; exact ⟨rfl, RdStep.trans HSTW.out.2 HST3.out⟩
          · have d3 : ((c.toNat : Int) == 0) = false := by simp [hc0]
            have HAT := hid (rd_at w2 (hst1.1.later hb2))
            replace hvs := hvs.out
            rw [if_pos HK.out, if_neg (fun e => hc1 e.2), if_neg (fun e => hc0 e.2), if_pos (by omega)] at hvs
            have HN := hid hvs
            clear hvs
            have HC7 : Hid (c.toNat % 128 = c.toNat) := hid (Nat.mod_eq_of_lt (by omega))
            have HSTW := hid hstW
            have hmul : c.toNat % 128 * 128 ^ i < 18446744073709551616 ∧ X < 18446744073709551616 := digit_fits hi hX (by omega)
            have E1 := hid (or_digit2 (c := c.toNat) hX hmul.2 hmul.1)
            clear hmul
            clear hstW; (try clear h9); (try clear hc0); (try clear hc1); (try clear hi0); (try clear hc7)
            have HST1 := hid hst1
            clear hst1 hst hk hbok
            go_wp2_with fail
            go_wp2
            simp only [Exit.jump]
            go_ret
            rw [HN.out]
            refine ⟨?_, RdStep.trans HSTW.out.2 (HST1.out.then hb2)⟩
            show Ending.returned (Value.int .u64 _) = _
            rw [E1.out, HC7.out]
      · have d1 : ((7 * (i : Int)) == 63) = false := by rw [beq_eq_false_iff_ne]; omega
        by_cases hc0 : c.toNat = 0
        · have d3 : ((c.toNat : Int) == 0) = true := by rw [hc0]; rfl
          by_cases hi0 : 0 < i
          · have d4 : decide ((s.p : Int) < (b1.p : Int) - 1) = true := decide_eq_true (by have := HBP.out HK.out; omega)
            have HF := hid (rd_fail w2 (hst1.1.later hb2) 4 ((b1.p : Int) - 1) (by omega))
            have HAT := hid (rd_at w2 (hst1.1.later hb2))
            replace hvs := hvs.out
            rw [if_pos HK.out, if_neg (fun e => h9 e.1), if_pos ⟨hi0, hc0⟩] at hvs
            have HN := hid hvs
            clear hvs
            (try clear h9); (try clear hc0); (try clear hc1); (try clear hi0); (try clear hc7)
            have HST1 := hid hst1
            clear hst1 hst hk hbok
            go_wp2_with fail
            refine HAT.out.mono ?_
            rintro r w2' ⟨rfl, rfl⟩
            go_wp2_with fail
            refine HAT.out.mono ?_
            rintro r w2' ⟨rfl, rfl⟩
            go_wp2_with fail
            refine HF.out.mono ?_
            rintro r w3 ⟨rfl, hst3⟩
            have HST3 := hid (RdStep.trans HST1.out.2 (RdStep.trans (Tch.of_later (F := (· = g)) hb2) hst3))
            have HSTW := hid hstW
            clear hst3 hstW
            go_wp2
            simp only [Exit.jump]
            go_ret
            rw [HN.out]; exact ⟨rfl, RdStep.trans HSTW.out.2 HST3.out⟩
          · have d4 : decide ((s.p : Int) < (b1.p : Int) - 1) = false := decide_eq_false (by have := HBP.out HK.out; omega)
            have d5 : decide ((128 : Int) ≤ (c.toNat : Int)) = false := decide_eq_false (by omega)
            have HAT := hid (rd_at w2 (hst1.1.later hb2))
            replace hvs := hvs.out
            rw [if_pos HK.out, if_neg (fun e => h9 e.1), if_neg (fun e => hi0 e.1), if_pos (by omega)] at hvs
            have HN := hid hvs
            clear hvs
            have HC7 : Hid (c.toNat % 128 = c.toNat) := hid (Nat.mod_eq_of_lt (by omega))
            have HSTW := hid hstW
            have hmul : c.toNat % 128 * 128 ^ i < 18446744073709551616 ∧ X < 18446744073709551616 := digit_fits hi hX (by omega)
            have E1 := hid (or_digit2 (c := c.toNat) hX hmul.2 hmul.1)
            clear hmul
            clear hstW; (try clear h9); (try clear hc0); (try clear hc1); (try clear hi0); (try clear hc7)
            have HST1 := hid hst1
            clear hst1 hst hk hbok
            go_wp2_with fail
            refine HAT.out.mono ?_
            rintro r w2' ⟨rfl, rfl⟩
            go_wp2_with fail
            go_wp2
            simp only [Exit.jump]
            go_ret
            rw [HN.out]
            refine ⟨?_, RdStep.trans HSTW.out.2 (HST1.out.then hb2)⟩
            show Ending.returned (Value.int .u64 _) = _
            rw [E1.out, HC7.out]
        · have d3 : ((c.toNat : Int) == 0) = false := by simp [hc0]
          by_cases hc7 : c.toNat < 128
          · have d5 : decide ((128 : Int) ≤ (c.toNat : Int)) = false := decide_eq_false (by omega)
            have HAT := hid (rd_at w2 (hst1.1.later hb2))
            replace hvs := hvs.out
            rw [if_pos HK.out, if_neg (fun e => h9 e.1), if_neg (fun e => hc0 e.2), if_pos hc7] at hvs
            have HN := hid hvs
            clear hvs
            have HC7 : Hid (c.toNat % 128 = c.toNat) := hid (Nat.mod_eq_of_lt (by omega))
            have HSTW := hid hstW
            have hmul : c.toNat % 128 * 128 ^ i < 18446744073709551616 ∧ X < 18446744073709551616 := digit_fits hi hX (by omega)
            have E1 := hid (or_digit2 (c := c.toNat) hX hmul.2 hmul.1)
            clear hmul
            clear hstW; (try clear h9); (try clear hc0); (try clear hc1); (try clear hi0); (try clear hc7)
            have HST1 := hid hst1
            clear hst1 hst hk hbok
            go_wp2_with fail
            go_wp2
            simp only [Exit.jump]
            go_ret
            rw [HN.out]
            refine ⟨?_, RdStep.trans HSTW.out.2 (HST1.out.then hb2)⟩
            show Ending.returned (Value.int .u64 _) = _
            rw [E1.out, HC7.out]
          · have d5 : decide ((128 : Int) ≤ (c.toNat : Int)) = true := decide_eq_true (by omega)
            have HAT := hid (rd_at w2 (hst1.1.later hb2))
            replace hvs := hvs.out
            rw [if_pos HK.out, if_neg (fun e => h9 e.1), if_neg (fun e => hc0 e.2), if_neg hc7] at hvs
            have HN := hid hvs
            clear hvs
            have hi8 : i + 1 ≤ 9 := by omega
            have HX8 := hid (digit_next (c := c.toNat) hX)
            have HSTW := hid hstW
            have hmul : c.toNat % 128 * 128 ^ i < 18446744073709551616 ∧ X < 18446744073709551616 := digit_fits hi hX (fun e => absurd e h9)
            have E1 := hid (or_digit2 (c := c.toNat) hX hmul.2 hmul.1)
            clear hmul
            clear hstW; (try clear h9); (try clear hc0); (try clear hc1); (try clear hi0); (try clear hc7)
            have HST1 := hid hst1
            clear hst1 hst hk hbok
            go_wp2_with fail
            go_step3
            rw [E1.out, show 7 * (i : Int) + 7 = 7 * ((i + 1 : Nat) : Int) by omega]
            refine ⟨rfl, ⟨i + 1, _, b1, hid HN.out.symm, _, _, _, _, _, _, _, _, _, _, _, _, _, _, _, _, _, _, _, _, _, _, _, _, _, _, _, _, _, _, _, _, _, _, _, _, _, _, _, _, _, _, _, _, _, _, _, _, _, RdStep.trans HSTW.out.2 (HST1.out.then hb2), HBP.out HK.out, hi8, HX8.out, rfl⟩, ?_⟩
            simp [intOf]
            omega
    · have hG := rd_good w1 hst1.1
      rw [decide_eq_false hbk] at hG
      have HG := hid hG
      replace hvs := hvs.out
      rw [if_neg hbk] at hvs
      have HN := hid hvs
      clear hvs
      have HST1 := hid hst1
      have HSTW := hid hstW
      clear hG hbk hst1 hst hk hbok hstW
      go_wp2_with fail
      refine HG.out.mono ?_
      rintro r w2 ⟨rfl, hb2⟩
      go_wp2
      simp only [Exit.jump]
      go_ret
      rw [HN.out]; exact ⟨rfl, RdStep.trans HSTW.out.2 (HST1.out.then hb2)⟩
  · intro K hK
    go_wp2_with fail
    refine HA.out.mono ?_
    rintro r w1 ⟨rfl, rfl⟩
    go_wp2
    go_step3
    rename_i hkk
    exact hkk _ _ (hK _ _ ⟨0, 0, s, hid (vgo_num B s), _, _, _, _, _, _, _, _, _, _, _, _, _, _, _, _, _, _, _, _, _, _, _, _, _, _, _, _, _, _, _, _, _, _, _, _, _, _, _, _, _, _, _, _, _, _, _, _, _, RdStep.refl HH.out, by omega, by omega, by simp, rfl⟩)

def Rs.most (B : List UInt8) (s : Rs) (m : Nat) : Rs × Nat := if m < (s.num B).2 then ((s.num B).1.fail 2 s.p, 0) else s.num B
def Rs.int (B : List UInt8) (s : Rs) (m : Int) : Rs × Nat := if 0 ≤ m then s.most B m.toNat else ((s.num B).1.fail 2 s.p, 0)
def Rs.head (B : List UInt8) (s : Rs) : Rs × Bool × Nat :=
  if (s.num B).1.k = 0 then
    (if (s.num B).2 % 2 = 1 then (if 1048572 < (s.num B).2 / 2 then ((s.num B).1.fail 2 s.p, false, 0) else ((s.num B).1, true, (s.num B).2 / 2 + 4))
    else (if 1048575 < (s.num B).2 / 2 then ((s.num B).1.fail 2 s.p, false, 0) else ((s.num B).1, false, (s.num B).2 / 2 + 1)))
  else ((s.num B).1, false, 0)
def Rs.offset (B : List UInt8) (s : Rs) : Rs × Nat :=
  let t := if 65536 ≤ (s.num B).2 then (s.num B).1.fail 10 s.p else (s.num B).1
  (t, if t.k = 0 then (s.num B).2 + 1 else 0)
theorem Rs.most_ok {B : List UInt8} {s : Rs} (h : s.ok B.length) {m : Nat} : (s.most B m).1.ok B.length := by
  unfold Rs.most; split
  · exact Rs.fail_ok (Rs.num_ok h) (by omega)
  · exact Rs.num_ok h
theorem Rs.int_ok {B : List UInt8} {s : Rs} (h : s.ok B.length) {m : Int} : (s.int B m).1.ok B.length := by
  unfold Rs.int; split
  · exact Rs.most_ok h
  · exact Rs.fail_ok (Rs.num_ok h) (by omega)
theorem Rs.head_ok {B : List UInt8} {s : Rs} (h : s.ok B.length) : (s.head B).1.ok B.length := by
  unfold Rs.head; split
  · split
    · split
      · exact Rs.fail_ok (Rs.num_ok h) (by omega)
      · exact Rs.num_ok h
    · split
      · exact Rs.fail_ok (Rs.num_ok h) (by omega)
      · exact Rs.num_ok h
  · exact Rs.num_ok h
theorem Rs.offset_ok {B : List UInt8} {s : Rs} (h : s.ok B.length) : (s.offset B).1.ok B.length := by
  unfold Rs.offset; dsimp only; split
  · exact Rs.fail_ok (Rs.num_ok h) (by omega)
  · exact Rs.num_ok h
theorem Rs.int_le {B : List UInt8} {s : Rs} {m : Int} : (s.int B m).2 ≤ m.toNat := by
  unfold Rs.int Rs.most; split
  · split
    · simp
    · omega
  · simp

set_option maxRecDepth 100000 in
theorem varint_most (w : World) {g : Nat} {B : List UInt8} {a : Option Addr} {s : Rs} (h : RdAt w g B a s) (hB : B.length ≤ 1000000000000) (m : Nat) : Calls Tryz.prog 172 #[.pointer (some ⟨g, 0, none⟩), .int .u64 (m : Int)] w fun r w' => r = .returned (.int .u64 ((s.most B m).2 : Int)) ∧ RdStep w g B a (s.most B m).1 w' := by
  have HA := hid (rd_at w h)
  have HN := hid (varint_read w h hB)
  unfold Rs.most
  generalize s.num B = N at *
  obtain ⟨s1, x⟩ := N
  dsimp only at *
  clear h
  by_cases hm : m < x
  · have d1 : decide (m < x) = true := decide_eq_true hm
    have d1' : decide ((m : Int) < (x : Int)) = true := decide_eq_true (by omega)
    rw [if_pos hm]
    clear hm
    go_enter Tryz.func172, Tryz.ntmps172
    go_wp2_with fail
    refine HA.out.mono ?_
    rintro r w' ⟨rfl, rfl⟩
    go_wp2_with fail
    refine HN.out.mono ?_
    rintro r w1 ⟨rfl, hst⟩
    have HF := hid (rd_fail w1 hst.1 2 s.p (by omega))
    have HST := hid hst
    clear hst
    go_wp2_with fail
    refine HF.out.mono ?_
    rintro r w2 ⟨rfl, hst2⟩
    have HST2 := hid hst2
    clear hst2
    go_wp2
    go_ret
    exact ⟨rfl, RdStep.trans HST.out.2 HST2.out⟩
  · have d1 : decide (m < x) = false := decide_eq_false hm
    have d1' : decide ((m : Int) < (x : Int)) = false := decide_eq_false (by omega)
    rw [if_neg hm]
    clear hm
    go_enter Tryz.func172, Tryz.ntmps172
    go_wp2_with fail
    refine HA.out.mono ?_
    rintro r w' ⟨rfl, rfl⟩
    go_wp2_with fail
    refine HN.out.mono ?_
    rintro r w1 ⟨rfl, hst⟩
    have HST := hid hst
    clear hst
    go_wp2
    go_ret
    exact ⟨rfl, HST.out⟩
set_option maxRecDepth 100000 in
theorem varint_int (w : World) {g : Nat} {B : List UInt8} {a : Option Addr} {s : Rs} (h : RdAt w g B a s) (hB : B.length ≤ 1000000000000) (m : Int) (hm : -9223372036854775808 ≤ m ∧ m ≤ 9223372036854775807) : Calls Tryz.prog 110 #[.pointer (some ⟨g, 0, none⟩), .int .i64 m] w fun r w' => r = .returned (.int .i64 ((s.int B m).2 : Int)) ∧ RdStep w g B a (s.int B m).1 w' := by
  by_cases h0 : 0 ≤ m
  · obtain ⟨n, rfl⟩ : ∃ n : Nat, m = n := ⟨m.toNat, by omega⟩
    have HM := hid (varint_most w h hB n)
    have hle : (s.int B n).2 ≤ 9223372036854775807 := by have := Rs.int_le (B := B) (s := s) (m := (n : Int)); omega
    have e : s.int B n = s.most B n := by unfold Rs.int; rw [if_pos h0]; rfl
    rw [e] at hle ⊢
    have d1 : decide ((0 : Int) ≤ (n : Int)) = true := decide_eq_true h0
    generalize s.most B n = N at *
    obtain ⟨s1, x⟩ := N
    dsimp only at *
    clear h e
    go_enter Tryz.func110, Tryz.ntmps110
    go_wp2_with fail
    refine HM.out.mono ?_
    rintro r w1 ⟨rfl, hst⟩
    have HST := hid hst
    clear hst
    go_wp2
    go_ret
    exact ⟨rfl, HST.out⟩
  · have HA := hid (rd_at w h)
    have HN := hid (varint_read w h hB)
    have e : s.int B m = ((s.num B).1.fail 2 s.p, 0) := by unfold Rs.int; rw [if_neg h0]
    rw [e]
    have d1 : decide ((0 : Int) ≤ m) = false := decide_eq_false h0
    generalize s.num B = N at *
    obtain ⟨s1, x⟩ := N
    dsimp only at *
    clear h e h0
    go_enter Tryz.func110, Tryz.ntmps110
    go_wp2_with fail
    refine HA.out.mono ?_
    rintro r w' ⟨rfl, rfl⟩
    go_wp2_with fail
    refine HN.out.mono ?_
    rintro r w1 ⟨rfl, hst⟩
    have HF := hid (rd_fail w1 hst.1 2 s.p (by omega))
    have HST := hid hst
    clear hst
    go_wp2_with fail
    refine HF.out.mono ?_
    rintro r w2 ⟨rfl, hst2⟩
    have HST2 := hid hst2
    clear hst2
    go_wp2
    go_ret
    exact ⟨rfl, RdStep.trans HST.out.2 HST2.out⟩
set_option maxRecDepth 100000 in
set_option maxHeartbeats 1600000 in
theorem token_head (w : World) {g : Nat} {B : List UInt8} {a : Option Addr} {s : Rs} (h : RdAt w g B a s) (hB : B.length ≤ 1000000000000) : Calls Tryz.prog 329 #[.pointer (some ⟨g, 0, none⟩)] w fun r w' => r = .returned (.tuple #[.bool (s.head B).2.1, .int .i64 ((s.head B).2.2 : Int)]) ∧ RdStep w g B a (s.head B).1 w' := by
  have HA := hid (rd_at w h)
  have HN := hid (varint_read w h hB)
  have hsm := Rs.num_small (B := B) (s := s)
  unfold Rs.head
  generalize s.num B = N at *
  obtain ⟨s1, x⟩ := N
  dsimp only at *
  clear h
  by_cases hk : s1.k = 0
  · rw [if_pos hk]
    by_cases h2 : x % 2 = 1
    · have d2 : (((x : Int) % 2) == 1) = true := by rw [beq_iff_eq]; omega
      rw [if_pos h2]
      by_cases hl : 1048572 < x / 2
      · have d3 : decide ((1048572 : Int) < (x : Int) / 2) = true := decide_eq_true (by omega)
        rw [if_pos hl]
        have dk : decide (s1.k = 0) = true := decide_eq_true hk
        clear hk h2 hl
        go_enter Tryz.func329, Tryz.ntmps329
        go_wp2_with fail
        refine HA.out.mono ?_
        rintro r w' ⟨rfl, rfl⟩
        go_wp2_with fail
        refine HN.out.mono ?_
        rintro r w1 ⟨rfl, hst⟩
        have HG := hid (rd_good w1 hst.1)
        rw [dk] at HG
        have HST := hid hst
        clear hst dk
        go_wp2_with fail
        refine HG.out.mono ?_
        rintro r w2 ⟨rfl, hb2⟩
        have HF := hid (rd_fail w2 (HST.out.1.later hb2) 2 s.p (by omega))
        go_wp2_with fail
        refine HF.out.mono ?_
        rintro r w3 ⟨rfl, hst3⟩
        have HST3 := hid hst3
        clear hst3
        go_wp2
        go_ret2
        exact ⟨rfl, RdStep.trans (HST.out.then hb2).2 HST3.out⟩
      · have d3 : decide ((1048572 : Int) < (x : Int) / 2) = false := decide_eq_false (by omega)
        rw [if_neg hl]
        have dk : decide (s1.k = 0) = true := decide_eq_true hk
        clear hk h2
        go_enter Tryz.func329, Tryz.ntmps329
        go_wp2_with fail
        refine HA.out.mono ?_
        rintro r w' ⟨rfl, rfl⟩
        go_wp2_with fail
        refine HN.out.mono ?_
        rintro r w1 ⟨rfl, hst⟩
        have HG := hid (rd_good w1 hst.1)
        rw [dk] at HG
        have HST := hid hst
        clear hst dk
        go_wp2_with fail
        refine HG.out.mono ?_
        rintro r w2 ⟨rfl, hb2⟩
        go_wp2
        go_ret2
        exact ⟨by simp, HST.out.then hb2⟩
    · have d2 : (((x : Int) % 2) == 1) = false := by rw [beq_eq_false_iff_ne]; omega
      rw [if_neg h2]
      by_cases hl : 1048575 < x / 2
      · have d3 : decide ((1048575 : Int) < (x : Int) / 2) = true := decide_eq_true (by omega)
        rw [if_pos hl]
        have dk : decide (s1.k = 0) = true := decide_eq_true hk
        clear hk h2 hl
        go_enter Tryz.func329, Tryz.ntmps329
        go_wp2_with fail
        refine HA.out.mono ?_
        rintro r w' ⟨rfl, rfl⟩
        go_wp2_with fail
        refine HN.out.mono ?_
        rintro r w1 ⟨rfl, hst⟩
        have HG := hid (rd_good w1 hst.1)
        rw [dk] at HG
        have HST := hid hst
        clear hst dk
        go_wp2_with fail
        refine HG.out.mono ?_
        rintro r w2 ⟨rfl, hb2⟩
        have HF := hid (rd_fail w2 (HST.out.1.later hb2) 2 s.p (by omega))
        go_wp2_with fail
        refine HF.out.mono ?_
        rintro r w3 ⟨rfl, hst3⟩
        have HST3 := hid hst3
        clear hst3
        go_wp2
        go_ret2
        exact ⟨rfl, RdStep.trans (HST.out.then hb2).2 HST3.out⟩
      · have d3 : decide ((1048575 : Int) < (x : Int) / 2) = false := decide_eq_false (by omega)
        rw [if_neg hl]
        have dk : decide (s1.k = 0) = true := decide_eq_true hk
        clear hk h2
        go_enter Tryz.func329, Tryz.ntmps329
        go_wp2_with fail
        refine HA.out.mono ?_
        rintro r w' ⟨rfl, rfl⟩
        go_wp2_with fail
        refine HN.out.mono ?_
        rintro r w1 ⟨rfl, hst⟩
        have HG := hid (rd_good w1 hst.1)
        rw [dk] at HG
        have HST := hid hst
        clear hst dk
        go_wp2_with fail
        refine HG.out.mono ?_
        rintro r w2 ⟨rfl, hb2⟩
        go_wp2
        go_ret2
        exact ⟨by simp, HST.out.then hb2⟩
  · rw [if_neg hk]
    have dk : decide (s1.k = 0) = false := decide_eq_false hk
    clear hk
    go_enter Tryz.func329, Tryz.ntmps329
    go_wp2_with fail
    refine HA.out.mono ?_
    rintro r w' ⟨rfl, rfl⟩
    go_wp2_with fail
    refine HN.out.mono ?_
    rintro r w1 ⟨rfl, hst⟩
    have HG := hid (rd_good w1 hst.1)
    rw [dk] at HG
    have HST := hid hst
    clear hst dk
    go_wp2_with fail
    refine HG.out.mono ?_
    rintro r w2 ⟨rfl, hb2⟩
    go_wp2
    go_ret2
    exact ⟨rfl, HST.out.then hb2⟩
set_option maxRecDepth 100000 in
set_option maxHeartbeats 1600000 in
theorem token_offset (w : World) {g : Nat} {B : List UInt8} {a : Option Addr} {s : Rs} (h : RdAt w g B a s) (hB : B.length ≤ 1000000000000) : Calls Tryz.prog 330 #[.pointer (some ⟨g, 0, none⟩)] w fun r w' => r = .returned (.int .i64 ((s.offset B).2 : Int)) ∧ RdStep w g B a (s.offset B).1 w' := by
  have HA := hid (rd_at w h)
  have HN := hid (varint_read w h hB)
  have hsm := Rs.num_small (B := B) (s := s)
  unfold Rs.offset
  dsimp only
  generalize s.num B = N at *
  obtain ⟨s1, x⟩ := N
  dsimp only at *
  clear h
  by_cases hl : 65536 ≤ x
  · have d1 : decide ((65536 : Int) ≤ (x : Int)) = true := decide_eq_true (by omega)
    have hnk : (s1.fail 10 s.p).k ≠ 0 := by unfold Rs.fail; split <;> simp_all
    rw [if_pos hl, if_neg hnk]
    have dk : decide ((s1.fail 10 s.p).k = 0) = false := decide_eq_false hnk
    have HFF := hid (fun (W : World) (h : RdAt W g B a s1) => rd_fail W h 10 s.p (by omega))
    generalize s1.fail 10 s.p = s2 at *
    clear hl hnk
    go_enter Tryz.func330, Tryz.ntmps330
    go_wp2_with fail
    refine HA.out.mono ?_
    rintro r w' ⟨rfl, rfl⟩
    go_wp2_with fail
    refine HN.out.mono ?_
    rintro r w1 ⟨rfl, hst⟩
    have HF := hid (HFF.out w1 hst.1)
    have HST := hid hst
    clear hst
    go_wp2_with fail
    refine HF.out.mono ?_
    rintro r w2 ⟨rfl, hst2⟩
    have HG := hid (rd_good w2 hst2.1)
    rw [dk] at HG
    have HST2 := hid hst2
    clear hst2 dk
    go_wp2_with fail
    refine HG.out.mono ?_
    rintro r w3 ⟨rfl, hb3⟩
    go_wp2
    go_ret
    exact ⟨rfl, RdStep.trans HST.out.2 (HST2.out.then hb3)⟩
  · have d1 : decide ((65536 : Int) ≤ (x : Int)) = false := decide_eq_false (by omega)
    rw [if_neg hl]
    by_cases hk : s1.k = 0
    all_goals
      first | rw [if_pos hk] | rw [if_neg hk]
      first | have dk : decide (s1.k = 0) = true := decide_eq_true hk | have dk : decide (s1.k = 0) = false := decide_eq_false hk
      clear hk
      go_enter Tryz.func330, Tryz.ntmps330
      go_wp2_with fail
      refine HA.out.mono ?_
      rintro r w' ⟨rfl, rfl⟩
      go_wp2_with fail
      refine HN.out.mono ?_
      rintro r w1 ⟨rfl, hst⟩
      have HG := hid (rd_good w1 hst.1)
      rw [dk] at HG
      have HST := hid hst
      clear hst dk
      go_wp2_with fail
      refine HG.out.mono ?_
      rintro r w3 ⟨rfl, hb3⟩
      go_wp2
      go_ret
      exact ⟨by first | rfl | simp, HST.out.then hb3⟩

/-- A row of bytes, with how many there are ahead of it. -/
def Rs.blob (B : List UInt8) (s : Rs) (m : Int) : Rs × List UInt8 := (s.int B m).1.take B ((s.int B m).2 : Int)
set_option maxRecDepth 100000 in
theorem blob_read (w : World) {g : Nat} {B : List UInt8} {a : Option Addr} {s : Rs} (h : RdAt w g B a s) (hB : B.length ≤ 1000000000000) (m : Int) (hm : -9223372036854775808 ≤ m ∧ m ≤ 9223372036854775807) : Calls Tryz.prog 274 #[.pointer (some ⟨g, 0, none⟩), .int .i64 m] w fun r w' => ∃ v, r = .returned v ∧ rBytes.r (fun q => w.heap.size ≤ q ∧ q < w'.heap.size) w' [v] (s.blob B m).2 ∧ RdStep w g B a (s.blob B m).1 w' := by
  have HI := hid (varint_int w h hB m hm)
  have hle : ((s.int B m).2 : Int) ≤ 9223372036854775807 := by have := Rs.int_le (B := B) (s := s) (m := m); omega
  have hT := hid (fun (W : World) (h : RdAt W g B a (s.int B m).1) => rd_take W h ((s.int B m).2 : Int) hle hB)
  unfold Rs.blob
  generalize (s.int B m).1.take B ((s.int B m).2 : Int) = T at *
  generalize s.int B m = N at *
  obtain ⟨s1, x⟩ := N
  obtain ⟨s2, D⟩ := T
  dsimp only at *
  clear h
  go_enter Tryz.func274, Tryz.ntmps274
  go_wp2_with fail
  refine HI.out.mono ?_
  rintro r w1 ⟨rfl, hst⟩
  have HST := hid hst
  have hs1 := hst.size
  have HT := hid (hT.out w1 hst.1)
  clear hst
  go_wp2_with fail
  refine HT.out.mono ?_
  rintro r w2 ⟨v, rfl, hr, hst2⟩
  obtain ⟨a1, c1, hv1, hr2, _⟩ := sl_form hr
  simp only [List.cons.injEq, and_true] at hv1
  subst hv1
  have HR := hid hr2
  have HST2 := hid hst2
  clear hr hr2 hst2
  go_wp2
  go_ret
  exact ⟨_, rfl, rBytes.mono HR.out fun q hq => ⟨by omega, hq.2⟩, RdStep.trans HST.out.2 HST2.out⟩

def againL (off : Nat) : Nat → List UInt8 → List UInt8
  | 0, out => out
  | n + 1, out => againL off n (out ++ [out.getD (out.length - off) 0])
theorem againL_len (off : Nat) : ∀ (n : Nat) (out : List UInt8), (againL off n out).length = out.length + n
  | 0, out => rfl
  | n + 1, out => by simp only [againL, againL_len off n]; simp; omega
/-- One step of the program's. -/
def exStep (B : List UInt8) (bound : Int) (s : Rs) (out : List UInt8) : Rs × List UInt8 :=
  if bound - out.length < (s.head B).2.2 then ((s.head B).1.fail 11 s.p, out)
  else if (s.head B).2.1 = false then (((s.head B).1.take B ((s.head B).2.2 : Int)).1, out ++ ((s.head B).1.take B ((s.head B).2.2 : Int)).2)
  else
    if out.length < ((s.head B).1.offset B).2 then (((s.head B).1.offset B).1.fail 10 (s.head B).1.p, out)
    else if ((s.head B).1.offset B).1.k = 0 then (((s.head B).1.offset B).1, againL ((s.head B).1.offset B).2 (s.head B).2.2 out) else (((s.head B).1.offset B).1, out)
def exF (B : List UInt8) (bound : Int) : Nat → Rs → List UInt8 → Rs × List UInt8
  | 0, s, out => (s, out)
  | f + 1, s, out => if s.p < B.length ∧ s.k = 0 then exF B bound f (exStep B bound s out).1 (exStep B bound s out).2 else (s, out)
/-- What written tokens make: the bytes, the code, the place. -/
def exB (B : List UInt8) (bound : Int) : List UInt8 × Int × Int :=
  if (exF B bound B.length ⟨0, 0, 0⟩ []).1.k = 0 then ((exF B bound B.length ⟨0, 0, 0⟩ []).2, 0, 0) else ([], (exF B bound B.length ⟨0, 0, 0⟩ []).1.k, (exF B bound B.length ⟨0, 0, 0⟩ []).1.f)

theorem Rs.fail_k {s : Rs} {c at_ : Int} (hc : c ≠ 0) : (s.fail c at_).k ≠ 0 := by
  unfold Rs.fail; split
  · exact hc
  · assumption
theorem Rs.fail_p {s : Rs} {c at_ : Int} : (s.fail c at_).p = s.p := by unfold Rs.fail; split <;> rfl
theorem Rs.num_more {B : List UInt8} {s : Rs} (h : (s.num B).1.k = 0) : s.p < (s.num B).1.p ∧ s.k = 0 := by
  unfold Rs.num at *
  split
  · rename_i h0
    rw [if_pos h0] at h
    have := (vget_used (B.drop s.p) 0 0).2.2.2.2 (by dsimp only at h; omega)
    dsimp only; omega
  · rename_i h0; rw [if_neg h0] at h; exact absurd h h0
theorem Rs.head_more {B : List UInt8} {s : Rs} (h : (s.head B).1.k = 0) : s.p < (s.head B).1.p ∧ s.k = 0 ∧ (s.num B).1.k = 0 ∧ 1 ≤ (s.head B).2.2 ∧ (s.head B).2.2 ≤ 1048576 := by
  unfold Rs.head at *
  by_cases h0 : (s.num B).1.k = 0
  · have hm := Rs.num_more h0
    rw [if_pos h0] at h ⊢
    by_cases h1 : (s.num B).2 % 2 = 1
    · rw [if_pos h1] at h ⊢
      by_cases h2 : 1048572 < (s.num B).2 / 2
      · rw [if_pos h2] at h; exact absurd h (Rs.fail_k (by omega))
      · rw [if_neg h2]; exact ⟨hm.1, hm.2, h0, by dsimp only; omega, by dsimp only; omega⟩
    · rw [if_neg h1] at h ⊢
      by_cases h2 : 1048575 < (s.num B).2 / 2
      · rw [if_pos h2] at h; exact absurd h (Rs.fail_k (by omega))
      · rw [if_neg h2]; exact ⟨hm.1, hm.2, h0, by dsimp only; omega, by dsimp only; omega⟩
  · rw [if_neg h0] at h; exact absurd h h0
theorem Rs.head_bad {B : List UInt8} {s : Rs} (h : (s.head B).1.k ≠ 0) : (s.head B).2.1 = false ∧ (s.head B).2.2 = 0 := by
  unfold Rs.head at *
  by_cases h0 : (s.num B).1.k = 0
  · rw [if_pos h0] at h ⊢
    by_cases h1 : (s.num B).2 % 2 = 1
    · rw [if_pos h1] at h ⊢
      by_cases h2 : 1048572 < (s.num B).2 / 2
      · rw [if_pos h2]; exact ⟨rfl, rfl⟩
      · rw [if_neg h2] at h; exact absurd h0 h
    · rw [if_neg h1] at h ⊢
      by_cases h2 : 1048575 < (s.num B).2 / 2
      · rw [if_pos h2]; exact ⟨rfl, rfl⟩
      · rw [if_neg h2] at h; exact absurd h0 h
  · rw [if_neg h0]; exact ⟨rfl, rfl⟩
theorem Rs.take_more {B : List UInt8} {s : Rs} {n : Int} (h : (s.take B n).1.k = 0) : s.p ≤ (s.take B n).1.p ∧ s.k = 0 ∧ (s.take B n).2.length = n.toNat := by
  unfold Rs.take at *
  cases hk : (s.skip B.length n).1
  · exact absurd h (Rs.skip_false hk).1
  · have := Rs.skip_true hk
    rw [this.2.2.2]
    refine ⟨by dsimp only; omega, this.1, ?_⟩
    simp; omega
theorem Rs.take_bad {B : List UInt8} {s : Rs} {n : Int} (h : (s.take B n).1.k ≠ 0) : (s.take B n).2 = [] := by
  unfold Rs.take at *
  cases hk : (s.skip B.length n).1
  · simp
  · have := Rs.skip_true hk
    rw [this.2.2.2] at h; exact absurd rfl h
theorem Rs.offset_more {B : List UInt8} {s : Rs} (h : (s.offset B).1.k = 0) : s.p < (s.offset B).1.p ∧ s.k = 0 ∧ (s.num B).1.k = 0 ∧ (s.offset B).2 = (s.num B).2 + 1 ∧ (s.num B).2 < 65536 := by
  unfold Rs.offset at *
  dsimp only at *
  by_cases h1 : 65536 ≤ (s.num B).2
  · rw [if_pos h1] at h; exact absurd h (Rs.fail_k (by omega))
  · rw [if_neg h1] at h ⊢
    have := Rs.num_more h
    exact ⟨this.1, this.2, h, by rw [if_pos h], by omega⟩
theorem Rs.num_of_bad {B : List UInt8} {s : Rs} (h : s.k ≠ 0) : s.num B = (s, 0) := by unfold Rs.num; rw [if_neg h]
theorem Rs.skip_of_bad {L : Nat} {s : Rs} {n : Int} (h : s.k ≠ 0) : s.skip L n = (false, s) := by unfold Rs.skip; rw [if_neg h]
theorem Rs.fail_of_bad {s : Rs} {c a : Int} (h : s.k ≠ 0) : s.fail c a = s := by unfold Rs.fail; rw [if_neg h]
theorem exStep_ok {B : List UInt8} {bound : Int} {s : Rs} {out : List UInt8} (h : s.ok B.length) : (exStep B bound s out).1.ok B.length := by
  unfold exStep
  split
  · exact Rs.fail_ok (Rs.head_ok h) (by omega)
  · split
    · exact Rs.take_ok (Rs.head_ok h) _
    · split
      · exact Rs.fail_ok (Rs.offset_ok (Rs.head_ok h)) (by omega)
      · split
        · exact Rs.offset_ok (Rs.head_ok h)
        · exact Rs.offset_ok (Rs.head_ok h)
/-- A step that leaves no fault goes on, and stays within the bound. -/
theorem exStep_more {B : List UInt8} {bound : Int} {s : Rs} {out : List UInt8} (h : (exStep B bound s out).1.k = 0) : s.p < (exStep B bound s out).1.p ∧ ((exStep B bound s out).2.length : Int) ≤ bound := by
  unfold exStep at *
  by_cases h1 : bound - out.length < (s.head B).2.2
  · rw [if_pos h1] at h; exact absurd h (Rs.fail_k (by omega))
  · rw [if_neg h1] at h ⊢
    by_cases h2 : (s.head B).2.1 = false
    · rw [if_pos h2] at h ⊢
      have ht := Rs.take_more h
      have hh := Rs.head_more ht.2.1
      refine ⟨by dsimp only; omega, ?_⟩
      simp only [List.length_append, ht.2.2]
      omega
    · rw [if_neg h2] at h ⊢
      by_cases h3 : out.length < ((s.head B).1.offset B).2
      · rw [if_pos h3] at h; exact absurd h (Rs.fail_k (by omega))
      · rw [if_neg h3] at h ⊢
        by_cases h4 : ((s.head B).1.offset B).1.k = 0
        · rw [if_pos h4]
          have ho := Rs.offset_more h4
          have hh := Rs.head_more ho.2.1
          refine ⟨by dsimp only; omega, ?_⟩
          simp only [againL_len]; omega
        · rw [if_neg h4] at h; exact absurd h h4
theorem exStep_len {B : List UInt8} {bound : Int} {s : Rs} {out : List UInt8} (h : (exStep B bound s out).1.k ≠ 0) : (exStep B bound s out).2 = out := by
  unfold exStep at *
  split
  · rfl
  · rename_i h1
    rw [if_neg h1] at h
    split
    · rename_i h2
      rw [if_pos h2] at h
      rw [Rs.take_bad h]; simp
    · rename_i h2
      rw [if_neg h2] at h
      split
      · rfl
      · rename_i h3
        rw [if_neg h3] at h
        split
        · rename_i h4
          rw [if_pos h4] at h; exact absurd h4 h
        · rfl
/-- The fuel is enough. -/
theorem exF_step {B : List UInt8} {bound : Int} : ∀ (f : Nat) (s : Rs) (out : List UInt8), s.ok B.length → B.length ≤ s.p + f → s.p < B.length → s.k = 0 → exF B bound f s out = exF B bound (f - 1) (exStep B bound s out).1 (exStep B bound s out).2
  | 0, s, out, _, h1, h2, _ => by omega
  | f + 1, s, out, _, _, h2, h3 => by simp only [exF]; rw [if_pos ⟨h2, h3⟩]; rfl
theorem exF_stop {B : List UInt8} {bound : Int} : ∀ (f : Nat) (s : Rs) (out : List UInt8), ¬ (s.p < B.length ∧ s.k = 0) → exF B bound f s out = (s, out)
  | 0, s, out, _ => rfl
  | f + 1, s, out, h => by simp only [exF]; rw [if_neg h]
theorem exF_any {B : List UInt8} {bound : Int} : ∀ (f g : Nat) (s : Rs) (out : List UInt8), s.ok B.length → B.length ≤ s.p + f → B.length ≤ s.p + g → exF B bound f s out = exF B bound g s out
  | 0, g, s, out, h, h1, h2 => by rw [exF_stop g s out (by have := h.le; omega)]; rfl
  | f + 1, 0, s, out, h, h1, h2 => by rw [exF_stop (f + 1) s out (by have := h.le; omega)]; rfl
  | f + 1, g + 1, s, out, h, h1, h2 => by
    simp only [exF]
    by_cases hc : s.p < B.length ∧ s.k = 0
    · rw [if_pos hc, if_pos hc]
      by_cases hk : (exStep B bound s out).1.k = 0
      · have := (exStep_more hk).1
        exact exF_any f g _ _ (exStep_ok h) (by omega) (by omega)
      · rw [exF_stop f _ _ (fun e => hk e.2), exF_stop g _ _ (fun e => hk e.2)]
    · rw [if_neg hc, if_neg hc]
/-- The rest, with fuel enough. -/
def exR (B : List UInt8) (bound : Int) (s : Rs) (out : List UInt8) : Rs × List UInt8 := exF B bound (B.length - s.p) s out
theorem exR_go {B : List UInt8} {bound : Int} {s : Rs} {out : List UInt8} (h : s.ok B.length) (h1 : s.p < B.length) (h2 : s.k = 0) : exR B bound s out = exR B bound (exStep B bound s out).1 (exStep B bound s out).2 := by
  unfold exR
  rw [exF_step _ s out h (by omega) h1 h2]
  by_cases hk : (exStep B bound s out).1.k = 0
  · have := (exStep_more hk).1
    exact exF_any _ _ _ _ (exStep_ok h) (by omega) (by omega)
  · rw [exF_stop _ _ _ (fun e => hk e.2), exF_stop _ _ _ (fun e => hk e.2)]
theorem exR_stop {B : List UInt8} {bound : Int} {s : Rs} {out : List UInt8} (h : ¬ (s.p < B.length ∧ s.k = 0)) : exR B bound s out = (s, out) := exF_stop _ _ _ h
theorem exB_is (B : List UInt8) (bound : Int) : exB B bound = if (exR B bound ⟨0, 0, 0⟩ []).1.k = 0 then ((exR B bound ⟨0, 0, 0⟩ []).2, 0, 0) else ([], (exR B bound ⟨0, 0, 0⟩ []).1.k, (exR B bound ⟨0, 0, 0⟩ []).1.f) := rfl

theorem byteCells_one1 (x : UInt8) : ∀ u ∈ [Value.int .u8 (x.toNat : Int)], u.oneCell' = true := by
  intro u hu; simp at hu; subst hu; rfl
theorem byteCells_snoc (l : List UInt8) (x : UInt8) : byteCells l ++ [Value.int .u8 (x.toNat : Int)] = byteCells (l ++ [x]) := by simp [byteCells]
set_option maxRecDepth 100000 in
set_option maxHeartbeats 1600000 in
theorem expand_again (w : World) {base : Nat} {a : Option Addr} {c : Nat} (out : List UInt8) (hown : w.ownsRow base 5 1 (.slice a out.length c) out.length (byteCells out)) (hbase : base ≤ w.heap.size) (off n : Nat) (h1 : 1 ≤ off) (h2 : off ≤ out.length) (hn : out.length + n ≤ 1000000000000) :
    Calls Tryz.prog 331 #[.slice a out.length c, .int .i64 (off : Int), .int .i64 (n : Int)] w fun r w' => ∃ a' c', r = .returned (.slice a' (out.length + n) c') ∧ w'.ownsRow base 5 1 (.slice a' (out.length + n) c') (out.length + n) (byteCells (againL off n out)) ∧ Below base w w' := by
  obtain ⟨i0, hi, hz0, hz1, hz2⟩ := info_parts info8
  have HO := hid hown
  clear hown
  go_enter Tryz.func331, Tryz.ntmps331
  go_wp2_with fail
  go_loopw [0, 8] (fun o i wr => ∃ (k : Nat) (J : List UInt8) (aJ : Option Addr) (cJ : Nat), k ≤ n ∧ i = .int .i64 k ∧ o = .slice aJ J.length cJ ∧ wr.ownsRow base 5 1 (.slice aJ J.length cJ) J.length (byteCells J) ∧ Hid (againL off n out = againL off (n - k) J) ∧ Hid (J.length = out.length + k) ∧ Below base w wr ∧ base ≤ wr.heap.size) (fun _ i _ => n - (intOf i).toNat)
  case atStart => exact ⟨0, out, a, c, Nat.zero_le _, rfl, rfl, HO.out, hid rfl, hid rfl, Below.refl _ _, hbase⟩
  case round =>
    obtain ⟨k, J, aJ, cJ, hk, rfl, rfl, ho, hJ, hln, hb, hbs⟩ := hrel
    have HJO := hid ho
    rcases Nat.lt_or_ge k n with hlt | hge
    · have d1 : decide ((k : Int) < (n : Int)) = true := decide_eq_true (by omega)
      have d1' : decide (k < n) = true := decide_eq_true hlt
      have hml : off ≤ J.length := by have := hln.out; omega
      have hJm : J.length + 1 ≤ 1000000000000 := by have := hln.out; omega
      have hst : Hid (againL off (n - k) J = againL off (n - (k + 1)) (J ++ [J.getD (J.length - off) 0])) := hid (by rw [show n - k = (n - (k + 1)) + 1 by omega]; rfl)
      have hgd : J.getD (J.length - off) 0 = J[J.length - off]'(by omega) := by rw [List.getD_eq_getElem?_getD, List.getElem?_eq_getElem (by omega)]; rfl
      rw [hgd] at hst
      obtain ⟨gb, ob, hA, hgb, hc⟩ := byte_at (own_bytes rfl ho) (i := J.length - off) (by omega)
      subst hA
      obtain ⟨m, hm⟩ : ∃ m, m = J.length - off := ⟨_, rfl⟩
      have e1 : (J.length : Int) - (off : Int) = (m : Int) := by omega
      generalize J[J.length - off]'(by omega) = x at *
      rw [← hm] at hc
      have i1 : (m : Int) < (J.length : Int) := by omega
      have i2 : (0 : Int) ≤ (m : Int) := by omega
      clear ho hgd hm
      go_wp2_with (at_builtin; go_loud (refine wpList_append_src rfl _ _ _ rfl base 5 i0 (.int .u8 0) 1 1 Tryz.underlying22 hi hz0 hz1 hz2 rfl (by decide) (.slice (some ⟨gb, ob, none⟩) J.length cJ) J.length (byteCells J) rfl (own_below HJO.out (by (repeat (first | exact Below.refl _ _ | assumption | (refine below_alloc ?_ _) | (refine Below.setCell ?_ (by first | omega | (simp; done) | (simp; omega)) _) | (refine Below.drew ?_) | (refine below_drewN ?_ _) | (refine below_then (by assumption) ?_))))) (some ⟨wr.heap.size, 0, none⟩) 1 1 [.int .u8 (x.toNat : Int)] rfl (src_new1 wr 5 _ rfl rfl rfl) (byteCells_one1 x) (by simp only [maxLen]; omega) (by omega) (by simp; omega) ?_; intro v' w3 hown3 hgrow3 hat3; obtain ⟨a3, c3, rfl⟩ := own_form hown3; have HO3 := hid hown3; have HG3 := hid hgrow3; clear hown3 hgrow3 hat3))
      have ho3 := HO3.out
      rw [byteCells_snoc, show J.length + 1 = (J ++ [x]).length by simp] at ho3
      have hb3 : Below base wr w3 := (Below.grown (Below.refl _ _) HG3.out (by simp; omega) (fun g e => (HJO.out.lt g e).1)) |> (fun h => (below_alloc (Below.refl _ _) _ |>.mono hbs).trans h)
      have HO4 := hid ho3
      have hs3 := hb3.size
      clear ho3 hc
      go_roundw
      case rel => exact ⟨k + 1, J ++ [x], a3, c3, by omega, by go_num, by simp, HO4.out, hid (hJ.out.trans hst.out), hid (by simp; have := hln.out; omega), hb.trans hb3, by omega⟩
      case measure => simp [intOf]; omega
    · obtain rfl : k = n := by omega
      have d1 : decide ((k : Int) < (k : Int)) = false := decide_eq_false (by omega)
      have hfin : Hid (againL off k out = J) := hid (by rw [hJ.out, Nat.sub_self]; rfl)
      clear ho
      go_wp2
      go_ret
      have hl : J.length = out.length + k := hln.out
      rw [hfin.out, ← hl]
      exact ⟨_, _, rfl, HJO.out, hb⟩


theorem byteCells_app' (l l' : List UInt8) : byteCells l ++ byteCells l' = byteCells (l ++ l') := by simp [byteCells]
structure XInv (w W : World) (B : List UInt8) (a : Option Addr) (s : Rs) (out : List UInt8) (aO : Option Addr) (cO : Nat) : Prop where
  rd : RdAt W (w.heap.size + 1) B a s
  dat : rBytes.r (· < w.heap.size) W [.slice a B.length B.length] B
  fl : Blk W w.heap.size 65 #[.int .i64 0, .int .i64 0]
  own : W.ownsRow (w.heap.size + 2) 5 1 (.slice aO out.length cO) out.length (byteCells out)
  be : Below w.heap.size w W
  sz : w.heap.size + 2 ≤ W.heap.size
section
variable {w W W' : World} {B : List UInt8} {a : Option Addr} {s s' : Rs} {out out' : List UInt8} {aO aO' : Option Addr} {cO cO' : Nat}
theorem XInv.later (h : XInv w W B a s out aO cO) (hb : Below W.heap.size W W') : XInv w W' B a s out aO cO :=
  ⟨h.rd.later hb, rBytes.keep h.dat fun q hq => hb.block q (by have := h.sz; omega), h.fl.later hb, own_below h.own hb, below_then hb h.be, Nat.le_trans h.sz hb.size⟩
theorem own_tch {base : Nat} {e : TypeId} {size : Nat} {v : Value} {n : Nat} {xs : List Value} {g : Nat} (h : W.ownsRow base e size v n xs) (hg : g < base) (hb : Tch (· = g) W W') : W'.ownsRow base e size v n xs := by
  refine ⟨h.1, ?_⟩
  rcases h.2 with h0 | ⟨g', cap, cur, h1, h2, h3, h4⟩
  · exact .inl h0
  · exact .inr ⟨g', cap, cur, h1, h2, (hb.block _ (Blk.lt h3) (by omega)).trans h3, h4⟩
theorem XInv.step (h : XInv w W B a s out aO cO) (k : RdStep W (w.heap.size + 1) B a s' W') : XInv w W' B a s' out aO cO :=
  ⟨k.1, rBytes.keep h.dat fun q hq => k.2.block q (by have := h.sz; omega) (by omega), h.fl.tch k.2 (by omega), own_tch h.own (by omega) k.2, h.be.trans (k.below h.be.size (by omega)), Nat.le_trans h.sz k.size⟩
theorem XInv.row (h : XInv w W B a s out aO cO) (hb : Below (w.heap.size + 2) W W') (ho : W'.ownsRow (w.heap.size + 2) 5 1 (.slice aO' out'.length cO') out'.length (byteCells out')) : XInv w W' B a s out' aO' cO' := by
  have hd := rBytes.keep h.dat (w' := W') fun q hq => hb.block q (by omega)
  exact ⟨⟨h.rd.blk.below hb (by omega), rBytes.mono hd fun q hq => ⟨by have := h.sz; have := hb.size; omega, by omega⟩, h.rd.ok⟩, hd, h.fl.below hb (by omega), ho, h.be.trans (hb.mono (by omega)), Nat.le_trans h.sz hb.size⟩
end
def cellI (W : World) (g i : Nat) : Int := intOf ((W.cell? ⟨g, i, none⟩).getD undef)
theorem RdAt.cells {w : World} {g : Nat} {B : List UInt8} {a : Option Addr} {s : Rs} (h : RdAt w g B a s) : cellI w g 1 = s.p ∧ cellI w g 2 = s.k := by
  have c1 := h.blk.cell 1
  have c2 := h.blk.cell 2
  simp at c1 c2
  unfold cellI
  rw [c1, c2]
  exact ⟨rfl, rfl⟩
def exMu (L g : Nat) (W : World) : Nat := if cellI W g 2 = 0 then L + 1 - (cellI W g 1).toNat else 0
theorem exMu_is {w : World} {g : Nat} {B : List UInt8} {a : Option Addr} {s : Rs} (h : RdAt w g B a s) : exMu B.length g w = if s.k = 0 then B.length + 1 - s.p else 0 := by
  unfold exMu
  rw [h.cells.1, h.cells.2]
  simp
theorem exMu_lt {w w' : World} {g : Nat} {B : List UInt8} {a : Option Addr} {s s' : Rs} (h : RdAt w g B a s) (h' : RdAt w' g B a s') (hk : s.k = 0) (hp : s.p < B.length) (hs : s'.k = 0 → s.p < s'.p) : exMu B.length g w' < exMu B.length g w := by
  rw [exMu_is h, exMu_is h', if_pos hk]
  split
  · have := hs (by assumption); omega
  · omega
def exIn (bound : Int) (out : List UInt8) : Prop := out = [] ∨ (out.length : Int) ≤ bound
theorem exIn_len {bound : Int} {out : List UInt8} (h : exIn bound out) (hb : -9223372036854775808 ≤ bound ∧ bound ≤ 1048576) : out.length ≤ 1048576 ∧ -9223372036854775808 ≤ bound - (out.length : Int) := by
  rcases h with rfl | h
  · simp; omega
  · omega
theorem exIn_step {B : List UInt8} {bound : Int} {s : Rs} {out : List UInt8} (h : exIn bound out) : exIn bound (exStep B bound s out).2 := by
  by_cases hk : (exStep B bound s out).1.k = 0
  · exact .inr (exStep_more hk).2
  · rw [exStep_len hk]; exact h

set_option maxRecDepth 100000 in
set_option maxHeartbeats 12800000 in
theorem expand_bytes (w : World) (B : List UInt8) (a : Option Addr) (n c : Nat) (hl : rBytes.r (· < w.heap.size) w [.slice a n c] B) (hB : B.length ≤ 1000000000) (bound : Int) (hbd : -9223372036854775808 ≤ bound ∧ bound ≤ 1048576) :
    Calls Tryz.prog 275 #[.slice a n c, .int .i64 bound] w fun r w' => ∃ v, r = .returned (.tuple #[v, .agg #[.int .i64 (exB B bound).2.1, .int .i64 (exB B bound).2.2]]) ∧ rBytes.r (fun q => w.heap.size ≤ q ∧ q < w'.heap.size) w' [v] (exB B bound).1 ∧ Below w.heap.size w w' := by
  obtain ⟨rfl, hm, hcc, hcm⟩ := sl_len hl
  obtain ⟨i0, hi, hz0, hz1, hz2⟩ := info_parts info8
  have hcap : rBytes.r (· < w.heap.size) w [.slice a B.length B.length] B := by
    obtain ⟨a', c', e, h1, h2, h3⟩ := hl
    simp at e
    obtain ⟨rfl, rfl⟩ := e
    exact rSl_mk rfl (Nat.le_refl _) (by simp [maxLen]; omega) h3
  have HL := hid hl
  have HCAP := hid hcap
  clear hl hcap
  go_enter Tryz.func275, Tryz.ntmps275
  go_wp2
  refine wp_scope_two 1 0 (by omega)
    (fun a' W => ∃ (s : Rs) (out : List UInt8) (aO : Option Addr) (cO : Nat) (rest : Hid (exR B bound s out = exR B bound ⟨0, 0, 0⟩ [])) (u2 u3 u8 u9 u10 u11 u12 u13 u14 u15 u16 u17 u18 u19 u20 u21 u22 u23 u24 u25 u26 u27 u28 u29 u30 u31 u32 u33 u34 u35 u36 u37 u38 u39 u40 u41 u42 u43 u44 u45 u46 u47 u48 u49 u50 u51 u52 u53 u54 u55 u56 u57 u58 u59 u60 u61 u62 u63 u64 u65 u66 u67 u68 u69 u70 : Value), XInv w W B a s out aO cO ∧ exIn bound out ∧ a' = { tmps := #[.slice a B.length c, .int .i64 bound, u2, u3, .slice none 0 0, .pointer (some ⟨w.heap.size, 0, none⟩), .pointer (some ⟨w.heap.size + 1, 0, none⟩), .slice aO out.length cO, u8, u9, u10, u11, u12, u13, u14, u15, u16, u17, u18, u19, u20, u21, u22, u23, u24, u25, u26, u27, u28, u29, u30, u31, u32, u33, u34, u35, u36, u37, u38, u39, u40, u41, u42, u43, u44, u45, u46, u47, u48, u49, u50, u51, u52, u53, u54, u55, u56, u57, u58, u59, u60, u61, u62, u63, u64, u65, u66, u67, u68, u69, u70], defers := [] })
    (fun a' W => ∃ (s : Rs) (out : List UInt8) (aO : Option Addr) (cO : Nat) (rest : Hid (exR B bound ⟨0, 0, 0⟩ [] = (s, out))) (u2 u3 u8 u9 u10 u11 u12 u13 u14 u15 u16 u17 u18 u19 u20 u21 u22 u23 u24 u25 u26 u27 u28 u29 u30 u31 u32 u33 u34 u35 u36 u37 u38 u39 u40 u41 u42 u43 u44 u45 u46 u47 u48 u49 u50 u51 u52 u53 u54 u55 u56 u57 u58 u59 u60 u61 u62 u63 u64 u65 u66 u67 u68 u69 u70 : Value), XInv w W B a s out aO cO ∧ exIn bound out ∧ a' = { tmps := #[.slice a B.length c, .int .i64 bound, u2, u3, .slice none 0 0, .pointer (some ⟨w.heap.size, 0, none⟩), .pointer (some ⟨w.heap.size + 1, 0, none⟩), .slice aO out.length cO, u8, u9, u10, u11, u12, u13, u14, u15, u16, u17, u18, u19, u20, u21, u22, u23, u24, u25, u26, u27, u28, u29, u30, u31, u32, u33, u34, u35, u36, u37, u38, u39, u40, u41, u42, u43, u44, u45, u46, u47, u48, u49, u50, u51, u52, u53, u54, u55, u56, u57, u58, u59, u60, u61, u62, u63, u64, u65, u66, u67, u68, u69, u70], defers := [] })
    (fun _ W => exMu B.length (w.heap.size + 1) W) rfl rfl ?_ ?_ ?_
  · rintro a' W ⟨s, out, aO, cO, hex, u2, u3, u8, u9, u10, u11, u12, u13, u14, u15, u16, u17, u18, u19, u20, u21, u22, u23, u24, u25, u26, u27, u28, u29, u30, u31, u32, u33, u34, u35, u36, u37, u38, u39, u40, u41, u42, u43, u44, u45, u46, u47, u48, u49, u50, u51, u52, u53, u54, u55, u56, u57, u58, u59, u60, u61, u62, u63, u64, u65, u66, u67, u68, u69, u70, hI, hin, rfl⟩
    have hlen := exIn_len hin hbd
    have hok := hI.rd.ok
    have hpl := hok.le
    have HI := hid hI
    have HIN := hid hin
    have HLF := hid (rd_left W hI.rd)
    have hsz := hI.sz
    clear hI hin
    by_cases hp : s.p < B.length
    · have e0 : (((B.length : Int) - (s.p : Int)) == 0) = false := by rw [beq_eq_false_iff_ne]; omega
      by_cases hk : s.k = 0
      · have hgo := exR_go (bound := bound) (out := out) hok hp hk
        rw [hex.out] at hgo
        have hmore := exStep_more (B := B) (bound := bound) (s := s) (out := out)
        have hin2 := hid (exIn_step (B := B) (s := s) HIN.out)
        have hst2 : exStep B bound s out = exStep B bound s out := rfl
        conv at hst2 => rhs; unfold exStep
        generalize exStep B bound s out = ES at *
        have hhead := hid (fun (W : World) (h : RdAt W (w.heap.size + 1) B a s) => token_head W h (by omega))
        have hhok := Rs.head_ok (B := B) hok
        have hhle : (s.head B).2.2 ≤ 1048576 := by
          by_cases h0 : (s.head B).1.k = 0
          · exact (Rs.head_more h0).2.2.2.2
          · rw [(Rs.head_bad h0).2]; omega
        have hh1 : (s.head B).2.1 = true → 1 ≤ ((s.head B).1.offset B).2 ∨ ((s.head B).1.offset B).1.k ≠ 0 := fun _ => by
          by_cases h0 : ((s.head B).1.offset B).1.k = 0
          · left; rw [(Rs.offset_more h0).2.2.2.1]; omega
          · right; exact h0
        have htake := hid (fun (W : World) (h : RdAt W (w.heap.size + 1) B a (s.head B).1) => rd_take W h ((s.head B).2.2 : Int) (by omega) (by omega))
        have htl : ((s.head B).1.take B ((s.head B).2.2 : Int)).2.length ≤ 1048576 := by
          by_cases h0 : ((s.head B).1.take B ((s.head B).2.2 : Int)).1.k = 0
          · rw [(Rs.take_more h0).2.2]; omega
          · rw [Rs.take_bad h0]; simp
        have hoff := hid (fun (W : World) (h : RdAt W (w.heap.size + 1) B a (s.head B).1) => token_offset W h (by omega))
        have hatp := hid (fun (W : World) (h : RdAt W (w.heap.size + 1) B a (s.head B).1) => rd_at W h)
        have hfail := hid (fun (W : World) (h : RdAt W (w.heap.size + 1) B a (s.head B).1) => rd_fail W h 11 s.p (by omega))
        have hfail2 := hid (fun (W : World) (h : RdAt W (w.heap.size + 1) B a ((s.head B).1.offset B).1) => rd_fail W h 10 (s.head B).1.p (by omega))
        have hfk := (Rs.fail_k (s := (s.head B).1) (c := 11) (at_ := (s.p : Int)) (by omega))
        have hfk2 := (Rs.fail_k (s := ((s.head B).1.offset B).1) (c := 10) (at_ := ((s.head B).1.p : Int)) (by omega))
        generalize (s.head B).1.fail 11 s.p = F1 at *
        generalize ((s.head B).1.offset B).1.fail 10 (s.head B).1.p = F2 at *
        generalize (s.head B).1.take B ((s.head B).2.2 : Int) = TK at *
        generalize (s.head B).1.offset B = OF at *
        generalize s.head B = H at *
        obtain ⟨s1, ic, m⟩ := H
        obtain ⟨s2, D⟩ := TK
        obtain ⟨s3, of⟩ := OF
        dsimp only at *
        have HK := hid hk
        have hG := rd_good
        have dk : decide (s.k = 0) = true := decide_eq_true hk
        have HGO := hid hgo
        have HMORE := hid hmore
        have hpx := hp
        have HST2 := hid hst2
        clear hk hgo hmore hst2 hG hok
        by_cases hb1 : bound - (out.length : Int) < (m : Int)
        · have d1 : decide (bound - (out.length : Int) < (m : Int)) = true := decide_eq_true hb1
          have hes := HST2.out
          rw [if_pos hb1] at hes
          subst hes
          have HGO2 := hid (HGO.out.trans (exR_stop (fun e => hfk e.2)))
          clear hb1 HST2
          go_wp2_with fail
          refine HLF.out.mono ?_
          rintro r w1 ⟨rfl, hb1⟩
          have hG := rd_good w1 (HI.out.rd.later hb1)
          rw [dk] at hG
          have HG := hid hG
          clear hG dk
          go_wp2_with fail
          refine HG.out.mono ?_
          rintro r w2 ⟨rfl, hb2⟩
          have HI2 := hid (HI.out.later (below_then hb2 hb1))
          have HAT := hid (rd_at w2 HI2.out.rd)
          go_wp2_with fail
          refine HAT.out.mono ?_
          rintro r w2' ⟨rfl, rfl⟩
          have HHD := hid (hhead.out w2 HI2.out.rd)
          go_wp2_with fail
          refine HHD.out.mono ?_
          rintro r w3 ⟨rfl, hst3⟩
          have HI3 := hid (HI2.out.step hst3)
          clear hst3

          have HFL := hid (hfail.out w3 HI3.out.rd)
          go_wp2_with fail
          refine HFL.out.mono ?_
          rintro r w4 ⟨rfl, hst4⟩
          have HI4 := hid (HI3.out.step hst4)
          clear hst4
          go_wp2
          go_step3
          exact .inr ⟨rfl, F1, out, aO, cO, HGO2, _, _, _, _, _, _, _, _, _, _, _, _, _, _, _, _, _, _, _, _, _, _, _, _, _, _, _, _, _, _, _, _, _, _, _, _, _, _, _, _, _, _, _, _, _, _, _, _, _, _, _, _, _, _, _, _, _, _, _, _, _, _, _, _, _, HI4.out, HIN.out, rfl⟩
        · have d1 : decide (bound - (out.length : Int) < (m : Int)) = false := decide_eq_false hb1
          have hes := HST2.out
          rw [if_neg hb1] at hes
          clear HST2
          cases ic
          · simp only [if_true] at hes
            subst hes
            clear hb1
            go_wp2_with fail
            refine HLF.out.mono ?_
            rintro r w1 ⟨rfl, hb1⟩
            have hG := rd_good w1 (HI.out.rd.later hb1)
            rw [dk] at hG
            have HG := hid hG
            clear hG dk
            go_wp2_with fail
            refine HG.out.mono ?_
            rintro r w2 ⟨rfl, hb2⟩
            have HI2 := hid (HI.out.later (below_then hb2 hb1))
            have HAT := hid (rd_at w2 HI2.out.rd)
            go_wp2_with fail
            refine HAT.out.mono ?_
            rintro r w2' ⟨rfl, rfl⟩
            have HHD := hid (hhead.out w2 HI2.out.rd)
            go_wp2_with fail
            refine HHD.out.mono ?_
            rintro r w3 ⟨rfl, hst3⟩
            have HI3 := hid (HI2.out.step hst3)
            clear hst3

            have HTK := hid (htake.out w3 HI3.out.rd)
            go_wp2_with fail
            refine HTK.out.mono ?_
            rintro r w4 ⟨v, rfl, hr, hst4⟩
            obtain ⟨aD, cD, hv, hr2, _⟩ := sl_form hr
            simp only [List.cons.injEq, and_true] at hv
            subst hv
            have HI4 := hid (HI3.out.step hst4)
            have HS4 := hid (src_bytes hr2)
            have HONE := hid (byteCells_one D)
            have hsz4 := HI4.out.sz
            clear hst4 hr hr2
            go_wp2_with (at_builtin; go_loud (refine wpList_append_src rfl _ _ _ rfl (w.heap.size + 2) 5 i0 (.int .u8 0) 1 1 Tryz.underlying22 hi hz0 hz1 hz2 rfl (by decide) (.slice aO out.length cO) out.length (byteCells out) rfl HI4.out.own aD D.length cD (byteCells D) rfl HS4.out HONE.out (by simp only [maxLen]; omega) (by omega) (by omega) ?_; intro v' w5 hown5 hgrow5 hat5; obtain ⟨a5, c5, rfl⟩ := own_form hown5; have HO5 := hid hown5; have HG5 := hid hgrow5; clear hown5 hgrow5 hat5))
            have ho := HO5.out
            rw [byteCells_app', show out.length + D.length = (out ++ D).length by simp] at ho
            have hb5 : Below (w.heap.size + 2) w4 w5 := Below.grown (Below.refl _ _) HG5.out (by omega) (fun g e => (HI4.out.own.lt g e).1)
            have HI5 := hid (HI4.out.row hb5 ho)
            clear ho hb5
            rw [show out.length + D.length = (out ++ D).length by simp]
            go_step3
            exact .inl ⟨rfl, ⟨s2, out ++ D, a5, c5, hid HGO.out.symm, _, _, _, _, _, _, _, _, _, _, _, _, _, _, _, _, _, _, _, _, _, _, _, _, _, _, _, _, _, _, _, _, _, _, _, _, _, _, _, _, _, _, _, _, _, _, _, _, _, _, _, _, _, _, _, _, _, _, _, _, _, _, _, _, _, HI5.out, hin2.out, rfl⟩, exMu_lt HI.out.rd HI5.out.rd HK.out hpx (fun h => (HMORE.out h).1)⟩
          · simp only [Bool.true_eq_false, if_false] at hes
            by_cases h3 : out.length < of
            · have d3 : decide ((out.length : Int) < (of : Int)) = true := decide_eq_true (by omega)
              have d3' : decide (out.length < of) = true := decide_eq_true h3
              rw [if_pos h3] at hes
              subst hes
              clear hb1
              go_wp2_with fail
              refine HLF.out.mono ?_
              rintro r w1 ⟨rfl, hb1⟩
              have hG := rd_good w1 (HI.out.rd.later hb1)
              rw [dk] at hG
              have HG := hid hG
              clear hG dk
              go_wp2_with fail
              refine HG.out.mono ?_
              rintro r w2 ⟨rfl, hb2⟩
              have HI2 := hid (HI.out.later (below_then hb2 hb1))
              have HAT := hid (rd_at w2 HI2.out.rd)
              go_wp2_with fail
              refine HAT.out.mono ?_
              rintro r w2' ⟨rfl, rfl⟩
              have HHD := hid (hhead.out w2 HI2.out.rd)
              go_wp2_with fail
              refine HHD.out.mono ?_
              rintro r w3 ⟨rfl, hst3⟩
              have HI3 := hid (HI2.out.step hst3)
              clear hst3

              have HATP := hid (hatp.out w3 HI3.out.rd)
              go_wp2_with fail
              refine HATP.out.mono ?_
              rintro r w3' ⟨rfl, rfl⟩
              have HOF := hid (hoff.out w3 HI3.out.rd)
              go_wp2_with fail
              refine HOF.out.mono ?_
              rintro r w4 ⟨rfl, hst4⟩
              have HI4 := hid (HI3.out.step hst4)
              clear hst4

              have HFL := hid (hfail2.out w4 HI4.out.rd)
              go_wp2_with fail
              refine HFL.out.mono ?_
              rintro r w5 ⟨rfl, hst5⟩
              have HI5 := hid (HI4.out.step hst5)
              have hG5 := rd_good w5 HI5.out.rd
              rw [decide_eq_false hfk2] at hG5
              have HG5 := hid hG5
              clear hst5 hG5
              go_wp2_with fail
              refine HG5.out.mono ?_
              rintro r w6 ⟨rfl, hb6⟩
              have HI6 := hid (HI5.out.later hb6)
              go_wp2
              go_step3
              exact .inl ⟨rfl, ⟨F2, out, aO, cO, hid HGO.out.symm, _, _, _, _, _, _, _, _, _, _, _, _, _, _, _, _, _, _, _, _, _, _, _, _, _, _, _, _, _, _, _, _, _, _, _, _, _, _, _, _, _, _, _, _, _, _, _, _, _, _, _, _, _, _, _, _, _, _, _, _, _, _, _, _, _, HI6.out, HIN.out, rfl⟩, exMu_lt HI.out.rd HI6.out.rd HK.out hpx (fun h => absurd h hfk2)⟩
            · have d3 : decide ((out.length : Int) < (of : Int)) = false := decide_eq_false (by omega)
              have d3' : decide (out.length < of) = false := decide_eq_false h3
              rw [if_neg h3] at hes
              by_cases h4 : s3.k = 0
              · have d4 : decide (s3.k = 0) = true := decide_eq_true h4
                rw [if_pos h4] at hes
                have hof1 : 1 ≤ of := by exact (hh1 rfl).elim id (absurd h4)
                subst hes
                go_wp2_with fail
                refine HLF.out.mono ?_
                rintro r w1 ⟨rfl, hb1⟩
                have hG := rd_good w1 (HI.out.rd.later hb1)
                rw [dk] at hG
                have HG := hid hG
                clear hG dk
                go_wp2_with fail
                refine HG.out.mono ?_
                rintro r w2 ⟨rfl, hb2⟩
                have HI2 := hid (HI.out.later (below_then hb2 hb1))
                have HAT := hid (rd_at w2 HI2.out.rd)
                go_wp2_with fail
                refine HAT.out.mono ?_
                rintro r w2' ⟨rfl, rfl⟩
                have HHD := hid (hhead.out w2 HI2.out.rd)
                go_wp2_with fail
                refine HHD.out.mono ?_
                rintro r w3 ⟨rfl, hst3⟩
                have HI3 := hid (HI2.out.step hst3)
                clear hst3

                have HATP := hid (hatp.out w3 HI3.out.rd)
                go_wp2_with fail
                refine HATP.out.mono ?_
                rintro r w3' ⟨rfl, rfl⟩
                have HOF := hid (hoff.out w3 HI3.out.rd)
                go_wp2_with fail
                refine HOF.out.mono ?_
                rintro r w4 ⟨rfl, hst4⟩
                have HI4 := hid (HI3.out.step hst4)
                clear hst4

                have hG5 := rd_good w4 HI4.out.rd
                rw [d4] at hG5
                have HG5 := hid hG5
                clear hG5 d4
                go_wp2_with fail
                refine HG5.out.mono ?_
                rintro r w6 ⟨rfl, hb6⟩
                have HI6 := hid (HI4.out.later hb6)
                have HAG := hid (expand_again w6 out HI6.out.own HI6.out.sz of m hof1 (by omega) (by omega))
                have HAL := hid (againL_len of m out)
                have HIN2 := hid hin2.out
                clear hb1
                go_wp2_with fail
                refine HAG.out.mono ?_
                rintro r w7 ⟨a7, c7, rfl, hown7, hb7⟩
                rw [← HAL.out] at hown7
                have HI7 := hid (HI6.out.row hb7 hown7)
                clear hown7
                go_wp2
                rw [← HAL.out]
                go_step3
                exact .inl ⟨rfl, ⟨s3, _, a7, c7, hid HGO.out.symm, _, _, _, _, _, _, _, _, _, _, _, _, _, _, _, _, _, _, _, _, _, _, _, _, _, _, _, _, _, _, _, _, _, _, _, _, _, _, _, _, _, _, _, _, _, _, _, _, _, _, _, _, _, _, _, _, _, _, _, _, _, _, _, _, _, HI7.out, HIN2.out, rfl⟩, exMu_lt HI.out.rd HI7.out.rd HK.out hpx (fun h => (HMORE.out h).1)⟩
              · have d4 : decide (s3.k = 0) = false := decide_eq_false h4
                rw [if_neg h4] at hes
                subst hes
                clear hb1
                go_wp2_with fail
                refine HLF.out.mono ?_
                rintro r w1 ⟨rfl, hb1⟩
                have hG := rd_good w1 (HI.out.rd.later hb1)
                rw [dk] at hG
                have HG := hid hG
                clear hG dk
                go_wp2_with fail
                refine HG.out.mono ?_
                rintro r w2 ⟨rfl, hb2⟩
                have HI2 := hid (HI.out.later (below_then hb2 hb1))
                have HAT := hid (rd_at w2 HI2.out.rd)
                go_wp2_with fail
                refine HAT.out.mono ?_
                rintro r w2' ⟨rfl, rfl⟩
                have HHD := hid (hhead.out w2 HI2.out.rd)
                go_wp2_with fail
                refine HHD.out.mono ?_
                rintro r w3 ⟨rfl, hst3⟩
                have HI3 := hid (HI2.out.step hst3)
                clear hst3

                have HATP := hid (hatp.out w3 HI3.out.rd)
                go_wp2_with fail
                refine HATP.out.mono ?_
                rintro r w3' ⟨rfl, rfl⟩
                have HOF := hid (hoff.out w3 HI3.out.rd)
                go_wp2_with fail
                refine HOF.out.mono ?_
                rintro r w4 ⟨rfl, hst4⟩
                have HI4 := hid (HI3.out.step hst4)
                clear hst4

                have hG5 := rd_good w4 HI4.out.rd
                rw [d4] at hG5
                have HG5 := hid hG5
                clear hG5 d4
                go_wp2_with fail
                refine HG5.out.mono ?_
                rintro r w6 ⟨rfl, hb6⟩
                have HI6 := hid (HI4.out.later hb6)
                go_wp2
                go_step3
                exact .inl ⟨rfl, ⟨s3, out, aO, cO, hid HGO.out.symm, _, _, _, _, _, _, _, _, _, _, _, _, _, _, _, _, _, _, _, _, _, _, _, _, _, _, _, _, _, _, _, _, _, _, _, _, _, _, _, _, _, _, _, _, _, _, _, _, _, _, _, _, _, _, _, _, _, _, _, _, _, _, _, _, _, HI6.out, HIN.out, rfl⟩, exMu_lt HI.out.rd HI6.out.rd HK.out hpx (fun h => absurd h h4)⟩
      · have dk : decide (s.k = 0) = false := decide_eq_false hk
        have hst := exR_stop (bound := bound) (out := out) (fun e => hk e.2 : ¬ (s.p < B.length ∧ s.k = 0))
        have HEX := hid (hex.out.symm.trans hst)
        clear hk hst hex
        go_wp2_with fail
        refine HLF.out.mono ?_
        rintro r w1 ⟨rfl, hb1⟩
        have hG := rd_good w1 (HI.out.rd.later hb1)
        rw [dk] at hG
        have HG := hid hG
        clear hG dk
        go_wp2_with fail
        refine HG.out.mono ?_
        rintro r w2 ⟨rfl, hb2⟩
        have HI2 := hid (HI.out.later (below_then hb2 hb1))
        go_wp2
        go_step3
        exact .inr ⟨rfl, s, out, aO, cO, HEX, _, _, _, _, _, _, _, _, _, _, _, _, _, _, _, _, _, _, _, _, _, _, _, _, _, _, _, _, _, _, _, _, _, _, _, _, _, _, _, _, _, _, _, _, _, _, _, _, _, _, _, _, _, _, _, _, _, _, _, _, _, _, _, _, _, HI2.out, HIN.out, rfl⟩
    · have e0 : (((B.length : Int) - (s.p : Int)) == 0) = true := by rw [beq_iff_eq]; omega
      have hst := exR_stop (bound := bound) (out := out) (fun e => hp e.1 : ¬ (s.p < B.length ∧ s.k = 0))
      have HEX := hid (hex.out.symm.trans hst)
      clear hst hex
      go_wp2_with fail
      refine HLF.out.mono ?_
      rintro r w1 ⟨rfl, hb1⟩
      have HI2 := hid (HI.out.later hb1)
      go_wp2
      go_step3
      exact .inr ⟨rfl, s, out, aO, cO, HEX, _, _, _, _, _, _, _, _, _, _, _, _, _, _, _, _, _, _, _, _, _, _, _, _, _, _, _, _, _, _, _, _, _, _, _, _, _, _, _, _, _, _, _, _, _, _, _, _, _, _, _, _, _, _, _, _, _, _, _, _, _, _, _, _, _, HI2.out, HIN.out, rfl⟩
  · rintro a' W ⟨s, out, aO, cO, hex, u2, u3, u8, u9, u10, u11, u12, u13, u14, u15, u16, u17, u18, u19, u20, u21, u22, u23, u24, u25, u26, u27, u28, u29, u30, u31, u32, u33, u34, u35, u36, u37, u38, u39, u40, u41, u42, u43, u44, u45, u46, u47, u48, u49, u50, u51, u52, u53, u54, u55, u56, u57, u58, u59, u60, u61, u62, u63, u64, u65, u66, u67, u68, u69, u70, hI, hin, rfl⟩
    have HI := hid hI
    have HFA := hid (rd_fault W hI.rd)
    have hsz := hI.sz
    have hle := exIn_len hin hbd
    have hex2 := exB_is B bound
    rw [hex.out] at hex2
    dsimp only at hex2
    clear hin hI hex
    by_cases hk : s.k = 0
    · rw [if_pos hk] at hex2
      have HX := hid hex2
      have dk : decide (s.k = 0) = true := decide_eq_true hk
      have HK := hid hk
      clear hk hex2
      go_wp2_with fail
      refine HFA.out.mono ?_
      rintro r w1 ⟨rfl, hb1⟩
      have hG := fault_good (w1.alloc (.cells #[.int .i64 s.k, .int .i64 s.f] 65)) s.k s.f
      rw [dk] at hG
      have HG := hid hG
      clear hG dk
      go_wp2_with fail
      refine HG.out.mono ?_
      rintro r w2 ⟨rfl, hb2⟩
      have hb12 : Below W.heap.size W w2 := below_then hb2 (below_alloc hb1 _)
      have HI2 := hid (HI.out.later hb12)
      have hfl := HI2.out.fl
      obtain ⟨y0, y1, g0, g1, l1⟩ := f_blk hfl
      have hV := own_bytes2 rfl HI2.out.own
      have HV := hid hV
      clear hfl hV
      go_wp2
      simp only [manyX]
      refine bodyPost_ret (v := .tuple #[.slice aO out.length cO, .agg #[.int .i64 0, .int .i64 0]]) (by simp [results, Tryz.results275, go_sem, y0, y1, l1]) rfl ⟨_, by rw [HX.out], ?_, ?_⟩
      · rw [HX.out]
        refine rBytes.mono (rBytes.keep HV.out fun q hq => ?_) fun q hq => ⟨by omega, by simp [World.setCell]; exact hq.2⟩
        repeat (rw [Below.heap_setCell _ _ _ _ (by dsimp only; omega)])
      · have hbe := HI2.out.be
        (repeat (first | with_reducible exact Below.refl _ _ | with_reducible assumption | (with_reducible refine below_alloc ?_ _) | (with_reducible refine Below.setCell ?_ (by first | omega | (simp; done) | (simp; omega)) _) | (with_reducible refine Below.drew ?_) | (with_reducible refine below_drewN ?_ _) | (refine below_then (by with_reducible assumption) ?_)))
    · rw [if_neg hk] at hex2
      have HX := hid hex2
      have dk : decide (s.k = 0) = false := decide_eq_false hk
      have HK := hid hk
      clear hk hex2
      go_wp2_with fail
      refine HFA.out.mono ?_
      rintro r w1 ⟨rfl, hb1⟩
      have hG := fault_good (w1.alloc (.cells #[.int .i64 s.k, .int .i64 s.f] 65)) s.k s.f
      rw [dk] at hG
      have HG := hid hG
      clear hG dk
      go_wp2_with fail
      refine HG.out.mono ?_
      rintro r w2 ⟨rfl, hb2⟩
      have hb12 : Below W.heap.size W w2 := below_then hb2 (below_alloc hb1 _)
      have HI2 := hid (HI.out.later hb12)
      have hfl := HI2.out.fl
      obtain ⟨y0, y1, g0, g1, l1⟩ := f_blk hfl
      obtain ⟨z0, z1, e0, e1, l2⟩ := f_blk (Blk.later (Blk.newAt _ _ _ rfl) hb2)
      have hbe := HI2.out.be
      clear hfl
      go_wp2_with fail
      go_region
      all_goals
        go_wp2
        simp only [manyX]
        refine bodyPost_ret (v := .tuple #[.slice none 0 0, .agg #[.int .i64 s.k, .int .i64 s.f]]) (by simp [results, Tryz.results275, go_sem, y0, y1, l1]) rfl ⟨_, by rw [HX.out], by rw [HX.out]; exact empty_bytes rfl rfl (by omega), ?_⟩
        (repeat (first | with_reducible exact Below.refl _ _ | with_reducible assumption | (with_reducible refine below_alloc ?_ _) | (with_reducible refine Below.setCell ?_ (by first | omega | (simp; done) | (simp; omega)) _) | (with_reducible refine Below.drew ?_) | (with_reducible refine below_drewN ?_ _) | (refine below_then (by with_reducible assumption) ?_)))
  · intro K hK
    have HN := hid (rd_new (w.alloc (.cells #[.int .i64 0, .int .i64 0] 65)) B a _ c (lift HL.out (by (repeat (first | with_reducible exact Below.refl _ _ | with_reducible assumption | (with_reducible refine below_alloc ?_ _) | (with_reducible refine Below.setCell ?_ (by first | omega | (simp; done) | (simp; omega)) _) | (with_reducible refine Below.drew ?_) | (with_reducible refine below_drewN ?_ _) | (refine below_then (by with_reducible assumption) ?_))))))
    go_wp2_with fail
    refine HN.out.mono ?_
    rintro r w1 ⟨rfl, hrd, hb⟩
    have hI : XInv w w1 B a ⟨0, 0, 0⟩ [] none 0 := ⟨by simpa using hrd, rBytes.keep HCAP.out fun q hq => (hb.block q (by simp; omega)).trans (Below.heap_alloc _ _ q hq), Blk.later (by (repeat (first | assumption | exact Blk.newAt _ _ _ (by first | (simp; done) | (simp; omega)) | refine Blk.alloc ?_ _ | refine Blk.drew ?_ | refine Blk.drewN ?_ _ | refine Blk.far ?_ (by first | (simp; done) | (simp; omega)) _))) hb, ⟨rfl, .inl ⟨rfl, rfl⟩⟩, by (repeat (first | with_reducible exact Below.refl _ _ | with_reducible assumption | (with_reducible refine below_alloc ?_ _) | (with_reducible refine Below.setCell ?_ (by first | omega | (simp; done) | (simp; omega)) _) | (with_reducible refine Below.drew ?_) | (with_reducible refine below_drewN ?_ _) | (refine below_then (by with_reducible assumption) ?_))), by have := hrd.blk.lt; simp at this; omega⟩
    have HI := hid hI
    clear hI hrd hb
    go_wp2
    go_step3
    rename_i hkk
    exact hkk _ _ (hK _ _ ⟨⟨0, 0, 0⟩, [], none, 0, hid rfl, _, _, _, _, _, _, _, _, _, _, _, _, _, _, _, _, _, _, _, _, _, _, _, _, _, _, _, _, _, _, _, _, _, _, _, _, _, _, _, _, _, _, _, _, _, _, _, _, _, _, _, _, _, _, _, _, _, _, _, _, _, _, _, _, _, HI.out, .inl rfl, rfl⟩)
open Go.RowKit Go.Bs

theorem o_bytes : Opens Tryz.prog 22 rBytes := opens_slice (sz := 1) Tryz.underlying22 (by kernel_rfl) (by decide) (opens_byte Tryz.underlying5)

/-- Between two rounds: p bytes are done, a run began at i, the tokens L are out. -/
structure TokAt (w wr : World) (N0 N1 gs g mb base : Nat) (b : List UInt8) (sa : Option Addr) (sc : Nat) (ab : Option Addr) (cb : Nat) (a : Option Addr) (c : Nat) (p i nn : Nat) (av : Option Addr) (cv : Nat) (ap : Option Addr) (cp : Nat) (L : List Tok) (cells : List (List Value)) : Prop where
  pb : p ≤ b.length
  ip : i ≤ p
  np : nn ≤ p
  bb : Blk wr w.heap.size 22 #[.slice a b.length c]
  bo : Blk wr (w.heap.size + 1) 337 #[.slice av L.length cv]
  bf : Blk wr (w.heap.size + 2) 3 #[.int .i64 (i : Int)]
  own : OwnElsF (fun q => N1 ≤ q ∧ q < wr.heap.size ∧ (Value.slice ap nn cp).ownBlock ≠ some q) rTok N1 304 3 wr (.slice av L.length cv) L cells
  sk : SkAt wr gs g mb base N0 N1 b nn sa sc ab cb ap cp
  apart : ∀ q, (Value.slice av L.length cv).ownBlock = some q → (Value.slice ap nn cp).ownBlock ≠ some q
  len : L.length ≤ p
  toks : L ++ toksA b p i = toksR b
  below : Below w.heap.size w wr
  n0 : N0 = w.heap.size + 3
  n1 : N0 ≤ gs ∧ gs < N1 ∧ N0 ≤ g ∧ g < N1 ∧ N0 ≤ mb ∧ mb < N1 ∧ N0 ≤ base

theorem TokAt.top {w wr : World} {N0 N1 gs g mb base : Nat} {b : List UInt8} {sa : Option Addr} {sc : Nat} {ab : Option Addr} {cb : Nat} {a : Option Addr} {c : Nat} {p i nn : Nat} {av : Option Addr} {cv : Nat} {ap : Option Addr} {cp : Nat} {L : List Tok} {cells : List (List Value)}
    (h : TokAt w wr N0 N1 gs g mb base b sa sc ab cb a c p i nn av cv ap cp L cells) : N1 ≤ wr.heap.size := h.sk.top
/-- Behind a Best. -/
theorem TokAt.best {w wr w1 : World} {N0 N1 gs g mb base : Nat} {b : List UInt8} {sa : Option Addr} {sc : Nat} {ab : Option Addr} {cb : Nat} {a : Option Addr} {c : Nat} {p i nn m : Nat} {av : Option Addr} {cv : Nat} {ap : Option Addr} {cp : Nat} {L : List Tok} {cells : List (List Value)}
    (h : TokAt w wr N0 N1 gs g mb base b sa sc ab cb a c p i nn av cv ap cp L cells) (hs : SkStep wr gs g mb base N0 N1 b nn m sa sc ab cb ap cp w1) (hm : m ≤ p) :
    ∃ ap' cp', TokAt w w1 N0 N1 gs g mb base b sa sc ab cb a c p i m av cv ap' cp' L cells := by
  obtain ⟨ap', cp', h1, h2, h3⟩ := hs
  have htop := h.top
  have hn0 := h.n0
  obtain ⟨k1, k2, k3, k4, k5, k6, k7⟩ := h.n1
  have hsz := h2.size
  have hapb : ∀ q, (Value.slice ap nn cp).ownBlock = some q → N0 ≤ q ∧ q < wr.heap.size := fun q hq => by
    have := h.sk.ch.prev.lt q hq
    exact ⟨by omega, this.2⟩
  have hlow : ∀ q, q < N0 → ¬ (q = gs ∨ q = g ∨ q = mb ∨ (Value.slice ap nn cp).ownBlock = some q) := fun q hq e => by
    rcases e with e | e | e | e
    · omega
    · omega
    · omega
    · have := (hapb q e).1; omega
  have hav := fun q (hq : (Value.slice av L.length cv).ownBlock = some q) => h.own.1.lt q hq
  have hnew : ∀ q, q < wr.heap.size → (Value.slice ap nn cp).ownBlock ≠ some q → (Value.slice ap' m cp').ownBlock ≠ some q := fun q hq hne e => by
    rcases h3 with h3 | ⟨q', hq', hlt⟩
    · rw [h3] at e; exact hne e
    · rw [hq'] at e; have := Option.some.inj e; omega
  refine ⟨ap', cp', ⟨h.pb, h.ip, hm, h.bb.tch h2 (hlow _ (by omega)), h.bo.tch h2 (hlow _ (by omega)), h.bf.tch h2 (hlow _ (by omega)), ?_, h1, fun q hq => hnew q (hav q hq).2 (h.apart q hq), h.len, h.toks, h.below.trans (h2.to_below (by omega) fun q hq e => ?_), h.n0, h.n1⟩⟩
  · refine (h.own.keep (w' := w1) (fun q hq => h2.block q hq.2.1 (fun e => ?_)) (fun q hq => h2.block q (hav q hq).2 (fun e => ?_))).mono fun q hq => ⟨hq.1, by omega, hnew q hq.2.1 hq.2.2⟩
    · rcases e with e | e | e | e
      · omega
      · omega
      · omega
      · exact hq.2.2 e
    · have := (hav q hq).1
      rcases e with e | e | e | e
      · omega
      · omega
      · omega
      · exact h.apart q hq e
  · by_cases hq0 : q < N0
    · exact absurd e (hlow q hq0)
    · omega
/-- Behind a run, or a token that went out; whatever has become of the run's beginning. -/
theorem TokAt.out {w wr w1 : World} {N0 N1 gs g mb base : Nat} {b : List UInt8} {sa : Option Addr} {sc : Nat} {ab : Option Addr} {cb : Nat} {a : Option Addr} {c : Nat} {p i nn : Nat} {av : Option Addr} {cv : Nat} {ap : Option Addr} {cp : Nat} {L : List Tok} {cells : List (List Value)}
    (h : TokAt w wr N0 N1 gs g mb base b sa sc ab cb a c p i nn av cv ap cp L cells) {p' i' : Nat} {av' : Option Addr} {cv' : Nat} {L' : List Tok} {cells' : List (List Value)} (hp : p' ≤ b.length) (hi : i' ≤ p') (hn : nn ≤ p')
    (hf : Blk w1 (w.heap.size + 2) 3 #[.int .i64 (i' : Int)]) (ho : Blk w1 (w.heap.size + 1) 337 #[.slice av' L'.length cv'])
    (hown : OwnElsF (fun q => (N1 ≤ q ∧ q < wr.heap.size ∧ (Value.slice ap nn cp).ownBlock ≠ some q) ∨ (wr.heap.size ≤ q ∧ q < w1.heap.size)) rTok N1 304 3 w1 (.slice av' L'.length cv') L' cells')
    (ht : Tch (fun q => q = w.heap.size + 1 ∨ q = w.heap.size + 2 ∨ (Value.slice av L.length cv).ownBlock = some q) wr w1) (hat : (Value.slice av' L'.length cv').ownBlock = (Value.slice av L.length cv).ownBlock ∨ ∃ q, (Value.slice av' L'.length cv').ownBlock = some q ∧ wr.heap.size ≤ q)
    (hlen : L'.length ≤ p') (htok : L' ++ toksA b p' i' = toksR b) : TokAt w w1 N0 N1 gs g mb base b sa sc ab cb a c p' i' nn av' cv' ap cp L' cells' := by
  have htop := h.top
  have hn0 := h.n0
  obtain ⟨k1, k2, k3, k4, k5, k6, k7⟩ := h.n1
  have hsz := ht.size
  have hapb : ∀ q, (Value.slice ap nn cp).ownBlock = some q → N0 ≤ q ∧ q < wr.heap.size := fun q hq => by
    have := h.sk.ch.prev.lt q hq
    exact ⟨by omega, this.2⟩
  have hav := fun q (hq : (Value.slice av L.length cv).ownBlock = some q) => h.own.1.lt q hq
  have hmid : ∀ q, N0 ≤ q → q < N1 → ¬ (q = w.heap.size + 1 ∨ q = w.heap.size + 2 ∨ (Value.slice av L.length cv).ownBlock = some q) := fun q h1 h2 e => by
    rcases e with e | e | e
    · omega
    · omega
    · have := (hav q e).1; omega
  obtain ⟨t, hgs⟩ := h.sk.blk
  refine ⟨hp, hi, hn, h.bb.tch ht (fun e => ?_), ho, hf, hown.mono fun q hq => ?_, h.sk.tch ht (hmid g k3 k4) (hmid mb k5 k6) (fun q hq e => ?_) (fun q h1 h2 _ => hmid q h1 h2) ⟨t, hgs.tch ht (hmid gs k1 k2)⟩, fun q hq e => ?_, hlen, htok, h.below.trans (ht.to_below h.below.size fun q hq e => ?_), h.n0, h.n1⟩
  · rcases e with e | e | e
    · omega
    · omega
    · have := (hav _ e).1; omega
  · rcases hq with hq | hq
    · exact ⟨hq.1, by omega, hq.2.2⟩
    · exact ⟨by omega, hq.2, fun e => by have := (hapb q e).2; omega⟩
  · rcases e with e | e | e
    · have := (hapb q hq).1; omega
    · have := (hapb q hq).1; omega
    · exact h.apart q e hq
  · rcases hat with hat | ⟨q', hq', hlt⟩
    · rw [hat] at hq; exact h.apart q hq e
    · rw [hq'] at hq; have := Option.some.inj hq; have := (hapb q e).2; omega
  · rcases e with e | e | e
    · omega
    · omega
    · have := (hav q e).1; omega

def TokPost (w : World) (L : List Tok) (r : Ending) (w' : World) : Prop := ∃ v, r = .returned (.tuple #[v, .int .i64 0]) ∧ rToks.r (fun q => w.heap.size ≤ q ∧ q < w'.heap.size) w' [v] L ∧ Below w.heap.size w w'

set_option maxRecDepth 100000 in
set_option maxHeartbeats 3200000 in
theorem press_tokens (w : World) (b : List UInt8) (a : Option Addr) (n c : Nat) (hl : rBytes.r (· < w.heap.size) w [.slice a n c] b) (hlen : b.length ≤ 1048576) :
    Calls Tryz.prog 367 #[.slice a n c] w (TokPost w (toksR b)) := by
  obtain ⟨rfl, hm, _, _⟩ := sl_len hl
  obtain ⟨j0, hj0, hy0, hy1, hy2⟩ := info_parts infoTok
  have HL := hid hl; clear hl
  have d1 : decide ((1048576 : Int) < (b.length : Int)) = false := by simp; omega
  go_enter Tryz.func367, Tryz.ntmps367
  go_wp2_with fail
  refine (seek_new _ b _ _ _ (lift HL.out (by (repeat (first | exact Below.refl _ _ | assumption | (refine below_alloc ?_ _) | (refine Below.setCell ?_ (by first | omega | (simp; done) | (simp; omega)) _) | (refine Below.drew ?_) | (refine below_drewN ?_ _) | (refine below_then (by assumption) ?_))))) hlen).mono ?_
  rintro r w1 ⟨gs, g, mb, base, sa, sc, ab, cb, rfl, hsk, hb1, q1, q2, q3, q4⟩
  have hz1 : w.heap.size + 3 ≤ w1.heap.size := by have := hb1.size; simpa using this
  simp only [World.size_alloc] at q1 q2 q3 q4
  have hmlt : mb < w1.heap.size := by obtain ⟨D, hD, _⟩ := hsk.ch.map; exact hD.lt
  have hat0 : TokAt w w1 (w.heap.size + 3) w1.heap.size gs g mb base b sa sc ab cb a c 0 0 0 none 0 none 0 [] [] := by
    refine ⟨Nat.zero_le _, Nat.le_refl _, Nat.le_refl _, Blk.later (by (repeat (first | assumption | exact Blk.newAt _ _ _ (by first | (simp; done) | (simp; omega)) | refine Blk.alloc ?_ _ | refine Blk.drew ?_ | refine Blk.drewN ?_ _ | refine Blk.far ?_ (by first | (simp; done) | (simp; omega)) _))) hb1, Blk.later (by (repeat (first | assumption | exact Blk.newAt _ _ _ (by first | (simp; done) | (simp; omega)) | refine Blk.alloc ?_ _ | refine Blk.drew ?_ | refine Blk.drewN ?_ _ | refine Blk.far ?_ (by first | (simp; done) | (simp; omega)) _))) hb1, Blk.later (by (repeat (first | assumption | exact Blk.newAt _ _ _ (by first | (simp; done) | (simp; omega)) | refine Blk.alloc ?_ _ | refine Blk.drew ?_ | refine Blk.drewN ?_ _ | refine Blk.far ?_ (by first | (simp; done) | (simp; omega)) _))) hb1, OwnElsF.nil, ?_, fun q hq => by simp [Value.ownBlock] at hq, Nat.zero_le _, ?_, by (repeat (first | exact Below.refl _ _ | assumption | (refine below_alloc ?_ _) | (refine Below.setCell ?_ (by first | omega | (simp; done) | (simp; omega)) _) | (refine Below.drew ?_) | (refine below_drewN ?_ _) | (refine below_then (by assumption) ?_))), rfl, ⟨by omega, hsk.blk.choose_spec.lt, by omega, hsk.ch.blk.lt, by omega, hmlt, by omega⟩⟩
    · simpa using hsk
    · rfl
  have H0 := hid hat0
  clear hat0 hsk q1 q2 q3 q4 hmlt
  generalize hN1 : w1.heap.size = N1 at *
  have HN1 := hid hN1; clear hN1
  go_wp2_with fail
  go_loopw [8] (fun i wr => ∃ (p i0 nn : Nat) (av : Option Addr) (cv : Nat) (ap : Option Addr) (cp : Nat) (L : List Tok) (cells : List (List Value)), i = .int .i64 p ∧ Hid (TokAt w wr (w.heap.size + 3) N1 gs g mb base b sa sc ab cb a c p i0 nn av cv ap cp L cells)) (fun i _ => b.length - (intOf i).toNat)
  case atStart => exact ⟨0, 0, 0, none, 0, none, 0, [], [], rfl, H0⟩
  case round =>
    obtain ⟨p, i, nn, av, cv, ap, cp, L, cells, rfl, hT⟩ := hrel
    clear H0
    have hpb := hT.out.pb
    have hip := hT.out.ip
    have cb0 : wr.cell? ⟨w.heap.size, 0, none⟩ = some (.slice a b.length c) := hT.out.bb.cell 0
    by_cases hlt : p < b.length
    · have hB := hid (seek_best wr hT.out.sk hT.out.np hlt)
      have hbr := bestR_room b p
      have htn := hid (fun h => toksA_none (b := b) (p := p) (i := i) hlt h)
      have hts := hid (fun h => toksA_some (b := b) (p := p) (i := i) hlt h)
      have hfc := hid (bestR_facts b p)
      have dlt : decide ((p : Int) < (b.length : Int)) = true := by simp; omega
      generalize hbb : bestR b p = bb at *
      obtain ⟨o, m⟩ := bb
      have HBB := hid hbb; clear hbb
      simp only at hbr
      go_wp2_with fail
      refine hB.out.mono ?_
      rintro r w2 ⟨hr, hst⟩
      rw [HBB.out] at hr
      subst hr
      obtain ⟨ap2, cp2, hT2⟩ := hT.out.best hst (Nat.le_refl _)
      have HT2 := hid hT2; clear hst hT2
      by_cases hm0 : m = 0
      · have e1 : ((m : Int) == 0) = true := by simp; omega
        have HT3 := hid (show TokAt w w2 (w.heap.size + 3) N1 gs g mb base b sa sc ab cb a c (p + 1) i p av cv ap2 cp2 L cells from { HT2.out with pb := by omega, ip := by omega, np := by omega, len := by have := HT2.out.len; omega, toks := by rw [← htn.out hm0]; exact HT2.out.toks })
        clear hm0
        go_wp2_with fail
        go_roundw
        case rel => exact ⟨p + 1, i, p, av, cv, ap2, cp2, L, cells, by go_num, HT3⟩
        case measure => simp [intOf]; omega
      · have e1 : ((m : Int) == 0) = false := by simp; omega
        have hm4 : 4 ≤ m ∧ o ≤ p := by
          rcases hfc.out with h | ⟨o', m', h, h1, h2, h3, _⟩
          · simp only [Prod.mk.injEq] at h; omega
          · simp only [Prod.mk.injEq] at h
            unfold reach at h2
            omega
        have htop := HT2.out.top
        have hn0 := HT2.out.n1
        have hav := fun q (hq : (Value.slice av L.length cv).ownBlock = some q) => HT2.out.own.1.lt q hq
        have hRun := press_run w2 (to := p) HT2.out.bf HT2.out.bo HT2.out.bb (rBytes.mono (rBytes.keep HL.out fun q hq => HT2.out.below.block q hq) fun q hq => Nat.lt_of_lt_of_le hq HT2.out.below.size) HT2.out.own (fun q hq => hq.2.1) (fun hq => by have := hq.1; omega) (fun e => by have := (hav _ e).1; omega) ⟨by omega, by omega, fun e => by have := (hav _ e).1; omega, fun e => by have := (hav _ e).1; omega⟩ (by omega) hlen (by have := HT2.out.len; omega) htop
        have HRun := hid hRun; clear hRun
        have HM0 := hid hm0; clear hm0
        go_wp2_with fail
        refine HRun.out.mono ?_
        rintro r w3 ⟨rfl, av3, cv3, cells3, hbo3, hown3, ht3, hat3⟩
        have hLL : (L ++ litT b i p).length ≤ p + 1 := by
          have h1 := HT2.out.len
          unfold litT
          split <;> simp <;> omega
        have HHBO := hid hbo3
        have o1 : w3.cell? ⟨w.heap.size + 1, 0, none⟩ = some (.slice av3 (L ++ litT b i p).length cv3) := hbo3.cell 0
        have o2 := hbo3.free 0
        have l1 := hbo3.lt
        have HB3 := hid (HT2.out.bf.tch ht3 (fun e => by
          rcases e with e | e
          · omega
          · have := (hav _ e).1; omega))
        have l2 := HB3.out.lt
        have hz3 : N1 ≤ w3.heap.size := Nat.le_trans htop ht3.size
        have hav3 := fun q (hq : (Value.slice av3 (L ++ litT b i p).length cv3).ownBlock = some q) => hown3.1.lt q hq
        generalize hL3 : L ++ litT b i p = L3 at *
        have HL3 := hid hL3; have HO3 := hid hown3; have HT3 := hid ht3; have HAT3 := hid hat3; have HAV3 := hid hav3; have HAV := hid hav
        clear hL3 hown3 ht3 hat3 hbo3 hav3 hav
        have f3 := HB3.out.free 0
        go_wp2_with (at_builtin; go_loud (refine wpList_append_src rfl _ _ _ rfl N1 304 j0 (.agg #[.slice none 0 0, .int .i64 0, .int .i64 0]) 3 40 Tryz.underlying337 hj0 hy0 hy1 hy2 rfl (by decide) (.slice av3 L3.length cv3) L3.length cells3.flatten rfl (own_below HO3.out.1 (by (repeat (first | exact Below.refl _ _ | assumption | (refine below_alloc ?_ _) | (refine Below.setCell ?_ (by first | omega | (simp; done) | (simp; omega)) _) | (refine Below.drew ?_) | (refine below_drewN ?_ _) | (refine below_then (by assumption) ?_))))) (some ⟨w3.heap.size, 0, none⟩) 1 1 [.slice none 0 0, .int .i64 (o : Int), .int .i64 (m : Int)] rfl (src_new1 w3 304 _ rfl rfl rfl) (by intro u hu; simp at hu; rcases hu with rfl | rfl | rfl <;> rfl) (by simp only [maxLen]; omega) (by omega) (by simp; omega) ?_; intro v8 w8 hown8 hgrow8 hat8; obtain ⟨a8, c8, rfl⟩ := own_form hown8; have G := fun b' (hb : b' < w3.heap.size) (hne : (Value.slice av3 L3.length cv3).ownBlock ≠ some b') => (hgrow8.block b' (by simp; omega) (fun e => hne e.symm)).trans (Below.heap_alloc w3 _ b' hb); have n1 : (Value.slice av3 L3.length cv3).ownBlock ≠ some (w.heap.size + 1) := fun e => by { have := (HAV3.out _ e).1; omega }; have n2 : (Value.slice av3 L3.length cv3).ownBlock ≠ some (w.heap.size + 2) := fun e => by { have := (HAV3.out _ e).1; omega }; have m1 := (World.cell?_of_block (a := ⟨w.heap.size + 1, 0, none⟩) (G _ l1 n1)).trans o1; have m2 := (World.frozen?_of_block (a := ⟨w.heap.size + 1, 0, none⟩) (G _ l1 n1)).trans o2; have m3 : w.heap.size + 1 < w8.heap.size := Nat.lt_of_lt_of_le l1 (Nat.le_trans (by simp) hgrow8.size); have m4 := (World.frozen?_of_block (a := ⟨w.heap.size + 2, 0, none⟩) (G _ l2 n2)).trans f3; have m6 := (World.cell?_of_block (a := ⟨w.heap.size + 2, 0, none⟩) (G _ l2 n2)).trans (HB3.out.cell 0); have m5 : w.heap.size + 2 < w8.heap.size := Nat.lt_of_lt_of_le l2 (Nat.le_trans (by simp) hgrow8.size); have HG8 := hid hgrow8; have HO8 := hid hown8; have HA8 := hid hat8; have HGG := hid G; clear hgrow8 hown8 hat8 G))
        have hOF := (HO3.out.keep (w' := w3.alloc (.cells #[.slice none 0 0, .int .i64 (o : Int), .int .i64 (m : Int)] 304)) (fun q hq => Below.heap_alloc w3 _ q (by
          have hs3 := HT3.out.size
          rcases hq with h | h
          · omega
          · omega)) (fun q hq => Below.heap_alloc w3 _ q (HAV3.out q hq).2))
        have hx : rTok.r (fun q => ((N1 ≤ q ∧ q < w2.heap.size ∧ (Value.slice ap2 p cp2).ownBlock ≠ some q) ∨ (w2.heap.size ≤ q ∧ q < w3.heap.size)) ∧ (Value.slice av3 L3.length cv3).ownBlock ≠ some q) (w3.alloc (.cells #[.slice none 0 0, .int .i64 (o : Int), .int .i64 (m : Int)] 304)) [.slice none 0 0, .int .i64 (o : Int), .int .i64 (m : Int)] ⟨[], o, m⟩ :=
          tok_mk (x := ⟨[], o, m⟩) (rSl_mk rfl (Nat.le_refl _) (Nat.zero_le _) (.inl rfl)) (by simp; omega) (by simp; omega)
        have OPU := OwnElsF.push hOF (fun q hq => by
          have hs3 := HT3.out.size
          rcases hq with h | h
          · simp; omega
          · simp; omega) rfl hx HO8.out HG8.out HA8.out
        have hs8 := HG8.out.size
        simp only [World.size_alloc] at hs8
        have hs3 := HT3.out.size
        have hnew8 : ∀ q, q < N1 → (Value.slice a8 (L3.length + 1) c8).ownBlock ≠ some q := fun q hq e => by
          have := (HO8.out.lt q e).1; omega
        have hll : (L3 ++ [(⟨[], o, m⟩ : Tok)]).length = L3.length + 1 := by simp
        have hsz : ((w8.setCell ⟨w.heap.size + 1, 0, none⟩ (.slice a8 (L3.length + 1) c8)).setCell ⟨w.heap.size + 2, 0, none⟩ (.int .i64 ((p : Int) + (m : Int)))).heap.size = w8.heap.size := by simp [World.setCell]
        have keep9 : ∀ q, q ≠ w.heap.size + 1 → q ≠ w.heap.size + 2 → ((w8.setCell ⟨w.heap.size + 1, 0, none⟩ (.slice a8 (L3.length + 1) c8)).setCell ⟨w.heap.size + 2, 0, none⟩ (.int .i64 ((p : Int) + (m : Int)))).heap[q]? = w8.heap[q]? := fun q k1 k2 => (Below.heap_setCell _ _ _ _ k2).trans (Below.heap_setCell _ _ _ _ k1)
        have OP9 := (OPU.keep (w' := (w8.setCell ⟨w.heap.size + 1, 0, none⟩ (.slice a8 (L3.length + 1) c8)).setCell ⟨w.heap.size + 2, 0, none⟩ (.int .i64 ((p : Int) + (m : Int)))) (fun q hq => keep9 q (by rcases hq with h | h <;> omega) (by rcases hq with h | h <;> omega)) (fun q hq => keep9 q (fun e => hnew8 q (by omega) hq) (fun e => hnew8 q (by omega) hq))).mono (F' := fun q => (N1 ≤ q ∧ q < w2.heap.size ∧ (Value.slice ap2 p cp2).ownBlock ≠ some q) ∨ (w2.heap.size ≤ q ∧ q < ((w8.setCell ⟨w.heap.size + 1, 0, none⟩ (.slice a8 (L3.length + 1) c8)).setCell ⟨w.heap.size + 2, 0, none⟩ (.int .i64 ((p : Int) + (m : Int)))).heap.size)) (fun q hq => by
          rw [hsz]
          rcases hq with h | h
          · exact .inl h
          · exact .inr ⟨h.1, by omega⟩)
        have hbo8 : Blk w8 (w.heap.size + 1) 337 #[.slice av3 L3.length cv3] := (HGG.out _ l1 n1).trans HHBO.out
        have hbf8 : Blk w8 (w.heap.size + 2) 3 #[.int .i64 (i : Int)] := (HGG.out _ l2 n2).trans HB3.out
        have hfin : TokAt w ((w8.setCell ⟨w.heap.size + 1, 0, none⟩ (.slice a8 (L3.length + 1) c8)).setCell ⟨w.heap.size + 2, 0, none⟩ (.int .i64 ((p : Int) + (m : Int)))) (w.heap.size + 3) N1 gs g mb base b sa sc ab cb a c (p + m) (p + m) p a8 c8 ap2 cp2 (L3 ++ [⟨[], o, m⟩]) (cells3 ++ [[.slice none 0 0, .int .i64 (o : Int), .int .i64 (m : Int)]]) := by
          refine HT2.out.out (by omega) (Nat.le_refl _) (by omega) ?_ ?_ (by rw [hll]; exact OP9) ?_ ?_ (by rw [hll]; omega) ?_
          · exact (hbf8.far (by dsimp only; omega) _).set 0 _
          · rw [hll]; exact (hbo8.set 0 _).far (by dsimp only; omega) _
          · refine Tch.setCell (Tch.setCell ⟨HG8.out.os.trans HT3.out.os, HG8.out.tape.trans HT3.out.tape, HG8.out.output.trans HT3.out.output, by omega, fun q hq hf => ?_⟩ (fun _ => .inl rfl) _) (fun _ => .inr (.inl rfl)) _
            have h3 : (Value.slice av3 L3.length cv3).ownBlock ≠ some q := fun e => by
              rcases HAT3.out with h | ⟨q', hq', hlt'⟩
              · rw [h] at e; exact hf (.inr (.inr e))
              · rw [hq'] at e; have := Option.some.inj e; omega
            exact (HGG.out q (by omega) h3).trans (HT3.out.block q hq (fun e => by
              rcases e with e | e
              · exact hf (.inl e)
              · exact hf (.inr (.inr e))))
          · rw [hll]
            rcases HA8.out with h | h
            · rcases HAT3.out with h' | ⟨q', hq', hlt'⟩
              · exact .inl (h.trans h')
              · exact .inr ⟨q', h.trans hq', hlt'⟩
            · exact .inr ⟨_, h, by simp; omega⟩
          · have e1 := hts.out HM0.out
            have e2 := HT2.out.toks
            rw [e1] at e2
            rw [← e2, ← HL3.out]
            simp
        have HF := hid hfin
        clear hfin OP9 OPU hx hOF keep9 hsz hbo8 hbf8 hnew8 hll
        go_roundw
        case rel => exact ⟨p + m, p + m, p, a8, c8, ap2, cp2, _, _, by go_num, HF⟩
        case measure => simp [intOf]; omega
    · have hpe : p = b.length := by omega
      subst hpe
      have htop := hT.out.top
      have hn0 := hT.out.n1
      have hav := fun q (hq : (Value.slice av L.length cv).ownBlock = some q) => hT.out.own.1.lt q hq
      have hRun := press_run wr (to := b.length) hT.out.bf hT.out.bo hT.out.bb (rBytes.mono (rBytes.keep HL.out fun q hq => hT.out.below.block q hq) fun q hq => Nat.lt_of_lt_of_le hq hT.out.below.size) hT.out.own (fun q hq => hq.2.1) (fun hq => by have := hq.1; omega) (fun e => by have := (hav _ e).1; omega) ⟨by omega, by omega, fun e => by have := (hav _ e).1; omega, fun e => by have := (hav _ e).1; omega⟩ (Nat.le_refl _) hlen (by have := hT.out.len; omega) htop
      have htk := hT.out.toks
      rw [toksA_end (Nat.le_refl _)] at htk
      rw [htk] at hRun
      have HRun := hid hRun; clear hRun htk
      have dlt : decide ((b.length : Int) < (b.length : Int)) = false := by simp
      go_wp2_with fail
      refine HRun.out.mono ?_
      rintro r w3 ⟨rfl, av3, cv3, cells3, hbo3, hown3, ht3, hat3⟩
      have o1 : w3.cell? ⟨w.heap.size + 1, 0, none⟩ = some (.slice av3 (toksR b).length cv3) := hbo3.cell 0
      have hbel : Below w.heap.size w w3 := hT.out.below.trans (ht3.to_below hT.out.below.size fun q hq e => by
        rcases e with e | e
        · omega
        · have := (hav _ e).1; omega)
      have hsl := hown3.slice
      have hlt3 := hown3.1.lt
      have hs3 := ht3.size
      have hpost : TokPost w (toksR b) (.returned (.tuple #[.slice av3 (toksR b).length cv3, .int .i64 0])) w3 := ⟨_, rfl, (rSl 3 rTok).mono hsl fun q hq => by
        rcases hq with (h | h) | h
        · exact ⟨by omega, by omega⟩
        · exact ⟨by omega, h.2⟩
        · have := hlt3 q h; exact ⟨by omega, this.2⟩, hbel⟩
      have HP := hid hpost
      clear hpost hsl hlt3 hbel hown3 ht3 hat3 hbo3
      go_wp2
      go_ret2
      exact HP.out
end Go.Proofs.YtfddhafbhceoaaaGreat
namespace Go.Bs
open Go.RowKit

end Go.Bs
namespace Go.Proofs.YtfddhafbhceoaaaGreat
open Go.RowKit Go.Bs Go.Maps
set_option linter.unusedVariables false
set_option linter.unusedSimpArgs false

theorem tok_cells {S : Nat → Prop} {w : World} {cs : List Value} {x : Tok} (h : rTok.r S w cs x) : ∃ a c, cs = [.slice a x.lit.length c, .int .i64 x.off, .int .i64 x.len] ∧ (-9223372036854775808 ≤ x.off ∧ x.off ≤ 9223372036854775807) ∧ (-9223372036854775808 ≤ x.len ∧ x.len ≤ 9223372036854775807) ∧ rBytes.r S w [.slice a x.lit.length c] x.lit := by
  obtain ⟨c1, c2, rfl, h1, c3, c4, rfl, ⟨rfl, h2⟩, rfl, h3⟩ := h
  obtain ⟨a, c, rfl, h4, _⟩ := sl_form h1
  exact ⟨a, c, rfl, bounds_i64 h2, bounds_i64 h3, h4⟩
theorem tok_at {S : Nat → Prop} {w : World} {xs : List Tok} {a : Option Addr} {n c : Nat} (h : rToks.r S w [.slice a n c] xs) {i : Nat} (hi : i < xs.length) : ∃ b off, a = some ⟨b, off, none⟩ ∧ S b ∧ ∃ a' c', w.cell? ⟨b, off + i * 3, none⟩ = some (.slice a' xs[i].lit.length c') ∧ w.cell? ⟨b, off + i * 3 + 1, none⟩ = some (.int .i64 xs[i].off) ∧ w.cell? ⟨b, off + i * 3 + 2, none⟩ = some (.int .i64 xs[i].len) ∧
    (-9223372036854775808 ≤ xs[i].off ∧ xs[i].off ≤ 9223372036854775807) ∧ (-9223372036854775808 ≤ xs[i].len ∧ xs[i].len ≤ 9223372036854775807) ∧ rBytes.r S w [.slice a' xs[i].lit.length c'] xs[i].lit := by
  obtain ⟨b, off, e, hS, cs, _, hc, hA⟩ := sl_at h hi
  obtain ⟨a', c', rfl, h1, h2, h3⟩ := tok_cells hA
  exact ⟨b, off, e, hS, a', c', hc 0 _ rfl, hc 1 _ rfl, hc 2 _ rfl, h1, h2, h3⟩

def runB (t : Tok) : Bool := decide (t.off = 0) && (decide (t.len = 0) && (decide (1 ≤ t.lit.length) && decide (t.lit.length ≤ 1048576)))
def copyB (t : Tok) : Bool := decide (t.lit.length = 0) && (decide (1 ≤ t.off) && (decide (t.off ≤ 65536) && (decide (4 ≤ t.len) && decide (t.len ≤ 1048576))))


/-- Tokens from place p on, as they must be; f: a run stands right ahead. -/
inductive Good (b : List UInt8) : Bool → Nat → List Tok → Prop where
  | nil {f : Bool} : Good b f b.length []
  | copy {f : Bool} {p o m : Nat} {rest : List Tok} : p < b.length → bestR b p = (o, m) → m ≠ 0 → Good b false (p + m) rest → Good b f p (⟨[], (o : Int), (m : Int)⟩ :: rest)
  | run {p q : Nat} {rest : List Tok} : p < q → q ≤ b.length → (∀ r, p ≤ r → r < q → (bestR b r).2 = 0) → Good b true q rest → Good b false p (⟨(b.drop p).take (q - p), 0, 0⟩ :: rest)
theorem good_lit {b : List UInt8} {i p : Nat} {rest : List Tok} (hip : i ≤ p) (hp : p ≤ b.length) (h : ∀ r, i ≤ r → r < p → (bestR b r).2 = 0) (hg : ∀ f, Good b f p rest) : Good b false i (litT b i p ++ rest) := by
  unfold litT
  by_cases hlt : i < p
  · rw [if_pos hlt]
    exact .run hlt hp h (hg true)
  · obtain rfl : i = p := by omega
    rw [if_neg hlt]
    exact hg false
theorem good_toks (b : List UInt8) : ∀ (f p i : Nat), b.length ≤ p + f → i ≤ p → p ≤ b.length → (∀ r, i ≤ r → r < p → (bestR b r).2 = 0) → Good b false i (toksF b f p i)
  | 0, p, i, h1, h2, h3, h4 => by
    obtain rfl : p = b.length := by omega
    have := good_lit (rest := []) h2 h3 h4 fun f => .nil
    simpa [toksF] using this
  | f + 1, p, i, h1, h2, h3, h4 => by
    simp only [toksF]
    by_cases hp : p < b.length
    · rw [if_pos hp]
      by_cases hm : (bestR b p).2 = 0
      · rw [if_pos hm]
        refine good_toks b f (p + 1) i (by omega) (by omega) (by omega) fun r hr1 hr2 => ?_
        by_cases hrp : r = p
        · rw [hrp]; exact hm
        · exact h4 r hr1 (by omega)
      · rw [if_neg hm]
        have hroom := (bestR_room b p).1
        refine good_lit h2 h3 h4 fun g => .copy hp rfl hm ?_
        exact good_toks b f _ _ (by omega) (Nat.le_refl _) (by omega) fun r h1 h2 => by omega
    · rw [if_neg hp]
      obtain rfl : p = b.length := by omega
      have := good_lit (rest := []) h2 h3 h4 fun f => .nil
      simpa using this
theorem good_toksR (b : List UInt8) : Good b false 0 (toksR b) := good_toks b b.length 0 0 (by omega) (Nat.le_refl _) (Nat.zero_le _) fun r h1 h2 => by omega


theorem toks_len (b : List UInt8) : ∀ (f p i : Nat), (toksF b f p i).length ≤ 2 * f + 1
  | 0, p, i => by
    simp only [toksF, litT]
    split <;> simp
  | f + 1, p, i => by
    simp only [toksF]
    split
    · split
      · have := toks_len b f (p + 1) i; omega
      · have := toks_len b f (p + (bestR b p).2) (p + (bestR b p).2)
        simp only [List.length_append, List.length_cons, litT]
        split <;> simp <;> omega
    · simp only [litT]
      split <;> simp

end Go.Proofs.YtfddhafbhceoaaaGreat
