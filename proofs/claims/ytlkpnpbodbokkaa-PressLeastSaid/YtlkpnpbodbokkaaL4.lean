/- Needed by pressLeast_walk, part 4: texts put together by shake.py; no condition. -/
import Derived.Deep.Cut
import Derived.ScopeJumps
import Derived.WalkMore
import Derived.Test.YtlkpnpbodbokkaaL3
import Derived.Test.YtlkpnpbodbokkaaL1
import Derived.RegionTactic
import Derived.BigRegion
import Derived.Lib.SlBytesConst
import Derived.Test.YtlkpnpbodbokkaaProg
import Derived.WalkKit
import Derived.BigQuiet
import Derived.Laws.Runes
import Derived.Test.YtlkpnpbodbokkaaL2
import Derived.Laws.MakeOwn
namespace Go.Proofs.Ytlkpnpbodbokkaa
open Go.RowKit Go.Bs Go.Maps
set_option linter.unusedVariables false
set_option linter.unusedSimpArgs false

theorem t_blk {w : World} {g : Nat} {t : TypeId} {v0 v1 v2 : Value} (h : Blk w g t #[v0, v1, v2]) : w.cell? ⟨g, 0, none⟩ = some v0 ∧ w.cell? ⟨g, 1, none⟩ = some v1 ∧ w.cell? ⟨g, 2, none⟩ = some v2 ∧ w.frozen? ⟨g, 0, none⟩ = false ∧ w.frozen? ⟨g, 1, none⟩ = false ∧ w.frozen? ⟨g, 2, none⟩ = false ∧ g < w.heap.size :=
  ⟨h.cell 0, h.cell 1, h.cell 2, h.free 0, h.free 1, h.free 2, h.lt⟩
end Go.Proofs.Ytlkpnpbodbokkaa
namespace Go.Proofs.Ytlkpnpbodbokkaa
open Go.RowKit Go.Bs Go.Maps
set_option linter.unusedVariables false
set_option linter.unusedSimpArgs false

def againL (off : Nat) : Nat → List UInt8 → List UInt8
  | 0, out => out
  | n + 1, out => againL off n (out ++ [out.getD (out.length - off) 0])
theorem againL_len (off : Nat) : ∀ (n : Nat) (out : List UInt8), (againL off n out).length = out.length + n
  | 0, out => rfl
  | n + 1, out => by simp only [againL, againL_len off n]; simp; omega
end Go.Proofs.Ytlkpnpbodbokkaa
namespace Go.Proofs.Ytlkpnpbodbokkaa
open Go.RowKit Go.Bs Go.Maps
set_option linter.unusedVariables false
set_option linter.unusedSimpArgs false

theorem byteCells_one1 (x : UInt8) : ∀ u ∈ [Value.int .u8 (x.toNat : Int)], u.oneCell' = true := by
  intro u hu; simp at hu; subst hu; rfl
theorem byteCells_snoc (l : List UInt8) (x : UInt8) : byteCells l ++ [Value.int .u8 (x.toNat : Int)] = byteCells (l ++ [x]) := by simp [byteCells]
end Go.Proofs.Ytlkpnpbodbokkaa
namespace Go.Proofs.Ytlkpnpbodbokkaa
open Go.RowKit Go.Bs Go.Maps
set_option linter.unusedVariables false
set_option linter.unusedSimpArgs false

theorem againL_take {b : List UInt8} {o : Nat} : ∀ (m p : Nat), p + m ≤ b.length → 1 ≤ o → o ≤ p → (∀ k, k < m → b[p + k]? = b[p + k - o]?) → againL o m (b.take p) = b.take (p + m)
  | 0, p, _, _, _, _ => rfl
  | m + 1, p, h, h1, h2, hs => by
    have h0 := hs 0 (by omega)
    have hb : b[p]? = some b[p] := by simp
    simp only [Nat.add_zero] at h0
    have e : b.take p ++ [(b.take p).getD ((b.take p).length - o) 0] = b.take (p + 1) := by
      rw [List.length_take, Nat.min_eq_left (by omega)]
      have : (b.take p).getD (p - o) 0 = b[p] := by
        have : (b.take p)[p - o]? = some b[p] := by rw [List.getElem?_take_of_lt (by omega), ← h0, hb]
        simp [List.getD, this]
      rw [this]
      rw [List.take_add_one, hb]; rfl
    simp only [againL]
    rw [e, againL_take m (p + 1) (by omega) h1 (by omega) (fun k hk => by
      have := hs (k + 1) (by omega)
      rw [show p + 1 + k = p + (k + 1) by omega]
      exact this)]
    rw [show p + 1 + m = p + (m + 1) by omega]

end Go.Proofs.Ytlkpnpbodbokkaa
namespace Go.Proofs.Ytlkpnpbodbokkaa
open Go.RowKit Go.Bs Go.Maps
set_option linter.unusedVariables false
set_option linter.unusedSimpArgs false

def tokN (t : Tok) : Int := if rightB t = true then (if t.off = 0 then (t.lit.length : Int) else t.len) else 0
def wrongR (t : Tok) (made bound : Int) : Int := if rightB t = true then (if bound - made < tokN t then 11 else if made < t.off then 10 else 0) else 3
theorem tokN_le (t : Tok) : 0 ≤ tokN t ∧ tokN t ≤ 1048576 := by
  unfold tokN
  by_cases h : rightB t = true
  · rw [if_pos h]
    rcases right_forms h with ⟨D, rfl, h1, h2⟩ | ⟨o, m, rfl, h1, h2, h3, h4⟩
    · rw [if_pos rfl]; dsimp only; omega
    · rw [if_neg (by dsimp only; omega)]; dsimp only; omega
  · rw [if_neg h]; omega
theorem run_off {t : Tok} (h : runB t = true) : t.off = 0 ∧ rightB t = true := by
  refine ⟨?_, by simp [rightB, h]⟩
  simp only [runB, Bool.and_eq_true, decide_eq_true_eq] at h
  first | exact h.1.1.1 | omega | (simp at h; omega)
theorem copy_off {t : Tok} (h : copyB t = true) : t.off ≠ 0 ∧ rightB t = true := by
  refine ⟨?_, by simp [rightB, h]⟩
  simp only [copyB, Bool.and_eq_true, decide_eq_true_eq] at h
  omega
set_option maxRecDepth 100000 in
theorem ref11_right (x : Tok) (a : Option Addr) (c : Nat) (w : World) (hl : x.lit.length ≤ 9223372036854775807) (h1 : -9223372036854775808 ≤ x.off ∧ x.off ≤ 9223372036854775807) (h2 : -9223372036854775808 ≤ x.len ∧ x.len ≤ 9223372036854775807) :
    Calls Try.prog 11 #[.agg #[.slice a x.lit.length c, .int .i64 x.off, .int .i64 x.len]] w fun r w' => r = .returned (.bool (rightB x)) ∧ Below w.heap.size w w' := by
  have HR := hid (fun (W : World) => ref11_run x a c W hl h1 h2)
  have HC := hid (fun (W : World) => ref11_copy x a c W hl h1 h2)
  unfold rightB
  generalize runB x = R at *
  generalize copyB x = C at *
  obtain ⟨D, o, m⟩ := x
  dsimp only at *
  cases R
  · go_enter Try.func11, Try.ntmps11
    go_wp2_with fail
    refine (HR.out _).mono ?_
    rintro r w1 ⟨rfl, hb1⟩
    have B0 : Blk w1 w.heap.size 33 #[.slice a D.length c, .int .i64 o, .int .i64 m] := Blk.later (by (repeat (first | assumption | exact Blk.newAt _ _ _ (by first | (simp; done) | (simp; omega)) | refine Blk.alloc ?_ _ | refine Blk.drew ?_ | refine Blk.drewN ?_ _ | refine Blk.far ?_ (by first | (simp; done) | (simp; omega)) _))) hb1
    obtain ⟨x0, x1, x2, e0, e1, e2, l0⟩ := t_blk B0
    have hbw : Below w.heap.size w w1 := by (repeat (first | with_reducible exact Below.refl _ _ | with_reducible assumption | (with_reducible refine below_alloc ?_ _) | (with_reducible refine Below.setCell ?_ (by first | omega | (simp; done) | (simp; omega)) _) | (with_reducible refine Below.drew ?_) | (with_reducible refine below_drewN ?_ _) | (refine below_then (by with_reducible assumption) ?_)))
    clear hb1
    go_wp2_with fail
    refine (HC.out _).mono ?_
    rintro r w2 ⟨rfl, hb2⟩
    go_wp2
    go_ret
    exact ⟨by simp, by (repeat (first | with_reducible exact Below.refl _ _ | with_reducible assumption | (with_reducible refine below_alloc ?_ _) | (with_reducible refine Below.setCell ?_ (by first | omega | (simp; done) | (simp; omega)) _) | (with_reducible refine Below.drew ?_) | (with_reducible refine below_drewN ?_ _) | (refine below_then (by with_reducible assumption) ?_)))⟩
  · go_enter Try.func11, Try.ntmps11
    go_wp2_with fail
    refine (HR.out _).mono ?_
    rintro r w1 ⟨rfl, hb1⟩
    go_wp2
    go_ret
    exact ⟨by simp, by (repeat (first | with_reducible exact Below.refl _ _ | with_reducible assumption | (with_reducible refine below_alloc ?_ _) | (with_reducible refine Below.setCell ?_ (by first | omega | (simp; done) | (simp; omega)) _) | (with_reducible refine Below.drew ?_) | (with_reducible refine below_drewN ?_ _) | (refine below_then (by with_reducible assumption) ?_)))⟩
set_option maxRecDepth 100000 in
theorem ref11_len (x : Tok) (a : Option Addr) (c : Nat) (w : World) (hl : x.lit.length ≤ 9223372036854775807) (h1 : -9223372036854775808 ≤ x.off ∧ x.off ≤ 9223372036854775807) (h2 : -9223372036854775808 ≤ x.len ∧ x.len ≤ 9223372036854775807) :
    Calls Try.prog 24 #[.agg #[.slice a x.lit.length c, .int .i64 x.off, .int .i64 x.len]] w fun r w' => r = .returned (.int .i64 (tokN x)) ∧ Below w.heap.size w w' := by
  have HR := hid (fun (W : World) => ref11_run x a c W hl h1 h2)
  have HC := hid (fun (W : World) => ref11_copy x a c W hl h1 h2)
  have e1 := run_off (t := x)
  have e2 := copy_off (t := x)
  have e3 : runB x = false → copyB x = false → rightB x = false := by intro h h'; simp [rightB, h, h']
  unfold tokN
  generalize runB x = R at *
  generalize copyB x = C at *
  generalize rightB x = I at *
  obtain ⟨D, o, m⟩ := x
  dsimp only at *
  cases R
  · cases C
    · have := e3 rfl rfl
      subst this
      rw [if_neg (by simp)]
      clear e1 e2 e3
      go_enter Try.func24, Try.ntmps24
      go_wp2_with fail
      refine (HR.out _).mono ?_
      rintro r w1 ⟨rfl, hb1⟩
      have B0 : Blk w1 w.heap.size 33 #[.slice a D.length c, .int .i64 o, .int .i64 m] := Blk.later (by (repeat (first | assumption | exact Blk.newAt _ _ _ (by first | (simp; done) | (simp; omega)) | refine Blk.alloc ?_ _ | refine Blk.drew ?_ | refine Blk.drewN ?_ _ | refine Blk.far ?_ (by first | (simp; done) | (simp; omega)) _))) hb1
      obtain ⟨x0, x1, x2, e0, e1, e2, l0⟩ := t_blk B0
      have hbw : Below w.heap.size w w1 := by (repeat (first | with_reducible exact Below.refl _ _ | with_reducible assumption | (with_reducible refine below_alloc ?_ _) | (with_reducible refine Below.setCell ?_ (by first | omega | (simp; done) | (simp; omega)) _) | (with_reducible refine Below.drew ?_) | (with_reducible refine below_drewN ?_ _) | (refine below_then (by with_reducible assumption) ?_)))
      clear hb1
      go_wp2_with fail
      refine (HC.out _).mono ?_
      rintro r w2 ⟨rfl, hb2⟩
      go_wp2
      go_ret
      exact ⟨rfl, by (repeat (first | with_reducible exact Below.refl _ _ | with_reducible assumption | (with_reducible refine below_alloc ?_ _) | (with_reducible refine Below.setCell ?_ (by first | omega | (simp; done) | (simp; omega)) _) | (with_reducible refine Below.drew ?_) | (with_reducible refine below_drewN ?_ _) | (refine below_then (by with_reducible assumption) ?_)))⟩
    · obtain ⟨h0, rfl⟩ := e2 rfl
      rw [if_pos rfl, if_neg h0]
      clear e1 e2 e3 h0
      go_enter Try.func24, Try.ntmps24
      go_wp2_with fail
      refine (HR.out _).mono ?_
      rintro r w1 ⟨rfl, hb1⟩
      have B0 : Blk w1 w.heap.size 33 #[.slice a D.length c, .int .i64 o, .int .i64 m] := Blk.later (by (repeat (first | assumption | exact Blk.newAt _ _ _ (by first | (simp; done) | (simp; omega)) | refine Blk.alloc ?_ _ | refine Blk.drew ?_ | refine Blk.drewN ?_ _ | refine Blk.far ?_ (by first | (simp; done) | (simp; omega)) _))) hb1
      obtain ⟨x0, x1, x2, e0, e1, e2, l0⟩ := t_blk B0
      have hbw : Below w.heap.size w w1 := by (repeat (first | with_reducible exact Below.refl _ _ | with_reducible assumption | (with_reducible refine below_alloc ?_ _) | (with_reducible refine Below.setCell ?_ (by first | omega | (simp; done) | (simp; omega)) _) | (with_reducible refine Below.drew ?_) | (with_reducible refine below_drewN ?_ _) | (refine below_then (by with_reducible assumption) ?_)))
      clear hb1
      go_wp2_with fail
      refine (HC.out _).mono ?_
      rintro r w2 ⟨rfl, hb2⟩
      obtain ⟨y0, y1, y2, f0, f1, f2, l1⟩ := t_blk (B0.later hb2)
      have hbw2 := below_then hb2 hbw
      clear hb2 B0
      go_wp2
      go_ret
      exact ⟨rfl, by (repeat (first | with_reducible exact Below.refl _ _ | with_reducible assumption | (with_reducible refine below_alloc ?_ _) | (with_reducible refine Below.setCell ?_ (by first | omega | (simp; done) | (simp; omega)) _) | (with_reducible refine Below.drew ?_) | (with_reducible refine below_drewN ?_ _) | (refine below_then (by with_reducible assumption) ?_)))⟩
  · obtain ⟨h0, rfl⟩ := e1 rfl
    rw [if_pos rfl, if_pos h0]
    clear e1 e2 e3 h0
    go_enter Try.func24, Try.ntmps24
    go_wp2_with fail
    refine (HR.out _).mono ?_
    rintro r w1 ⟨rfl, hb1⟩
    have B0 : Blk w1 w.heap.size 33 #[.slice a D.length c, .int .i64 o, .int .i64 m] := Blk.later (by (repeat (first | assumption | exact Blk.newAt _ _ _ (by first | (simp; done) | (simp; omega)) | refine Blk.alloc ?_ _ | refine Blk.drew ?_ | refine Blk.drewN ?_ _ | refine Blk.far ?_ (by first | (simp; done) | (simp; omega)) _))) hb1
    obtain ⟨x0, x1, x2, e0, e1, e2, l0⟩ := t_blk B0
    have hbw : Below w.heap.size w w1 := by (repeat (first | with_reducible exact Below.refl _ _ | with_reducible assumption | (with_reducible refine below_alloc ?_ _) | (with_reducible refine Below.setCell ?_ (by first | omega | (simp; done) | (simp; omega)) _) | (with_reducible refine Below.drew ?_) | (with_reducible refine below_drewN ?_ _) | (refine below_then (by with_reducible assumption) ?_)))
    clear hb1 B0
    go_wp2
    go_ret
    exact ⟨rfl, by (repeat (first | with_reducible exact Below.refl _ _ | with_reducible assumption | (with_reducible refine below_alloc ?_ _) | (with_reducible refine Below.setCell ?_ (by first | omega | (simp; done) | (simp; omega)) _) | (with_reducible refine Below.drew ?_) | (with_reducible refine below_drewN ?_ _) | (refine below_then (by with_reducible assumption) ?_)))⟩
end Go.Proofs.Ytlkpnpbodbokkaa
namespace Go.Proofs.Ytlkpnpbodbokkaa
open Go.RowKit Go.Bs Go.Maps
set_option linter.unusedVariables false
set_option linter.unusedSimpArgs false

theorem byteCells_app2 (l l' : List UInt8) : byteCells l ++ byteCells l' = byteCells (l ++ l') := by simp [byteCells]
set_option maxRecDepth 100000 in
set_option maxHeartbeats 3200000 in
theorem ref12_with (w : World) (out : List UInt8) (aO : Option Addr) (nO cO : Nat) (hl : rBytes.r (· < w.heap.size) w [.slice aO nO cO] out) (D : List UInt8) (aD : Option Addr) (nD cD : Nat) (hD : rBytes.r (· < w.heap.size) w [.slice aD nD cD] D) (off n : Nat)
    (hc : n = 0 ∨ (D = [] ∧ 1 ≤ off ∧ off ≤ out.length)) (hlen : out.length + D.length + n ≤ 1000000000) :
    Calls Try.prog 25 #[.slice aO nO cO, .agg #[.slice aD nD cD, .int .i64 (off : Int), .int .i64 (n : Int)]] w fun r w' => ∃ v, r = .returned v ∧ rBytes.r (fun q => w.heap.size ≤ q ∧ q < w'.heap.size) w' [v] (againL off n (out ++ D)) ∧ Below w.heap.size w w' := by
  obtain ⟨rfl, hm, _, _⟩ := sl_len hl
  obtain ⟨rfl, hm', _, _⟩ := sl_len hD
  obtain ⟨i0, hi, hz0, hz1, hz2⟩ := info_parts info8
  have HL := hid hl
  have HD := hid hD
  have HC := hid hc
  have HONE := hid (byteCells_one out)
  have HONED := hid (byteCells_one D)
  have HS := hid (fun (W : World) (hW : Below w.heap.size w W) => src_bytes (lift HL.out hW))
  have HSD := hid (fun (W : World) (hW : Below w.heap.size w W) => src_bytes (lift HD.out hW))
  clear hl hD hc
  go_enter Try.func25, Try.ntmps25
  go_wp2_with (first
    | (at_builtin; go_loud (refine wpList_append_src rfl _ _ _ rfl (w.heap.size + 1) 5 i0 (.int .u8 0) 1 1 Try.underlying22 hi hz0 hz1 hz2 rfl (by decide) (.slice none 0 0) 0 [] rfl ⟨rfl, .inl ⟨rfl, rfl⟩⟩ aO out.length cO (byteCells out) rfl (HS.out _ (by (repeat (first | with_reducible exact Below.refl _ _ | with_reducible assumption | (with_reducible refine below_alloc ?_ _) | (with_reducible refine Below.setCell ?_ (by first | omega | (simp; done) | (simp; omega)) _) | (with_reducible refine Below.drew ?_) | (with_reducible refine below_drewN ?_ _) | (refine below_then (by with_reducible assumption) ?_))))) HONE.out (by simp only [maxLen]; omega) (by omega) (by first | omega | (simp; done) | (simp; omega)) ?_; intro v' w2 hown2 hgrow2 hat2; rw [Nat.zero_add, List.nil_append] at hown2; obtain ⟨a2, c2, rfl⟩ := own_form hown2; have k2 := Below.grown (Below.refl _ _) hgrow2 (Nat.le_refl _) (fun g e => by cases e); have B0 : Blk w2 w.heap.size 33 #[.slice aD D.length cD, .int .i64 (off : Int), .int .i64 (n : Int)] := Blk.later (by (repeat (first | assumption | exact Blk.newAt _ _ _ (by first | (simp; done) | (simp; omega)) | refine Blk.alloc ?_ _ | refine Blk.drew ?_ | refine Blk.drewN ?_ _ | refine Blk.far ?_ (by first | (simp; done) | (simp; omega)) _))) k2; obtain ⟨x0, x1, x2, e0, e1, e2, l0⟩ := t_blk B0; have hbw : Below w.heap.size w w2 := by {(repeat (first | with_reducible exact Below.refl _ _ | with_reducible assumption | (with_reducible refine below_alloc ?_ _) | (with_reducible refine Below.setCell ?_ (by first | omega | (simp; done) | (simp; omega)) _) | (with_reducible refine Below.drew ?_) | (with_reducible refine below_drewN ?_ _) | (refine below_then (by with_reducible assumption) ?_)))}; have hs2 : w.heap.size + 1 ≤ w2.heap.size := l0; have HO2 := hid hown2; have HB0 := hid B0; clear hown2 hgrow2 hat2 k2 B0))
    | (at_builtin; go_loud (refine wpList_append_src rfl _ _ _ rfl (w.heap.size + 1) 5 i0 (.int .u8 0) 1 1 Try.underlying22 hi hz0 hz1 hz2 rfl (by decide) (.slice a2 out.length c2) out.length (byteCells out) rfl HO2.out aD D.length cD (byteCells D) rfl (HSD.out _ hbw) HONED.out (by simp only [maxLen]; omega) (by omega) (by omega) ?_; intro v' w3 hown3 hgrow3 hat3; rw [byteCells_app2] at hown3; obtain ⟨a3, c3, rfl⟩ := own_form hown3; have k3 := Below.grown (B := w.heap.size + 1) (Below.refl _ _) hgrow3 (by omega) (fun g e => (HO2.out.lt g e).1); have hb3 := hbw.trans (k3.mono (by omega)); have HB3 := hid (HB0.out.below k3 (by omega)); have HO3 := hid hown3; have hs3 := k3.size; clear hown3 hgrow3 hat3 k3 x0 x1 x2 e0 e1 e2 l0)))
  go_loopw [5, 6] (fun o i wr => ∃ (k : Nat) (J : List UInt8) (aJ : Option Addr) (cJ : Nat), k ≤ n ∧ i = .int .i64 k ∧ o = .slice aJ J.length cJ ∧ wr.ownsRow (w.heap.size + 1) 5 1 (.slice aJ J.length cJ) J.length (byteCells J) ∧ Hid (againL off n (out ++ D) = againL off (n - k) J) ∧ Hid (J.length = out.length + D.length + k) ∧ Below w.heap.size w wr ∧ w.heap.size + 1 ≤ wr.heap.size ∧ Blk wr w.heap.size 33 #[.slice aD D.length cD, .int .i64 (off : Int), .int .i64 (n : Int)]) (fun _ i _ => n - (intOf i).toNat)
  case atStart => exact ⟨0, out ++ D, a3, c3, Nat.zero_le _, rfl, by simp, by simpa using HO3.out, hid rfl, hid (by simp), hb3, by omega, HB3.out⟩
  case round =>
    obtain ⟨k, J, aJ, cJ, hk, rfl, rfl, ho, hJ, hln, hb, hbs, hB⟩ := hrel
    have HJO := hid ho
    obtain ⟨x0, x1, x2, e0, e1, e2, l0⟩ := t_blk hB
    have HB := hid hB
    clear hB
    rcases Nat.lt_or_ge k n with hlt | hge
    · have d1 : decide ((k : Int) < (n : Int)) = true := decide_eq_true (by omega)
      have d1' : decide (k < n) = true := decide_eq_true hlt
      have hcc : 1 ≤ off ∧ off ≤ out.length ∧ J.length = out.length + k := by
        rcases HC.out with h | ⟨h, h1, h2⟩
        · omega
        · have := hln.out; rw [h] at this; simp at this; exact ⟨h1, h2, this⟩
      have hml : off ≤ J.length := by omega
      have hJm : J.length + 1 ≤ 1000000000000 := by omega
      have hst : Hid (againL off (n - k) J = againL off (n - (k + 1)) (J ++ [J.getD (J.length - off) 0])) := hid (by rw [show n - k = (n - (k + 1)) + 1 by omega]; rfl)
      have hgd : J.getD (J.length - off) 0 = J[J.length - off]'(by omega) := by rw [List.getD_eq_getElem?_getD, List.getElem?_eq_getElem (by omega)]; rfl
      rw [hgd] at hst
      obtain ⟨gb, ob, hA, hgb, hc⟩ := byte_at (own_bytes rfl ho) (i := J.length - off) (by omega)
      subst hA
      obtain ⟨m, hm⟩ : ∃ m, m = J.length - off := ⟨_, rfl⟩
      have e1' : (out.length : Int) + (k : Int) - (off : Int) = (m : Int) := by omega
      generalize J[J.length - off]'(by omega) = x at *
      rw [← hm] at hc
      have i1 : (m : Int) < (J.length : Int) := by omega
      have i2 : (0 : Int) ≤ (m : Int) := by omega
      have HCC := hid hcc
      clear ho hgd hm hcc
      go_wp2_with (at_builtin; go_loud (refine wpList_append_src rfl _ _ _ rfl (w.heap.size + 1) 5 i0 (.int .u8 0) 1 1 Try.underlying22 hi hz0 hz1 hz2 rfl (by decide) (.slice (some ⟨gb, ob, none⟩) J.length cJ) J.length (byteCells J) rfl (own_below HJO.out (by (repeat (first | exact Below.refl _ _ | assumption | (refine below_alloc ?_ _) | (refine Below.setCell ?_ (by first | omega | (simp; done) | (simp; omega)) _) | (refine Below.drew ?_) | (refine below_drewN ?_ _) | (refine below_then (by assumption) ?_))))) (some ⟨wr.heap.size, 0, none⟩) 1 1 [.int .u8 (x.toNat : Int)] rfl (src_new1 wr 5 _ rfl rfl rfl) (byteCells_one1 x) (by simp only [maxLen]; omega) (by omega) (by simp; omega) ?_; intro v' w3 hown3 hgrow3 hat3; obtain ⟨a3, c3, rfl⟩ := own_form hown3; have HO3 := hid hown3; have HG3 := hid hgrow3; clear hown3 hgrow3 hat3))
      have ho3 := HO3.out
      rw [byteCells_snoc, show J.length + 1 = (J ++ [x]).length by simp] at ho3
      have hb3 : Below (w.heap.size + 1) wr w3 := (Below.grown (Below.refl _ _) HG3.out (by simp; omega) (fun g e => (HJO.out.lt g e).1)) |> (fun h => (below_alloc (Below.refl _ _) _ |>.mono hbs).trans h)
      have HO4 := hid ho3
      have hs3 := hb3.size
      have HB4 := hid (HB.out.below hb3 (by omega))
      clear ho3 hc
      go_roundw
      case rel => exact ⟨k + 1, J ++ [x], a3, c3, by omega, by go_num, by simp, HO4.out, hid (hJ.out.trans hst.out), hid (by simp; have := hln.out; omega), hb.trans (hb3.mono (by omega)), by omega, HB4.out⟩
      case measure => simp [intOf]; omega
    · obtain rfl : k = n := by omega
      have d1 : decide ((k : Int) < (k : Int)) = false := decide_eq_false (by omega)
      have hfin : Hid (againL off k (out ++ D) = J) := hid (by rw [hJ.out, Nat.sub_self]; rfl)
      have HV := hid (own_bytes2 rfl ho)
      clear ho
      go_wp2
      go_ret
      rw [hfin.out]
      exact ⟨_, rfl, rBytes.mono HV.out fun q hq => ⟨by omega, hq.2⟩, hb⟩
end Go.Proofs.Ytlkpnpbodbokkaa
namespace Go.Proofs.Ytlkpnpbodbokkaa
open Go.RowKit Go.Bs Go.Maps
set_option linter.unusedVariables false
set_option linter.unusedSimpArgs false

/-- What tokens make: the bytes, the code, the place. -/
def exT (bound : Int) : Nat → List UInt8 → List Tok → List UInt8 × Int × Int
  | _, out, [] => (out, 0, 0)
  | i, out, t :: ts => if wrongR t out.length bound = 0 then exT bound (i + 1) (againL t.off.toNat t.len.toNat (out ++ t.lit)) ts else ([], wrongR t out.length bound, i)
theorem wrong_zero {t : Tok} {made : Nat} {bound : Int} (h : wrongR t made bound = 0) : ∃ (D : List UInt8) (o m : Nat), t = ⟨D, (o : Int), (m : Int)⟩ ∧ (m = 0 ∨ (D = [] ∧ 1 ≤ o ∧ o ≤ made)) ∧ tokN t = D.length + m ∧ (made : Int) + D.length + m ≤ bound ∧ D.length ≤ 1048576 ∧ m ≤ 1048576 ∧ rightB t = true := by
  unfold wrongR at h
  by_cases hr : rightB t = true
  · rw [if_pos hr] at h
    by_cases h1 : bound - made < tokN t
    · rw [if_pos h1] at h; simp at h
    · rw [if_neg h1] at h
      by_cases h2 : (made : Int) < t.off
      · rw [if_pos h2] at h; simp at h
      · rcases right_forms hr with ⟨D, rfl, k1, k2⟩ | ⟨o, m, rfl, k1, k2, k3, k4⟩
        · have e : tokN ⟨D, 0, 0⟩ = D.length := by unfold tokN; rw [if_pos hr, if_pos rfl]
          exact ⟨D, 0, 0, rfl, .inl rfl, by rw [e]; simp, by omega, by omega, by omega, hr⟩
        · have e : tokN ⟨[], (o : Int), (m : Int)⟩ = m := by unfold tokN; rw [if_pos hr, if_neg (by dsimp only; omega)]
          dsimp only at h2
          exact ⟨[], o, m, rfl, .inr ⟨rfl, k1, by omega⟩, by rw [e]; simp, by simp; omega, by simp, by omega, hr⟩
  · rw [if_neg hr] at h; simp at h
theorem exT_step {xs : List Tok} {bound : Int} {k : Nat} {out : List UInt8} (hk : k < xs.length) : exT bound k out (xs.drop k) = if wrongR xs[k] out.length bound = 0 then exT bound (k + 1) (againL xs[k].off.toNat xs[k].len.toNat (out ++ xs[k].lit)) (xs.drop (k + 1)) else ([], wrongR xs[k] out.length bound, k) := by
  rw [List.drop_eq_getElem_cons hk]; rfl
theorem exT_last {xs : List Tok} {bound : Int} {out : List UInt8} : exT bound xs.length out (xs.drop xs.length) = (out, 0, 0) := by
  rw [List.drop_length]; rfl

set_option maxRecDepth 100000 in
set_option maxHeartbeats 6400000 in
theorem ref12_tokens (w : World) (xs : List Tok) (a : Option Addr) (n c : Nat) (hl : rToks.r (· < w.heap.size) w [.slice a n c] xs) (bound : Int) (hbd : -4611686018427387904 ≤ bound ∧ bound ≤ 1048576) :
    Calls Try.prog 13 #[.slice a n c, .int .i64 bound] w fun r w' => ∃ v, r = .returned (.tuple #[v, .agg #[.int .i64 (exT bound 0 [] xs).2.1, .int .i64 (exT bound 0 [] xs).2.2]]) ∧ rBytes.r (fun q => w.heap.size ≤ q ∧ q < w'.heap.size) w' [v] (exT bound 0 [] xs).1 ∧ Below w.heap.size w w' := by
  obtain ⟨rfl, hm, _, _⟩ := sl_len hl
  have HL := hid hl; clear hl
  go_enter Try.func13, Try.ntmps13
  go_wp2_with fail
  go_loopw [6, 7] (fun o i wr => ∃ (k : Nat) (J : List UInt8) (aJ : Option Addr) (cJ : Nat), k ≤ xs.length ∧ i = .int .i64 k ∧ o = .slice aJ J.length cJ ∧ rBytes.r (fun q => w.heap.size + 1 ≤ q ∧ q < wr.heap.size) wr [.slice aJ J.length cJ] J ∧ Hid (exT bound 0 [] xs = exT bound k J (xs.drop k)) ∧ J.length ≤ 1048576 ∧ Below w.heap.size w wr ∧ w.heap.size + 1 ≤ wr.heap.size ∧ Blk wr w.heap.size 35 #[.int .i64 0, .int .i64 0]) (fun _ i _ => xs.length - (intOf i).toNat)
  case atStart => exact ⟨0, [], none, 0, Nat.zero_le _, rfl, rfl, empty_bytes rfl rfl (by omega), hid rfl, by simp, by (repeat (first | with_reducible exact Below.refl _ _ | with_reducible assumption | (with_reducible refine below_alloc ?_ _) | (with_reducible refine Below.setCell ?_ (by first | omega | (simp; done) | (simp; omega)) _) | (with_reducible refine Below.drew ?_) | (with_reducible refine below_drewN ?_ _) | (refine below_then (by with_reducible assumption) ?_))), by simp, by (repeat (first | assumption | exact Blk.newAt _ _ _ (by first | (simp; done) | (simp; omega)) | refine Blk.alloc ?_ _ | refine Blk.drew ?_ | refine Blk.drewN ?_ _ | refine Blk.far ?_ (by first | (simp; done) | (simp; omega)) _))⟩
  case round =>
    obtain ⟨k, J, aJ, cJ, hk, rfl, rfl, ho, hJ, hln, hb, hbs, hF⟩ := hrel
    rcases Nat.lt_or_ge k xs.length with hlt | hge
    · obtain ⟨b, o, hA, hbb, a2, c2, x0, x1, x2, hb1, hb2, hD⟩ := tok_at HL.out hlt
      subst hA
      have X0 := (hb.cell (p := ⟨b, o + k * 3, none⟩) hbb).trans x0
      have X1 := (hb.cell (p := ⟨b, o + k * 3 + 1, none⟩) hbb).trans x1
      have X2 := (hb.cell (p := ⟨b, o + k * 3 + 2, none⟩) hbb).trans x2
      have hst := exT_step (bound := bound) (out := J) hlt
      have HRT := hid (fun (W : World) => ref11_right xs[k] a2 c2 W (by have := (sl_len hD).2.1; omega) hb1 hb2)
      have HLN := hid (fun (W : World) => ref11_len xs[k] a2 c2 W (by have := (sl_len hD).2.1; omega) hb1 hb2)
      have hnl := tokN_le xs[k]
      have HDD := hid (lift hD hb)
      have i1 : (k : Int) < (xs.length : Int) := by omega
      have d1 : decide ((k : Int) < (xs.length : Int)) = true := decide_eq_true i1
      clear x0 x1 x2 hD
      by_cases hr : rightB xs[k] = true
      · by_cases hN : bound - J.length < tokN xs[k]
        · have hw : wrongR xs[k] J.length bound = 11 := by unfold wrongR; rw [if_pos hr, if_pos hN]
          rw [hw, if_neg (by omega)] at hst
          rw [hr] at HRT
          have d2 : decide (bound < (J.length : Int) + tokN xs[k]) = true := decide_eq_true (by omega)
          have HFA := hid (fun (W : World) => ref01_at W 11 (k : Int) (by omega))
          have HST := hid (hJ.out.trans hst)
          generalize tokN xs[k] = N at *
          generalize xs[k] = y at *
          obtain ⟨D, of, m⟩ := y
          dsimp only at *
          clear hst hJ ho hr hN hw
          go_wp2_with fail
          refine (HRT.out _).mono ?_
          rintro r w4 ⟨rfl, hb4⟩
          have Y0 := (hb4.cell (p := ⟨b, o + k * 3, none⟩) (World.block_lt_of_cell? _ _ X0)).trans X0
          have Y1 := (hb4.cell (p := ⟨b, o + k * 3 + 1, none⟩) (World.block_lt_of_cell? _ _ X1)).trans X1
          have Y2 := (hb4.cell (p := ⟨b, o + k * 3 + 2, none⟩) (World.block_lt_of_cell? _ _ X2)).trans X2
          have HF4 := hid (hF.later hb4)
          have hbw4 := below_then hb4 hb
          clear hb4 X0 X1 X2 hF
          go_wp2_with fail
          refine (HLN.out _).mono ?_
          rintro r w5 ⟨rfl, hb5⟩
          have HF5 := hid (HF4.out.later hb5)
          have hbw5 := below_then hb5 hbw4
          clear hb5 Y0 Y1 Y2
          go_wp2_with fail
          refine (HFA.out _).mono ?_
          rintro r w6 ⟨rfl, hb6⟩
          have F6 := HF5.out.later hb6
          obtain ⟨y0, y1, g0, g1, l1⟩ := f_blk F6
          have hbw6 := below_then hb6 hbw5
          clear F6 hb6
          go_wp2
          rw [HST.out]
          refine bodyPost_ret (v := .tuple #[.slice none 0 0, .agg #[.int .i64 11, .int .i64 (k : Int)]]) (by simp [results, Try.results13, go_sem, y0, y1, l1]) rfl ⟨_, rfl, empty_bytes rfl rfl (by omega), by (repeat (first | with_reducible exact Below.refl _ _ | with_reducible assumption | (with_reducible refine below_alloc ?_ _) | (with_reducible refine Below.setCell ?_ (by first | omega | (simp; done) | (simp; omega)) _) | (with_reducible refine Below.drew ?_) | (with_reducible refine below_drewN ?_ _) | (refine below_then (by with_reducible assumption) ?_)))⟩
        · by_cases hof : (J.length : Int) < xs[k].off
          · have hw : wrongR xs[k] J.length bound = 10 := by unfold wrongR; rw [if_pos hr, if_neg hN, if_pos hof]
            rw [hw, if_neg (by omega)] at hst
            rw [hr] at HRT
            have d2 : decide (bound < (J.length : Int) + tokN xs[k]) = false := decide_eq_false (by omega)
            have d3 : decide ((J.length : Int) < xs[k].off) = true := decide_eq_true hof
            have HFA := hid (fun (W : World) => ref01_at W 10 (k : Int) (by omega))
            have HST := hid (hJ.out.trans hst)
            generalize tokN xs[k] = N at *
            generalize xs[k] = y at *
            obtain ⟨D, of, m⟩ := y
            dsimp only at *
            clear hst hJ ho hr hN hw
            go_wp2_with fail
            refine (HRT.out _).mono ?_
            rintro r w4 ⟨rfl, hb4⟩
            have Y0 := (hb4.cell (p := ⟨b, o + k * 3, none⟩) (World.block_lt_of_cell? _ _ X0)).trans X0
            have Y1 := (hb4.cell (p := ⟨b, o + k * 3 + 1, none⟩) (World.block_lt_of_cell? _ _ X1)).trans X1
            have Y2 := (hb4.cell (p := ⟨b, o + k * 3 + 2, none⟩) (World.block_lt_of_cell? _ _ X2)).trans X2
            have HF4 := hid (hF.later hb4)
            have hbw4 := below_then hb4 hb
            clear hb4 X0 X1 X2 hF
            go_wp2_with fail
            refine (HLN.out _).mono ?_
            rintro r w5 ⟨rfl, hb5⟩
            have HF5 := hid (HF4.out.later hb5)
            have hbw5 := below_then hb5 hbw4
            have Z1 := (hb5.cell (p := ⟨b, o + k * 3 + 1, none⟩) (World.block_lt_of_cell? _ _ Y1)).trans Y1
            clear hb5 Y0 Y1 Y2
            go_wp2_with fail
            refine (HFA.out _).mono ?_
            rintro r w6 ⟨rfl, hb6⟩
            have F6 := HF5.out.later hb6
            obtain ⟨y0, y1, g0, g1, l1⟩ := f_blk F6
            have hbw6 := below_then hb6 hbw5
            clear F6 hb6 Z1
            go_wp2
            rw [HST.out]
            refine bodyPost_ret (v := .tuple #[.slice none 0 0, .agg #[.int .i64 10, .int .i64 (k : Int)]]) (by simp [results, Try.results13, go_sem, y0, y1, l1]) rfl ⟨_, rfl, empty_bytes rfl rfl (by omega), by (repeat (first | with_reducible exact Below.refl _ _ | with_reducible assumption | (with_reducible refine below_alloc ?_ _) | (with_reducible refine Below.setCell ?_ (by first | omega | (simp; done) | (simp; omega)) _) | (with_reducible refine Below.drew ?_) | (with_reducible refine below_drewN ?_ _) | (refine below_then (by with_reducible assumption) ?_)))⟩
          · have hw : wrongR xs[k] J.length bound = 0 := by unfold wrongR; rw [if_pos hr, if_neg hN, if_neg hof]
            rw [if_pos hw] at hst
            rw [hr] at HRT
            obtain ⟨D, of, m, ht, hc, htn, hfit, hDl, hml, hrt⟩ := wrong_zero hw
            have d2 : decide (bound < (J.length : Int) + tokN xs[k]) = false := decide_eq_false (by omega)
            have d3 : decide ((J.length : Int) < xs[k].off) = false := decide_eq_false hof
            generalize tokN xs[k] = N at *
            generalize xs[k] = y at *
            subst ht
            dsimp only at *
            rw [Int.toNat_natCast, Int.toNat_natCast] at hst
            have hall := againL_len of m (J ++ D)
            have HST := hid (hJ.out.trans hst)
            have HJR := hid (rBytes.mono (S' := (· < wr.heap.size)) ho fun q hq => hq.2)
            have HWI := hid (fun (W : World) (hW : Below wr.heap.size wr W) => ref12_with W J aJ _ cJ (lift HJR.out hW) D a2 _ c2 (lift HDD.out hW) of m hc (by omega))
            simp only [List.length_append] at hall
            have d3' : decide (J.length < of) = false := decide_eq_false (by omega)
            clear hst hJ ho hr hN hw hc hof hrt htn
            go_wp2_with fail
            refine (HRT.out _).mono ?_
            rintro r w4 ⟨rfl, hb4⟩
            have Y0 := (hb4.cell (p := ⟨b, o + k * 3, none⟩) (World.block_lt_of_cell? _ _ X0)).trans X0
            have Y1 := (hb4.cell (p := ⟨b, o + k * 3 + 1, none⟩) (World.block_lt_of_cell? _ _ X1)).trans X1
            have Y2 := (hb4.cell (p := ⟨b, o + k * 3 + 2, none⟩) (World.block_lt_of_cell? _ _ X2)).trans X2
            clear X0 X1 X2
            go_wp2_with fail
            refine (HLN.out _).mono ?_
            rintro r w5 ⟨rfl, hb5⟩
            have hb05 := below_then hb5 hb4
            have Z0 := (hb5.cell (p := ⟨b, o + k * 3, none⟩) (World.block_lt_of_cell? _ _ Y0)).trans Y0
            have Z1 := (hb5.cell (p := ⟨b, o + k * 3 + 1, none⟩) (World.block_lt_of_cell? _ _ Y1)).trans Y1
            have Z2 := (hb5.cell (p := ⟨b, o + k * 3 + 2, none⟩) (World.block_lt_of_cell? _ _ Y2)).trans Y2
            have HF5 := hid (hF.later hb05)
            have hbw5 := below_then hb05 hb
            clear hb5 hb4 Y0 Y1 Y2 hF
            go_wp2_with fail
            refine (HWI.out _ hb05).mono ?_
            rintro r w6 ⟨v6, rfl, hr6, hb6⟩
            obtain ⟨a6, c6, hv6, hr6', _⟩ := sl_form hr6
            simp only [List.cons.injEq, and_true] at hv6
            subst hv6
            have HF6 := hid (HF5.out.later hb6)
            have hbw6 := below_then hb6 hbw5
            have hs5 := hb05.size
            have hs6 := hb6.size
            have HR6 := hid (rBytes.mono (S' := fun q => w.heap.size + 1 ≤ q ∧ q < w6.heap.size) hr6' fun q hq => ⟨by omega, hq.2⟩)
            clear hr6 hr6' hb6 Z0 Z1 Z2
            go_wp2
            go_roundw
            case rel => exact ⟨k + 1, againL of m (J ++ D), a6, c6, by omega, by go_num, by rw [hall], HR6.out, HST, by omega, hbw6, by omega, HF6.out⟩
            case measure => simp [intOf]; omega
      · have hw : wrongR xs[k] J.length bound = 3 := by unfold wrongR; rw [if_neg hr]
        rw [hw, if_neg (by omega)] at hst
        rw [Bool.eq_false_iff.2 hr] at HRT
        have HFA := hid (fun (W : World) => ref01_at W 3 (k : Int) (by omega))
        have HST := hid (hJ.out.trans hst)
        generalize xs[k] = y at *
        obtain ⟨D, of, m⟩ := y
        dsimp only at *
        clear hst hJ ho hr hw
        go_wp2_with fail
        refine (HRT.out _).mono ?_
        rintro r w4 ⟨rfl, hb4⟩
        have HF4 := hid (hF.later hb4)
        have hbw4 := below_then hb4 hb
        clear hb4 X0 X1 X2 hF
        go_wp2_with fail
        refine (HFA.out _).mono ?_
        rintro r w6 ⟨rfl, hb6⟩
        have F6 := HF4.out.later hb6
        obtain ⟨y0, y1, g0, g1, l1⟩ := f_blk F6
        have hbw6 := below_then hb6 hbw4
        clear F6 hb6
        go_wp2
        rw [HST.out]
        refine bodyPost_ret (v := .tuple #[.slice none 0 0, .agg #[.int .i64 3, .int .i64 (k : Int)]]) (by simp [results, Try.results13, go_sem, y0, y1, l1]) rfl ⟨_, rfl, empty_bytes rfl rfl (by omega), by (repeat (first | with_reducible exact Below.refl _ _ | with_reducible assumption | (with_reducible refine below_alloc ?_ _) | (with_reducible refine Below.setCell ?_ (by first | omega | (simp; done) | (simp; omega)) _) | (with_reducible refine Below.drew ?_) | (with_reducible refine below_drewN ?_ _) | (refine below_then (by with_reducible assumption) ?_)))⟩
    · obtain rfl : k = xs.length := by omega
      have d1 : decide ((xs.length : Int) < (xs.length : Int)) = false := decide_eq_false (by omega)
      have hfin : Hid (exT bound 0 [] xs = (J, 0, 0)) := hid (hJ.out.trans exT_last)
      have HV := hid ho
      obtain ⟨y0, y1, g0, g1, l1⟩ := f_blk hF
      clear ho hJ hF
      go_wp2
      rw [hfin.out]
      refine bodyPost_ret (v := .tuple #[.slice aJ J.length cJ, .agg #[.int .i64 0, .int .i64 0]]) (by simp [results, Try.results13, go_sem, y0, y1, l1]) rfl ⟨_, rfl, ?_, by (repeat (first | with_reducible exact Below.refl _ _ | with_reducible assumption | (with_reducible refine below_alloc ?_ _) | (with_reducible refine Below.setCell ?_ (by first | omega | (simp; done) | (simp; omega)) _) | (with_reducible refine Below.drew ?_) | (with_reducible refine below_drewN ?_ _) | (refine below_then (by with_reducible assumption) ?_)))⟩
      refine rBytes.mono (rBytes.keep HV.out fun q hq => ?_) fun q hq => ⟨by omega, by simp [World.setCell]; exact hq.2⟩
      repeat (rw [Below.heap_setCell _ _ _ _ (by dsimp only; omega)])
end Go.Proofs.Ytlkpnpbodbokkaa
namespace Go.Proofs.Ytlkpnpbodbokkaa
open Go.RowKit Go.Bs
set_option linter.unusedVariables false
set_option linter.unusedSimpArgs false

/-- In how many bytes a copy, a run is written. -/
def csz (o n : Nat) : Nat := (varB (2 * n - 7)).length + (varB (o - 1)).length
def rsz (n : Nat) : Nat := (varB (2 * n - 2)).length + n
theorem varB_le' (x : Nat) : (varB x).length ≤ 10 := (varB_len x).1
theorem varF_mono : ∀ (f x y : Nat), x ≤ y → (varF f x).length ≤ (varF f y).length
  | 0, x, y, h => by simp [varF]
  | f + 1, x, y, h => by
    unfold varF
    by_cases hy : y < 128
    · rw [if_pos (by omega), if_pos hy]; simp
    · rw [if_neg hy]
      split
      · simp
      · simp only [List.length_cons]
        have := varF_mono f (x / 128) (y / 128) (Nat.div_le_div_right h)
        omega
theorem csz_mono (o o' n : Nat) (h : o ≤ o') : csz o n ≤ csz o' n := by
  unfold csz
  have := varF_mono 9 (o - 1) (o' - 1) (by omega)
  unfold varB
  omega

/-- The copies that may stand at a place: of each length the nearest one. -/
def nearTo (b : List UInt8) (p : Nat) : Nat → List (Nat × Nat) × Nat
  | 0 => ([], 3)
  | k + 1 => ((nearTo b p k).1 ++ (List.range (mlen b p (k + 1) - (nearTo b p k).2)).map (fun j => (k + 1, (nearTo b p k).2 + 1 + j)), max (nearTo b p k).2 (mlen b p (k + 1)))
def nearC (b : List UInt8) (p : Nat) : List (Nat × Nat) := (nearTo b p (reach p)).1
def Cop (b : List UInt8) (p : Nat) (x : Nat × Nat) : Prop := 1 ≤ x.1 ∧ x.1 ≤ reach p ∧ 4 ≤ x.2 ∧ x.2 ≤ mlen b p x.1
theorem nearTo_3 (b : List UInt8) (p : Nat) : ∀ k, 3 ≤ (nearTo b p k).2
  | 0 => Nat.le_refl _
  | k + 1 => by unfold nearTo; exact Nat.le_trans (nearTo_3 b p k) (Nat.le_max_left _ _)
theorem nearTo_cop (b : List UInt8) (p : Nat) : ∀ k x, x ∈ (nearTo b p k).1 → 1 ≤ x.1 ∧ x.1 ≤ k ∧ 4 ≤ x.2 ∧ x.2 ≤ mlen b p x.1
  | 0, x, h => by simp [nearTo] at h
  | k + 1, x, h => by
    unfold nearTo at h
    rcases List.mem_append.1 h with h | h
    · have := nearTo_cop b p k x h; omega
    · obtain ⟨j, hj, rfl⟩ := List.mem_map.1 h
      rw [List.mem_range] at hj
      have := nearTo_3 b p k
      dsimp only
      omega
theorem nearTo_new (b : List UInt8) (p k n : Nat) (h1 : (nearTo b p k).2 < n) (h2 : n ≤ mlen b p (k + 1)) : (k + 1, n) ∈ (nearTo b p (k + 1)).1 := by
  unfold nearTo
  refine List.mem_append_right _ (List.mem_map.2 ⟨n - (nearTo b p k).2 - 1, ?_, ?_⟩)
  · rw [List.mem_range]; omega
  · rw [Prod.mk.injEq]; exact ⟨rfl, by omega⟩
theorem nearTo_old (b : List UInt8) (p k : Nat) (x : Nat × Nat) (h : x ∈ (nearTo b p k).1) : x ∈ (nearTo b p (k + 1)).1 := by
  unfold nearTo; exact List.mem_append_left _ h
theorem nearTo_has (b : List UInt8) (p : Nat) : ∀ k n, 4 ≤ n → n ≤ (nearTo b p k).2 → ∃ o', o' ≤ k ∧ (o', n) ∈ (nearTo b p k).1
  | 0, n, h1, h2 => by simp [nearTo] at h2; omega
  | k + 1, n, h1, h2 => by
    by_cases h : n ≤ (nearTo b p k).2
    · obtain ⟨o', a1, a2⟩ := nearTo_has b p k n h1 h
      exact ⟨o', by omega, nearTo_old b p k _ a2⟩
    · have hm : n ≤ mlen b p (k + 1) := by
        have e : (nearTo b p (k + 1)).2 = max (nearTo b p k).2 (mlen b p (k + 1)) := rfl
        rw [e] at h2; omega
      exact ⟨k + 1, Nat.le_refl _, nearTo_new b p k n (by omega) hm⟩
theorem nearTo_all (b : List UInt8) (p : Nat) : ∀ k o n, 1 ≤ o → o ≤ k → 4 ≤ n → n ≤ mlen b p o → ∃ o', o' ≤ o ∧ (o', n) ∈ (nearTo b p k).1
  | 0, o, n, h1, h2, _, _ => by omega
  | k + 1, o, n, h1, h2, h3, h4 => by
    by_cases hk : o ≤ k
    · obtain ⟨o', a1, a2⟩ := nearTo_all b p k o n h1 hk h3 h4
      exact ⟨o', a1, nearTo_old b p k _ a2⟩
    · obtain rfl : o = k + 1 := by omega
      by_cases h : n ≤ (nearTo b p k).2
      · obtain ⟨o', a1, a2⟩ := nearTo_has b p k n h3 h
        exact ⟨o', by omega, nearTo_old b p k _ a2⟩
      · exact ⟨k + 1, Nat.le_refl _, nearTo_new b p k n (by omega) h4⟩
theorem near_cop {b : List UInt8} {p : Nat} {x : Nat × Nat} (h : x ∈ nearC b p) : Cop b p x := nearTo_cop b p _ x h
theorem near_all {b : List UInt8} {p o n : Nat} (h : Cop b p (o, n)) : ∃ o', o' ≤ o ∧ (o', n) ∈ nearC b p := nearTo_all b p _ o n h.1 h.2.1 h.2.2.1 h.2.2.2

/-- A way: how many bytes, its first token. -/
abbrev W3 := Nat × Nat × Nat
def wb (w x : W3) : W3 := if x.1 < w.1 then x else w
def wbs (w : W3) (l : List W3) : W3 := l.foldl wb w
theorem wbs_le (w : W3) (l : List W3) : (wbs w l).1 ≤ w.1 ∧ ∀ x ∈ l, (wbs w l).1 ≤ x.1 := by
  induction l generalizing w with
  | nil => exact ⟨Nat.le_refl _, fun x h => by simp at h⟩
  | cons a l ih =>
    have h := ih (wb w a)
    have h1 : (wb w a).1 ≤ w.1 ∧ (wb w a).1 ≤ a.1 := by unfold wb; split <;> omega
    refine ⟨Nat.le_trans h.1 h1.1, fun x hx => ?_⟩
    rcases List.mem_cons.1 hx with rfl | hx
    · exact Nat.le_trans h.1 h1.2
    · exact h.2 x hx
theorem wbs_in (w : W3) (l : List W3) : wbs w l = w ∨ wbs w l ∈ l := by
  induction l generalizing w with
  | nil => exact .inl rfl
  | cons a l ih =>
    rcases ih (wb w a) with h | h
    · by_cases hc : a.1 < w.1
      · right; show wbs (wb w a) l ∈ _; rw [h]; unfold wb; rw [if_pos hc]; exact List.mem_cons_self ..
      · left; show wbs (wb w a) l = w; rw [h]; unfold wb; rw [if_neg hc]
    · exact .inr (List.mem_cons_of_mem _ h)
/-- The ways from a place on (any; one that begins with a copy), I: what no way is. -/
def WW (b : List UInt8) (I : Nat) : Nat → Nat → W3 × W3
  | 0, _ => ((0, 0, 0), (0, 0, 0))
  | f + 1, p => if b.length ≤ p then ((0, 0, 0), (0, 0, 0)) else
    let C := wbs (I, 0, 0) ((nearC b p).map fun x => (csz x.1 x.2 + (WW b I f (p + x.2)).1.1, x.1, x.2))
    (wbs C ((List.range (b.length - p)).map fun n => (rsz (n + 1) + (WW b I f (p + (n + 1))).2.1, 0, n + 1)), C)
def Wf (b : List UInt8) (I p : Nat) : W3 := (WW b I (b.length - p) p).1
def Wc (b : List UInt8) (I p : Nat) : W3 := (WW b I (b.length - p) p).2
theorem WW_fuel (b : List UInt8) (I : Nat) : ∀ f g p, b.length ≤ p + f → b.length ≤ p + g → WW b I f p = WW b I g p
  | 0, 0, p, _, _ => rfl
  | 0, g + 1, p, h, _ => by unfold WW; rw [if_pos (by omega)]
  | f + 1, 0, p, _, h => by unfold WW; rw [if_pos (by omega)]
  | f + 1, g + 1, p, h1, h2 => by
    unfold WW
    by_cases hp : b.length ≤ p
    · rw [if_pos hp, if_pos hp]
    · rw [if_neg hp, if_neg hp]
      have e1 : (nearC b p).map (fun x => ((csz x.1 x.2 + (WW b I f (p + x.2)).1.1, x.1, x.2) : W3)) = (nearC b p).map (fun x => (csz x.1 x.2 + (WW b I g (p + x.2)).1.1, x.1, x.2)) := by
        apply List.map_congr_left
        intro x hx
        have := (near_cop hx).2.2.1
        rw [WW_fuel b I f g (p + x.2) (by omega) (by omega)]
      have e2 : (List.range (b.length - p)).map (fun n => ((rsz (n + 1) + (WW b I f (p + (n + 1))).2.1, 0, n + 1) : W3)) = (List.range (b.length - p)).map (fun n => (rsz (n + 1) + (WW b I g (p + (n + 1))).2.1, 0, n + 1)) := by
        apply List.map_congr_left
        intro n hn
        rw [WW_fuel b I f g (p + (n + 1)) (by omega) (by omega)]
      rw [e1, e2]
theorem WW_at (b : List UInt8) (I f p : Nat) (h : b.length ≤ p + f) : (WW b I f p).1 = Wf b I p ∧ (WW b I f p).2 = Wc b I p := by
  unfold Wf Wc
  rw [WW_fuel b I f (b.length - p) p h (by omega)]
  exact ⟨rfl, rfl⟩
def cList (b : List UInt8) (I p : Nat) (L : List (Nat × Nat)) : List W3 := L.map fun x => (csz x.1 x.2 + (Wf b I (p + x.2)).1, x.1, x.2)
def rList (b : List UInt8) (I p k : Nat) : List W3 := (List.range k).map fun n => (rsz (n + 1) + (Wc b I (p + (n + 1))).1, 0, n + 1)
theorem W_end (b : List UInt8) (I p : Nat) (h : b.length ≤ p) : Wf b I p = (0, 0, 0) ∧ Wc b I p = (0, 0, 0) := by
  unfold Wf Wc
  rw [show b.length - p = 0 by omega]
  exact ⟨rfl, rfl⟩
theorem W_step (b : List UInt8) (I p : Nat) (h : p < b.length) : Wc b I p = wbs (I, 0, 0) (cList b I p (nearC b p)) ∧ Wf b I p = wbs (Wc b I p) (rList b I p (b.length - p)) := by
  obtain ⟨f, hf⟩ : ∃ f, b.length - p = f + 1 := ⟨b.length - p - 1, by omega⟩
  have hw : ∀ q, p < q → (WW b I f q).1 = Wf b I q ∧ (WW b I f q).2 = Wc b I q := fun q hq => WW_at b I f q (by omega)
  have e1 : (nearC b p).map (fun x => ((csz x.1 x.2 + (WW b I f (p + x.2)).1.1, x.1, x.2) : W3)) = cList b I p (nearC b p) := by
    unfold cList
    apply List.map_congr_left
    intro x hx
    have := (near_cop hx).2.2.1
    rw [(hw _ (by omega)).1]
  have e2 : (List.range (b.length - p)).map (fun n => ((rsz (n + 1) + (WW b I f (p + (n + 1))).2.1, 0, n + 1) : W3)) = rList b I p (b.length - p) := by
    unfold rList
    apply List.map_congr_left
    intro n hn
    rw [(hw _ (by omega)).2]
  have hC : Wc b I p = wbs (I, 0, 0) (cList b I p (nearC b p)) := by
    conv => lhs; unfold Wc; rw [hf]; unfold WW
    rw [if_neg (by omega)]
    dsimp only
    rw [e1]
  refine ⟨hC, ?_⟩
  conv => lhs; unfold Wf; rw [hf]; unfold WW
  rw [if_neg (by omega)]
  dsimp only
  rw [e1, e2, ← hC]
end Go.Proofs.Ytlkpnpbodbokkaa
namespace Go.Proofs.Ytlkpnpbodbokkaa
open Go.RowKit Go.Bs
set_option linter.unusedVariables false
set_option linter.unusedSimpArgs false

def w3C (x : W3) : Array Value := #[.int .i64 (x.1 : Int), .int .i64 (x.2.1 : Int), .int .i64 (x.2.2 : Int)]

set_option maxRecDepth 100000 in
set_option maxHeartbeats 1600000 in
theorem run_size (n : Nat) (h1 : 1 ≤ n) (h2 : n ≤ 100000) (w : World) : Calls Try.prog 34 #[.int .i64 (n : Int)] w fun r w' => r = .returned (.int .i64 (rsz n : Int)) ∧ Below w.heap.size w w' := by
  have HS := hid (varint_size (2 * n - 2) (by omega))
  have e : ((2 * n - 2 : Nat) : Int) = ((n : Int) - 1) * 2 := by omega
  rw [e] at HS
  have hl := varB_le' (2 * n - 2)
  have HR : Hid ((rsz n : Int) = ((varB (2 * n - 2)).length : Int) + (n : Int)) := hid (by unfold rsz; omega)
  generalize (varB (2 * n - 2)).length = k at *
  clear e
  go_enter Try.func34, Try.ntmps34
  go_wp2_with fail
  refine (HS.out w).mono ?_
  rintro r w1 ⟨rfl, hb1⟩
  go_wp2_with fail
  go_ret
  exact ⟨by rw [HR.out]; rfl, hb1⟩

set_option maxRecDepth 100000 in
set_option maxHeartbeats 1600000 in
theorem copy_size (o n : Nat) (h1 : 1 ≤ o) (h2 : o ≤ 65536) (h3 : 4 ≤ n) (h4 : n ≤ 100000) (w : World) : Calls Try.prog 33 #[.int .i64 (o : Int), .int .i64 (n : Int)] w fun r w' => r = .returned (.int .i64 (csz o n : Int)) ∧ Below w.heap.size w w' := by
  have HS := hid (varint_size (2 * n - 7) (by omega))
  have HT := hid (varint_size (o - 1) (by omega))
  have e : ((2 * n - 7 : Nat) : Int) = ((n : Int) - 4) * 2 + 1 := by omega
  rw [e] at HS
  have e2 : ((o - 1 : Nat) : Int) = (o : Int) - 1 := by omega
  rw [e2] at HT
  have hl := varB_le' (2 * n - 7)
  have hl2 := varB_le' (o - 1)
  have HR : Hid ((csz o n : Int) = ((varB (2 * n - 7)).length : Int) + ((varB (o - 1)).length : Int)) := hid (by unfold csz; omega)
  generalize (varB (2 * n - 7)).length = k at *
  generalize (varB (o - 1)).length = k2 at *
  clear e e2
  go_enter Try.func33, Try.ntmps33
  go_wp2_with fail
  refine (HS.out w).mono ?_
  rintro r w1 ⟨rfl, hb1⟩
  go_wp2_with fail
  refine (HT.out _).mono ?_
  rintro r w2 ⟨rfl, hb2⟩
  go_wp2_with fail
  go_ret
  exact ⟨by rw [HR.out]; rfl, hb1.trans (hb2.mono hb1.size)⟩

set_option maxRecDepth 100000 in
set_option maxHeartbeats 1600000 in
theorem better_c (g : Nat) (a x : W3) (ha : a.1 ≤ 2000000000000) (hx : x.1 ≤ 2000000000000) (w : World) (h : Blk w g 45 (w3C a)) :
    Calls Try.prog 32 #[.pointer (some ⟨g, 0, none⟩), .agg (w3C x)] w fun r w' => r = .returned (.tuple #[]) ∧ Blk w' g 45 (w3C (wb a x)) ∧ Tch (· = g) w w' := by
  obtain ⟨a1, a2, a3⟩ := a
  obtain ⟨x1, x2, x3⟩ := x
  have HBk := hid h
  have hlt := h.lt
  have c0 : w.cell? ⟨g, 0, none⟩ = some (.int .i64 (a1 : Int)) := h.cell 0
  have hn : Blk (w.alloc (.cells (w3C (x1, x2, x3)) 45)) w.heap.size 45 (w3C (x1, x2, x3)) := Blk.new ..
  have hold := h.alloc (.cells (w3C (x1, x2, x3)) 45)
  have HT : Hid (Tch (· = g) w (w.alloc (.cells (w3C (x1, x2, x3)) 45))) := hid ((Tch.refl _ _).alloc _)
  unfold w3C at *
  dsimp only at *
  have z0 := hn.cell 0
  have y0 := hold.cell 0
  by_cases hb : x1 < a1
  · have hd : decide ((x1 : Int) < (a1 : Int)) = true := decide_eq_true (by omega)
    have hd2 : decide (x1 < a1) = true := decide_eq_true hb
    have HW : Hid (wb (a1, a2, a3) (x1, x2, x3) = (x1, x2, x3)) := hid (by unfold wb; rw [if_pos hb])
    clear hb
    have X0 := fun z : Later (w.alloc (.cells #[.int .i64 (x1 : Int), .int .i64 (x2 : Int), .int .i64 (x3 : Int)] 45)) => z.cell z0
    have X1 := fun z : Later (w.alloc (.cells #[.int .i64 (x1 : Int), .int .i64 (x2 : Int), .int .i64 (x3 : Int)] 45)) => z.cell y0
    have HNe := hid hn
    have HOl := hid hold
    go_enter Try.func32, Try.ntmps32
    go_wp2_with fail
    refine wp_region_later (by kernel_rfl) (by kernel_rfl) ?_
    repeat (go_big_quiet_step (fail))
    refine wpQuiet_nil ?_
    rintro W5 ⟨⟨W5', hb5⟩, rfl⟩
    have HT5 := hid (HT.out.trans (Tch.of_later (F := (· = g)) hb5) fun _ _ h => h)
    have HN5 := hid (HNe.out.later hb5)
    have HO5 := hid (HOl.out.later hb5)
    have n0 := HN5.out.cell 0
    have n1 := HN5.out.cell 1
    have n2 := HN5.out.cell 2
    have m0 := HO5.out.cell 0
    have m1 := HO5.out.cell 1
    have m2 := HO5.out.cell 2
    have k0 := HO5.out.free 0
    have k1 := HO5.out.free 1
    have k2 := HO5.out.free 2
    go_wp2_with fail
    go_end0
    have hs := ((HO5.out.set 0 (.int .i64 (x1 : Int))).set 1 (.int .i64 (x2 : Int))).set 2 (.int .i64 (x3 : Int))
    simp only [List.setIfInBounds_toArray, List.set_cons_zero, List.set_cons_succ] at hs
    exact ⟨rfl, by rw [HW.out]; exact hs, ((HT5.out.setCell (fun _ => rfl) _).setCell (fun _ => rfl) _).setCell (fun _ => rfl) _⟩
  · have hd : decide ((x1 : Int) < (a1 : Int)) = false := decide_eq_false (by omega)
    have hd2 : decide (x1 < a1) = false := decide_eq_false hb
    have HW : Hid (wb (a1, a2, a3) (x1, x2, x3) = (a1, a2, a3)) := hid (by unfold wb; rw [if_neg hb])
    clear hb
    have X0 := fun z : Later (w.alloc (.cells #[.int .i64 (x1 : Int), .int .i64 (x2 : Int), .int .i64 (x3 : Int)] 45)) => z.cell z0
    have X1 := fun z : Later (w.alloc (.cells #[.int .i64 (x1 : Int), .int .i64 (x2 : Int), .int .i64 (x3 : Int)] 45)) => z.cell y0
    have HNe := hid hn
    have HOl := hid hold
    go_enter Try.func32, Try.ntmps32
    go_wp2_with fail
    refine wp_region_later (by kernel_rfl) (by kernel_rfl) ?_
    repeat (go_big_quiet_step (fail))
    refine wpQuiet_nil ?_
    rintro W5 ⟨⟨W5', hb5⟩, rfl⟩
    have HT5 := hid (HT.out.trans (Tch.of_later (F := (· = g)) hb5) fun _ _ h => h)
    have HN5 := hid (HNe.out.later hb5)
    have HO5 := hid (HOl.out.later hb5)
    have n0 := HN5.out.cell 0
    have n1 := HN5.out.cell 1
    have n2 := HN5.out.cell 2
    have m0 := HO5.out.cell 0
    have m1 := HO5.out.cell 1
    have m2 := HO5.out.cell 2
    have k0 := HO5.out.free 0
    have k1 := HO5.out.free 1
    have k2 := HO5.out.free 2
    go_wp2_with fail
    go_end0
    exact ⟨rfl, by rw [HW.out]; exact HO5.out, HT5.out⟩
end Go.Proofs.Ytlkpnpbodbokkaa
namespace Go.Proofs.Ytlkpnpbodbokkaa
open Go.RowKit Go.Bs
set_option linter.unusedVariables false
set_option linter.unusedSimpArgs false

def nearIn (b : List UInt8) (p k j : Nat) : List (Nat × Nat) := (nearTo b p k).1 ++ (List.range j).map (fun j => (k + 1, (nearTo b p k).2 + 1 + j))
theorem nearIn_zero (b : List UInt8) (p k : Nat) : nearIn b p k 0 = (nearTo b p k).1 := by simp [nearIn]
theorem nearIn_succ (b : List UInt8) (p k j : Nat) : nearIn b p k (j + 1) = nearIn b p k j ++ [(k + 1, (nearTo b p k).2 + 1 + j)] := by
  unfold nearIn; rw [List.range_succ, List.map_append, List.append_assoc]; rfl
theorem nearTo_le (b : List UInt8) (p : Nat) : ∀ k, (nearTo b p k).2 ≤ b.length + 3
  | 0 => by simp [nearTo]
  | k + 1 => by
    unfold nearTo
    have := nearTo_le b p k
    have := mlen_le b p (k + 1)
    dsimp only
    omega

set_option maxRecDepth 100000 in
set_option maxHeartbeats 3200000 in
theorem copies_c (b : List UInt8) (a : Option Addr) (n c p : Nat) (hb : b.length ≤ 1000) (hp : p < b.length) (fn : FuncId) (caps : Array Value)
    (ent : ∀ (xs : Array Value) (W : World), (callFunc fn xs).run Try.prog W = .ok (.enter fn xs) W) (I : List (Nat × Nat) → World → Prop)
    (hI : ∀ L W, I L W → rBytes.r (· < W.heap.size) W [.slice a n c] b) (hB : ∀ L W W', I L W → Below W.heap.size W W' → I L W')
    (hstep : ∀ L o m W, I L W → Cop b p (o, m) → Calls Try.prog fn (#[.int .i64 (o : Int), .int .i64 (m : Int)] ++ caps) W fun r W' => r = .returned (.tuple #[]) ∧ I (L ++ [(o, m)]) W')
    (w : World) (h0 : I [] w) :
    Calls Try.prog 30 #[.slice a n c, .int .i64 (p : Int), .func (Fn.func fn) #[] caps] w fun r w' => r = .returned (.tuple #[]) ∧ I (nearC b p) w' := by
  have HI := hid hI
  have HB := hid hB
  have HS := hid hstep
  have HE := hid ent
  have HM := hid (fun (k : Nat) (hk : k + 1 ≤ 1048577) (W : World) (hl : rBytes.r (· < W.heap.size) W [.slice a n c] b) => seek_match1 b p (k + 1) a n c W hl (by omega) (by omega) hk)
  have H3 := hid (nearTo_3 b p)
  have HLe := hid (nearTo_le b p)
  have er : min (p : Int) 65536 = ((reach p : Nat) : Int) := by unfold reach; omega
  have hrp : reach p ≤ 65536 := by unfold reach; omega
  have HN : Hid (nearC b p = (nearTo b p (reach p)).1) := hid rfl
  have HX0 := hid h0
  clear hI hB hstep ent h0
  have hR : reach p = p := by unfold reach; omega
  rw [hR] at er hrp HN
  have HR := hid hR
  have hp6 : (p : Int) < 65536 := by omega
  have hp7 : (p : Int) ≤ 65536 := by omega
  have hp8 : ¬ (65536 : Int) < (p : Int) := by omega
  clear hR
  go_enter Try.func30, Try.ntmps30
  go_wp2_with fail
  go_loopw [6, 7] (fun lg off wr => ∃ k : Nat, k ≤ p ∧ off = .int .i64 ((k : Int) + 1) ∧ lg = .int .i64 ((nearTo b p k).2 : Int) ∧ I (nearTo b p k).1 wr) (fun _ off _ => p + 1 - (intOf off).toNat)
  case atStart => exact ⟨0, by omega, rfl, rfl, HX0.out⟩
  case round =>
    obtain ⟨k, hk, rfl, rfl, hX⟩ := hrel
    have HX := hid hX
    clear hX
    by_cases hlt : k < p
    · have i1 : decide ((k : Int) + 1 ≤ (p : Int)) = true := decide_eq_true (by omega)
      have HMk := hid (HM.out k (by omega) wr (HI.out _ _ HX.out))
      have hl3 := H3.out k
      have hle := HLe.out k
      have hml := mlen_le b p (k + 1)
      have HNx : Hid (nearTo b p (k + 1) = (nearIn b p k (mlen b p (k + 1) - (nearTo b p k).2), max (nearTo b p k).2 (mlen b p (k + 1)))) := hid rfl
      have HZ : Hid (nearIn b p k 0 = (nearTo b p k).1) := hid (nearIn_zero b p k)
      have HSc : Hid (∀ j, nearIn b p k (j + 1) = nearIn b p k j ++ [(k + 1, (nearTo b p k).2 + 1 + j)]) := hid (nearIn_succ b p k)
      have ek : ((k + 1 : Nat) : Int) = (k : Int) + 1 := by omega
      rw [ek] at HMk
      have HCp : Hid (∀ j, j < mlen b p (k + 1) - (nearTo b p k).2 → Cop b p (k + 1, (nearTo b p k).2 + 1 + j)) := hid (fun j hj => ⟨by dsimp only; omega, by dsimp only; rw [HR.out]; omega, by dsimp only; omega, by dsimp only; omega⟩)
      have HX' : Hid (I (nearIn b p k 0) wr) := hid (by rw [HZ.out]; exact HX.out)
      generalize nearIn b p k = NI at *
      generalize (nearTo b p k).2 = lg at *
      generalize mlen b p (k + 1) = m at *
      clear ek
      go_wp2_with fail
      refine HMk.out.mono ?_
      rintro r w1 ⟨rfl, hb1⟩
      have HX1 := hid (HB.out _ _ _ HX'.out hb1)
      clear hb1
      go_wp2_with fail
      go_loopw [9] (fun nn wr => ∃ j : Nat, j ≤ m - lg ∧ nn = .int .i64 ((lg : Int) + 1 + (j : Int)) ∧ I (NI j) wr) (fun nn _ => m + 1 - (intOf nn).toNat)
      case atStart => exact ⟨0, by omega, by simp, HX1.out⟩
      case round =>
        obtain ⟨j, hj, rfl, hXj⟩ := hrel
        have HXj := hid hXj
        clear hXj
        by_cases hjm : j < m - lg
        · have i2 : decide ((lg : Int) + 1 + (j : Int) ≤ (m : Int)) = true := decide_eq_true (by omega)
          have HSj := hid (HS.out _ (k + 1) (lg + 1 + j) _ HXj.out (HCp.out j hjm))
          have e1 : ((k + 1 : Nat) : Int) = (k : Int) + 1 := by omega
          have e2 : ((lg + 1 + j : Nat) : Int) = (lg : Int) + 1 + (j : Int) := by omega
          rw [e1, e2] at HSj
          clear e1 e2
          go_wp2_with fail
          rw [HE.out]
          refine HSj.out.mono ?_
          rintro r w2 ⟨rfl, hX2⟩
          have HX2 := hid hX2
          clear hX2
          go_wp2_with fail
          go_roundw
          case rel => exact ⟨j + 1, by omega, by go_num, by rw [HSc.out]; exact HX2.out⟩
          case measure => simp [intOf]; omega
        · have hje : j = m - lg := by omega
          have i2 : decide ((lg : Int) + 1 + (j : Int) ≤ (m : Int)) = false := decide_eq_false (by omega)
          have HXn : Hid (I (nearTo b p (k + 1)).1 wr) := hid (by rw [HNx.out, ← hje]; exact HXj.out)
          have HL : Hid ((nearTo b p (k + 1)).2 = max lg m) := hid (by rw [HNx.out])
          clear hje
          go_wp2_with fail
          go_roundw
          case rel =>
            refine ⟨k + 1, by omega, by go_num, ?_, HXn.out⟩
            rw [HL.out]
            congr 1
            split <;> omega
          case measure => simp [intOf]; omega
    · obtain rfl : k = p := by omega
      have i1 : decide ((k : Int) + 1 ≤ (k : Int)) = false := decide_eq_false (by omega)
      go_wp2_with fail
      go_end0
      exact ⟨rfl, by rw [HN.out]; exact HX.out⟩
end Go.Proofs.Ytlkpnpbodbokkaa
namespace Go.Proofs.Ytlkpnpbodbokkaa
open Go.RowKit Go.Bs
set_option linter.unusedVariables false
set_option linter.unusedSimpArgs false

theorem rsz_small (n : Nat) (h1 : 1 ≤ n) (h : n ≤ 64) : rsz n = n + 1 := by
  unfold rsz; rw [varB_small (by omega)]; simp; omega
theorem Wf_le (b : List UInt8) (I p : Nat) (h : p < b.length) : (Wf b I p).1 ≤ rsz (b.length - p) := by
  rw [(W_step b I p h).2]
  refine Nat.le_trans ((wbs_le _ _).2 (rsz (b.length - p - 1 + 1) + (Wc b I (p + (b.length - p - 1 + 1))).1, 0, b.length - p - 1 + 1) ?_) ?_
  · unfold rList
    exact List.mem_map.2 ⟨b.length - p - 1, by rw [List.mem_range]; omega, rfl⟩
  · rw [(W_end b I (p + (b.length - p - 1 + 1)) (by omega)).2, show b.length - p - 1 + 1 = b.length - p by omega]
    simp
theorem Wf_le61 (b : List UInt8) (I p : Nat) (hb : b.length ≤ 60) : (Wf b I p).1 ≤ 61 := by
  by_cases h : p < b.length
  · have := Wf_le b I p h
    rw [rsz_small _ (by omega) (by omega)] at this
    omega
  · rw [(W_end b I p (by omega)).1]; simp
theorem Wf_le_Wc (b : List UInt8) (I p : Nat) : (Wf b I p).1 ≤ (Wc b I p).1 := by
  by_cases h : p < b.length
  · rw [(W_step b I p h).2]; exact (wbs_le _ _).1
  · rw [(W_end b I p (by omega)).1, (W_end b I p (by omega)).2]; simp
theorem varB_le (x : Nat) : (varB x).length ≤ 10 := (varB_len x).1
theorem Wc_copy (b : List UInt8) (I p o n : Nat) (hp : p < b.length) (h : Cop b p (o, n)) : (Wc b I p).1 ≤ csz o n + (Wf b I (p + n)).1 := by
  obtain ⟨o', ho, hin⟩ := near_all h
  rw [(W_step b I p hp).1]
  refine Nat.le_trans ((wbs_le _ _).2 (csz o' n + (Wf b I (p + n)).1, o', n) ?_) ?_
  · exact List.mem_map.2 ⟨(o', n), hin, rfl⟩
  · have := csz_mono o' o n ho
    show csz o' n + _ ≤ _
    omega
theorem Wf_run (b : List UInt8) (I p q : Nat) (h1 : p < q) (h2 : q ≤ b.length) : (Wf b I p).1 ≤ rsz (q - p) + (Wc b I q).1 := by
  rw [(W_step b I p (by omega)).2]
  refine Nat.le_trans ((wbs_le _ _).2 (rsz (q - p - 1 + 1) + (Wc b I (p + (q - p - 1 + 1))).1, 0, q - p - 1 + 1) ?_) ?_
  · exact List.mem_map.2 ⟨q - p - 1, by rw [List.mem_range]; omega, rfl⟩
  · rw [show q - p - 1 + 1 = q - p by omega, show p + (q - p) = q by omega]
    exact Nat.le_refl _
/-- Which way the copies' one is. -/
theorem Wc_is (b : List UInt8) (I p : Nat) (hb : b.length ≤ 60) (hp : p < b.length) : Wc b I p = (I, 0, 0) ∨ ∃ o n, Cop b p (o, n) ∧ Wc b I p = (csz o n + (Wf b I (p + n)).1, o, n) := by
  rw [(W_step b I p hp).1]
  rcases wbs_in (I, 0, 0) (cList b I p (nearC b p)) with h | h
  · exact .inl h
  · right
    obtain ⟨⟨o, n⟩, hx, e⟩ := List.mem_map.1 h
    exact ⟨o, n, near_cop hx, e.symm⟩
theorem csz_le (o n : Nat) : csz o n ≤ 20 := by
  unfold csz
  have := varB_le (2 * n - 7)
  have := varB_le (o - 1)
  omega
/-- The choice of what no way is plays no part. -/
theorem W_same (b : List UInt8) (I J : Nat) (hb : b.length ≤ 60) (hI : 1000 ≤ I) (hJ : 1000 ≤ J) : ∀ d p, b.length ≤ p + d → (Wf b I p).1 = (Wf b J p).1 ∧ ((Wc b I p).1 = (Wc b J p).1 ∨ (1000 ≤ (Wc b I p).1 ∧ 1000 ≤ (Wc b J p).1)) := by
  intro d
  induction d with
  | zero =>
    intro p h
    rw [(W_end b I p (by omega)).1, (W_end b J p (by omega)).1, (W_end b I p (by omega)).2, (W_end b J p (by omega)).2]
    exact ⟨rfl, .inl rfl⟩
  | succ d ih =>
    intro p h
    by_cases hp : p < b.length
    · have hC : (Wc b I p).1 = (Wc b J p).1 ∨ (1000 ≤ (Wc b I p).1 ∧ 1000 ≤ (Wc b J p).1) := by
        have hle : ∀ I J : Nat, 1000 ≤ I → 1000 ≤ J → (∀ q, p < q → (Wf b I q).1 = (Wf b J q).1) → (Wc b J p).1 < 1000 → (Wc b I p).1 ≤ (Wc b J p).1 := by
          intro I J hI hJ hq hlt
          rcases Wc_is b J p hb hp with e | ⟨o, n, hc, e⟩
          · rw [e] at hlt; dsimp only at hlt; omega
          · rw [e]
            have := Wc_copy b I p o n hp hc
            rw [hq (p + n) (by have := hc.2.2.1; dsimp only at this; omega)] at this
            exact this
        have hq : ∀ q, p < q → (Wf b I q).1 = (Wf b J q).1 := fun q hq => (ih q (by omega)).1
        by_cases h1 : (Wc b I p).1 < 1000
        · by_cases h2 : (Wc b J p).1 < 1000
          · have a1 := hle I J hI hJ hq h2
            have a2 := hle J I hJ hI (fun q h => (hq q h).symm) h1
            exact .inl (by omega)
          · have a2 := hle J I hJ hI (fun q h => (hq q h).symm) h1
            omega
        · by_cases h2 : (Wc b J p).1 < 1000
          · have a1 := hle I J hI hJ hq h2
            omega
          · exact .inr ⟨by omega, by omega⟩
      refine ⟨?_, hC⟩
      have hle : ∀ I J : Nat, ((Wc b I p).1 = (Wc b J p).1 ∨ (1000 ≤ (Wc b I p).1 ∧ 1000 ≤ (Wc b J p).1)) → (∀ q, p < q → (Wc b I q).1 = (Wc b J q).1 ∨ (1000 ≤ (Wc b I q).1 ∧ 1000 ≤ (Wc b J q).1)) → (Wf b I p).1 ≤ (Wf b J p).1 := by
        intro I J h0 hq
        have hsm := Wf_le61 b J p hb
        have hin : Wf b J p = Wc b J p ∨ Wf b J p ∈ rList b J p (b.length - p) := by
          rw [(W_step b J p hp).2]; exact wbs_in _ _
        rcases hin with e | e
        · rcases h0 with h0 | h0
          · rw [e, ← h0]; exact Wf_le_Wc b I p
          · rw [e] at hsm; omega
        · obtain ⟨n, hn, e⟩ := List.mem_map.1 e
          rw [List.mem_range] at hn
          rw [← e] at hsm ⊢
          dsimp only at hsm ⊢
          have hr := Wf_run b I p (p + (n + 1)) (by omega) (by omega)
          rw [show p + (n + 1) - p = n + 1 by omega] at hr
          rcases hq (p + (n + 1)) (by omega) with h1 | h1
          · omega
          · omega
      have a1 := hle I J hC (fun q hq => (ih q (by omega)).2)
      have a2 := hle J I (hC.elim (fun e => .inl e.symm) fun e => .inr ⟨e.2, e.1⟩) (fun q hq => (ih q (by omega)).2.elim (fun e => .inl e.symm) fun e => .inr ⟨e.2, e.1⟩)
      omega
    · exact ih p (by omega)
theorem cost_cons (t : Tok) (ts : List Tok) : (tokensB (t :: ts)).length = (tokB t).length + (tokensB ts).length := by unfold tokensB; simp
theorem cost_copy (o m : Nat) (h : 1 ≤ o) : (tokB ⟨[], (o : Int), (m : Int)⟩).length = csz o m := by
  rw [tokB_copy o m h, List.length_append]; rfl
theorem cost_run (D : List UInt8) (h1 : 1 ≤ D.length) (h2 : D.length ≤ 1048576) : (tokB ⟨D, 0, 0⟩).length = rsz D.length := by
  rw [tokB_run D h1 h2, List.length_append]; rfl
theorem best_cop {b : List UInt8} {p o m : Nat} (h : bestR b p = (o, m)) (hm : m ≠ 0) : Cop b p (o, m) := by
  unfold bestR at h
  split at h
  · rename_i h4
    obtain ⟨o', g1, g2, g3, g4⟩ := least_is b p (maxM b p (reach p)) (reach p) (by
      rcases maxM_is b p (reach p) with h0 | h0
      · omega
      · exact h0)
    have e := firstM_is b p (maxM b p (reach p)) (reach p) 1 o' g1 (by omega) g3 g4
    rw [e] at h
    injection h with h1 h2
    subst h1 h2
    exact ⟨g1, g2, h4, by dsimp only; omega⟩
  · injection h with h1 h2
    exact absurd h2.symm hm
/-- No tokens are fewer bytes. -/
theorem good_least {b : List UInt8} {I : Nat} (hb : b.length ≤ 60) {f : Bool} {p : Nat} {ts : List Tok} (hg : Good b f p ts) : p ≤ b.length → (Wf b I p).1 ≤ (tokensB ts).length ∧ (f = true → (Wc b I p).1 ≤ (tokensB ts).length) := by
  induction hg with
  | nil => intro _; rw [(W_end b I _ (Nat.le_refl _)).1, (W_end b I _ (Nat.le_refl _)).2]; exact ⟨Nat.zero_le _, fun _ => Nat.zero_le _⟩
  | @copy f p o m rest hp hbest hm _ ih =>
    intro _
    have hc := best_cop hbest hm
    have hml := mlen_le b p o
    have h4 := hc.2.2.2
    dsimp only at h4
    have hi := (ih (by omega)).1
    have h1 := Wc_copy b I p o m hp hc
    have h2 := Wf_le_Wc b I p
    rw [cost_cons, cost_copy o m hc.1]
    exact ⟨by omega, fun _ => by omega⟩
  | @run p q rest hpq hq _ _ ih =>
    intro _
    have hi := (ih hq).2 rfl
    have h1 := Wf_run b I p q hpq hq
    have hl : ((b.drop p).take (q - p)).length = q - p := by rw [List.length_take, List.length_drop]; omega
    rw [cost_cons, cost_run _ (by omega) (by omega), hl]
    exact ⟨by omega, fun h => by cases h⟩

/-- Tokens that make the text from a place on. -/
inductive Path (b : List UInt8) : Bool → Nat → List Tok → Prop where
  | nil {f : Bool} : Path b f b.length []
  | copy {f : Bool} {p o m : Nat} {rest : List Tok} : Cop b p (o, m) → Path b false (p + m) rest → Path b f p (⟨[], (o : Int), (m : Int)⟩ :: rest)
  | run {p q : Nat} {rest : List Tok} : p < q → q ≤ b.length → Path b true q rest → Path b false p (⟨(b.drop p).take (q - p), 0, 0⟩ :: rest)
theorem path_right {b : List UInt8} (hb : b.length ≤ 1048576) {f : Bool} {p : Nat} {ts : List Tok} (h : Path b f p ts) : ∀ t ∈ ts, rightB t = true := by
  induction h with
  | nil => intro t ht; simp at ht
  | @copy f p o m rest hc _ ih =>
    intro t ht
    rcases List.mem_cons.1 ht with rfl | ht
    · have hml := mlen_le b p o
      obtain ⟨a1, a2, a3, a4⟩ := hc
      dsimp only at a1 a2 a3 a4
      have : reach p ≤ 65536 := by unfold reach; omega
      simp [rightB, copyB, runB]; omega
    · exact ih t ht
  | @run p q rest h1 h2 _ ih =>
    intro t ht
    rcases List.mem_cons.1 ht with rfl | ht
    · simp [rightB, runB]; omega
    · exact ih t ht
theorem path_first {b : List UInt8} {p : Nat} {ts : List Tok} (h : Path b true p ts) : ∀ t, ts[0]? = some t → runB t = false := by
  intro t ht
  cases h with
  | nil => simp at ht
  | @copy f p o m rest hc hr =>
    simp at ht; subst ht
    have := hc.1
    first | (simp [runB]; done) | (simp [runB]; intro h; omega)
theorem path_apart {b : List UInt8} {f : Bool} {p : Nat} {ts : List Tok} (h : Path b f p ts) : ∀ i t u, ts[i]? = some t → ts[i + 1]? = some u → (runB u && runB t) = false := by
  induction h with
  | nil => intro i t u h1 h2; simp at h1
  | @copy f p o m rest hc _ ih =>
    intro i t u h1 h2
    cases i with
    | zero =>
      simp at h1; subst h1
      have := hc.1
      have e : runB ⟨[], (o : Int), (m : Int)⟩ = false := by first | (simp [runB]; done) | (simp [runB]; intro h; dsimp only at this; omega)
      rw [e]; simp
    | succ i => exact ih i t u (by simpa using h1) (by simpa using h2)
  | @run p q rest h1 h2 hr ih =>
    intro i t u k1 k2
    cases i with
    | zero =>
      have := path_first hr u (by simpa using k2)
      rw [this]; simp
    | succ i => exact ih i t u (by simpa using k1) (by simpa using k2)
theorem path_make {b : List UInt8} (hb : b.length ≤ 1048576) {f : Bool} {p : Nat} {ts : List Tok} (h : Path b f p ts) : p ≤ b.length → ∀ k, exT (b.length : Int) k (b.take p) ts = (b, 0, 0) := by
  induction h with
  | nil => intro _ k; simp [exT]
  | @copy f p o m rest hc hr ih =>
    intro hp k
    have hR := path_right hb (Path.copy (f := f) hc hr) _ (List.mem_cons_self ..)
    obtain ⟨a1, a2, a3, a4⟩ := hc
    dsimp only at a1 a2 a3 a4
    have hml := mlen_le b p o
    have hop : o ≤ p := by unfold reach at a2; omega
    have hlen : (b.take p).length = p := by rw [List.length_take]; omega
    have hw : wrongR ⟨[], (o : Int), (m : Int)⟩ (b.take p).length (b.length : Int) = 0 := by
      unfold wrongR
      have e : tokN ⟨[], (o : Int), (m : Int)⟩ = m := by unfold tokN; rw [if_pos hR, if_neg (by dsimp only; omega)]
      rw [if_pos hR, e, hlen, if_neg (by omega), if_neg (by dsimp only; omega)]
    unfold exT
    rw [if_pos hw]
    simp only [Int.toNat_natCast, List.append_nil]
    rw [againL_take m p (by omega) a1 hop (fun k hk => (mlen_same (Nat.lt_of_lt_of_le hk a4)).2.2.2)]
    exact ih (by omega) (k + 1)
  | @run p q rest h1 h2 hr ih =>
    intro hp k
    have hR := path_right hb (Path.run h1 h2 hr) _ (List.mem_cons_self ..)
    have hl : ((b.drop p).take (q - p)).length = q - p := by rw [List.length_take, List.length_drop]; omega
    have hlen : (b.take p).length = p := by rw [List.length_take]; omega
    have hw : wrongR ⟨(b.drop p).take (q - p), 0, 0⟩ (b.take p).length (b.length : Int) = 0 := by
      unfold wrongR
      have e : tokN ⟨(b.drop p).take (q - p), 0, 0⟩ = ((q - p : Nat) : Int) := by unfold tokN; rw [if_pos hR, if_pos rfl]; dsimp only; rw [hl]
      rw [if_pos hR, e, hlen, if_neg (by omega), if_neg (by dsimp only; omega)]
    unfold exT
    rw [if_pos hw]
    have e : b.take p ++ (b.drop p).take (q - p) = b.take q := by
      rw [← List.take_add, show p + (q - p) = q by omega]
    show exT _ _ (b.take p ++ (b.drop p).take (q - p)) _ = _
    rw [e]
    exact ih h2 (k + 1)
theorem path_end {b : List UInt8} {ts : List Tok} (h : Path b false b.length ts) : ts = [] := by
  cases h with
  | nil => rfl
  | @copy f p o m rest hc hr =>
    have h1 := mlen_le b b.length o
    have h2 := hc.2.2
    dsimp only at h2
    omega
  | @run p q rest h1 h2 _ => omega
end Go.Proofs.Ytlkpnpbodbokkaa
namespace Go.Proofs.Ytlkpnpbodbokkaa
open Go.RowKit Go.Bs
set_option linter.unusedVariables false
set_option linter.unusedSimpArgs false
-- KEEP ((try dsimp only); refine ⟨?_, ?_, ?_⟩ <;> (first | assumption | (go_keep; done)))

set_option maxRecDepth 100000 in
set_option maxHeartbeats 3200000 in
theorem ways1_c (gB gF gA gl L cL p o n F : Nat) (a : W3) (ha : a.1 ≤ 2000000000000) (hF : F ≤ 1000000) (ho : 1 ≤ o) (ho2 : o ≤ 65536) (hn : 4 ≤ n) (hn2 : n ≤ 1000) (hp : p ≤ 1000) (hL : p + n < L) (d1 : ¬ gF = gB) (d2 : ¬ gA = gB) (d3 : ¬ gl = gB) (w : World)
    (hB : Blk w gB 45 (w3C a)) (h1 : w.cell? ⟨gF, 0, none⟩ = some (.slice (some ⟨gl, 0, none⟩) L cL)) (h2 : w.cell? ⟨gA, 0, none⟩ = some (.int .i64 (p : Int))) (h3 : w.cell? ⟨gl, (p + n) * 3, none⟩ = some (.int .i64 (F : Int))) :
    Calls Try.prog 31 (#[.int .i64 (o : Int), .int .i64 (n : Int)] ++ #[.pointer (some ⟨gB, 0, none⟩), .pointer (some ⟨gF, 0, none⟩), .pointer (some ⟨gA, 0, none⟩)]) w fun r w' => r = .returned (.tuple #[]) ∧ Blk w' gB 45 (w3C (wb a (csz o n + F, o, n))) ∧ Tch (· = gB) w w' := by
  have HC := hid (copy_size o n ho ho2 hn (by omega))
  have HBt := hid (fun W h => better_c gB a (csz o n + F, o, n) ha (by have := csz_le o n; dsimp only; omega) W h)
  have hcs := csz_le o n
  have i1 : 0 ≤ (p : Int) + (n : Int) ∧ (p : Int) + (n : Int) < (L : Int) := by omega
  have l1 := World.block_lt_of_cell? _ _ h1
  have l2 := World.block_lt_of_cell? _ _ h2
  have l3 := World.block_lt_of_cell? _ _ h3
  have e1 : ((p : Int) + (n : Int)).toNat = p + n := by omega
  have W1 : IntKind.i64.wrap ((p : Int) + (n : Int)) = (p : Int) + (n : Int) := wrap_small _ (by omega) (by omega)
  have HW1 := hid W1
  have W2 : IntKind.i64.wrap (((csz o n : Nat) : Int) + (F : Int)) = (((csz o n + F : Nat)) : Int) := by rw [wrap_small _ (by omega) (by omega)]; omega
  have HW2 := hid W2
  have HB := hid hB
  have hD0 : w.drew.cell? ⟨gF, 0, none⟩ = some (.slice (some ⟨gl, 0, none⟩) L cL) := h1
  have hD1 : w.drew.cell? ⟨gA, 0, none⟩ = some (.int .i64 (p : Int)) := h2
  have hD2 : w.drew.cell? ⟨gl, (p + n) * 3, none⟩ = some (.int .i64 (F : Int)) := h3
  clear W1 W2 hB
  unfold w3C at HBt
  dsimp only at HBt
  generalize csz o n = cs at *
  simp only [List.append_toArray, List.cons_append, List.nil_append]
  go_enter Try.func31, Try.ntmps31
  go_wp2_with fail
  refine wp_region_held_drew (S := fun w' => w'.cell? ⟨gF, 0, none⟩ = some (.slice (some ⟨gl, 0, none⟩) L cL) ∧ w'.cell? ⟨gA, 0, none⟩ = some (.int .i64 (p : Int)) ∧ w'.cell? ⟨gl, (p + n) * 3, none⟩ = some (.int .i64 (F : Int))) (by kernel_rfl) ⟨hD0, hD1, hD2⟩ (fun hHeld => ?_)
  refine wpAnyH_take (i := 0) (oi := _) (v := ?_) rfl (by decide +kernel) (by decide +kernel) (by decide +kernel) (fun _ _ _ h => h) (Or.inl ⟨by rfl, ?_⟩) (by assumption) ?_
  rotate_left
  · (intro w hSw; (try dsimp only at hSw); go_simp <;> with_reducible rfl)
  (try simp only [Act.put, List.setIfInBounds_toArray, List.set_cons_zero, List.set_cons_succ])
  refine wpAnyH_take (i := 1) (oi := _) (v := ?_) rfl (by decide +kernel) (by decide +kernel) (by decide +kernel) (fun _ _ _ h => h) (Or.inl ⟨by rfl, ?_⟩) (by assumption) ?_
  rotate_left
  · (intro w hSw; (try dsimp only at hSw); go_simp <;> with_reducible rfl)
  (try simp only [Act.put, List.setIfInBounds_toArray, List.set_cons_zero, List.set_cons_succ])
  refine wpAnyH_take (i := 3) (oi := _) (v := ?_) rfl (by decide +kernel) (by decide +kernel) (by decide +kernel) (fun _ _ _ h => h) (Or.inl ⟨by rfl, ?_⟩) (by assumption) ?_
  rotate_left
  · (intro w hSw; (try dsimp only at hSw); go_simp <;> with_reducible rfl)
  (try simp only [Act.put, List.setIfInBounds_toArray, List.set_cons_zero, List.set_cons_succ])
  refine wpAnyH_take (i := 4) (oi := _) (v := ?_) rfl (by decide +kernel) (by decide +kernel) (by decide +kernel) (fun _ _ _ h => h) (Or.inl ⟨by rfl, ?_⟩) (by assumption) ?_
  rotate_left
  · (intro w hSw; (try dsimp only at hSw); go_simp <;> with_reducible rfl)
  (try simp only [Act.put, List.setIfInBounds_toArray, List.set_cons_zero, List.set_cons_succ])
  refine wpAnyH_take (i := 5) (oi := _) (v := ?_) rfl (by decide +kernel) (by decide +kernel) (by decide +kernel) (fun _ _ _ h => h) (Or.inl ⟨by rfl, ?_⟩) (by assumption) ?_
  rotate_left
  · (intro w hSw; (try dsimp only at hSw); go_simp <;> with_reducible rfl)
  (try simp only [Act.put, List.setIfInBounds_toArray, List.set_cons_zero, List.set_cons_succ])
  refine wpAnyH_take (i := 6) (oi := _) (v := ?_) rfl (by decide +kernel) (by decide +kernel) (by decide +kernel) (fun _ _ _ h => h) (Or.inl ⟨by rfl, ?_⟩) (by assumption) ?_
  rotate_left
  · (intro w hSw; (try dsimp only at hSw); go_simp <;> with_reducible rfl)
  (try simp only [Act.put, List.setIfInBounds_toArray, List.set_cons_zero, List.set_cons_succ])
  (try rw [HW1.out])
  refine wpAnyH_take (i := 7) (oi := _) (v := ?_) rfl (by decide +kernel) (by decide +kernel) (by decide +kernel) (fun _ _ _ h => h) (Or.inl ⟨by rfl, ?_⟩) (by assumption) ?_
  rotate_left
  · (intro w hSw; (try dsimp only at hSw); go_simp <;> with_reducible rfl)
  (try simp only [Act.put, List.setIfInBounds_toArray, List.set_cons_zero, List.set_cons_succ])
  refine wpAnyH_take (i := 8) (oi := _) (v := ?_) rfl (by decide +kernel) (by decide +kernel) (by decide +kernel) (fun _ _ _ h => h) (Or.inl ⟨by rfl, ?_⟩) (by assumption) ?_
  rotate_left
  · (intro w hSw; (try dsimp only at hSw); go_simp <;> with_reducible rfl)
  (try simp only [Act.put, List.setIfInBounds_toArray, List.set_cons_zero, List.set_cons_succ])
  refine wpAnyH_take (i := 9) (oi := _) (v := ?_) rfl (by decide +kernel) (by decide +kernel) (by decide +kernel) (fun _ _ _ h => h) (Or.inl ⟨by rfl, ?_⟩) (by assumption) ?_
  rotate_left
  · (intro w hSw; (try dsimp only at hSw); go_simp <;> with_reducible rfl)
  (try simp only [Act.put, List.setIfInBounds_toArray, List.set_cons_zero, List.set_cons_succ])
  refine wpAnyH_take (i := 11) (oi := _) (v := ?_) rfl (by decide +kernel) (by decide +kernel) (by decide +kernel) (fun _ _ _ h => h) (Or.inl ⟨by rfl, ?_⟩) (by assumption) ?_
  rotate_left
  · (intro w hSw; (try dsimp only at hSw); go_simp <;> with_reducible rfl)
  (try simp only [Act.put, List.setIfInBounds_toArray, List.set_cons_zero, List.set_cons_succ])
  refine wpAnyH_take (i := 12) (oi := _) (v := ?_) rfl (by decide +kernel) (by decide +kernel) (by decide +kernel) (fun _ _ _ h => h) (Or.inl ⟨by rfl, ?_⟩) (by assumption) ?_
  rotate_left
  · (intro w hSw; (try dsimp only at hSw); go_simp <;> with_reducible rfl)
  (try simp only [Act.put, List.setIfInBounds_toArray, List.set_cons_zero, List.set_cons_succ])
  refine wpAnyH_ready (rs := [2]) (by decide +kernel) (by simp) ?_
  refine AllReadyH.cons (o := _) rfl (fun K hK => ?_) AllReadyH.nil
  (go_simp; go_at_call 33; refine (HC.out _).mono ?_; rintro e w4 ⟨rfl, hb4⟩; have f0 := (hb4.cell (p := ⟨gF, 0, none⟩) l1).trans hD0; have f1 := (hb4.cell (p := ⟨gA, 0, none⟩) l2).trans hD1; have f2 := (hb4.cell (p := ⟨gl, (p + n) * 3, none⟩) l3).trans hD2; have HB4 := hid hb4; clear hb4)
  refine hK.out _ _ ?_ (fun hHeld => ?_)
  · ((try dsimp only); refine ⟨?_, ?_, ?_⟩ <;> (first | assumption | (go_keep; done)))
  clear hK K
  (try simp only [Act.put, List.setIfInBounds_toArray, List.set_cons_zero, List.set_cons_succ])
  refine wpAnyH_take (i := 10) (oi := _) (v := ?_) rfl (by decide +kernel) (by decide +kernel) (by decide +kernel) (fun _ _ _ h => h) (Or.inl ⟨by rfl, ?_⟩) (by assumption) ?_
  rotate_left
  · (intro w hSw; (try dsimp only at hSw); go_simp <;> with_reducible rfl)
  (try simp only [Act.put, List.setIfInBounds_toArray, List.set_cons_zero, List.set_cons_succ])
  (try rw [HW2.out])
  refine wpAnyH_take (i := 13) (oi := _) (v := ?_) rfl (by decide +kernel) (by decide +kernel) (by decide +kernel) (fun _ _ _ h => h) (Or.inl ⟨by rfl, ?_⟩) (by assumption) ?_
  rotate_left
  · (intro w hSw; (try dsimp only at hSw); go_simp <;> with_reducible rfl)
  (try simp only [Act.put, List.setIfInBounds_toArray, List.set_cons_zero, List.set_cons_succ])
  refine wpAnyH_ready (rs := [14]) (by decide +kernel) (by simp) ?_
  refine AllReadyH.cons (o := _) rfl (fun K hK => ?_) AllReadyH.nil
  (go_simp; go_at_call 32; refine (HBt.out w4 (HB.out.drew.later HB4.out)).mono ?_; rintro e w5 ⟨rfl, hbl5, ht5⟩; have f0 := (ht5.cell (p := ⟨gF, 0, none⟩) (Nat.lt_of_lt_of_le l1 HB4.out.size) d1).trans f0; have f1 := (ht5.cell (p := ⟨gA, 0, none⟩) (Nat.lt_of_lt_of_le l2 HB4.out.size) d2).trans f1; have f2 := (ht5.cell (p := ⟨gl, (p + n) * 3, none⟩) (Nat.lt_of_lt_of_le l3 HB4.out.size) d3).trans f2; have HBL := hid hbl5; have HT5 := hid ((((Tch.refl (· = gB) w).drew).trans (Tch.of_later (F := (· = gB)) HB4.out) fun _ _ h => h).trans ht5 fun _ _ h => h); clear hbl5 ht5)
  refine hK.out _ _ ?_ (fun hHeld => ?_)
  · ((try dsimp only); refine ⟨?_, ?_, ?_⟩ <;> (first | assumption | (go_keep; done)))
  clear hK K
  (try simp only [Act.put, List.setIfInBounds_toArray, List.set_cons_zero, List.set_cons_succ])
  try simp only [List.getElem_toArray, List.getElem_cons_zero, List.getElem_cons_succ, Act.put, List.setIfInBounds_toArray, List.set_cons_zero, List.set_cons_succ]
  refine wpAnyH_done (by kernel_rfl) ?_ _
  go_wp2
  go_end0
  exact ⟨rfl, HBL.out, HT5.out⟩

set_option maxRecDepth 100000 in
set_option maxHeartbeats 3200000 in
theorem first1_c (gB gF gA gl L cL p o n F : Nat) (a : W3) (ha : a.1 ≤ 2000000000000) (hF : F ≤ 1000000) (ho : 1 ≤ o) (ho2 : o ≤ 65536) (hn : 4 ≤ n) (hn2 : n ≤ 1000) (hp : p ≤ 1000) (hL : p + n < L) (d1 : ¬ gF = gB) (d2 : ¬ gA = gB) (d3 : ¬ gl = gB) (w : World)
    (hB : Blk w gB 45 (w3C a)) (h1 : w.cell? ⟨gF, 0, none⟩ = some (.slice (some ⟨gl, 0, none⟩) L cL)) (h2 : w.cell? ⟨gA, 0, none⟩ = some (.int .i64 (p : Int))) (h3 : w.cell? ⟨gl, (p + n) * 3, none⟩ = some (.int .i64 (F : Int))) :
    Calls Try.prog 35 (#[.int .i64 (o : Int), .int .i64 (n : Int)] ++ #[.pointer (some ⟨gB, 0, none⟩), .pointer (some ⟨gF, 0, none⟩), .pointer (some ⟨gA, 0, none⟩)]) w fun r w' => r = .returned (.tuple #[]) ∧ Blk w' gB 45 (w3C (wb a (csz o n + F, o, n))) ∧ Tch (· = gB) w w' := by
  have HC := hid (copy_size o n ho ho2 hn (by omega))
  have HBt := hid (fun W h => better_c gB a (csz o n + F, o, n) ha (by have := csz_le o n; dsimp only; omega) W h)
  have hcs := csz_le o n
  have i1 : 0 ≤ (p : Int) + (n : Int) ∧ (p : Int) + (n : Int) < (L : Int) := by omega
  have l1 := World.block_lt_of_cell? _ _ h1
  have l2 := World.block_lt_of_cell? _ _ h2
  have l3 := World.block_lt_of_cell? _ _ h3
  have e1 : ((p : Int) + (n : Int)).toNat = p + n := by omega
  have W1 : IntKind.i64.wrap ((p : Int) + (n : Int)) = (p : Int) + (n : Int) := wrap_small _ (by omega) (by omega)
  have HW1 := hid W1
  have W2 : IntKind.i64.wrap (((csz o n : Nat) : Int) + (F : Int)) = (((csz o n + F : Nat)) : Int) := by rw [wrap_small _ (by omega) (by omega)]; omega
  have HW2 := hid W2
  have HB := hid hB
  have hD0 : w.drew.cell? ⟨gF, 0, none⟩ = some (.slice (some ⟨gl, 0, none⟩) L cL) := h1
  have hD1 : w.drew.cell? ⟨gA, 0, none⟩ = some (.int .i64 (p : Int)) := h2
  have hD2 : w.drew.cell? ⟨gl, (p + n) * 3, none⟩ = some (.int .i64 (F : Int)) := h3
  clear W1 W2 hB
  unfold w3C at HBt
  dsimp only at HBt
  generalize csz o n = cs at *
  simp only [List.append_toArray, List.cons_append, List.nil_append]
  go_enter Try.func35, Try.ntmps35
  go_wp2_with fail
  refine wp_region_held_drew (S := fun w' => w'.cell? ⟨gF, 0, none⟩ = some (.slice (some ⟨gl, 0, none⟩) L cL) ∧ w'.cell? ⟨gA, 0, none⟩ = some (.int .i64 (p : Int)) ∧ w'.cell? ⟨gl, (p + n) * 3, none⟩ = some (.int .i64 (F : Int))) (by kernel_rfl) ⟨hD0, hD1, hD2⟩ (fun hHeld => ?_)
  refine wpAnyH_take (i := 0) (oi := _) (v := ?_) rfl (by decide +kernel) (by decide +kernel) (by decide +kernel) (fun _ _ _ h => h) (Or.inl ⟨by rfl, ?_⟩) (by assumption) ?_
  rotate_left
  · (intro w hSw; (try dsimp only at hSw); go_simp <;> with_reducible rfl)
  (try simp only [Act.put, List.setIfInBounds_toArray, List.set_cons_zero, List.set_cons_succ])
  refine wpAnyH_take (i := 1) (oi := _) (v := ?_) rfl (by decide +kernel) (by decide +kernel) (by decide +kernel) (fun _ _ _ h => h) (Or.inl ⟨by rfl, ?_⟩) (by assumption) ?_
  rotate_left
  · (intro w hSw; (try dsimp only at hSw); go_simp <;> with_reducible rfl)
  (try simp only [Act.put, List.setIfInBounds_toArray, List.set_cons_zero, List.set_cons_succ])
  refine wpAnyH_take (i := 3) (oi := _) (v := ?_) rfl (by decide +kernel) (by decide +kernel) (by decide +kernel) (fun _ _ _ h => h) (Or.inl ⟨by rfl, ?_⟩) (by assumption) ?_
  rotate_left
  · (intro w hSw; (try dsimp only at hSw); go_simp <;> with_reducible rfl)
  (try simp only [Act.put, List.setIfInBounds_toArray, List.set_cons_zero, List.set_cons_succ])
  refine wpAnyH_take (i := 4) (oi := _) (v := ?_) rfl (by decide +kernel) (by decide +kernel) (by decide +kernel) (fun _ _ _ h => h) (Or.inl ⟨by rfl, ?_⟩) (by assumption) ?_
  rotate_left
  · (intro w hSw; (try dsimp only at hSw); go_simp <;> with_reducible rfl)
  (try simp only [Act.put, List.setIfInBounds_toArray, List.set_cons_zero, List.set_cons_succ])
  refine wpAnyH_take (i := 5) (oi := _) (v := ?_) rfl (by decide +kernel) (by decide +kernel) (by decide +kernel) (fun _ _ _ h => h) (Or.inl ⟨by rfl, ?_⟩) (by assumption) ?_
  rotate_left
  · (intro w hSw; (try dsimp only at hSw); go_simp <;> with_reducible rfl)
  (try simp only [Act.put, List.setIfInBounds_toArray, List.set_cons_zero, List.set_cons_succ])
  refine wpAnyH_take (i := 6) (oi := _) (v := ?_) rfl (by decide +kernel) (by decide +kernel) (by decide +kernel) (fun _ _ _ h => h) (Or.inl ⟨by rfl, ?_⟩) (by assumption) ?_
  rotate_left
  · (intro w hSw; (try dsimp only at hSw); go_simp <;> with_reducible rfl)
  (try simp only [Act.put, List.setIfInBounds_toArray, List.set_cons_zero, List.set_cons_succ])
  (try rw [HW1.out])
  refine wpAnyH_take (i := 7) (oi := _) (v := ?_) rfl (by decide +kernel) (by decide +kernel) (by decide +kernel) (fun _ _ _ h => h) (Or.inl ⟨by rfl, ?_⟩) (by assumption) ?_
  rotate_left
  · (intro w hSw; (try dsimp only at hSw); go_simp <;> with_reducible rfl)
  (try simp only [Act.put, List.setIfInBounds_toArray, List.set_cons_zero, List.set_cons_succ])
  refine wpAnyH_take (i := 8) (oi := _) (v := ?_) rfl (by decide +kernel) (by decide +kernel) (by decide +kernel) (fun _ _ _ h => h) (Or.inl ⟨by rfl, ?_⟩) (by assumption) ?_
  rotate_left
  · (intro w hSw; (try dsimp only at hSw); go_simp <;> with_reducible rfl)
  (try simp only [Act.put, List.setIfInBounds_toArray, List.set_cons_zero, List.set_cons_succ])
  refine wpAnyH_take (i := 9) (oi := _) (v := ?_) rfl (by decide +kernel) (by decide +kernel) (by decide +kernel) (fun _ _ _ h => h) (Or.inl ⟨by rfl, ?_⟩) (by assumption) ?_
  rotate_left
  · (intro w hSw; (try dsimp only at hSw); go_simp <;> with_reducible rfl)
  (try simp only [Act.put, List.setIfInBounds_toArray, List.set_cons_zero, List.set_cons_succ])
  refine wpAnyH_take (i := 11) (oi := _) (v := ?_) rfl (by decide +kernel) (by decide +kernel) (by decide +kernel) (fun _ _ _ h => h) (Or.inl ⟨by rfl, ?_⟩) (by assumption) ?_
  rotate_left
  · (intro w hSw; (try dsimp only at hSw); go_simp <;> with_reducible rfl)
  (try simp only [Act.put, List.setIfInBounds_toArray, List.set_cons_zero, List.set_cons_succ])
  refine wpAnyH_take (i := 12) (oi := _) (v := ?_) rfl (by decide +kernel) (by decide +kernel) (by decide +kernel) (fun _ _ _ h => h) (Or.inl ⟨by rfl, ?_⟩) (by assumption) ?_
  rotate_left
  · (intro w hSw; (try dsimp only at hSw); go_simp <;> with_reducible rfl)
  (try simp only [Act.put, List.setIfInBounds_toArray, List.set_cons_zero, List.set_cons_succ])
  refine wpAnyH_ready (rs := [2]) (by decide +kernel) (by simp) ?_
  refine AllReadyH.cons (o := _) rfl (fun K hK => ?_) AllReadyH.nil
  (go_simp; go_at_call 33; refine (HC.out _).mono ?_; rintro e w4 ⟨rfl, hb4⟩; have f0 := (hb4.cell (p := ⟨gF, 0, none⟩) l1).trans hD0; have f1 := (hb4.cell (p := ⟨gA, 0, none⟩) l2).trans hD1; have f2 := (hb4.cell (p := ⟨gl, (p + n) * 3, none⟩) l3).trans hD2; have HB4 := hid hb4; clear hb4)
  refine hK.out _ _ ?_ (fun hHeld => ?_)
  · ((try dsimp only); refine ⟨?_, ?_, ?_⟩ <;> (first | assumption | (go_keep; done)))
  clear hK K
  (try simp only [Act.put, List.setIfInBounds_toArray, List.set_cons_zero, List.set_cons_succ])
  refine wpAnyH_take (i := 10) (oi := _) (v := ?_) rfl (by decide +kernel) (by decide +kernel) (by decide +kernel) (fun _ _ _ h => h) (Or.inl ⟨by rfl, ?_⟩) (by assumption) ?_
  rotate_left
  · (intro w hSw; (try dsimp only at hSw); go_simp <;> with_reducible rfl)
  (try simp only [Act.put, List.setIfInBounds_toArray, List.set_cons_zero, List.set_cons_succ])
  (try rw [HW2.out])
  refine wpAnyH_take (i := 13) (oi := _) (v := ?_) rfl (by decide +kernel) (by decide +kernel) (by decide +kernel) (fun _ _ _ h => h) (Or.inl ⟨by rfl, ?_⟩) (by assumption) ?_
  rotate_left
  · (intro w hSw; (try dsimp only at hSw); go_simp <;> with_reducible rfl)
  (try simp only [Act.put, List.setIfInBounds_toArray, List.set_cons_zero, List.set_cons_succ])
  refine wpAnyH_ready (rs := [14]) (by decide +kernel) (by simp) ?_
  refine AllReadyH.cons (o := _) rfl (fun K hK => ?_) AllReadyH.nil
  (go_simp; go_at_call 32; refine (HBt.out w4 (HB.out.drew.later HB4.out)).mono ?_; rintro e w5 ⟨rfl, hbl5, ht5⟩; have f0 := (ht5.cell (p := ⟨gF, 0, none⟩) (Nat.lt_of_lt_of_le l1 HB4.out.size) d1).trans f0; have f1 := (ht5.cell (p := ⟨gA, 0, none⟩) (Nat.lt_of_lt_of_le l2 HB4.out.size) d2).trans f1; have f2 := (ht5.cell (p := ⟨gl, (p + n) * 3, none⟩) (Nat.lt_of_lt_of_le l3 HB4.out.size) d3).trans f2; have HBL := hid hbl5; have HT5 := hid ((((Tch.refl (· = gB) w).drew).trans (Tch.of_later (F := (· = gB)) HB4.out) fun _ _ h => h).trans ht5 fun _ _ h => h); clear hbl5 ht5)
  refine hK.out _ _ ?_ (fun hHeld => ?_)
  · ((try dsimp only); refine ⟨?_, ?_, ?_⟩ <;> (first | assumption | (go_keep; done)))
  clear hK K
  (try simp only [Act.put, List.setIfInBounds_toArray, List.set_cons_zero, List.set_cons_succ])
  try simp only [List.getElem_toArray, List.getElem_cons_zero, List.getElem_cons_succ, Act.put, List.setIfInBounds_toArray, List.set_cons_zero, List.set_cons_succ]
  refine wpAnyH_done (by kernel_rfl) ?_ _
  go_wp2
  go_end0
  exact ⟨rfl, HBL.out, HT5.out⟩
end Go.Proofs.Ytlkpnpbodbokkaa
namespace Go.Proofs.Ytlkpnpbodbokkaa
open Go.RowKit Go.Bs
set_option linter.unusedVariables false
set_option linter.unusedSimpArgs false
-- KEEP ((try dsimp only); refine ⟨?_, ?_⟩ <;> (first | assumption | (go_keep; done)))

/-- A row of ways. -/
def wayA (f : Nat → W3) (n : Nat) : Array Value := (Array.range (n * 3)).map fun k => (w3C (f (k / 3)))[k % 3]!
theorem wayA_size (f : Nat → W3) (n : Nat) : (wayA f n).size = n * 3 := by simp [wayA]
theorem wayA_get (f : Nat → W3) (n i j : Nat) (hi : i < n) (hj : j < 3) : (wayA f n)[i * 3 + j]? = some (w3C (f i))[j]! := by
  have h : i * 3 + j < n * 3 := by omega
  unfold wayA
  rw [Array.getElem?_map, Array.getElem?_range, if_pos h]
  simp only [Option.map_some]
  rw [show (i * 3 + j) / 3 = i by omega, show (i * 3 + j) % 3 = j by omega]
theorem wayA_set (f : Nat → W3) (n i : Nat) (x : W3) (hi : i < n) : (((wayA f n).setIfInBounds (i * 3) (.int .i64 (x.1 : Int))).setIfInBounds (i * 3 + 1) (.int .i64 (x.2.1 : Int))).setIfInBounds (i * 3 + 2) (.int .i64 (x.2.2 : Int)) = wayA (fun k => if k = i then x else f k) n := by
  apply Array.ext_getElem?
  intro k
  have hs : ∀ g, (wayA g n)[k]? = if k < n * 3 then some ((w3C (g (k / 3)))[k % 3]!) else none := fun g => by
    unfold wayA
    rw [Array.getElem?_map, Array.getElem?_range]
    split <;> rfl
  rw [Array.getElem?_setIfInBounds, Array.getElem?_setIfInBounds, Array.getElem?_setIfInBounds]
  simp only [Array.size_setIfInBounds, wayA_size]
  rw [hs, hs]
  by_cases h2 : i * 3 + 2 = k
  · subst h2
    rw [if_pos rfl, if_pos (by omega), if_pos (by omega), show (i * 3 + 2) / 3 = i by omega, show (i * 3 + 2) % 3 = 2 by omega, if_pos rfl]; rfl
  · rw [if_neg h2]
    by_cases h1 : i * 3 + 1 = k
    · subst h1
      rw [if_pos rfl, if_pos (by omega), if_pos (by omega), show (i * 3 + 1) / 3 = i by omega, show (i * 3 + 1) % 3 = 1 by omega, if_pos rfl]; rfl
    · rw [if_neg h1]
      by_cases h0 : i * 3 = k
      · subst h0
        rw [if_pos rfl, if_pos (by omega), if_pos (by omega), show (i * 3) / 3 = i by omega, show (i * 3) % 3 = 0 by omega, if_pos rfl]; rfl
      · rw [if_neg h0]
        by_cases hk : k < n * 3
        · rw [if_pos hk, if_pos hk, if_neg (by omega)]
        · rw [if_neg hk, if_neg hk]
theorem wayA_made (n : Nat) : madeCells #[.int .i64 0, .int .i64 0, .int .i64 0] (n * 3) = wayA (fun _ => (0, 0, 0)) n := by
  unfold madeCells wayA
  apply Array.ext'
  simp only [Array.toList_map]
  apply List.map_congr_left
  intro k _
  have h3 : k % 3 < 3 := Nat.mod_lt _ (by decide)
  show (#[Value.int .i64 0, .int .i64 0, .int .i64 0])[k % 3]! = (w3C (0, 0, 0))[k % 3]!
  rfl
theorem wayA_congr (f g : Nat → W3) (n : Nat) (h : ∀ i, i < n → f i = g i) : wayA f n = wayA g n := by
  unfold wayA
  apply Array.ext'
  simp only [Array.toList_map]
  apply List.map_congr_left
  intro k hk
  have : k < n * 3 := by simpa using hk
  rw [h (k / 3) (by omega)]
/-- What is known of the places from q on. -/
def from_ (g : Nat → W3) (q : Nat) : Nat → W3 := fun i => if q ≤ i then g i else (0, 0, 0)
theorem wInfoW : (Try.prog.info? 45).map (fun i => (i.zero, i.size, i.bytes)) = some (some (.agg #[.int .i64 0, .int .i64 0, .int .i64 0]), 3, 24) := by kernel_rfl

/-- The tables while they are filled: from q on. -/
structure WayS (b : List UInt8) (I : Nat) (w W : World) (q gA : Nat) : Prop where
  below : Below w.heap.size w W
  f : Blk W (w.heap.size + 1) 42 #[.slice (some ⟨w.heap.size, 0, none⟩) (b.length + 1) (b.length + 1)]
  free : Blk W w.heap.size 45 (wayA (from_ (Wf b I) q) (b.length + 1))
  beh : Blk W (w.heap.size + 1 + 1) 45 (wayA (from_ (Wc b I) q) (b.length + 1))
  at_ : Blk W gA 3 #[.int .i64 ((q : Int) - 1)]
  ga : w.heap.size + 1 + 1 < gA
theorem cList_snoc (b : List UInt8) (I p o m : Nat) (L : List (Nat × Nat)) (w0 : W3) : wbs w0 (cList b I p (L ++ [(o, m)])) = wb (wbs w0 (cList b I p L)) (csz o m + (Wf b I (p + m)).1, o, m) := by
  unfold wbs cList; rw [List.map_append, List.foldl_append]; rfl
theorem rList_snoc (b : List UInt8) (I p k : Nat) (w0 : W3) : wbs w0 (rList b I p (k + 1)) = wb (wbs w0 (rList b I p k)) (rsz (k + 1) + (Wc b I (p + (k + 1))).1, 0, k + 1) := by
  unfold wbs rList; rw [List.range_succ, List.map_append, List.foldl_append]; rfl
theorem Wc_le (b : List UInt8) (I p : Nat) : (Wc b I p).1 ≤ I := by
  by_cases h : p < b.length
  · rw [(W_step b I p h).1]; exact (wbs_le _ _).1
  · rw [(W_end b I p (by omega)).2]; simp
theorem from_set (g : Nat → W3) (q n : Nat) : wayA (fun k => if k = q then g q else from_ g (q + 1) k) n = wayA (from_ g q) n := by
  apply wayA_congr
  intro i _
  unfold from_
  by_cases h : i = q
  · subst h; rw [if_pos rfl, if_pos (Nat.le_refl _)]
  · rw [if_neg h]
    by_cases h2 : q ≤ i
    · rw [if_pos h2, if_pos (by omega)]
    · rw [if_neg h2, if_neg (by omega)]

set_option maxRecDepth 100000 in
set_option maxHeartbeats 6400000 in
theorem press_ways (b : List UInt8) (hb : b.length ≤ 60) (a : Option Addr) (n c : Nat) (w : World) (hl : rBytes.r (· < w.heap.size) w [.slice a n c] b) :
    Calls Try.prog 17 #[.slice a n c] w fun r w' => (∃ g, r = .returned (.slice (some ⟨g, 0, none⟩) (b.length + 1) (b.length + 1)) ∧ w.heap.size ≤ g ∧ Blk w' g 45 (wayA (Wf b 1099511627776) (b.length + 1))) ∧ Below w.heap.size w w' := by
  obtain ⟨rfl, hm, _, _⟩ := sl_len hl
  obtain ⟨i0, hi, hz0, hz1, hz2⟩ := info_parts wInfoW
  obtain ⟨N, hN⟩ : ∃ N, N = b.length + 1 := ⟨_, rfl⟩
  have eN : (b.length : Int) + 1 = (N : Int) := by omega
  have hmk : ∀ W : World, (Instr.makeSlice 42 (.int .i64 (N : Int)) (.int .i64 (N : Int))).run Try.prog W = .ok (.slice (some ⟨W.heap.size, 0, none⟩) N N) (W.alloc (.cells (wayA (fun _ => (0, 0, 0)) N) 45)) := fun W => by
    have := run_make (P := Try.prog) (w := W) 42 45 i0 _ Try.underlying42 hi hz0 .i64 .i64 (N : Int) (N : Int) (by omega) (by omega) (by rw [hz2]; omega) (by omega)
    rw [hz1] at this
    simp only [Int.toNat_natCast] at this
    rw [this, ← wayA_made]
    rfl
  have HL := hid hl
  have HN := hid hN
  have hN61 : N ≤ 61 := by omega
  have hNb : b.length < N := by omega
  rw [← hN]
  clear hl hN
  go_enter Try.func17, Try.ntmps17
  go_wp2_with fail
  go_loopw [5] (fun pa wr => ∃ q gA : Nat, q ≤ b.length ∧ pa = .pointer (some ⟨gA, 0, none⟩) ∧ WayS b 1099511627776 w wr q gA) (fun pa wr => (match pa with | .pointer (some ⟨g, _, _⟩) => (match wr.cell? ⟨g, 0, none⟩ with | some (.int _ z) => (z + 1).toNat | _ => 0) | _ => 0))
  case atStart =>
    have e0 : ∀ g : Nat → W3, g b.length = (0, 0, 0) → wayA (from_ g b.length) N = wayA (fun _ => (0, 0, 0)) N := fun g hg => by
      apply wayA_congr
      intro i hi
      rw [HN.out] at hi
      unfold from_
      by_cases h : b.length ≤ i
      · rw [if_pos h, show i = b.length by omega, hg]
      · rw [if_neg h]
    refine ⟨b.length, w.heap.size + 1 + 1 + 1, Nat.le_refl _, rfl, ?_, ?_, ?_, ?_, ?_, by omega⟩
    · (repeat (first | exact Below.refl _ _ | assumption | (refine below_alloc ?_ _) | (refine Below.setCell ?_ (by first | omega | (simp; done) | (simp; omega)) _) | (refine Below.drew ?_) | (refine below_drewN ?_ _) | (refine below_then (by assumption) ?_)))
    · rw [← HN.out]; (repeat (first | assumption | exact Blk.newAt _ _ _ (by first | (simp; done) | (simp; omega)) | refine Blk.alloc ?_ _ | refine Blk.drew ?_ | refine Blk.drewN ?_ _ | refine Blk.far ?_ (by first | (simp; done) | (simp; omega)) _))
    · rw [← HN.out, e0 _ (W_end b _ _ (Nat.le_refl _)).1]; (repeat (first | assumption | exact Blk.newAt _ _ _ (by first | (simp; done) | (simp; omega)) | refine Blk.alloc ?_ _ | refine Blk.drew ?_ | refine Blk.drewN ?_ _ | refine Blk.far ?_ (by first | (simp; done) | (simp; omega)) _))
    · rw [← HN.out, e0 _ (W_end b _ _ (Nat.le_refl _)).2]; (repeat (first | assumption | exact Blk.newAt _ _ _ (by first | (simp; done) | (simp; omega)) | refine Blk.alloc ?_ _ | refine Blk.drew ?_ | refine Blk.drewN ?_ _ | refine Blk.far ?_ (by first | (simp; done) | (simp; omega)) _))
    · (repeat (first | assumption | exact Blk.newAt _ _ _ (by first | (simp; done) | (simp; omega)) | refine Blk.alloc ?_ _ | refine Blk.drew ?_ | refine Blk.drewN ?_ _ | refine Blk.far ?_ (by first | (simp; done) | (simp; omega)) _))
  case round =>
    obtain ⟨q, gA, hq, rfl, hS⟩ := hrel
    by_cases hq0 : 0 < q
    · obtain ⟨wo, hwo⟩ : ∃ wo : World, wo = wr := ⟨_, rfl⟩
      subst hwo
      obtain ⟨p, rfl⟩ : ∃ p, q = p + 1 := ⟨q - 1, by omega⟩
      have hS' := hS.at_
      rw [show (((p + 1 : Nat) : Int) - 1) = (p : Int) by omega] at hS'
      have a0 := hS'.cell 0
      have HS := hid hS
      have HA := hid hS'
      have hbz := hS.below.size
      have hgA := hS.ga
      have hgAl := hS'.lt
      have hbl := hS.beh.lt
      have a1 := (hS'.alloc (.cells #[.int .i64 1099511627776, .int .i64 0, .int .i64 0] 45)).cell 0
      have hB1 : Blk (wo.alloc (.cells #[.int .i64 1099511627776, .int .i64 0, .int .i64 0] 45)) wo.heap.size 45 (w3C (1099511627776, 0, 0)) := Blk.new ..
      have HB1 := hid hB1
      have HK1 := hid ((Below.refl wo.heap.size wo).alloc (Nat.le_refl _) (.cells #[.int .i64 1099511627776, .int .i64 0, .int .i64 0] 45))
      clear hS hS' hB1
      go_wp2_with fail
      generalize wo.alloc (.cells #[.int .i64 1099511627776, .int .i64 0, .int .i64 0] 45) = W1 at *
      have hkz := HK1.out.size
      have HFr := hid (HS.out.free.later HK1.out)
      have HFc := hid (HS.out.f.later HK1.out)
      have HAc := hid (HA.out.later HK1.out)
      have HBe := hid (HS.out.beh.later HK1.out)
      have HRb := hid (rBytes.keep HL.out fun q hq => (HS.out.below.trans (HK1.out.mono hbz)).block q hq)
      have HCop := hid (copies_c b a b.length c p (by omega) (by omega) 31 #[.pointer (some ⟨wo.heap.size, 0, none⟩), .pointer (some ⟨w.heap.size + 1, 0, none⟩), .pointer (some ⟨gA, 0, none⟩)] (fun xs W => by go_simp)
        (fun L W => Blk W wo.heap.size 45 (w3C (wbs (1099511627776, 0, 0) (cList b 1099511627776 p L))) ∧ Tch (· = wo.heap.size) W1 W)
        (fun L W hIW => rBytes.mono (rBytes.keep HRb.out fun q hq => hIW.2.block q (by have := hq; omega) (by have := hq; omega)) fun q hq => by have := hIW.2.size; omega)
        (fun L W W' hIW hb' => ⟨hIW.1.later hb', hIW.2.trans (Tch.of_later (F := (· = wo.heap.size)) hb') fun _ _ h => h⟩)
        (fun L o m W hIW hc => by
          have hml := mlen_le b p o
          have h4 := hc.2.2.2
          have ho := hc.2.1
          dsimp only at h4 ho
          have hre : reach p ≤ 65536 := by unfold reach; omega
          have hw3 := (HFr.out.tch hIW.2 (by omega)).cell ((p + m) * 3)
          have hg3 : (wayA (from_ (Wf b 1099511627776) (p + 1)) (b.length + 1))[(p + m) * 3]? = some (w3C (from_ (Wf b 1099511627776) (p + 1) (p + m)))[0]! := wayA_get (from_ (Wf b 1099511627776) (p + 1)) (b.length + 1) (p + m) 0 (by omega) (by decide)
          have h4' := hc.2.2.1
          dsimp only at h4'
          have hfr : from_ (Wf b 1099511627776) (p + 1) (p + m) = Wf b 1099511627776 (p + m) := by unfold from_; rw [if_pos (by omega)]
          rw [hg3, hfr] at hw3
          refine (ways1_c wo.heap.size (w.heap.size + 1) gA w.heap.size (b.length + 1) (b.length + 1) p o m (Wf b 1099511627776 (p + m)).1 (wbs (1099511627776, 0, 0) (cList b 1099511627776 p L)) (by have := (wbs_le (1099511627776, 0, 0) (cList b 1099511627776 p L)).1; dsimp only at this; omega) (by have := Wf_le61 b 1099511627776 (p + m) hb; omega) hc.1 (by omega) h4' (by omega) (by omega) (by omega) (by omega) (by omega) (by omega) W hIW.1
            ((HFc.out.tch hIW.2 (by omega)).cell 0) ((HAc.out.tch hIW.2 (by omega)).cell 0) hw3).mono ?_
          rintro r W' ⟨rfl, hblk, htch⟩
          exact ⟨rfl, by rw [cList_snoc]; exact hblk, hIW.2.trans htch fun _ _ h => h⟩)
        W1 ⟨HB1.out, Tch.refl _ _⟩)
      refine HCop.out.mono ?_
      rintro r W2 ⟨rfl, hC2, hT2⟩
      rw [← (W_step b 1099511627776 p (by omega)).1] at hC2
      have HC2 := hid hC2
      have HT2 := hid hT2
      have HA2 := hid (HAc.out.tch hT2 (by omega))
      have HBe2 := hid (HBe.out.tch hT2 (by omega))
      have ht2z := hT2.size
      obtain ⟨⟨c0, c1, c2⟩, hCe⟩ : ∃ C, Wc b 1099511627776 p = C := ⟨_, rfl⟩
      have hcle := Wc_le b 1099511627776 p
      rw [hCe] at hC2 hcle
      dsimp only at hcle
      have HCe := hid hCe
      clear hCe
      have x0 : W2.cell? ⟨wo.heap.size, 0, none⟩ = some (.int .i64 (c0 : Int)) := hC2.cell 0
      have x1 : W2.cell? ⟨wo.heap.size, 1, none⟩ = some (.int .i64 (c1 : Int)) := hC2.cell 1
      have x2 : W2.cell? ⟨wo.heap.size, 2, none⟩ = some (.int .i64 (c2 : Int)) := hC2.cell 2
      have y0 : W2.cell? ⟨gA, 0, none⟩ = some (.int .i64 (p : Int)) := HA2.out.cell 0
      have hbs : p < b.length + 1 := by omega
      have z0 : W2.cell? ⟨w.heap.size + 1 + 1, p * 3, none⟩ = some (w3C (from_ (Wc b 1099511627776) (p + 1) p))[0]! := (HBe2.out.cell (p * 3)).trans (wayA_get _ (b.length + 1) p 0 hbs (by decide))
      have z1 : W2.cell? ⟨w.heap.size + 1 + 1, p * 3 + 1, none⟩ = some (w3C (from_ (Wc b 1099511627776) (p + 1) p))[1]! := (HBe2.out.cell (p * 3 + 1)).trans (wayA_get _ (b.length + 1) p 1 hbs (by decide))
      have z2 : W2.cell? ⟨w.heap.size + 1 + 1, p * 3 + 2, none⟩ = some (w3C (from_ (Wc b 1099511627776) (p + 1) p))[2]! := (HBe2.out.cell (p * 3 + 2)).trans (wayA_get _ (b.length + 1) p 2 hbs (by decide))
      have f0 := HBe2.out.free (p * 3)
      have f1 := HBe2.out.free (p * 3 + 1)
      have f2 := HBe2.out.free (p * 3 + 2)
      have ip : (p : Int) < (N : Int) := by omega
      have HC2 := hid hC2
      generalize (w3C (from_ (Wc b 1099511627776) (p + 1) p))[0]! = v0 at *
      generalize (w3C (from_ (Wc b 1099511627776) (p + 1) p))[1]! = v1 at *
      generalize (w3C (from_ (Wc b 1099511627776) (p + 1) p))[2]! = v2 at *
      clear hC2 hT2 HCop
      go_wp2_with fail
      refine wp_world (fun W => Below w.heap.size w W ∧ Blk W (w.heap.size + 1) 42 #[.slice (some ⟨w.heap.size, 0, none⟩) (b.length + 1) (b.length + 1)] ∧ Blk W w.heap.size 45 (wayA (from_ (Wf b 1099511627776) (p + 1)) (b.length + 1)) ∧
        Blk W (w.heap.size + 1 + 1) 45 (wayA (from_ (Wc b 1099511627776) p) (b.length + 1)) ∧ Blk W gA 3 #[.int .i64 (p : Int)] ∧ Blk W wo.heap.size 45 (w3C (c0, c1, c2))) ?_ ?_
      · have hbe3 := ((HBe2.out.set (p * 3) (.int .i64 (c0 : Int))).set (p * 3 + 1) (.int .i64 (c1 : Int))).set (p * 3 + 2) (.int .i64 (c2 : Int))
        have e3 := wayA_set (from_ (Wc b 1099511627776) (p + 1)) (b.length + 1) p (c0, c1, c2) hbs
        dsimp only at e3
        rw [e3, ← HCe.out, from_set] at hbe3
        have hbw : Below w.heap.size w W2 := (HS.out.below.trans (HK1.out.mono hbz)).trans (HT2.out.to_below (by omega) (fun q _ h => by omega))
        refine ⟨((hbw.setCell (by dsimp only; omega) _).setCell (by dsimp only; omega) _).setCell (by dsimp only; omega) _, ?_, ?_, hbe3, ?_, ?_⟩
        · exact (((HFc.out.tch HT2.out (by omega)).far (by dsimp only; omega) _).far (by dsimp only; omega) _).far (by dsimp only; omega) _
        · exact (((HFr.out.tch HT2.out (by omega)).far (by dsimp only; omega) _).far (by dsimp only; omega) _).far (by dsimp only; omega) _
        · exact ((HA2.out.far (by dsimp only; omega) _).far (by dsimp only; omega) _).far (by dsimp only; omega) _
        · exact ((HC2.out.far (by dsimp only; omega) _).far (by dsimp only; omega) _).far (by dsimp only; omega) _
      intro W3 ⟨hb3, hf3, hr3, hc3, ha3, hB3⟩
      have HB3 := hid hb3
      have HF3 := hid hf3
      have HR3 := hid hr3
      have HC3 := hid hc3
      have HA3 := hid ha3
      have HK3 := hid hB3
      have hl1 := hf3.lt
      have hl2 := hr3.lt
      have hl3 := hc3.lt
      have hl4 := ha3.lt
      clear hb3 hf3 hr3 hc3 ha3 hB3
      go_loopw [7] (fun nn wr => ∃ k : Nat, k ≤ b.length - p ∧ nn = .int .i64 ((k : Int) + 1) ∧ Blk wr wo.heap.size 45 (w3C (wbs (c0, c1, c2) (rList b 1099511627776 p k))) ∧ Tch (· = wo.heap.size) W3 wr) (fun nn _ => b.length + 1 - (intOf nn).toNat)
      case atStart => exact ⟨0, by omega, rfl, HK3.out, Tch.refl _ _⟩
      case round =>
        obtain ⟨k, hk, rfl, hBk, hTk⟩ := hrel
        have HBk := hid hBk
        have HTk := hid hTk
        have HAk := hid (HA3.out.tch hTk (by omega))
        have HCk := hid (HC3.out.tch hTk (by omega))
        have y1 : wr.cell? ⟨gA, 0, none⟩ = some (.int .i64 (p : Int)) := HAk.out.cell 0
        have htz := hTk.size
        clear hBk hTk
        by_cases hlt : k < b.length - p
        · have i1 : decide ((k : Int) + 1 ≤ (b.length : Int) - (p : Int)) = true := decide_eq_true (by omega)
          have HRun := hid (run_size (k + 1) (by omega) (by omega))
          rw [show ((k + 1 : Nat) : Int) = (k : Int) + 1 by omega] at HRun
          have hrs : rsz (k + 1) ≤ 200 := by unfold rsz; have := varB_le' (2 * (k + 1) - 2); omega
          have hFl := Wc_le b 1099511627776 (p + (k + 1))
          have hbest := (wbs_le (c0, c1, c2) (rList b 1099511627776 p k)).1
          dsimp only at hbest
          have HSn := hid (rList_snoc b 1099511627776 p k (c0, c1, c2))
          have c3 : wr.cell? ⟨w.heap.size + 1 + 1, (p + (k + 1)) * 3, none⟩ = some (.int .i64 ((Wc b 1099511627776 (p + (k + 1))).1 : Int)) := by
            have h := (HCk.out.cell ((p + (k + 1)) * 3)).trans (wayA_get _ (b.length + 1) (p + (k + 1)) 0 (by omega) (by decide))
            rw [h]
            unfold from_
            rw [if_pos (by omega)]
            rfl
          generalize (Wc b 1099511627776 (p + (k + 1))).1 = F at *
          generalize rsz (k + 1) = rs at *
          generalize hbw : wbs (c0, c1, c2) (rList b 1099511627776 p k) = bw at *
          have HBt := hid (fun W h => better_c wo.heap.size bw (rs + F, 0, k + 1) (by omega) (by dsimp only; omega) W h)
          unfold w3C at HBt
          dsimp only at HBt
          rw [show ((k + 1 : Nat) : Int) = (k : Int) + 1 by omega] at HBt
          have ei : 0 ≤ (p : Int) + ((k : Int) + 1) ∧ (p : Int) + ((k : Int) + 1) < (N : Int) := by have := HN.out; omega
          have en : ((p : Int) + ((k : Int) + 1)).toNat = p + (k + 1) := by omega
          have HW1 : Hid (IntKind.i64.wrap ((p : Int) + ((k : Int) + 1)) = (p : Int) + ((k : Int) + 1)) := hid (wrap_small _ (by omega) (by omega))
          have HW2 : Hid (IntKind.i64.wrap ((rs : Int) + (F : Int)) = (((rs + F : Nat)) : Int)) := hid (by rw [wrap_small _ (by omega) (by omega)]; omega)
          have l1 := World.block_lt_of_cell? _ _ y1
          have l2 := World.block_lt_of_cell? _ _ c3
          have hD1 : wr.drew.cell? ⟨gA, 0, none⟩ = some (.int .i64 (p : Int)) := y1
          have hD2 : wr.drew.cell? ⟨w.heap.size + 1 + 1, (p + (k + 1)) * 3, none⟩ = some (.int .i64 (F : Int)) := c3
          have d1 : ¬ gA = wo.heap.size := by omega
          have d2 : ¬ w.heap.size + 1 + 1 = wo.heap.size := by omega
          go_wp2_with fail
          refine wp_region_held_drew (S := fun w' => w'.cell? ⟨gA, 0, none⟩ = some (.int .i64 (p : Int)) ∧ w'.cell? ⟨w.heap.size + 1 + 1, (p + (k + 1)) * 3, none⟩ = some (.int .i64 (F : Int))) (by kernel_rfl) ⟨hD1, hD2⟩ (fun hHeld => ?_)
          refine wpAnyH_take (i := 0) (oi := _) (v := ?_) rfl (by decide +kernel) (by decide +kernel) (by decide +kernel) (fun _ _ _ h => h) (Or.inl ⟨by rfl, ?_⟩) (by assumption) ?_
          rotate_left
          · (intro w hSw; (try dsimp only at hSw); go_simp <;> with_reducible rfl)
          (try simp only [Act.put, List.setIfInBounds_toArray, List.set_cons_zero, List.set_cons_succ])
          refine wpAnyH_take (i := 2) (oi := _) (v := ?_) rfl (by decide +kernel) (by decide +kernel) (by decide +kernel) (fun _ _ _ h => h) (Or.inl ⟨by rfl, ?_⟩) (by assumption) ?_
          rotate_left
          · (intro w hSw; (try dsimp only at hSw); go_simp <;> with_reducible rfl)
          (try simp only [Act.put, List.setIfInBounds_toArray, List.set_cons_zero, List.set_cons_succ])
          refine wpAnyH_take (i := 3) (oi := _) (v := ?_) rfl (by decide +kernel) (by decide +kernel) (by decide +kernel) (fun _ _ _ h => h) (Or.inl ⟨by rfl, ?_⟩) (by assumption) ?_
          rotate_left
          · (intro w hSw; (try dsimp only at hSw); go_simp <;> with_reducible rfl)
          (try simp only [Act.put, List.setIfInBounds_toArray, List.set_cons_zero, List.set_cons_succ])
          refine wpAnyH_take (i := 4) (oi := _) (v := ?_) rfl (by decide +kernel) (by decide +kernel) (by decide +kernel) (fun _ _ _ h => h) (Or.inl ⟨by rfl, ?_⟩) (by assumption) ?_
          rotate_left
          · (intro w hSw; (try dsimp only at hSw); go_simp <;> with_reducible rfl)
          (try simp only [Act.put, List.setIfInBounds_toArray, List.set_cons_zero, List.set_cons_succ])
          refine wpAnyH_take (i := 5) (oi := _) (v := ?_) rfl (by decide +kernel) (by decide +kernel) (by decide +kernel) (fun _ _ _ h => h) (Or.inl ⟨by rfl, ?_⟩) (by assumption) ?_
          rotate_left
          · (intro w hSw; (try dsimp only at hSw); go_simp <;> with_reducible rfl)
          (try simp only [Act.put, List.setIfInBounds_toArray, List.set_cons_zero, List.set_cons_succ])
          (try rw [HW1.out])
          refine wpAnyH_take (i := 6) (oi := _) (v := ?_) rfl (by decide +kernel) (by decide +kernel) (by decide +kernel) (fun _ _ _ h => h) (Or.inl ⟨by rfl, ?_⟩) (by assumption) ?_
          rotate_left
          · (intro w hSw; (try dsimp only at hSw); go_simp <;> with_reducible rfl)
          (try simp only [Act.put, List.setIfInBounds_toArray, List.set_cons_zero, List.set_cons_succ])
          refine wpAnyH_take (i := 7) (oi := _) (v := ?_) rfl (by decide +kernel) (by decide +kernel) (by decide +kernel) (fun _ _ _ h => h) (Or.inl ⟨by rfl, ?_⟩) (by assumption) ?_
          rotate_left
          · (intro w hSw; (try dsimp only at hSw); go_simp <;> with_reducible rfl)
          (try simp only [Act.put, List.setIfInBounds_toArray, List.set_cons_zero, List.set_cons_succ])
          refine wpAnyH_take (i := 8) (oi := _) (v := ?_) rfl (by decide +kernel) (by decide +kernel) (by decide +kernel) (fun _ _ _ h => h) (Or.inl ⟨by rfl, ?_⟩) (by assumption) ?_
          rotate_left
          · (intro w hSw; (try dsimp only at hSw); go_simp <;> with_reducible rfl)
          (try simp only [Act.put, List.setIfInBounds_toArray, List.set_cons_zero, List.set_cons_succ])
          refine wpAnyH_take (i := 10) (oi := _) (v := ?_) rfl (by decide +kernel) (by decide +kernel) (by decide +kernel) (fun _ _ _ h => h) (Or.inl ⟨by rfl, ?_⟩) (by assumption) ?_
          rotate_left
          · (intro w hSw; (try dsimp only at hSw); go_simp <;> with_reducible rfl)
          (try simp only [Act.put, List.setIfInBounds_toArray, List.set_cons_zero, List.set_cons_succ])
          refine wpAnyH_ready (rs := [1]) (by decide +kernel) (by simp) ?_
          refine AllReadyH.cons (o := _) rfl (fun K hK => ?_) AllReadyH.nil
          (go_simp; go_at_call 34; refine (HRun.out _).mono ?_; rintro e w4 ⟨rfl, hb4⟩; have f1 := (hb4.cell (p := ⟨gA, 0, none⟩) l1).trans hD1; have f2 := (hb4.cell (p := ⟨w.heap.size + 1 + 1, (p + (k + 1)) * 3, none⟩) l2).trans hD2; have HB4 := hid hb4; clear hb4)
          refine hK.out _ _ ?_ (fun hHeld => ?_)
          · ((try dsimp only); refine ⟨?_, ?_⟩ <;> (first | assumption | (go_keep; done)))
          clear hK K
          (try simp only [Act.put, List.setIfInBounds_toArray, List.set_cons_zero, List.set_cons_succ])
          refine wpAnyH_take (i := 9) (oi := _) (v := ?_) rfl (by decide +kernel) (by decide +kernel) (by decide +kernel) (fun _ _ _ h => h) (Or.inl ⟨by rfl, ?_⟩) (by assumption) ?_
          rotate_left
          · (intro w hSw; (try dsimp only at hSw); go_simp <;> with_reducible rfl)
          (try simp only [Act.put, List.setIfInBounds_toArray, List.set_cons_zero, List.set_cons_succ])
          (try rw [HW2.out])
          refine wpAnyH_take (i := 11) (oi := _) (v := ?_) rfl (by decide +kernel) (by decide +kernel) (by decide +kernel) (fun _ _ _ h => h) (Or.inl ⟨by rfl, ?_⟩) (by assumption) ?_
          rotate_left
          · (intro w hSw; (try dsimp only at hSw); go_simp <;> with_reducible rfl)
          (try simp only [Act.put, List.setIfInBounds_toArray, List.set_cons_zero, List.set_cons_succ])
          refine wpAnyH_ready (rs := [12]) (by decide +kernel) (by simp) ?_
          refine AllReadyH.cons (o := _) rfl (fun K hK => ?_) AllReadyH.nil
          (go_simp; go_at_call 32; refine (HBt.out w4 (HBk.out.drew.later HB4.out)).mono ?_; rintro e w5 ⟨rfl, hbl5, ht5⟩; have f1 := (ht5.cell (p := ⟨gA, 0, none⟩) (Nat.lt_of_lt_of_le l1 HB4.out.size) d1).trans f1; have f2 := (ht5.cell (p := ⟨w.heap.size + 1 + 1, (p + (k + 1)) * 3, none⟩) (Nat.lt_of_lt_of_le l2 HB4.out.size) d2).trans f2; have HBL := hid hbl5; have HT5 := hid ((((Tch.refl (· = wo.heap.size) wr).drew).trans (Tch.of_later (F := (· = wo.heap.size)) HB4.out) fun _ _ h => h).trans ht5 fun _ _ h => h); clear hbl5 ht5)
          refine hK.out _ _ ?_ (fun hHeld => ?_)
          · ((try dsimp only); refine ⟨?_, ?_⟩ <;> (first | assumption | (go_keep; done)))
          clear hK K
          (try simp only [Act.put, List.setIfInBounds_toArray, List.set_cons_zero, List.set_cons_succ])
          try simp only [List.getElem_toArray, List.getElem_cons_zero, List.getElem_cons_succ, Act.put, List.setIfInBounds_toArray, List.set_cons_zero, List.set_cons_succ]
          refine wpAnyH_done (by kernel_rfl) ?_ _
          go_wp2_with fail
          go_roundw
          case rel => exact ⟨k + 1, by omega, by go_num, (by rw [HSn.out]; exact HBL.out), HTk.out.trans HT5.out fun _ _ h => h⟩
          case measure => simp [intOf]; omega
        · obtain rfl : k = b.length - p := by omega
          have i1 : decide (((b.length - p : Nat) : Int) + 1 ≤ (b.length : Int) - (p : Int)) = false := decide_eq_false (by omega)
          have hWf := (W_step b 1099511627776 p (by omega)).2
          rw [HCe.out] at hWf
          rw [← hWf] at HBk
          obtain ⟨⟨d0, d1, d2⟩, hDe⟩ : ∃ D, Wf b 1099511627776 p = D := ⟨_, rfl⟩
          rw [hDe] at HBk
          have HDe := hid hDe
          clear hWf hDe
          have HFk := hid (HF3.out.tch HTk.out (by omega))
          have HRk := hid (HR3.out.tch HTk.out (by omega))
          have t0 : wr.cell? ⟨w.heap.size + 1, 0, none⟩ = some (.slice (some ⟨w.heap.size, 0, none⟩) N N) := by have h := HFk.out.cell 0; rw [← HN.out] at h; exact h
          have q0 : wr.cell? ⟨wo.heap.size, 0, none⟩ = some (.int .i64 (d0 : Int)) := HBk.out.cell 0
          have q1 : wr.cell? ⟨wo.heap.size, 1, none⟩ = some (.int .i64 (d1 : Int)) := HBk.out.cell 1
          have q2 : wr.cell? ⟨wo.heap.size, 2, none⟩ = some (.int .i64 (d2 : Int)) := HBk.out.cell 2
          have r0 : wr.cell? ⟨w.heap.size, p * 3, none⟩ = some (w3C (from_ (Wf b 1099511627776) (p + 1) p))[0]! := (HRk.out.cell (p * 3)).trans (wayA_get _ (b.length + 1) p 0 hbs (by decide))
          have r1 : wr.cell? ⟨w.heap.size, p * 3 + 1, none⟩ = some (w3C (from_ (Wf b 1099511627776) (p + 1) p))[1]! := (HRk.out.cell (p * 3 + 1)).trans (wayA_get _ (b.length + 1) p 1 hbs (by decide))
          have r2 : wr.cell? ⟨w.heap.size, p * 3 + 2, none⟩ = some (w3C (from_ (Wf b 1099511627776) (p + 1) p))[2]! := (HRk.out.cell (p * 3 + 2)).trans (wayA_get _ (b.length + 1) p 2 hbs (by decide))
          have s0 := HRk.out.free (p * 3)
          have s1 := HRk.out.free (p * 3 + 1)
          have s2 := HRk.out.free (p * 3 + 2)
          generalize (w3C (from_ (Wf b 1099511627776) (p + 1) p))[0]! = o0 at *
          generalize (w3C (from_ (Wf b 1099511627776) (p + 1) p))[1]! = o1 at *
          generalize (w3C (from_ (Wf b 1099511627776) (p + 1) p))[2]! = o2 at *
          have d5 : ¬ gA = w.heap.size := by omega
          have hgAr : gA < wr.heap.size := by omega
          have hr5 := ((HRk.out.set (p * 3) (.int .i64 (d0 : Int))).set (p * 3 + 1) (.int .i64 (d1 : Int))).set (p * 3 + 2) (.int .i64 (d2 : Int))
          have e5 := wayA_set (from_ (Wf b 1099511627776) (p + 1)) (b.length + 1) p (d0, d1, d2) hbs
          dsimp only at e5
          rw [e5, ← HDe.out, from_set] at hr5
          have hbw5 : Below w.heap.size w wr := HB3.out.trans (HTk.out.to_below (by omega) (fun q _ h => by omega))
          have hb5 := ((hbw5.setCell (p := ⟨w.heap.size, p * 3, none⟩) (by dsimp only; omega) (.int .i64 (d0 : Int))).setCell (p := ⟨w.heap.size, p * 3 + 1, none⟩) (by dsimp only; omega) (.int .i64 (d1 : Int))).setCell (p := ⟨w.heap.size, p * 3 + 2, none⟩) (by dsimp only; omega) (.int .i64 (d2 : Int))
          have hf5 := ((HFk.out.far (p := ⟨w.heap.size, p * 3, none⟩) (by dsimp only; omega) (.int .i64 (d0 : Int))).far (p := ⟨w.heap.size, p * 3 + 1, none⟩) (by dsimp only; omega) (.int .i64 (d1 : Int))).far (p := ⟨w.heap.size, p * 3 + 2, none⟩) (by dsimp only; omega) (.int .i64 (d2 : Int))
          have hc5 := ((HCk.out.far (p := ⟨w.heap.size, p * 3, none⟩) (by dsimp only; omega) (.int .i64 (d0 : Int))).far (p := ⟨w.heap.size, p * 3 + 1, none⟩) (by dsimp only; omega) (.int .i64 (d1 : Int))).far (p := ⟨w.heap.size, p * 3 + 2, none⟩) (by dsimp only; omega) (.int .i64 (d2 : Int))
          have HQ5 := hid hr5
          have HQb := hid hb5
          have HQf := hid hf5
          have HQc := hid hc5
          have hsz5 : (((wr.setCell ⟨w.heap.size, p * 3, none⟩ (.int .i64 (d0 : Int))).setCell ⟨w.heap.size, p * 3 + 1, none⟩ (.int .i64 (d1 : Int))).setCell ⟨w.heap.size, p * 3 + 2, none⟩ (.int .i64 (d2 : Int))).heap.size = wr.heap.size := by simp [World.setCell]
          have HSz := hid hsz5
          clear hr5 e5 hbw5 hb5 hf5 hc5 hsz5
          go_wp2_with fail
          have hat5 : Blk ((((wr.setCell ⟨w.heap.size, p * 3, none⟩ (.int .i64 (d0 : Int))).setCell ⟨w.heap.size, p * 3 + 1, none⟩ (.int .i64 (d1 : Int))).setCell ⟨w.heap.size, p * 3 + 2, none⟩ (.int .i64 (d2 : Int))).alloc (.cells #[.int .i64 ((p : Int) - 1)] 3)) wr.heap.size 3 #[.int .i64 ((p : Int) - 1)] := Blk.newAt _ _ _ HSz.out.symm
          go_roundw
          case rel =>
            refine ⟨p, wr.heap.size, by omega, rfl, HQb.out.alloc (by rw [HSz.out]; omega) _, HQf.out.alloc _, HQ5.out.alloc _, HQc.out.alloc _, hat5, by omega⟩
          case measure =>
            have e1 := hat5.cell 0
            have e2 := HA.out.cell 0
            simp only [e1, e2]
            show ((p : Int) - 1 + 1).toNat < ((p : Int) + 1).toNat
            omega
    · obtain rfl : q = 0 := by omega
      have a0 := hS.at_.cell 0
      have f0 := hS.f.cell 0
      rw [← HN.out] at f0
      have HS := hid hS
      clear hS
      go_wp2_with fail
      go_ret
      refine ⟨⟨w.heap.size, rfl, Nat.le_refl _, ?_⟩, HS.out.below⟩
      have h := HS.out.free
      rw [wayA_congr (from_ (Wf b 1099511627776) 0) (Wf b 1099511627776) _ (fun i _ => by unfold from_; rw [if_pos (Nat.zero_le _)])] at h
      rw [HN.out]
      exact h
end Go.Proofs.Ytlkpnpbodbokkaa
