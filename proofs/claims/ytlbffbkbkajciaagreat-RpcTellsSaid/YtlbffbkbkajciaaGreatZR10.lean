/- Mini: Needed by rpcTells_walk, part 10: texts put together by shake.py; no condition. -/
import Derived.Test.YtlbffbkbkajciaaGreatZR4
import Derived.Test.YtlbffbkbkajciaaGreatZR3
import Derived.Test.YtlbffbkbkajciaaGreatZR2
import Derived.Test.YtlbffbkbkajciaaGreatZR9
import Derived.Test.YtlbffbkbkajciaaGreatProg
import Derived.WalkKit
import Derived.Deep.Cut
import Derived.Deep.WholeRow
import Derived.BigQuiet
import Derived.Test.YtlbffbkbkajciaaGreatZR1
import Derived.Test.YtlbffbkbkajciaaGreatZR7
import Derived.Deep.CutRange
import Derived.Test.YtlbffbkbkajciaaGreatZR8
import Derived.Test.YtlbffbkbkajciaaGreatZR6
import Derived.Test.YtlbffbkbkajciaaGreatZR5
set_option linter.unusedVariables false
set_option linter.unusedSimpArgs false
set_option maxRecDepth 100000
set_option maxHeartbeats 6400000
namespace Go.Bs
theorem zBd{p:Prop}(h:p:=by rw [hP, Ae (⟨h1, h2⟩ : 1 ≤ l.length ∧ l.length ≤ 64)]; simp):p:=h
theorem zA5{p:Prop}(h:p:=by rw [hP, Ad (fun h => h1 h.1 : ¬ (1 ≤ l.length ∧ l.length ≤ 64))]; rfl):p:=h
theorem zA4{p:Prop}(h:p:=by rw [hP, Ad (fun h => h2 h.2 : ¬ (1 ≤ l.length ∧ l.length ≤ 64))]; rfl):p:=h
theorem zAq{p:Prop}(h:p:=by rw [hb.out]; rfl):p:=h
theorem zAk{p:Prop}(h:p:=by simp [results, Tryz.results220, go_sem, lt2, x0, x1, x2]):p:=h
theorem Z4{p:Prop}(h:p:=by rw [← HW1.out]; simp):p:=h
theorem Z3{p:Prop}(h:p:=by have := HLT.out _ hf; omega):p:=h
theorem ZF{p:Prop}(h:p:=by rw [HM.out]; simp):p:=h
theorem zS{p:Prop}(h:p:=by unfold IZ; decide):p:=h
end Go.Bs
namespace Go.Proofs.YtlbffbkbkajciaaGreat
open Go.RowKit Go.Bs Go.Maps
def Dj : Int → List BD → Nat → Int
 | p, _, 0 => p
 | _, [], _ + 1 => 0
 | _, s :: l, n + 1 => Dj s.hi l n
theorem Ia : ∀ (l : List BD) (p : Int) (i : Nat) (h : i < l.length), Dj p l (i + 1) = l[i].hi
 | [], _, i, h => by simp at h
 | s :: l, p, 0, h => by cases l <;> rfl
 | s :: l, p, i + 1, h => by
  have := Ia l s.hi i ZS
  simpa [Dj] using this
theorem Og (p : Int) (l : List BD) : Dj p l 0 = p := by cases l <;> rfl
theorem G0 : ∀ (l : List BD) (p : Int), Dp p l = true ↔ (∀ i (h : i < l.length), Bm l[i] = true ∧ l[i].lo = Dj p l i) ∧ Dj p l l.length = 4611686018427387904
 | [], p => by simp [Dp, Dj]
 | s :: l, p => by
  simp only [Dp, Ao, Ar]
  rw [G0 l s.hi]
  constructor
  ·rintro ⟨h1, h2, h3, h4⟩
   refine ⟨fun i h => ?_, by simpa [Dj] using h4⟩
   rcases i with _ | i
   ·exact ⟨h2, h1⟩
   ·have := h3 i ZS
    simpa [Dj] using this
  ·rintro ⟨h1, h2⟩
   refine ⟨(h1 0 zO).2, (h1 0 zO).1, fun i h => ?_, by simpa [Dj] using h2⟩
   have := h1 (i + 1) ZS
   simpa [Dj] using this
theorem Q7 (l : List BD) (p : Int) (k : Nat) (h : k < l.length) : Dp p (l.drop k) = (decide (l[k].lo = p) && (Bm l[k] && Dp l[k].hi (l.drop (k + 1)))) := by
 rw [AW h]; rfl
theorem Pk {l : List BD} {p : Int} (k : Nat) (h : k < l.length) (hb : Bm l[k] = false ∨ l[k].lo ≠ Dj p l k) : Dp p l = false := by
 rcases hh : Dp p l with _ | _
 ·rfl
 ·have := ((G0 l p).1 hh).1 k h
  rcases hb with hb | hb
  ·rw [this.1] at hb; cases hb
  ·exact absurd this.2 hb
theorem LH (ep : Int) (l : List BD) (a : Option Addr) (n c : Nat) (w : World) (hl : Bg.r (· < w.heap.size) w [.slice a n c] l) :
  Calls Tryz.prog 87 #[.agg #[.int .u64 ep, .slice a n c]] w fun r w' => r = .returned (.bool (CA ⟨ep, l⟩)) ∧ Below w.heap.size w w' := by
 obtain ⟨rfl, hm, hcc, hcm⟩ := AS hl
 have HL := hid hl
 have HE := hid (fun W : World => FH ep W)
 have hP : CA ⟨ep, l⟩ = (epR ep && (decide (1 ≤ l.length ∧ l.length ≤ 64) && Dp 0 l)) := rfl
 generalize epR ep = E at *
 clear hl;cases E
 ·have hff : Hid (CA ⟨ep, l⟩ = false) := hid (by rw [hP]; rfl)
  clear hP;go_enter Tryz.func87, Tryz.ntmps87
  go_wp2_with fail;refine (HE.out _).mono ?_
  rintro r w1 ⟨rfl, rfl⟩;go_wp2_with fail;go_ret;exact ⟨zH, zB⟩
 ·by_cases h1 : 1 ≤ l.length
  ·have d1 : decide ((l.length : Int) < 1) = false := Ad zC
   by_cases h2 : l.length ≤ 64
   ·have d2 : decide ((64 : Int) < (l.length : Int)) = false := Ad zC
    have hff0 : Hid (CA ⟨ep, l⟩ = Dp 0 (l.drop 0)) := hid zBd
    have x1 : (w.alloc (.cells #[.int .u64 ep, .slice a l.length c] 30)).cell? ⟨w.heap.size, 1, none⟩ = some (.slice a l.length c) := zO
    have hb0 : Below w.heap.size w (w.alloc (.cells #[.int .u64 ep, .slice a l.length c] 30)) := zB
    clear hP;go_enter Tryz.func87, Tryz.ntmps87
    go_wp2_with fail;refine (HE.out _).mono ?_
    rintro r w1 ⟨rfl, rfl⟩;go_wp2_with fail;generalize (w.alloc (.cells #[.int .u64 ep, .slice a l.length c] 30)) = w0 at *
    have HB0 := hid hb0
    clear hb0 x1;go_loopw [3, 25] (fun f i wr => ∃ (k : Nat) (p : Int), k ≤ l.length ∧ i = .int .i64 k ∧ f = .int .u64 p ∧ Hid (CA ⟨ep, l⟩ = Dp p (l.drop k)) ∧ Below w0.heap.size w0 wr) (fun _ i _ => l.length - (intOf i).toNat)
    case atStart => exact ⟨0, 0, Aj _, rfl, rfl, hff0, Below.refl _ _⟩
    case round =>
     obtain ⟨k, p, hk, rfl, rfl, hf, hb⟩ := hrel
     have HBW := hid (HB0.out.trans (hb.mono HB0.out.size))
     have HB := hid hb
     by_cases hlt : k < l.length
     ·have i1 : (k : Int) < (l.length : Int) := by omega
      have e0 : decide ((k : Int) < (l.length : Int)) = true := Ae i1
      obtain ⟨b, o, hA, hbb, ak, ck, u0, u1, u2, ub0, ub1, xl⟩ := DG (lift HL.out HBW.out) hlt
      subst hA;have hst := hid (Q7 l p k hlt)
      have HR := hid (fun (W : World) (hW : Below wr.heap.size wr W) => Je l[k].lo l[k].hi l[k].sets ak _ ck W (lift xl hW))
      have hbl : b < wr.heap.size := Cr _ _ u0
      clear hb xl;generalize l[k] = X at *
      have hX : (⟨X.lo, X.hi, X.sets⟩ : BD) = X := rfl
      simp only [hX] at HR
      by_cases hlo : X.lo = p
      ·have e1 : (X.lo != p) = false := by simp [hlo]
       generalize Bm X = R at *
       cases R
       ·have hff : Hid (CA ⟨ep, l⟩ = false) := hid (by rw [hf.out, hst.out]; simp)
        clear hlo hX;go_wp2_with fail;refine (HR.out _ zA).mono ?_
        rintro r w3 ⟨rfl, hb3⟩;have hbe : Below w0.heap.size w0 w3 := Af hb3 (AF HB.out _)
        have hbf : Below w.heap.size w w3 := HB0.out.trans (hbe.mono HB0.out.size)
        go_wp2_with fail;go_ret;exact ⟨zH, hbf⟩
       ·have hff : Hid (CA ⟨ep, l⟩ = Dp X.hi (l.drop (k + 1))) := hid (by rw [hf.out, hst.out, Ae hlo]; rfl)
        clear hlo hX;go_wp2_with fail;refine (HR.out _ zA).mono ?_
        rintro r w3 ⟨rfl, hb3⟩;have z1 := hb3.cell (p := ⟨wr.heap.size, 1, none⟩) zO
        simp at z1
        have hbe : Below w0.heap.size w0 w3 := Af hb3 (AF HB.out _)
        clear hb3;go_wp2_with fail;go_roundw
        case rel => exact ⟨k + 1, X.hi, zC, zV, rfl, hff, hbe⟩
        case measure => (simp [intOf]; try omega)
      ·have e1 : (X.lo != p) = true := by simpa using hlo
       have hff : Hid (CA ⟨ep, l⟩ = false) := hid (by rw [hf.out, hst.out, Ad hlo]; rfl)
       clear hlo hX;go_wp2_with fail;go_ret;exact ⟨zH, by have := HBW.out; (repeat (first | with_reducible exact Below.refl _ _ | with_reducible assumption | (with_reducible refine AF ?_ _) | (with_reducible refine Below.setCell ?_ (by first | omega | (simp; done) | (simp; omega)) _) | (with_reducible refine Below.drew ?_) | (with_reducible refine below_drewN ?_ _) | (refine Af (by with_reducible assumption) ?_)))⟩
     ·obtain rfl : k = l.length := by omega
      have e0 : decide ((l.length : Int) < (l.length : Int)) = false := Ad zC
      have hff : Hid (CA ⟨ep, l⟩ = decide (p = 4611686018427387904)) := hid ZZ
      have hbq : (p == 4611686018427387904) = decide (p = 4611686018427387904) := by
       by_cases h : p = 4611686018427387904
       ·subst h; rfl
       ·rw [Ad h]; simpa using h
      generalize decide (p = 4611686018427387904) = Q at *
      clear hb;go_wp2_with fail;go_ret;exact ⟨by rw [hff.out]; first | rfl | (rw [← hbq]; rfl) | (simp only [hbq]; rfl), HBW.out⟩
   ·have d2 : decide ((64 : Int) < (l.length : Int)) = true := Ae zC
    have hff : Hid (CA ⟨ep, l⟩ = false) := hid zA4
    clear hP h2;go_enter Tryz.func87, Tryz.ntmps87
    go_wp2_with fail;refine (HE.out _).mono ?_
    rintro r w1 ⟨rfl, rfl⟩;go_wp2_with fail;go_ret;exact ⟨zH, zB⟩
  ·have d1 : decide ((l.length : Int) < 1) = true := Ae zC
   have hff : Hid (CA ⟨ep, l⟩ = false) := hid zA5
   clear hP h1;go_enter Tryz.func87, Tryz.ntmps87
   go_wp2_with fail;refine (HE.out _).mono ?_
   rintro r w1 ⟨rfl, rfl⟩;go_wp2_with fail;go_ret;exact ⟨zH, zB⟩
theorem Ox (ep : Int) (h0 : 0 ≤ ep) (l : List BD) (a : Option Addr) (n c : Nat) (w : World) (hl : Bg.r (· < w.heap.size) w [.slice a n c] l) :
  Calls Tryz.prog 94 #[.agg #[.int .u64 ep, .slice a n c]] w fun r w' => r = .returned (.bool (CA ⟨ep, l⟩)) ∧ Below w.heap.size w w' := by
 obtain ⟨rfl, hm, hcc, hcm⟩ := AS hl
 have HL := hid hl
 have HE := hid (fun W : World => Ic ep h0 W)
 have hP : CA ⟨ep, l⟩ = (epR ep && (decide (1 ≤ l.length ∧ l.length ≤ 64) && Dp 0 l)) := rfl
 generalize epR ep = E at *
 clear hl;cases E
 ·have hff : Hid (CA ⟨ep, l⟩ = false) := hid (by rw [hP]; rfl)
  clear hP;go_enter Tryz.func94, Tryz.ntmps94
  go_wp2_with fail;refine (HE.out _).mono ?_
  rintro r w1 ⟨rfl, rfl⟩;go_wp2_with fail;go_ret;exact ⟨zH, zB⟩
 ·by_cases h1 : 1 ≤ l.length
  ·have d1 : decide ((l.length : Int) < 1) = false := Ad zC
   by_cases h2 : l.length ≤ 64
   ·have d2 : decide ((64 : Int) < (l.length : Int)) = false := Ad zC
    have hff0 : CA ⟨ep, l⟩ = Dp 0 l := zBd
    have hp0 : 0 < l.length := zC
    obtain ⟨b, o, hA, hbb, _, _, p0, _, _, _, _, _⟩ := DG HL.out hp0
    obtain ⟨m, hmm⟩ : ∃ m, l.length = m + 1 := ⟨l.length - 1, zC⟩
    have hpm : m < l.length := zC
    obtain ⟨b', o', hA', hbb', _, _, _, q1, _, _, _, _⟩ := DG HL.out hpm
    rw [hA] at hA'
    simp only [Bk, Dd] at hA'
    obtain ⟨rfl, rfl, _⟩ := hA'
    have HA := hid hA
    have hc0 : Dp 0 l = true → (l[0]'hp0).lo = 0 := fun h => (((G0 l 0).1 h).1 0 hp0).2.trans (Og 0 l)
    have hcm' : Dj 0 l l.length = (l[m]'hpm).hi := (D8 (Dj 0 l) hmm).trans (Ia l 0 m hpm)
    have hcl : Dp 0 l = true → (l[m]'hpm).hi = 4611686018427387904 := fun h => by rw [← hcm']; exact ((G0 l 0).1 h).2
    have hok : (∀ i (h : i < l.length), Bm l[i] = true ∧ l[i].lo = Dj 0 l i) → (l[m]'hpm).hi = 4611686018427387904 → Dp 0 l = true := fun h h' => (G0 l 0).2 ⟨h, by rw [hcm']; exact h'⟩
    have HOK := hid hok
    have HBAD := hid (fun (k : Nat) (h : k < l.length) (hb : Bm l[k] = false ∨ l[k].lo ≠ Dj 0 l k) => Pk (p := 0) k h hb)
    have HFF := hid hff0
    simp only [Hp, BE] at p0
    have hnot0 : (l[0]'hp0).lo ≠ 0 → Hid (CA ⟨ep, l⟩ = false) := fun h => hid (by rw [hff0]; exact Hw fun e => h (hc0 e))
    have hnotl : (l[m]'hpm).hi ≠ 4611686018427387904 → Hid (CA ⟨ep, l⟩ = false) := fun h => hid (by rw [hff0]; exact Hw fun e => h (hcl e))
    have x1 : (w.alloc (.cells #[.int .u64 ep, .slice a l.length c] 30)).cell? ⟨w.heap.size, 1, none⟩ = some (.slice a l.length c) := zO
    have hb0 : Below w.heap.size w (w.alloc (.cells #[.int .u64 ep, .slice a l.length c] 30)) := zB
    have hs0 : w.heap.size < (w.alloc (.cells #[.int .u64 ep, .slice a l.length c] 30)).heap.size := zO
    have P0 := (hb0.cell (p := ⟨b, o, none⟩) hbb).trans p0
    have Q1 := (hb0.cell (p := ⟨b, o + m * 3 + 1, none⟩) hbb).trans q1
    generalize hzz : l[0]'hp0 = Z at *
    generalize hyy : (l[m]'hpm).hi = hY at *
    have HM := hid hmm
    have HPP := hid (And.intro hp0 hpm)
    have HLM := hid hcm'
    have hm64 : m ≤ 63 := zC
    have HZZ := hid hzz
    clear hP hff0 hc0 hcl hcm' hok p0 q1 hzz hyy h1 h2;subst hA;have j1 : (0 : Int) ≤ (m : Int) + 1 - 1 := zC
    rw [hmm] at x1 hb0 hs0 P0 Q1 d1 d2 ⊢
    clear hmm;by_cases hz0 : Z.lo = 0
    ·have e0 : (Z.lo != 0) = false := by simp [hz0]
     by_cases hym : hY = 4611686018427387904
     ·have e1 : (hY != 4611686018427387904) = false := by simp [hym]
      have HY := hid hym
      have HZ0 := hid hz0
      clear hz0 hym hnot0 hnotl;go_enter Tryz.func94, Tryz.ntmps94
      go_wp2_with fail;refine (HE.out _).mono ?_
      rintro r w1 ⟨rfl, rfl⟩;go_wp2_with fail;generalize (w.alloc (.cells #[.int .u64 ep, .slice (some ⟨b, o, none⟩) (m + 1) c] 30)) = w0 at *
      have HB0 := hid hb0
      clear hb0 P0 Q1;go_loopw [4] (fun i wr => ∃ k : Nat, k ≤ m + 1 ∧ i = .int .i64 k ∧ Hid (∀ i, i < k → ∀ (h : i < l.length), Bm l[i] = true ∧ l[i].lo = Dj 0 l i) ∧ Below w0.heap.size w0 wr) (fun i _ => m + 1 - (intOf i).toNat)
      case atStart => exact ⟨0, Aj _, rfl, hid (fun i hi => zC), Below.refl _ _⟩
      case round =>
       obtain ⟨k, hk, rfl, hf, hb⟩ := hrel
       have HBW := hid (HB0.out.trans (hb.mono HB0.out.size))
       have HB := hid hb
       by_cases hlt : k < m + 1
       ·have i1 : (k : Int) < (m : Int) + 1 := by omega
        have e3 : decide ((k : Int) < (m : Int) + 1) = true := Ae i1
        have hll : k < l.length := by rw [HM.out]; exact hlt
        obtain ⟨b2, o2, hA2, hbb2, ak, ck, u0, u1, u2, ub0, ub1, xl⟩ := DG HL.out hll
        simp only [Bk, Dd, AO] at hA2
        obtain ⟨rfl, rfl⟩ := hA2
        have hbd := HBAD.out k hll
        have hss : ∀ j, k = j + 1 → ∃ h : j < l.length, Dj 0 l k = l[j].hi := fun j e => by subst e; exact ⟨zC, Ia l 0 j zC⟩
        have hs00 : k = 0 → Dj 0 l k = 0 := fun e => by subst e; cases l <;> rfl
        have hnx : Bm l[k] = true → l[k].lo = Dj 0 l k → ∀ i, i < k + 1 → ∀ (h : i < l.length), Bm l[i] = true ∧ l[i].lo = Dj 0 l i := fun h1 h2 i hi h => by
         rcases Bd i k with h3 | h3
         ·exact hf.out i h3 h
         ·obtain rfl : i = k := by omega
          exact ⟨h1, h2⟩
        have HR := hid (fun (s : A1 wr) => OB l[k].lo l[k].hi l[k].sets ak _ ck s.at_ (lift (lift xl HBW.out) s.below))
        have W1 := (hb.cell (p := ⟨w.heap.size, 1, none⟩) hs0).trans x1
        have X1 := fun s : A1 wr => s.cell W1
        have U0 := fun s : A1 wr => s.cell ((HBW.out.cell (p := ⟨b, o + k * 3, none⟩) hbb2).trans u0)
        have U1 := fun s : A1 wr => s.cell ((HBW.out.cell (p := ⟨b, o + k * 3 + 1, none⟩) hbb2).trans u1)
        have U2 := fun s : A1 wr => s.cell ((HBW.out.cell (p := ⟨b, o + k * 3 + 2, none⟩) hbb2).trans u2)
        have hx0 : k = 0 → l[k].lo = 0 := fun e => by subst e; rw [HZZ.out]; exact HZ0.out
        have HX0 := hid hx0
        have HBD := hid hbd
        have HNX := hid hnx
        clear hb xl u0 u1 u2 ub0 ub1 hbd hnx hx0;generalize l[k] = X at *
        simp only [show (⟨X.lo, X.hi, X.sets⟩ : BD) = X from rfl] at HR
        generalize Bm X = R at *
        cases R
        ·have hff : Hid (CA ⟨ep, l⟩ = false) := hid (by rw [HFF.out]; exact HBD.out (.inl rfl))
         clear hss hs00;go_wp2_with fail;refine Ax zG zG ?_
         repeat (go_big_quiet_step (((go_at_call 164; exact Be (HR.out _)))))
         refine AL ?_
         rintro W5 ⟨⟨W5', hb5⟩, rfl⟩;go_wp2_with fail;go_ret;exact ⟨zH, Af hb5 HBW.out⟩
        ·rcases k with _ | j
         ·have hff : Hid (∀ i, i < 0 + 1 → ∀ (h : i < l.length), Bm l[i] = true ∧ l[i].lo = Dj 0 l i) := hid (HNX.out rfl ((HX0.out rfl).trans (hs00 rfl).symm))
          simp only [Hp, BE] at U0 U1 U2
          clear hss hs00;go_wp2_with fail;refine Ax zG zG ?_
          repeat (go_big_quiet_step (((go_at_call 164; exact Be (HR.out _)))))
          refine AL ?_
          rintro W5 ⟨⟨W5', hb5⟩, rfl⟩;go_wp2_with fail;go_roundw
          case rel => exact ⟨1, zC, rfl, hff, Af hb5 HB.out⟩
          case measure => (simp [intOf]; try omega)
         ·obtain ⟨hj, hsj⟩ := hss j rfl
          obtain ⟨b3, o3, hA3, hbb3, _, _, _, t1, _, _, _, _⟩ := DG HL.out hj
          simp only [Bk, Dd, AO] at hA3
          obtain ⟨rfl, rfl⟩ := hA3
          have T1 := fun s : A1 wr => s.cell ((HBW.out.cell (p := ⟨b, o + j * 3 + 1, none⟩) hbb3).trans t1)
          have HSJ := hid hsj
          clear hss hs00 hsj t1;generalize l[j].hi = y at *
          rw [show ((j + 1 : Nat) : Int) = (j : Int) + 1 from zC]
          have k1 : decide ((0 : Int) < (j : Int) + 1) = true := Ae zC
          have k2 : (0 : Int) ≤ (j : Int) + 1 - 1 := zC
          have k3 : (j : Int) + 1 < (m : Int) + 1 := zC
          have k4 : (j : Int) < (m : Int) + 1 := zC
          have k5 : decide ((j : Int) + 1 < (m : Int) + 1) = true := Ae k3
          by_cases hxy : X.lo = y
          ·have e5 : (X.lo != y) = false := by simp [hxy]
           have hff : Hid (∀ i, i < j + 1 + 1 → ∀ (h : i < l.length), Bm l[i] = true ∧ l[i].lo = Dj 0 l i) := hid (HNX.out rfl (hxy.trans HSJ.out.symm))
           clear hxy;go_wp2_with fail;refine Ax zG zG ?_
           repeat (go_big_quiet_step (((go_at_call 164; exact Be (HR.out _)))))
           refine AL ?_
           rintro W5 ⟨⟨W5', hb5⟩, rfl⟩;go_wp2_with fail;go_roundw
           case rel => exact ⟨j + 1 + 1, zC, zV, hff, Af hb5 HB.out⟩
           case measure => (simp [intOf]; try omega)
          ·have e5 : (X.lo != y) = true := by simpa using hxy
           have hff : Hid (CA ⟨ep, l⟩ = false) := hid (by rw [HFF.out]; exact HBD.out (.inr (by rw [HSJ.out]; exact hxy)))
           clear hxy;go_wp2_with fail;refine Ax zG zG ?_
           repeat (go_big_quiet_step (((go_at_call 164; exact Be (HR.out _)))))
           refine AL ?_
           rintro W5 ⟨⟨W5', hb5⟩, rfl⟩;go_wp2_with fail;go_ret;exact ⟨zH, Af hb5 HBW.out⟩
       ·obtain rfl : k = m + 1 := by omega
        have e3 : decide ((m : Int) + 1 < (m : Int) + 1) = false := Ad zC
        have hff : Hid (CA ⟨ep, l⟩ = true) := hid (by rw [HFF.out]; exact HOK.out (fun i h => hf.out i (by rw [← HM.out]; exact h) h) HY.out)
        clear hb;go_wp2_with fail;go_ret;exact ⟨zH, HBW.out⟩
     ·have e1 : (hY != 4611686018427387904) = true := by simpa using hym
      have hff := hnotl hym
      clear hz0 hym hnot0 hnotl;go_enter Tryz.func94, Tryz.ntmps94
      go_wp2_with fail;refine (HE.out _).mono ?_
      rintro r w1 ⟨rfl, rfl⟩;go_wp2_with fail;go_ret;exact ⟨zH, hb0⟩
    ·have e0 : (Z.lo != 0) = true := by simpa using hz0
     have hff := hnot0 hz0
     clear hz0 hnot0 hnotl;go_enter Tryz.func94, Tryz.ntmps94
     go_wp2_with fail;refine (HE.out _).mono ?_
     rintro r w1 ⟨rfl, rfl⟩;go_wp2_with fail;go_ret;exact ⟨zH, hb0⟩
   ·have d2 : decide ((64 : Int) < (l.length : Int)) = true := Ae zC
    have hff : Hid (CA ⟨ep, l⟩ = false) := hid zA4
    clear hP h2;go_enter Tryz.func94, Tryz.ntmps94
    go_wp2_with fail;refine (HE.out _).mono ?_
    rintro r w1 ⟨rfl, rfl⟩;go_wp2_with fail;go_ret;exact ⟨zH, zB⟩
  ·have d1 : decide ((l.length : Int) < 1) = true := Ae zC
   have hff : Hid (CA ⟨ep, l⟩ = false) := hid zA5
   clear hP h1;go_enter Tryz.func94, Tryz.ntmps94
   go_wp2_with fail;refine (HE.out _).mono ?_
   rintro r w1 ⟨rfl, rfl⟩;go_wp2_with fail;go_ret;exact ⟨zH, zB⟩
open Go.RowKit Go.Bs
def kT : Array Value := #[.string ⟨#[]⟩, .int .i64 0, .int .i64 0, .string ⟨#[114, 101, 97, 100]⟩, .int .i64 1, .int .i64 9, .string ⟨#[119, 114, 105, 116, 101]⟩, .int .i64 33, .int .i64 10, .string ⟨#[115, 101, 97, 108]⟩, .int .i64 0, .int .i64 11, .string ⟨#[116, 114, 105, 109]⟩, .int .i64 1, .int .i64 10, .string ⟨#[102, 105, 108, 108]⟩, .int .i64 1, .int .i64 10, .string ⟨#[116, 97, 107, 101]⟩, .int .i64 10, .int .i64 12, .string ⟨#[103, 101, 116]⟩, .int .i64 0, .int .i64 13, .string ⟨#[112, 117, 116]⟩, .int .i64 128, .int .i64 10, .string ⟨#[118, 97, 108, 117, 101]⟩, .int .i64 36, .int .i64 0, .string ⟨#[100, 111, 110, 101]⟩, .int .i64 0, .int .i64 0, .string ⟨#[115, 101, 97, 108, 101, 100]⟩, .int .i64 64, .int .i64 0, .string ⟨#[116, 97, 107, 101, 110]⟩, .int .i64 17, .int .i64 0, .string ⟨#[112, 114, 111, 106]⟩, .int .i64 128, .int .i64 0, .string ⟨#[102, 97, 105, 108, 101, 100]⟩, .int .i64 4, .int .i64 0]
def kZ : Array Value := #[.string ⟨#[]⟩, .int .i64 0, .int .i64 0, .string ⟨#[]⟩, .int .i64 0, .int .i64 0, .string ⟨#[]⟩, .int .i64 0, .int .i64 0, .string ⟨#[]⟩, .int .i64 0, .int .i64 0, .string ⟨#[]⟩, .int .i64 0, .int .i64 0, .string ⟨#[]⟩, .int .i64 0, .int .i64 0, .string ⟨#[]⟩, .int .i64 0, .int .i64 0, .string ⟨#[]⟩, .int .i64 0, .int .i64 0, .string ⟨#[]⟩, .int .i64 0, .int .i64 0, .string ⟨#[]⟩, .int .i64 0, .int .i64 0, .string ⟨#[]⟩, .int .i64 0, .int .i64 0, .string ⟨#[]⟩, .int .i64 0, .int .i64 0, .string ⟨#[]⟩, .int .i64 0, .int .i64 0, .string ⟨#[]⟩, .int .i64 0, .int .i64 0, .string ⟨#[]⟩, .int .i64 0, .int .i64 0]
theorem Bo {P : Program} {o : Oper} {a : Act} {K : Act → World → Prop} {Q : Exit → Act → World → Prop} {r : Result Next} {v : Value} {w' : World} (h : r = .ok (.value v) w') (hk : K (a.put o.dst v) w') : o.upon P a K Q r := by rw [h]; exact hk
theorem RW {P : Program} {o : Oper} {a : Act} {K : Act → World → Prop} {Q : Exit → Act → World → Prop} {r : Result Next} {w' : World} (h : r = .ok .skip w') (hk : K (a.put o.dst undef) w') : o.upon P a K Q r := by rw [h]; exact hk
theorem QK (w : World) : Calls Tryz.prog 246 #[] w fun r w' => r = .returned (.agg kT) ∧ Below w.heap.size w w' := by
 go_enter Tryz.func246, Tryz.ntmps246
 go_upto_region 1 with (fail)
 refine wp_region_lit ?_
 generalize hW1 : w.alloc (.cells _ 230) = W1
 have hW2 : W1 = w.alloc (.cells kZ 230) := hW1.symm.trans rfl
 clear hW1;refine Bb rfl fun K hK => ?_
 unfold Oper.wp;refine Bo (v := (.agg #[.string ⟨#[114, 101, 97, 100]⟩, .int .i64 1, .int .i64 9])) (w' := W1) zG ?_
 refine hK _ _ ?_
 clear hK K;simp only [Act.put, Aa, Ab, Ac]
 refine Bb rfl fun K hK => ?_
 unfold Oper.wp;refine Bo (v := (.agg #[.string ⟨#[119, 114, 105, 116, 101]⟩, .int .i64 33, .int .i64 10])) (w' := W1) zG ?_
 refine hK _ _ ?_
 clear hK K;simp only [Act.put, Aa, Ab, Ac]
 refine Bb rfl fun K hK => ?_
 unfold Oper.wp;refine Bo (v := (.agg #[.string ⟨#[115, 101, 97, 108]⟩, .int .i64 0, .int .i64 11])) (w' := W1) zG ?_
 refine hK _ _ ?_
 clear hK K;simp only [Act.put, Aa, Ab, Ac]
 refine Bb rfl fun K hK => ?_
 unfold Oper.wp;refine Bo (v := (.agg #[.string ⟨#[116, 114, 105, 109]⟩, .int .i64 1, .int .i64 10])) (w' := W1) zG ?_
 refine hK _ _ ?_
 clear hK K;simp only [Act.put, Aa, Ab, Ac]
 refine Bb rfl fun K hK => ?_
 unfold Oper.wp;refine Bo (v := (.agg #[.string ⟨#[102, 105, 108, 108]⟩, .int .i64 1, .int .i64 10])) (w' := W1) zG ?_
 refine hK _ _ ?_
 clear hK K;simp only [Act.put, Aa, Ab, Ac]
 refine Bb rfl fun K hK => ?_
 unfold Oper.wp;refine Bo (v := (.agg #[.string ⟨#[116, 97, 107, 101]⟩, .int .i64 10, .int .i64 12])) (w' := W1) zG ?_
 refine hK _ _ ?_
 clear hK K;simp only [Act.put, Aa, Ab, Ac]
 refine Bb rfl fun K hK => ?_
 unfold Oper.wp;refine Bo (v := (.agg #[.string ⟨#[103, 101, 116]⟩, .int .i64 0, .int .i64 13])) (w' := W1) zG ?_
 refine hK _ _ ?_
 clear hK K;simp only [Act.put, Aa, Ab, Ac]
 refine Bb rfl fun K hK => ?_
 unfold Oper.wp;refine Bo (v := (.agg #[.string ⟨#[112, 117, 116]⟩, .int .i64 128, .int .i64 10])) (w' := W1) zG ?_
 refine hK _ _ ?_
 clear hK K;simp only [Act.put, Aa, Ab, Ac]
 refine Bb rfl fun K hK => ?_
 unfold Oper.wp;refine Bo (v := (.agg #[.string ⟨#[118, 97, 108, 117, 101]⟩, .int .i64 36, .int .i64 0])) (w' := W1) zG ?_
 refine hK _ _ ?_
 clear hK K;simp only [Act.put, Aa, Ab, Ac]
 refine Bb rfl fun K hK => ?_
 unfold Oper.wp;refine Bo (v := (.agg #[.string ⟨#[100, 111, 110, 101]⟩, .int .i64 0, .int .i64 0])) (w' := W1) zG ?_
 refine hK _ _ ?_
 clear hK K;simp only [Act.put, Aa, Ab, Ac]
 refine Bb rfl fun K hK => ?_
 unfold Oper.wp;refine Bo (v := (.agg #[.string ⟨#[115, 101, 97, 108, 101, 100]⟩, .int .i64 64, .int .i64 0])) (w' := W1) zG ?_
 refine hK _ _ ?_
 clear hK K;simp only [Act.put, Aa, Ab, Ac]
 refine Bb rfl fun K hK => ?_
 unfold Oper.wp;refine Bo (v := (.agg #[.string ⟨#[116, 97, 107, 101, 110]⟩, .int .i64 17, .int .i64 0])) (w' := W1) zG ?_
 refine hK _ _ ?_
 clear hK K;simp only [Act.put, Aa, Ab, Ac]
 refine Bb rfl fun K hK => ?_
 unfold Oper.wp;refine Bo (v := (.agg #[.string ⟨#[112, 114, 111, 106]⟩, .int .i64 128, .int .i64 0])) (w' := W1) zG ?_
 refine hK _ _ ?_
 clear hK K;simp only [Act.put, Aa, Ab, Ac]
 refine Bb rfl fun K hK => ?_
 unfold Oper.wp;refine Bo (v := (.agg #[.string ⟨#[102, 97, 105, 108, 101, 100]⟩, .int .i64 4, .int .i64 0])) (w' := W1) zG ?_
 refine hK _ _ ?_
 clear hK K;simp only [Act.put, Aa, Ab, Ac]
 refine Bb rfl fun K hK => ?_
 unfold Oper.wp;refine Bo (v := .agg kT) (w' := W1) zG ?_
 subst hW2;refine hK _ _ ?_
 clear hK K;simp only [Act.put, Aa, Ab, Ac]
 have h := run_storeAt_new (P := Tryz.prog) w 230 kZ kT zG zT zG
 have hld := run_loadVar_new (P := Tryz.prog) w 230 kT 15 202 Tryz.underlying230 zG
 generalize hS : kT = S at *
 generalize kZ = Z at *
 have HS := hid hS
 clear hS;refine Bb rfl fun K hK => ?_
 unfold Oper.wp;refine RW (w' := w.alloc (.cells S 230)) ?_ ?_
 ·simp only [execOp, Act.eval, Act.put, Sem.run_bind]
  change (Sem.run Tryz.prog (Instr.storeAt 230 (.pointer (some ⟨w.heap.size, 0, none⟩)) (.agg S)) (w.alloc (.cells Z 230))).andThen _ = _
  rw [h]
  rfl
 refine hK _ _ ?_
 clear hK K
 (try simp only [Act.put, Aa, Ab, Ac])
 refine wpList_nil ?_
 go_wp2_with fail;refine Al (v := .agg S) ?_ rfl ⟨by rw [HS.out], zB⟩
 simp [results, Tryz.results246, hld, Act.put, asAddr, Result.andThen]
def V3 (c : Nat) : Value := match c with
 | 0 => .agg #[.string ⟨#[]⟩, .int .i64 0, .int .i64 0]
 | 1 => .agg #[.string ⟨#[114, 101, 97, 100]⟩, .int .i64 1, .int .i64 9]
 | 2 => .agg #[.string ⟨#[119, 114, 105, 116, 101]⟩, .int .i64 33, .int .i64 10]
 | 3 => .agg #[.string ⟨#[115, 101, 97, 108]⟩, .int .i64 0, .int .i64 11]
 | 4 => .agg #[.string ⟨#[116, 114, 105, 109]⟩, .int .i64 1, .int .i64 10]
 | 5 => .agg #[.string ⟨#[102, 105, 108, 108]⟩, .int .i64 1, .int .i64 10]
 | 6 => .agg #[.string ⟨#[116, 97, 107, 101]⟩, .int .i64 10, .int .i64 12]
 | 7 => .agg #[.string ⟨#[103, 101, 116]⟩, .int .i64 0, .int .i64 13]
 | 8 => .agg #[.string ⟨#[112, 117, 116]⟩, .int .i64 128, .int .i64 10]
 | 9 => .agg #[.string ⟨#[118, 97, 108, 117, 101]⟩, .int .i64 36, .int .i64 0]
 | 10 => .agg #[.string ⟨#[100, 111, 110, 101]⟩, .int .i64 0, .int .i64 0]
 | 11 => .agg #[.string ⟨#[115, 101, 97, 108, 101, 100]⟩, .int .i64 64, .int .i64 0]
 | 12 => .agg #[.string ⟨#[116, 97, 107, 101, 110]⟩, .int .i64 17, .int .i64 0]
 | 13 => .agg #[.string ⟨#[112, 114, 111, 106]⟩, .int .i64 128, .int .i64 0]
 | 14 => .agg #[.string ⟨#[102, 97, 105, 108, 101, 100]⟩, .int .i64 4, .int .i64 0]
 | _ => .nilFunc
theorem UW : ∀ c : Nat, c < 15 → ∃ s a, V3 c = .agg #[.string s, .int .i64 ((Du (c : Int) : Nat) : Int), .int .i64 a]
 | 0, _ => ⟨_, _, rfl⟩
 | 1, _ => ⟨_, _, rfl⟩
 | 2, _ => ⟨_, _, rfl⟩
 | 3, _ => ⟨_, _, rfl⟩
 | 4, _ => ⟨_, _, rfl⟩
 | 5, _ => ⟨_, _, rfl⟩
 | 6, _ => ⟨_, _, rfl⟩
 | 7, _ => ⟨_, _, rfl⟩
 | 8, _ => ⟨_, _, rfl⟩
 | 9, _ => ⟨_, _, rfl⟩
 | 10, _ => ⟨_, _, rfl⟩
 | 11, _ => ⟨_, _, rfl⟩
 | 12, _ => ⟨_, _, rfl⟩
 | 13, _ => ⟨_, _, rfl⟩
 | 14, _ => ⟨_, _, rfl⟩
 | n + 15, h => absurd h zC
theorem UU (W : World) : ∀ c : Nat, c < 15 → (Instr.index 230 (.agg kT) (.int .i64 (c : Int))).run Tryz.prog W = .ok (V3 c) W
 | 0, _ => by kernel_rfl
 | 1, _ => by kernel_rfl
 | 2, _ => by kernel_rfl
 | 3, _ => by kernel_rfl
 | 4, _ => by kernel_rfl
 | 5, _ => by kernel_rfl
 | 6, _ => by kernel_rfl
 | 7, _ => by kernel_rfl
 | 8, _ => by kernel_rfl
 | 9, _ => by kernel_rfl
 | 10, _ => by kernel_rfl
 | 11, _ => by kernel_rfl
 | 12, _ => by kernel_rfl
 | 13, _ => by kernel_rfl
 | 14, _ => by kernel_rfl
 | n + 15, h => absurd h zC
theorem Hh (k : Int) (w : World) : Calls Tryz.prog 80 #[.int .i64 k] w fun r w' => r = .returned (.bool (decide (1 ≤ k ∧ k ≤ 14))) ∧ w = w' := by
 by_cases h0 : 1 ≤ k
 ·by_cases h1 : k ≤ 14
  ·have d1 : decide ((1 : Int) ≤ k) = true := Ae h0
   have d2 : decide (k ≤ 14) = true := Ae h1
   rw [Ae (⟨h0, h1⟩ : 1 ≤ k ∧ k ≤ 14)]
   go_enter Tryz.func80, Tryz.ntmps80
   go_wp2;go_ret;exact ⟨rfl, rfl⟩
  ·have d1 : decide ((1 : Int) ≤ k) = true := Ae h0
   have d2 : decide (k ≤ 14) = false := Ad h1
   rw [Ad (fun h => h1 h.2 : ¬ (1 ≤ k ∧ k ≤ 14))]
   go_enter Tryz.func80, Tryz.ntmps80
   go_wp2;go_ret;exact ⟨rfl, rfl⟩
 ·have d1 : decide ((1 : Int) ≤ k) = false := Ad h0
  rw [Ad (fun h => h0 h.1 : ¬ (1 ≤ k ∧ k ≤ 14))]
  go_enter Tryz.func80, Tryz.ntmps80
  go_wp2;go_ret;exact ⟨rfl, rfl⟩
theorem UT (k : Int) (w : World) : Calls Tryz.prog 214 #[.int .i64 k] w fun r w' => (∃ s a, r = .returned (.agg #[.string s, .int .i64 ((Du k : Nat) : Int), .int .i64 a])) ∧ Below w.heap.size w w' := by
 have HR := hid (fun (W : World) => Hh k W)
 have HW := hid QK
 by_cases h : 1 ≤ k ∧ k ≤ 14
 ·obtain ⟨c, rfl⟩ : ∃ c : Nat, k = c := ⟨k.toNat, zC⟩
  rw [Ae h] at HR
  have hix := fun W => UU W c zC
  obtain ⟨s, a, hrow⟩ := UW c zC
  simp only [hrow] at hix
  generalize Du (c : Int) = q at *
  generalize kT = S at *
  clear h hrow;go_enter Tryz.func214, Tryz.ntmps214
  go_wp2_with fail;refine (HR.out _).mono ?_
  rintro r w1 ⟨rfl, rfl⟩;go_wp2_with fail;refine (HW.out _).mono ?_
  rintro r w1 ⟨rfl, hb1⟩;have hs1 := hb1.size
  have lt1 : w.heap.size < w1.heap.size := by simp at hs1; omega
  have x0 := hb1.cell (p := ⟨w.heap.size, 0, none⟩) zO
  have x1 := hb1.cell (p := ⟨w.heap.size, 1, none⟩) zO
  have x2 := hb1.cell (p := ⟨w.heap.size, 2, none⟩) zO
  have f0 := hb1.frozen (p := ⟨w.heap.size, 0, none⟩) zO
  have f1 := hb1.frozen (p := ⟨w.heap.size, 1, none⟩) zO
  have f2 := hb1.frozen (p := ⟨w.heap.size, 2, none⟩) zO
  simp at x0 x1 x2 f0 f1 f2
  have HB1 := hid hb1
  clear hb1 hs1;go_wp2_with fail;refine Al (v := .agg #[.string s, .int .i64 ((q : Nat) : Int), .int .i64 a]) (by simp [results, Tryz.results214, go_sem, lt1, x0, x1, x2]) rfl ⟨⟨s, a, rfl⟩, ?_⟩
  have := HB1.out.mono (show w.heap.size ≤ _ from zO)
  exact (((((Below.refl w.heap.size w).alloc (Ak _) _).trans this).setCell (Ak _) _).setCell (Ak _) _).setCell (Ak _) _
 ·rw [Ad h] at HR
  have hq : Hid (Du k = 0) := hid (by unfold Du; rw [Am (by omega)])
  clear h;go_enter Tryz.func214, Tryz.ntmps214
  go_wp2_with fail;refine (HR.out _).mono ?_
  rintro r w1 ⟨rfl, rfl⟩;go_wp2_with fail;refine Al (v := .agg #[.string (⟨#[]⟩ : ByteArray), .int .i64 0, .int .i64 0]) (by simp [results, Tryz.results214, go_sem]) rfl ⟨⟨(⟨#[]⟩ : ByteArray), 0, by rw [hq.out]; rfl⟩, zB⟩
theorem TZ (W : World) (s : ByteArray) (q a : Int) : (Instr.field 202 (.agg #[.string s, .int .i64 q, .int .i64 a]) 1).run Tryz.prog W = .ok (.int .i64 q) W := zG
theorem OZ (W : World) (s : ByteArray) (q a : Int) : (Instr.field 208 (.agg #[.string s, .int .i64 q, .int .i64 a]) 1).run Tryz.prog W = .ok (.int .i64 q) W := zG
theorem QL (k : Int) (w : World) : Calls Tryz.prog 145 #[.int .i64 k] w fun r w' => r = .returned (.int .i64 ((Du k : Nat) : Int)) ∧ Below w.heap.size w w' := by
 have HO := hid (fun (W : World) => UT k W)
 generalize Du k = q at *
 go_enter Tryz.func145, Tryz.ntmps145
 go_wp2_with fail;refine (HO.out _).mono ?_
 rintro r w1 ⟨⟨s, a, rfl⟩, hb1⟩;have hfd := fun (W : World) => TZ W s ((q : Nat) : Int) a
 go_wp2_with fail;go_ret;exact ⟨rfl, hb1⟩
theorem NG (k : Int) : Du k ≤ 128 := by
 have := LL k
 simp at this
 omega
def IZ (p : Nat) : Prop := p ∈ [1, 2, 4, 8, 16, 32, 64, 128]
theorem TI : ∀ q ∈ [0, 1, 33, 10, 128, 36, 64, 17, 4], ∀ p ∈ [1, 2, 4, 8, 16, 32, 64, 128], (bits .and .i64 ((q : Nat) : Int) ((p : Nat) : Int) != 0) = (q / p % 2 == 1) ∧ bits .and .i64 ((p : Nat) : Int) ((p : Nat) - 1 : Int) = 0 := zE
theorem RB {p : Nat} (h : IZ p) : 0 < p ∧ p ≤ 128 := by
 simp [IZ] at h; omega
theorem Da (k : Int) (p : Nat) (hp : IZ p) (w : World) : Calls Tryz.prog 62 #[.int .i64 k, .int .i64 (p : Int)] w fun r w' => r = .returned (.bool (AK k p)) ∧ Below w.heap.size w w' := by
 have HP := hid (fun (W : World) => QL k W)
 obtain ⟨hb1, hb2⟩ := TI _ (LL k) _ hp
 have hpi := RB hp
 have d1 : decide ((0 : Int) < (p : Int)) = true := Ae zC
 have d2 : decide ((p : Int) ≤ 128) = true := Ae zC
 have w1 : 0 ≤ (p : Int) - 1 := zC
 have HH : Hid (AK k p = (bits .and .i64 ((Du k : Nat) : Int) (p : Int) != 0)) := hid hb1.symm
 generalize AK k p = hh at *
 generalize Du k = q at *
 obtain ⟨x, hx⟩ : ∃ x, bits .and .i64 ((q : Nat) : Int) (p : Int) = x := ⟨_, rfl⟩
 rw [hx] at HH
 have d3 : (bits .and .i64 (p : Int) ((p : Int) - 1) == 0) = true := by rw [hb2]; rfl
 clear hb1 hp;go_enter Tryz.func62, Tryz.ntmps62
 go_wp2_with fail;refine (HP.out _).mono ?_
 rintro r w1 ⟨rfl, hb1⟩;go_wp2_with fail;go_ret;exact ⟨by rw [HH.out]; rfl, hb1⟩
def lT : Array Value := #[.string ⟨#[114, 101, 97, 100]⟩, .int .i64 1, .int .i64 9, .string ⟨#[119, 114, 105, 116, 101]⟩, .int .i64 33, .int .i64 10, .string ⟨#[115, 101, 97, 108]⟩, .int .i64 0, .int .i64 11, .string ⟨#[116, 114, 105, 109]⟩, .int .i64 1, .int .i64 10, .string ⟨#[102, 105, 108, 108]⟩, .int .i64 1, .int .i64 10, .string ⟨#[116, 97, 107, 101]⟩, .int .i64 10, .int .i64 12, .string ⟨#[103, 101, 116]⟩, .int .i64 0, .int .i64 13, .string ⟨#[112, 117, 116]⟩, .int .i64 128, .int .i64 10, .string ⟨#[118, 97, 108, 117, 101]⟩, .int .i64 36, .int .i64 0, .string ⟨#[100, 111, 110, 101]⟩, .int .i64 0, .int .i64 0, .string ⟨#[115, 101, 97, 108, 101, 100]⟩, .int .i64 64, .int .i64 0, .string ⟨#[116, 97, 107, 101, 110]⟩, .int .i64 17, .int .i64 0, .string ⟨#[112, 114, 111, 106]⟩, .int .i64 128, .int .i64 0, .string ⟨#[102, 97, 105, 108, 101, 100]⟩, .int .i64 4, .int .i64 0]
theorem VG : ∀ c : Nat, c < 14 → ∃ s a, lT[c * 3]? = some (.string s) ∧ lT[c * 3 + 1]? = some (.int .i64 ((Du ((c : Int) + 1) : Nat) : Int)) ∧ lT[c * 3 + 2]? = some (.int .i64 a)
 | 0, _ => ⟨_, _, rfl, rfl, rfl⟩
 | 1, _ => ⟨_, _, rfl, rfl, rfl⟩
 | 2, _ => ⟨_, _, rfl, rfl, rfl⟩
 | 3, _ => ⟨_, _, rfl, rfl, rfl⟩
 | 4, _ => ⟨_, _, rfl, rfl, rfl⟩
 | 5, _ => ⟨_, _, rfl, rfl, rfl⟩
 | 6, _ => ⟨_, _, rfl, rfl, rfl⟩
 | 7, _ => ⟨_, _, rfl, rfl, rfl⟩
 | 8, _ => ⟨_, _, rfl, rfl, rfl⟩
 | 9, _ => ⟨_, _, rfl, rfl, rfl⟩
 | 10, _ => ⟨_, _, rfl, rfl, rfl⟩
 | 11, _ => ⟨_, _, rfl, rfl, rfl⟩
 | 12, _ => ⟨_, _, rfl, rfl, rfl⟩
 | 13, _ => ⟨_, _, rfl, rfl, rfl⟩
 | n + 14, h => absurd h zC
theorem Tp (k : Int) (w : World) : Calls Tryz.prog 220 #[.int .i64 k] w fun r w' => (∃ s a, r = .returned (.agg #[.string s, .int .i64 ((Du k : Nat) : Int), .int .i64 a])) ∧ Below w.heap.size w w' := by
 go_enter Tryz.func220, Tryz.ntmps220
 go_upto_region 1 with (fail)
 refine wp_region_lit ?_
 generalize hW1 : w.alloc (.cells _ 208) = W1
 have HW1 := hid hW1
 clear hW1;refine Bb rfl fun K hK => ?_
 unfold Oper.wp;refine Bo (v := (.agg #[.string ⟨#[114, 101, 97, 100]⟩, .int .i64 1, .int .i64 9])) (w' := W1) zG ?_
 refine hK _ _ ?_
 clear hK K;simp only [Act.put, Aa, Ab, Ac]
 refine Bb rfl fun K hK => ?_
 unfold Oper.wp;refine Bo (v := (.agg #[.string ⟨#[119, 114, 105, 116, 101]⟩, .int .i64 33, .int .i64 10])) (w' := W1) zG ?_
 refine hK _ _ ?_
 clear hK K;simp only [Act.put, Aa, Ab, Ac]
 refine Bb rfl fun K hK => ?_
 unfold Oper.wp;refine Bo (v := (.agg #[.string ⟨#[115, 101, 97, 108]⟩, .int .i64 0, .int .i64 11])) (w' := W1) zG ?_
 refine hK _ _ ?_
 clear hK K;simp only [Act.put, Aa, Ab, Ac]
 refine Bb rfl fun K hK => ?_
 unfold Oper.wp;refine Bo (v := (.agg #[.string ⟨#[116, 114, 105, 109]⟩, .int .i64 1, .int .i64 10])) (w' := W1) zG ?_
 refine hK _ _ ?_
 clear hK K;simp only [Act.put, Aa, Ab, Ac]
 refine Bb rfl fun K hK => ?_
 unfold Oper.wp;refine Bo (v := (.agg #[.string ⟨#[102, 105, 108, 108]⟩, .int .i64 1, .int .i64 10])) (w' := W1) zG ?_
 refine hK _ _ ?_
 clear hK K;simp only [Act.put, Aa, Ab, Ac]
 refine Bb rfl fun K hK => ?_
 unfold Oper.wp;refine Bo (v := (.agg #[.string ⟨#[116, 97, 107, 101]⟩, .int .i64 10, .int .i64 12])) (w' := W1) zG ?_
 refine hK _ _ ?_
 clear hK K;simp only [Act.put, Aa, Ab, Ac]
 refine Bb rfl fun K hK => ?_
 unfold Oper.wp;refine Bo (v := (.agg #[.string ⟨#[103, 101, 116]⟩, .int .i64 0, .int .i64 13])) (w' := W1) zG ?_
 refine hK _ _ ?_
 clear hK K;simp only [Act.put, Aa, Ab, Ac]
 refine Bb rfl fun K hK => ?_
 unfold Oper.wp;refine Bo (v := (.agg #[.string ⟨#[112, 117, 116]⟩, .int .i64 128, .int .i64 10])) (w' := W1) zG ?_
 refine hK _ _ ?_
 clear hK K;simp only [Act.put, Aa, Ab, Ac]
 refine Bb rfl fun K hK => ?_
 unfold Oper.wp;refine Bo (v := (.agg #[.string ⟨#[118, 97, 108, 117, 101]⟩, .int .i64 36, .int .i64 0])) (w' := W1) zG ?_
 refine hK _ _ ?_
 clear hK K;simp only [Act.put, Aa, Ab, Ac]
 refine Bb rfl fun K hK => ?_
 unfold Oper.wp;refine Bo (v := (.agg #[.string ⟨#[100, 111, 110, 101]⟩, .int .i64 0, .int .i64 0])) (w' := W1) zG ?_
 refine hK _ _ ?_
 clear hK K;simp only [Act.put, Aa, Ab, Ac]
 refine Bb rfl fun K hK => ?_
 unfold Oper.wp;refine Bo (v := (.agg #[.string ⟨#[115, 101, 97, 108, 101, 100]⟩, .int .i64 64, .int .i64 0])) (w' := W1) zG ?_
 refine hK _ _ ?_
 clear hK K;simp only [Act.put, Aa, Ab, Ac]
 refine Bb rfl fun K hK => ?_
 unfold Oper.wp;refine Bo (v := (.agg #[.string ⟨#[116, 97, 107, 101, 110]⟩, .int .i64 17, .int .i64 0])) (w' := W1) zG ?_
 refine hK _ _ ?_
 clear hK K;simp only [Act.put, Aa, Ab, Ac]
 refine Bb rfl fun K hK => ?_
 unfold Oper.wp;refine Bo (v := (.agg #[.string ⟨#[112, 114, 111, 106]⟩, .int .i64 128, .int .i64 0])) (w' := W1) zG ?_
 refine hK _ _ ?_
 clear hK K;simp only [Act.put, Aa, Ab, Ac]
 refine Bb rfl fun K hK => ?_
 unfold Oper.wp;refine Bo (v := (.agg #[.string ⟨#[102, 97, 105, 108, 101, 100]⟩, .int .i64 4, .int .i64 0])) (w' := W1) zG ?_
 refine hK _ _ ?_
 clear hK K;simp only [Act.put, Aa, Ab, Ac]
 refine Bb rfl fun K hK => ?_
 unfold Oper.wp;refine Bo (v := .slice (some ⟨W1.heap.size, 0, none⟩) 14 14) (w' := W1.alloc (.cells lT 208)) zG ?_
 refine hK _ _ ?_
 clear hK K;simp only [Act.put, Aa, Ab, Ac]
 refine Bb rfl fun K hK => ?_
 unfold Oper.wp;refine Bo (v := .slice (some ⟨W1.heap.size, 0, none⟩) 14 14) (w' := W1.alloc (.cells lT 208)) zG ?_
 refine hK _ _ ?_
 clear hK K;simp only [Act.put, Aa, Ab, Ac]
 refine wpList_nil ?_
 have hbl : Blk (W1.alloc (.cells lT 208)) W1.heap.size 208 lT := Blk.new _ _ _
 have hs : W1.heap.size = w.heap.size + 1 := Z4
 have z0 : W1.cell? ⟨w.heap.size, 0, none⟩ = some (.string ⟨#[]⟩) := Z4
 have z1 : W1.cell? ⟨w.heap.size, 1, none⟩ = some (.int .i64 0) := Z4
 have z2 : W1.cell? ⟨w.heap.size, 2, none⟩ = some (.int .i64 0) := Z4
 have y0 : W1.frozen? ⟨w.heap.size, 0, none⟩ = false := Z4
 have y1 : W1.frozen? ⟨w.heap.size, 1, none⟩ = false := Z4
 have y2 : W1.frozen? ⟨w.heap.size, 2, none⟩ = false := Z4
 have hbw : Below w.heap.size w W1 := by rw [← HW1.out]; (repeat (first | exact Below.refl _ _ | assumption | (refine AF ?_ _) | (refine Below.setCell ?_ zF _) | (refine Below.drew ?_) | (refine below_drewN ?_ _) | (refine Af zM ?_)))
 have hba : Below W1.heap.size W1 (W1.alloc (.cells lT 208)) := zB
 have x0 := (hba.cell (p := ⟨w.heap.size, 0, none⟩) zN).trans z0
 have x1 := (hba.cell (p := ⟨w.heap.size, 1, none⟩) zN).trans z1
 have x2 := (hba.cell (p := ⟨w.heap.size, 2, none⟩) zN).trans z2
 have f0 := (hba.frozen (p := ⟨w.heap.size, 0, none⟩) zN).trans y0
 have f1 := (hba.frozen (p := ⟨w.heap.size, 1, none⟩) zN).trans y1
 have f2 := (hba.frozen (p := ⟨w.heap.size, 2, none⟩) zN).trans y2
 have HB := hid (hbw.trans (hba.mono zC))
 have hcell := fun c (h : c < 14) => (by
  obtain ⟨s, a, g0, g1, g2⟩ := VG c h
  exact ⟨s, a, (hbl.cell _).trans g0, (hbl.cell _).trans g1, (hbl.cell _).trans g2⟩ : ∃ s a, (W1.alloc (.cells lT 208)).cell? ⟨W1.heap.size, c * 3, none⟩ = some (.string s) ∧ (W1.alloc (.cells lT 208)).cell? ⟨W1.heap.size, c * 3 + 1, none⟩ = some (.int .i64 ((Du ((c : Int) + 1) : Nat) : Int)) ∧ (W1.alloc (.cells lT 208)).cell? ⟨W1.heap.size, c * 3 + 2, none⟩ = some (.int .i64 a))
 have HC := hid hcell
 have hsz : W1.heap.size < (W1.alloc (.cells lT 208)).heap.size := zO
 generalize W1.alloc (.cells lT 208) = W2 at *
 generalize W1.heap.size = g at *
 clear hcell hbl z0 z1 z2 y0 y1 y2 hbw hba HW1 W1;have lt2 : w.heap.size < W2.heap.size := zC
 have gne : g ≠ w.heap.size := zC
 clear hs;by_cases h : 1 ≤ k ∧ k ≤ 14
 ·obtain ⟨c, rfl⟩ : ∃ c : Nat, k = (c : Int) + 1 := ⟨(k - 1).toNat, zC⟩
  obtain ⟨s, a, g0, g1, g2⟩ := HC.out c zC
  obtain ⟨q, hq⟩ : ∃ q, Du ((c : Int) + 1) = q := ⟨_, rfl⟩
  rw [hq] at g1
  have HQ := hid hq
  clear hq;have d1 : decide ((c : Int) + 1 < 1) = false := Ad zC
  have d2 : decide ((14 : Int) < (c : Int) + 1) = false := Ad zC
  have w1 : 0 ≤ (c : Int) + 1 - 1 := zC
  have i1 : (c : Int) < 14 := zC
  clear h;go_wp2_with fail;refine Al (v := .agg #[.string s, .int .i64 ((q : Nat) : Int), .int .i64 a]) zAk rfl ⟨⟨s, a, by rw [HQ.out]⟩, ?_⟩
  exact ((HB.out.setCell (Ak _) _).setCell (Ak _) _).setCell (Ak _) _
 ·have hq : Hid (Du k = 0) := hid (by unfold Du; rw [Am (by omega)])
  by_cases h1 : k < 1
  ·have d1 : decide (k < 1) = true := Ae h1
   clear h h1;go_wp2_with fail;refine Al (v := .agg #[.string (⟨#[]⟩ : ByteArray), .int .i64 0, .int .i64 0]) zAk rfl ⟨⟨(⟨#[]⟩ : ByteArray), 0, by rw [hq.out]; rfl⟩, ?_⟩
   exact ((HB.out.setCell (Ak _) _).setCell (Ak _) _).setCell (Ak _) _
  ·have d1 : decide (k < 1) = false := Ad h1
   have d2 : decide ((14 : Int) < k) = true := Ae zC
   clear h h1;go_wp2_with fail;refine Al (v := .agg #[.string (⟨#[]⟩ : ByteArray), .int .i64 0, .int .i64 0]) zAk rfl ⟨⟨(⟨#[]⟩ : ByteArray), 0, by rw [hq.out]; rfl⟩, ?_⟩
   exact ((HB.out.setCell (Ak _) _).setCell (Ak _) _).setCell (Ak _) _
theorem Sg (k : Int) (p : Nat) (hp : IZ p) (w : World) : Calls Tryz.prog 162 #[.int .i64 k, .int .i64 (p : Int)] w fun r w' => r = .returned (.bool (AK k p)) ∧ Below w.heap.size w w' := by
 have HO := hid (fun (W : World) => Tp k W)
 have hkk : AK k p = (Du k / p % 2 == 1) := rfl
 have hqs := NG k
 have hpi := RB hp
 have hpp : p = 1 ∨ p = 2 ∨ p = 4 ∨ p = 8 ∨ p = 16 ∨ p = 32 ∨ p = 64 ∨ p = 128 := by simpa [IZ] using hp
 generalize Du k = q at *
 generalize AK k p = hh at *
 have HK := hid hkk
 clear hkk hp;go_enter Tryz.func162, Tryz.ntmps162
 go_wp2_with fail;go_loopw [5] (fun v wr => ∃ m : Nat, (m = 1 ∨ m = 2 ∨ m = 4 ∨ m = 8 ∨ m = 16 ∨ m = 32 ∨ m = 64 ∨ m = 128 ∨ m = 256) ∧ v = .int .i64 (m : Int) ∧ Hid (m ≤ p ∨ hh = false) ∧ Below w.heap.size w wr) (fun v _ => 256 - (intOf v).toNat)
 case atStart => exact ⟨1, .inl rfl, rfl, hid (.inl zC), Below.refl _ _⟩
 case round =>
  obtain ⟨m, hm, rfl, hrel, hb⟩ := hrel
  by_cases hle : m ≤ 128
  ·have d1 : decide ((m : Int) ≤ 128) = true := Ae zC
   by_cases hmp : m = p
   ·subst hmp
    have d2 : ((m : Int) == (m : Int)) = true := zO
    have dv : 0 ≤ (q : Int) / (m : Int) ∧ (q : Int) / (m : Int) ≤ 128 := by
     have h1 := Nat.div_le_self q m
     have h2 : (q : Int) / (m : Int) = ((q / m : Nat) : Int) := zO
     rw [h2]
     exact ⟨Int.natCast_nonneg _, by exact_mod_cast A4 h1 hqs⟩
    by_cases hb1 : (q / m % 2 == 1) = true
    ·have hh1 : Hid (hh = true) := hid (HK.out.trans hb1)
     clear hpp;go_wp2_with fail;refine (HO.out _).mono ?_
     rintro r w1 ⟨⟨s, a, rfl⟩, hb2⟩;have hfd := fun (W : World) => OZ W s ((q : Nat) : Int) a
     have hbf := Af hb2 hb
     go_wp2_with fail;go_ret;exact ⟨by rw [hh1.out]; rfl, hbf⟩
    ·have hh1 : Hid (hh = false) := hid (HK.out.trans (Hw hb1))
     have hb3 : (q / m % 2 == 1) = false := Hw hb1
     clear hpp hb1;go_wp2_with fail;refine (HO.out _).mono ?_
     rintro r w1 ⟨⟨s, a, rfl⟩, hb2⟩;have hfd := fun (W : World) => OZ W s ((q : Nat) : Int) a
     have hbf := Af hb2 hb
     go_wp2_with fail;go_roundw
     case rel => exact ⟨2 * m, zC, zV, hid (.inr hh1.out), hbf⟩
     case measure => (simp [intOf]; try omega)
   ·have d2 : ((m : Int) == (p : Int)) = false := beq_eq_false_iff_ne.2 zC
    have hn : Hid (2 * m ≤ p ∨ hh = false) := hid (by exact hrel.out.elim (fun h => .inl (by omega)) .inr)
    clear hpp;go_wp2_with fail;go_roundw
    case rel => exact ⟨2 * m, zC, zV, hn, hb⟩
    case measure => (simp [intOf]; try omega)
  ·have d1 : decide ((m : Int) ≤ 128) = false := Ad zC
   have hf : Hid (hh = false) := hid (by exact hrel.out.elim (fun h => by omega) id)
   clear hpp;go_wp2_with fail;go_ret;exact ⟨zAh, hb⟩
theorem C5 (k : Int) (p : Nat) (hp : IZ p) (w : World) : Calls Tryz.prog 88 #[.int .i64 k, .int .i64 (p : Int)] w fun r w' => r = .returned (.bool (AK k p)) ∧ Below w.heap.size w w' := by
 have HP := hid (fun (W : World) => Sg k p hp W)
 go_enter Tryz.func88, Tryz.ntmps88
 go_wp2_with fail;refine (HP.out _).mono ?_
 rintro r w1 ⟨rfl, hb1⟩;go_wp2_with fail;go_ret;exact ⟨rfl, hb1⟩
theorem KA (k st : Int) (w : World) : Calls Tryz.prog 36 #[.int .i64 k, .int .i64 st] w fun r w' => r = .returned (.bool (Ca k st)) ∧ w = w' := by
 by_cases h1 : k = 2
 ·have d1 : (k == 2) = true := beq_iff_eq.2 h1
  have hb : Hid (Ca k st = true) := hid (by unfold Ca; rw [Ae h1]; rfl)
  clear h1;go_enter Tryz.func36, Tryz.ntmps36
  go_wp2;go_ret;exact ⟨zAq, rfl⟩
 ·have d1 : (k == 2) = false := beq_eq_false_iff_ne.2 h1
  by_cases h2 : k = 9
  ·have d2 : (k == 9) = true := beq_iff_eq.2 h2
   have hb : Hid (Ca k st = (st == 1)) := hid (by unfold Ca; rw [Ad h1, Ae h2, Bool.false_or, Ce]; by_cases h : st = 1 <;> simp [h])
   generalize Ca k st = bb at *
   clear h1 h2;go_enter Tryz.func36, Tryz.ntmps36
   go_wp2;go_ret;exact ⟨zAq, rfl⟩
  ·have d2 : (k == 9) = false := beq_eq_false_iff_ne.2 h2
   have hb : Hid (Ca k st = false) := hid (by unfold Ca; rw [Ad h1, Ad h2]; rfl)
   clear h1 h2;go_enter Tryz.func36, Tryz.ntmps36
   go_wp2;go_ret;exact ⟨zAq, rfl⟩
theorem Ng (k : Int) (w : World) : Calls Tryz.prog 83 #[.int .i64 k] w fun r w' => r = .returned (.int .i64 (Dn k)) ∧ w = w' := by
 by_cases h2 : k = 9
 ·have d2 : (k == 9) = true := beq_iff_eq.2 h2
  have hb : Hid (Dn k = 4) := hid (by unfold Dn; rw [Am h2])
  clear h2;go_enter Tryz.func83, Tryz.ntmps83
  go_wp2;go_ret;exact ⟨zAq, rfl⟩
 ·have d2 : (k == 9) = false := beq_eq_false_iff_ne.2 h2
  have hb : Hid (Dn k = 20) := hid (by unfold Dn; rw [An h2])
  clear h2;go_enter Tryz.func83, Tryz.ntmps83
  go_wp2;go_ret;exact ⟨zAq, rfl⟩
theorem P9 (k : Int) (w : World) : Calls Tryz.prog 90 #[.int .i64 k] w fun r w' => r = .returned (.int .i64 (Dn k)) ∧ w = w' := by
 by_cases h2 : k = 9
 ·have d2 : (k == 9) = true := beq_iff_eq.2 h2
  have hb : Hid (Dn k = 4) := hid (by unfold Dn; rw [Am h2])
  clear h2;go_enter Tryz.func90, Tryz.ntmps90
  go_wp2;go_ret;exact ⟨zAq, rfl⟩
 ·have d2 : (k == 9) = false := beq_eq_false_iff_ne.2 h2
  have hb : Hid (Dn k = 20) := hid (by unfold Dn; rw [An h2])
  clear h2;go_enter Tryz.func90, Tryz.ntmps90
  go_wp2;go_ret;exact ⟨zAq, rfl⟩
theorem Ek (k : Int) (p : Nat) (hp : IZ p) (r z : Bool) (w : World) : Calls Tryz.prog 81 #[.int .i64 k, .int .i64 (p : Int), .bool r, .bool z] w fun e w' => e = .returned (.bool (A7 (AK k p) r z)) ∧ Below w.heap.size w w' := by
 have HP := hid (fun (W : World) => Da k p hp W)
 generalize AK k p = hh at *
 go_enter Tryz.func81, Tryz.ntmps81
 go_wp2_with fail;refine (HP.out _).mono ?_
 rintro e w1 ⟨rfl, hb1⟩;cases hh
 ·go_wp2_with fail
  go_ret;exact ⟨rfl, hb1⟩
 ·go_wp2_with fail
  go_ret;exact ⟨rfl, hb1⟩
theorem A2.lift {w w' : World} {m : Msg} {a1 c1 a2 c2 a3 c3 a4 c4} (h : A2 (· < w.heap.size) w m a1 c1 a2 c2 a3 c3 a4 c4) (hb : Below w.heap.size w w') : A2 (· < w'.heap.size) w' m a1 c1 a2 c2 a3 c3 a4 c4 :=
 ⟨h.kind, h.epoch, h.seq, h.pos, h.count, h.state, h.sealE, h.sealN, h.sealT, h.projE, Go.Bs.lift h.streams hb, Go.Bs.lift h.links hb, Go.Bs.lift h.data hb, Go.Bs.lift h.stripes hb⟩
theorem Hm (m : Msg) (a1 : Option Addr) (c1 : Nat) (a2 : Option Addr) (c2 : Nat) (a3 : Option Addr) (c3 : Nat) (a4 : Option Addr) (c4 : Nat) (w : World) :
  Calls Tryz.prog 73 #[.agg #[.int .i64 m.kind, .int .u64 m.epoch, .int .u64 m.seq, .int .u64 m.pos, .int .i64 m.count, .int .i64 m.state, .slice a1 m.streams.length c1, .slice a2 m.links.length c2, .slice a3 m.data.length c3, .int .u64 m.sea.epoch, .int .u64 m.sea.node, .int .u64 m.sea.tail, .int .u64 m.proj.epoch, .slice a4 m.proj.stripes.length c4]] w fun r w' => r = .returned (.bool (Ca m.kind m.state)) ∧ Below w.heap.size w w' := by
 have hd : Ca m.kind m.state = (AK m.kind 32 && ((m.kind != 9) || (m.state == 1))) := by
  rw [SC]; unfold Ca
  by_cases h2 : m.kind = 2
  ·simp [h2]
  ·by_cases h9 : m.kind = 9
   ·rw [h9]; simp; rfl
   ·simp [h2, h9]
 have HH := hid (fun W : World => Da m.kind 32 zS W)
 obtain ⟨kk, ep, sq, po, cn, st, SS, LS, DD, ⟨se, sn, tl⟩, ⟨pe, PL⟩⟩ := m
 dsimp only at *;generalize AK kk 32 = H at *
 generalize Ca kk st = R at *
 have HD := hid hd
 clear hd;cases H
 ·have hff : Hid (R = false) := hid (by rw [HD.out]; rfl)
  go_enter Tryz.func73, Tryz.ntmps73
  go_wp2_with fail;refine (HH.out _).mono ?_
  rintro r w1 ⟨rfl, hb1⟩;go_wp2_with fail;go_ret;exact ⟨zH, zA⟩
 ·by_cases h9 : kk = 9
  ·have e1 : (kk != 9) = false := by simp [h9]
   have hff : Hid (R = (st == 1)) := hid (by rw [HD.out, e1]; rfl)
   clear h9;go_enter Tryz.func73, Tryz.ntmps73
   go_wp2_with fail;refine (HH.out _).mono ?_
   rintro r w1 ⟨rfl, hb1⟩;have y0 := hb1.cell (p := ⟨w.heap.size, 0, none⟩) zO
   have y5 := hb1.cell (p := ⟨w.heap.size, 5, none⟩) zO
   simp at y0 y5
   go_wp2_with fail;go_ret;exact ⟨zH, zA⟩
  ·have e1 : (kk != 9) = true := by simpa using h9
   have hff : Hid (R = true) := hid (by rw [HD.out, e1]; rfl)
   clear h9;go_enter Tryz.func73, Tryz.ntmps73
   go_wp2_with fail;refine (HH.out _).mono ?_
   rintro r w1 ⟨rfl, hb1⟩;have y0 := hb1.cell (p := ⟨w.heap.size, 0, none⟩) zO
   simp at y0
   go_wp2_with fail;go_ret;exact ⟨zH, zA⟩
theorem NY (l : List Int) (a : Option Addr) (n c : Nat) (w : World) (hl : AY.r (· < w.heap.size) w [.slice a n c] l) :
  Calls Tryz.prog 84 #[.slice a n c] w fun r w' => r = .returned (.bool (decide (l.length ≤ 16) && Ba l)) ∧ Below w.heap.size w w' := by
 obtain ⟨rfl, hm, _, _⟩ := AS hl
 have HZ := hid (JN l a _ c w hl)
 generalize Ba l = R at *
 clear hl;by_cases h : l.length ≤ 16
 ·have d1 : decide ((l.length : Int) ≤ 16) = true := Ae zC
  rw [Ae h, Ce]
  clear h;go_enter Tryz.func84, Tryz.ntmps84
  go_wp2_with fail;refine HZ.out.mono ?_
  rintro r w1 ⟨rfl, hb1⟩;go_wp2_with fail;go_ret;exact ⟨rfl, hb1⟩
 ·have d1 : decide ((l.length : Int) ≤ 16) = false := Ad zC
  rw [Ad h, JM]
  clear h;go_enter Tryz.func84, Tryz.ntmps84
  go_wp2_with fail;go_ret;exact ⟨rfl, Below.refl _ _⟩
theorem C9 {α : Type} (l : List α) : ((l.length : Int) == 0) = decide (l.length = 0) := by
 rw [EM]; simp
theorem MF (se sn tl : Int) : (se == 0 && (sn == 0 && tl == 0)) = decide ((⟨se, sn, tl⟩ : G1) = Qt) := by
 rw [EM]; simp [Qt]
theorem I5 (m : Msg) (a1 : Option Addr) (c1 : Nat) (a2 : Option Addr) (c2 : Nat) (a3 : Option Addr) (c3 : Nat) (a4 : Option Addr) (c4 : Nat) (w : World) (h : A2 (· < w.heap.size) w m a1 c1 a2 c2 a3 c3 a4 c4) (hbk : ∀ x ∈ m.links, x.backs.length ≤ 1000000000000) :
  Calls Tryz.prog 19 #[.agg #[.int .i64 m.kind, .int .u64 m.epoch, .int .u64 m.seq, .int .u64 m.pos, .int .i64 m.count, .int .i64 m.state, .slice a1 m.streams.length c1, .slice a2 m.links.length c2, .slice a3 m.data.length c3, .int .u64 m.sea.epoch, .int .u64 m.sea.node, .int .u64 m.sea.tail, .int .u64 m.proj.epoch, .slice a4 m.proj.stripes.length c4]] w fun r w' => r = .returned (.bool (FE m)) ∧ Below w.heap.size w w' := by
 have hM : FE m = (decide (1 ≤ m.kind ∧ m.kind ≤ 14) && (A7 (AK m.kind 1) (poR m.pos) (m.pos == 0) && (A7 (AK m.kind 2) (decide (1 ≤ m.count) && decide (m.count ≤ 65536)) (m.count == 0) &&
   (A7 (AK m.kind 4) (decide (1 ≤ m.state) && decide (m.state ≤ Dn m.kind)) (m.state == 0) && (A7 (AK m.kind 8) (decide (m.streams.length ≤ 16) && Ba m.streams) ((m.streams.length : Int) == 0) &&
   (A7 (AK m.kind 16) (BK m.pos m.links) ((m.links.length : Int) == 0) && (A7 (AK m.kind 64) (Ev m.sea) (m.sea.epoch == 0 && (m.sea.node == 0 && m.sea.tail == 0)) &&
   (A7 (AK m.kind 128) (CA m.proj) (m.proj.epoch == 0 && (m.proj.stripes.length : Int) == 0) && (((m.data.length : Int) == 0) || (Ca m.kind m.state && decide (m.data.length ≤ 1048576))))))))))) := by
  unfold FE;rw [C9, C9, C9, C9, MF, Bool.decide_and, Bool.decide_and, Bool.decide_and]
  rfl
 have HPO := hid (fun W : World => Ki m.pos W)
 have HMO := hid (fun W : World => Ng m.kind W)
 have HST := hid (fun (W : World) (hW : Below w.heap.size w W) => NY m.streams a1 _ c1 W (lift h.streams hW))
 have HLK := hid (fun (W : World) (hW : Below w.heap.size w W) => LQ m.pos m.links a2 _ c2 W h.pos (lift h.links hW) hbk)
 have HSE := hid (fun (W : World) => Lz m.sea h.sealE W)
 have HPR := hid (fun (W : World) (hW : Below w.heap.size w W) => LH m.proj.epoch m.proj.stripes a4 _ c4 W (lift h.stripes hW))
 have HHD := hid (fun (W : World) => Hm m a1 c1 a2 c2 a3 c3 a4 c4 W)
 obtain ⟨kk, ep, sq, po, cn, st, SS, LS, DD, ⟨se, sn, tl⟩, ⟨pe, PL⟩⟩ := m
 dsimp only at *;have HW1 : Hid (∀ W : World, Calls Tryz.prog 81 #[.int .i64 kk, .int .i64 1, .bool (poR po), .bool (po == 0)] W fun e w' => e = .returned (.bool (A7 (AK kk 1) (poR po) (po == 0))) ∧ Below W.heap.size W w') := hid (fun W => Ek kk 1 zS (poR po) (po == 0) W)
 have HW2 : Hid (∀ W : World, Calls Tryz.prog 81 #[.int .i64 kk, .int .i64 2, .bool (decide (1 ≤ cn) && decide (cn ≤ 65536)), .bool (cn == 0)] W fun e w' => e = .returned (.bool (A7 (AK kk 2) (decide (1 ≤ cn) && decide (cn ≤ 65536)) (cn == 0))) ∧ Below W.heap.size W w') := hid (fun W => Ek kk 2 zS (decide (1 ≤ cn) && decide (cn ≤ 65536)) (cn == 0) W)
 have HW4 : Hid (∀ W : World, Calls Tryz.prog 81 #[.int .i64 kk, .int .i64 4, .bool (decide (1 ≤ st) && decide (st ≤ Dn kk)), .bool (st == 0)] W fun e w' => e = .returned (.bool (A7 (AK kk 4) (decide (1 ≤ st) && decide (st ≤ Dn kk)) (st == 0))) ∧ Below W.heap.size W w') := hid (fun W => Ek kk 4 zS (decide (1 ≤ st) && decide (st ≤ Dn kk)) (st == 0) W)
 have HW8 : Hid (∀ W : World, Calls Tryz.prog 81 #[.int .i64 kk, .int .i64 8, .bool (decide (SS.length ≤ 16) && Ba SS), .bool ((SS.length : Int) == 0)] W fun e w' => e = .returned (.bool (A7 (AK kk 8) (decide (SS.length ≤ 16) && Ba SS) ((SS.length : Int) == 0))) ∧ Below W.heap.size W w') := hid (fun W => Ek kk 8 zS (decide (SS.length ≤ 16) && Ba SS) ((SS.length : Int) == 0) W)
 have HW16 : Hid (∀ W : World, Calls Tryz.prog 81 #[.int .i64 kk, .int .i64 16, .bool (BK po LS), .bool ((LS.length : Int) == 0)] W fun e w' => e = .returned (.bool (A7 (AK kk 16) (BK po LS) ((LS.length : Int) == 0))) ∧ Below W.heap.size W w') := hid (fun W => Ek kk 16 zS (BK po LS) ((LS.length : Int) == 0) W)
 have HW64 : Hid (∀ W : World, Calls Tryz.prog 81 #[.int .i64 kk, .int .i64 64, .bool (Ev ⟨se, sn, tl⟩), .bool (se == 0 && (sn == 0 && tl == 0))] W fun e w' => e = .returned (.bool (A7 (AK kk 64) (Ev ⟨se, sn, tl⟩) (se == 0 && (sn == 0 && tl == 0)))) ∧ Below W.heap.size W w') := hid (fun W => Ek kk 64 zS (Ev ⟨se, sn, tl⟩) (se == 0 && (sn == 0 && tl == 0)) W)
 have HW128 : Hid (∀ W : World, Calls Tryz.prog 81 #[.int .i64 kk, .int .i64 128, .bool (CA ⟨pe, PL⟩), .bool (pe == 0 && (PL.length : Int) == 0)] W fun e w' => e = .returned (.bool (A7 (AK kk 128) (CA ⟨pe, PL⟩) (pe == 0 && (PL.length : Int) == 0))) ∧ Below W.heap.size W w') := hid (fun W => Ek kk 128 zS (CA ⟨pe, PL⟩) (pe == 0 && (PL.length : Int) == 0) W)
 generalize A7 (AK kk 1) (poR po) (po == 0) = B1 at *
 generalize A7 (AK kk 2) (decide (1 ≤ cn) && decide (cn ≤ 65536)) (cn == 0) = B2 at *
 generalize A7 (AK kk 4) (decide (1 ≤ st) && decide (st ≤ Dn kk)) (st == 0) = B4 at *
 generalize A7 (AK kk 8) (decide (SS.length ≤ 16) && Ba SS) ((SS.length : Int) == 0) = B8 at *
 generalize A7 (AK kk 16) (BK po LS) ((LS.length : Int) == 0) = B16 at *
 generalize A7 (AK kk 64) (Ev ⟨se, sn, tl⟩) (se == 0 && (sn == 0 && tl == 0)) = B64 at *
 generalize A7 (AK kk 128) (CA ⟨pe, PL⟩) (pe == 0 && (PL.length : Int) == 0) = B128 at *
 generalize poR po = R1 at *
 generalize BK po LS = R16 at *
 generalize Ev ⟨se, sn, tl⟩ = R64 at *
 generalize CA ⟨pe, PL⟩ = R128 at *
 generalize (decide (SS.length ≤ 16) && Ba SS) = R8 at *
 generalize Dn kk = MK at *
 generalize hK : decide (1 ≤ kk ∧ kk ≤ 14) = K at *
 have HKR := hid (fun W : World => Hh kk W)
 rw [hK] at HKR
 have HM := hid hM
 generalize FE ⟨kk, ep, sq, po, cn, st, SS, LS, DD, ⟨se, sn, tl⟩, ⟨pe, PL⟩⟩ = MM at *
 have hb0 : Below w.heap.size w (w.alloc (.cells #[.int .i64 kk, .int .u64 ep, .int .u64 sq, .int .u64 po, .int .i64 cn, .int .i64 st, .slice a1 SS.length c1, .slice a2 LS.length c2, .slice a3 DD.length c3, .int .u64 se, .int .u64 sn, .int .u64 tl, .int .u64 pe, .slice a4 PL.length c4] 32)) := zB
 have HBX : Hid (Blk (w.alloc (.cells #[.int .i64 kk, .int .u64 ep, .int .u64 sq, .int .u64 po, .int .i64 cn, .int .i64 st, .slice a1 SS.length c1, .slice a2 LS.length c2, .slice a3 DD.length c3, .int .u64 se, .int .u64 sn, .int .u64 tl, .int .u64 pe, .slice a4 PL.length c4] 32)) w.heap.size 32 #[.int .i64 kk, .int .u64 ep, .int .u64 sq, .int .u64 po, .int .i64 cn, .int .i64 st, .slice a1 SS.length c1, .slice a2 LS.length c2, .slice a3 DD.length c3, .int .u64 se, .int .u64 sn, .int .u64 tl, .int .u64 pe, .slice a4 PL.length c4]) := hid (Blk.new w _ _)
 clear hM hK h hbk;go_enter Tryz.func19, Tryz.ntmps19
 go_wp2_with fail;generalize (w.alloc (.cells #[.int .i64 kk, .int .u64 ep, .int .u64 sq, .int .u64 po, .int .i64 cn, .int .i64 st, .slice a1 SS.length c1, .slice a2 LS.length c2, .slice a3 DD.length c3, .int .u64 se, .int .u64 sn, .int .u64 tl, .int .u64 pe, .slice a4 PL.length c4] 32)) = w0 at *
 have HB0 := hid hb0
 clear hb0;refine (HKR.out _).mono ?_
 rintro r w0' ⟨rfl, rfl⟩;have HB1 : Hid (Below w0.heap.size w0 w0) := hid (Below.refl _ _)
 cases K
 ·have hff : Hid (MM = false) := hid (by rw [HM.out]; rfl)
  go_wp2_with fail;go_ret;exact ⟨zH, HB0.out.trans (HB1.out.mono HB0.out.size)⟩
 ·go_upto_region 4 with (fail)
  go_cut [24] from 25 to 33 (fun v V => v = .bool (!B1) ∧ Below w0.heap.size w0 V)
  case first =>
   have HX := hid (HBX.out.later HB1.out)
   have Y3 := fun s : A1 w0 => s.cell (HX.out.cell 3 : w0.cell? ⟨w.heap.size, 3, none⟩ = some (.int .u64 po))
   refine Ax zG zG ?_
   repeat (go_big_quiet_step ((first | (go_at_call 82; with_reducible exact Fi (HPO.out _)) | (go_at_call 81; with_reducible exact Be (HW1.out _)))))
   refine AL ?_
   rintro W5 ⟨⟨W5', hb5⟩, rfl⟩;go_wp2_with fail;go_meet
   case rel => exact ⟨rfl, Af hb5 HB1.out⟩
  case rest =>
   obtain ⟨rfl, hbc⟩ := hcut
   have HB2 := hid hbc
   clear hbc;obtain ⟨w1, hwn⟩ : ∃ W : World, W = wc := ⟨_, rfl⟩
   subst hwn;cases B1
   ·have hff : Hid (MM = false) := hid ZF
    go_wp2_with fail;go_ret;exact ⟨zH, HB0.out.trans (HB2.out.mono HB0.out.size)⟩
   ·go_upto_region 5 with (fail)
    go_cut [34] from 35 to 48 (fun v V => v = .bool (!B2) ∧ Below w0.heap.size w0 V)
    case first =>
     have HX := hid (HBX.out.later HB2.out)
     have y4 : w1.cell? ⟨w.heap.size, 4, none⟩ = some (.int .i64 cn) := HX.out.cell 4
     have HBW := hid (HB0.out.trans (HB2.out.mono HB0.out.size))
     cases hc : decide (1 ≤ cn)
     ·have HWc := HW2.out
      rw [hc, JM] at HWc
      have HWd := hid HWc
      clear HWc;go_wp2_with fail;refine (HWd.out _).mono ?_
      rintro r w5 ⟨rfl, hb5⟩;go_wp2_with fail;go_meet
      case rel => exact ⟨rfl, Af hb5 HB2.out⟩
     ·have HWc := HW2.out
      rw [hc, Ce] at HWc
      have HWd := hid HWc
      clear HWc;go_wp2_with fail;refine (HWd.out _).mono ?_
      rintro r w5 ⟨rfl, hb5⟩;go_wp2_with fail;go_meet
      case rel => exact ⟨rfl, Af hb5 HB2.out⟩
    case rest =>
     obtain ⟨rfl, hbc⟩ := hcut
     have HB3 := hid hbc
     clear hbc;obtain ⟨w2, hwn⟩ : ∃ W : World, W = wc := ⟨_, rfl⟩
     subst hwn;cases B2
     ·have hff : Hid (MM = false) := hid ZF
      go_wp2_with fail;go_ret;exact ⟨zH, HB0.out.trans (HB3.out.mono HB0.out.size)⟩
     ·go_upto_region 6 with (fail)
      go_cut [49] from 50 to 65 (fun v V => v = .bool (!B4) ∧ Below w0.heap.size w0 V)
      case first =>
       have HX := hid (HBX.out.later HB3.out)
       have Y5 := fun s : A1 w2 => s.cell (HX.out.cell 5 : w2.cell? ⟨w.heap.size, 5, none⟩ = some (.int .i64 st))
       cases hc : decide (1 ≤ st)
       ·have HWc := HW4.out
        rw [hc, JM] at HWc
        have HWd := hid HWc
        clear HWc;refine Ax zG zG ?_
        repeat (go_big_quiet_step ((first | (go_at_call 81; with_reducible exact Be (HWd.out _)))))
        refine AL ?_
        rintro W5 ⟨⟨W5', hb5⟩, rfl⟩;go_wp2_with fail;go_meet
        case rel => exact ⟨rfl, Af hb5 HB3.out⟩
       ·have HWc := HW4.out
        rw [hc, Ce] at HWc
        have HWd := hid HWc
        clear HWc;refine Ax zG zG ?_
        repeat (go_big_quiet_step ((first | (go_at_call 83; with_reducible exact Fi (HMO.out _)) | (go_at_call 81; with_reducible exact Be (HWd.out _)))))
        refine AL ?_
        rintro W5 ⟨⟨W5', hb5⟩, rfl⟩;go_wp2_with fail;go_meet
        case rel => exact ⟨rfl, Af hb5 HB3.out⟩
      case rest =>
       obtain ⟨rfl, hbc⟩ := hcut
       have HB4 := hid hbc
       clear hbc;obtain ⟨w3, hwn⟩ : ∃ W : World, W = wc := ⟨_, rfl⟩
       subst hwn;cases B4
       ·have hff : Hid (MM = false) := hid ZF
        go_wp2_with fail;go_ret;exact ⟨zH, HB0.out.trans (HB4.out.mono HB0.out.size)⟩
       ·go_upto_region 7 with (fail)
        go_cut [66] from 67 to 76 (fun v V => v = .bool (!B8) ∧ Below w0.heap.size w0 V)
        case first =>
         have HX := hid (HBX.out.later HB4.out)
         have Y6 := fun s : A1 w3 => s.cell (HX.out.cell 6 : w3.cell? ⟨w.heap.size, 6, none⟩ = some (.slice a1 SS.length c1))
         have HS := hid (fun s : A1 w3 => HST.out s.at_ (Af s.below (HB0.out.trans (HB4.out.mono HB0.out.size))))
         refine Ax zG zG ?_
         repeat (go_big_quiet_step ((first | (go_at_call 84; with_reducible exact Be (HS.out _)) | (go_at_call 81; with_reducible exact Be (HW8.out _)))))
         refine AL ?_
         rintro W5 ⟨⟨W5', hb5⟩, rfl⟩;go_wp2_with fail;go_meet
         case rel => exact ⟨rfl, Af hb5 HB4.out⟩
        case rest =>
         obtain ⟨rfl, hbc⟩ := hcut
         have HB5 := hid hbc
         clear hbc;obtain ⟨w4, hwn⟩ : ∃ W : World, W = wc := ⟨_, rfl⟩
         subst hwn;cases B8
         ·have hff : Hid (MM = false) := hid ZF
          go_wp2_with fail;go_ret;exact ⟨zH, HB0.out.trans (HB5.out.mono HB0.out.size)⟩
         ·go_upto_region 8 with (fail)
          go_cut [77] from 78 to 89 (fun v V => v = .bool (!B16) ∧ Below w0.heap.size w0 V)
          case first =>
           have HX := hid (HBX.out.later HB5.out)
           have Y3 := fun s : A1 w4 => s.cell (HX.out.cell 3 : w4.cell? ⟨w.heap.size, 3, none⟩ = some (.int .u64 po))
           have Y7 := fun s : A1 w4 => s.cell (HX.out.cell 7 : w4.cell? ⟨w.heap.size, 7, none⟩ = some (.slice a2 LS.length c2))
           have HS := hid (fun s : A1 w4 => HLK.out s.at_ (Af s.below (HB0.out.trans (HB5.out.mono HB0.out.size))))
           refine Ax zG zG ?_
           repeat (go_big_quiet_step ((first | (go_at_call 85; with_reducible exact Be (HS.out _)) | (go_at_call 81; with_reducible exact Be (HW16.out _)))))
           refine AL ?_
           rintro W5 ⟨⟨W5', hb5⟩, rfl⟩;go_wp2_with fail;go_meet
           case rel => exact ⟨rfl, Af hb5 HB5.out⟩
          case rest =>
           obtain ⟨rfl, hbc⟩ := hcut
           have HB6 := hid hbc
           clear hbc;obtain ⟨w5, hwn⟩ : ∃ W : World, W = wc := ⟨_, rfl⟩
           subst hwn;cases B16
           ·have hff : Hid (MM = false) := hid ZF
            go_wp2_with fail;go_ret;exact ⟨zH, HB0.out.trans (HB6.out.mono HB0.out.size)⟩
           ·go_upto_region 9 with (fail)
            go_cut [90] from 91 to 100 (fun v V => v = .bool (!B64) ∧ Below w0.heap.size w0 V)
            case first =>
             have HX := hid (HBX.out.later HB6.out)
             have Y9 := fun s : A1 w5 => s.cell (HX.out.cell 9 : w5.cell? ⟨w.heap.size, 9, none⟩ = some (.int .u64 se))
             have Y10 := fun s : A1 w5 => s.cell (HX.out.cell 10 : w5.cell? ⟨w.heap.size, 10, none⟩ = some (.int .u64 sn))
             have Y11 := fun s : A1 w5 => s.cell (HX.out.cell 11 : w5.cell? ⟨w.heap.size, 11, none⟩ = some (.int .u64 tl))
             cases hc : (se == 0)
             ·have HWc := HW64.out
              rw [hc, JM] at HWc
              have HWd := hid HWc
              clear HWc;refine Ax zG zG ?_
              repeat (go_big_quiet_step ((first | (go_at_call 86; with_reducible exact Be (HSE.out _)) | (go_at_call 81; with_reducible exact Be (HWd.out _)))))
              refine AL ?_
              rintro W5 ⟨⟨W5', hb5⟩, rfl⟩;go_wp2_with fail;go_meet
              case rel => exact ⟨rfl, Af hb5 HB6.out⟩
             ·cases hd : (sn == 0)
              ·have HWc := HW64.out
               rw [hc, hd, Ce, JM] at HWc
               have HWd := hid HWc
               clear HWc;refine Ax zG zG ?_
               repeat (go_big_quiet_step ((first | (go_at_call 86; with_reducible exact Be (HSE.out _)) | (go_at_call 81; with_reducible exact Be (HWd.out _)))))
               refine AL ?_
               rintro W5 ⟨⟨W5', hb5⟩, rfl⟩;go_wp2_with fail;go_meet
               case rel => exact ⟨rfl, Af hb5 HB6.out⟩
              ·cases he : (tl == 0)
               ·have HWc := HW64.out
                rw [hc, hd, he, Ce, Ce] at HWc
                have HWd := hid HWc
                clear HWc;refine Ax zG zG ?_
                repeat (go_big_quiet_step ((first | (go_at_call 86; with_reducible exact Be (HSE.out _)) | (go_at_call 81; with_reducible exact Be (HWd.out _)))))
                refine AL ?_
                rintro W5 ⟨⟨W5', hb5⟩, rfl⟩;go_wp2_with fail;go_meet
                case rel => exact ⟨rfl, Af hb5 HB6.out⟩
               ·have HWc := HW64.out
                rw [hc, hd, he, Ce, Ce] at HWc
                have HWd := hid HWc
                clear HWc;refine Ax zG zG ?_
                repeat (go_big_quiet_step ((first | (go_at_call 86; with_reducible exact Be (HSE.out _)) | (go_at_call 81; with_reducible exact Be (HWd.out _)))))
                refine AL ?_
                rintro W5 ⟨⟨W5', hb5⟩, rfl⟩;go_wp2_with fail;go_meet
                case rel => exact ⟨rfl, Af hb5 HB6.out⟩
            case rest =>
             obtain ⟨rfl, hbc⟩ := hcut
             have HB7 := hid hbc
             clear hbc;obtain ⟨w6, hwn⟩ : ∃ W : World, W = wc := ⟨_, rfl⟩
             subst hwn;cases B64
             ·have hff : Hid (MM = false) := hid ZF
              go_wp2_with fail;go_ret;exact ⟨zH, HB0.out.trans (HB7.out.mono HB0.out.size)⟩
             ·go_upto_region 10 with (fail)
              go_cut [101] from 102 to 118 (fun v V => v = .bool (!B128) ∧ Below w0.heap.size w0 V)
              case first =>
               have HX := hid (HBX.out.later HB7.out)
               have Y12 := fun s : A1 w6 => s.cell (HX.out.cell 12 : w6.cell? ⟨w.heap.size, 12, none⟩ = some (.int .u64 pe))
               have Y13 := fun s : A1 w6 => s.cell (HX.out.cell 13 : w6.cell? ⟨w.heap.size, 13, none⟩ = some (.slice a4 PL.length c4))
               have HS := hid (fun s : A1 w6 => HPR.out s.at_ (Af s.below (HB0.out.trans (HB7.out.mono HB0.out.size))))
               cases hc : (pe == 0)
               ·have HWc := HW128.out
                rw [hc, JM] at HWc
                have HWd := hid HWc
                clear HWc;refine Ax zG zG ?_
                repeat (go_big_quiet_step ((first | (go_at_call 87; with_reducible exact Be (HS.out _)) | (go_at_call 81; with_reducible exact Be (HWd.out _)))))
                refine AL ?_
                rintro W5 ⟨⟨W5', hb5⟩, rfl⟩;go_wp2_with fail;go_meet
                case rel => exact ⟨rfl, Af hb5 HB7.out⟩
               ·have HWc := HW128.out
                rw [hc, Ce] at HWc
                have HWd := hid HWc
                clear HWc;refine Ax zG zG ?_
                repeat (go_big_quiet_step ((first | (go_at_call 87; with_reducible exact Be (HS.out _)) | (go_at_call 81; with_reducible exact Be (HWd.out _)))))
                refine AL ?_
                rintro W5 ⟨⟨W5', hb5⟩, rfl⟩;go_wp2_with fail;go_meet
                case rel => exact ⟨rfl, Af hb5 HB7.out⟩
              case rest =>
               obtain ⟨rfl, hbc⟩ := hcut
               have HB8 := hid hbc
               clear hbc;obtain ⟨w7, hwn⟩ : ∃ W : World, W = wc := ⟨_, rfl⟩
               subst hwn;cases B128
               ·have hff : Hid (MM = false) := hid ZF
                go_wp2_with fail;go_ret;exact ⟨zH, HB0.out.trans (HB8.out.mono HB0.out.size)⟩
               ·go_upto_region 2 with (fail)
                have HX := hid (HBX.out.later HB8.out)
                have y0 : w7.cell? ⟨w.heap.size, 0, none⟩ = some (.int .i64 kk) := HX.out.cell 0
                have y1 : w7.cell? ⟨w.heap.size, 1, none⟩ = some (.int .u64 ep) := HX.out.cell 1
                have y2 : w7.cell? ⟨w.heap.size, 2, none⟩ = some (.int .u64 sq) := HX.out.cell 2
                have y3 : w7.cell? ⟨w.heap.size, 3, none⟩ = some (.int .u64 po) := HX.out.cell 3
                have y4 : w7.cell? ⟨w.heap.size, 4, none⟩ = some (.int .i64 cn) := HX.out.cell 4
                have y5 : w7.cell? ⟨w.heap.size, 5, none⟩ = some (.int .i64 st) := HX.out.cell 5
                have y6 : w7.cell? ⟨w.heap.size, 6, none⟩ = some (.slice a1 SS.length c1) := HX.out.cell 6
                have y7 : w7.cell? ⟨w.heap.size, 7, none⟩ = some (.slice a2 LS.length c2) := HX.out.cell 7
                have y8 : w7.cell? ⟨w.heap.size, 8, none⟩ = some (.slice a3 DD.length c3) := HX.out.cell 8
                have y9 : w7.cell? ⟨w.heap.size, 9, none⟩ = some (.int .u64 se) := HX.out.cell 9
                have y10 : w7.cell? ⟨w.heap.size, 10, none⟩ = some (.int .u64 sn) := HX.out.cell 10
                have y11 : w7.cell? ⟨w.heap.size, 11, none⟩ = some (.int .u64 tl) := HX.out.cell 11
                have y12 : w7.cell? ⟨w.heap.size, 12, none⟩ = some (.int .u64 pe) := HX.out.cell 12
                have y13 : w7.cell? ⟨w.heap.size, 13, none⟩ = some (.slice a4 PL.length c4) := HX.out.cell 13
                have HBW := hid (HB0.out.trans (HB8.out.mono HB0.out.size))
                have hfm : MM = (((DD.length : Int) == 0) || (Ca kk st && decide (DD.length ≤ 1048576))) := by rw [HM.out]; simp only [Ce]
                clear HX;generalize Ca kk st = BL at *
                cases hc : ((DD.length : Int) == 0)
                ·cases BL
                 ·have hff : Hid (MM = false) := hid (by rw [hfm, hc]; rfl)
                  clear hfm;go_wp2_with fail;refine (HHD.out _).mono ?_
                  rintro r w5 ⟨rfl, hb5⟩;have hbe := Af hb5 HBW.out
                  go_wp2_with fail;go_ret;exact ⟨zH, hbe⟩
                 ·have hff : Hid (MM = decide (DD.length ≤ 1048576)) := hid (by rw [hfm, hc]; rfl)
                  have hdd : decide ((DD.length : Int) ≤ 1048576) = decide (DD.length ≤ 1048576) := by
                   rw [EM]; simp; omega
                  generalize decide (DD.length ≤ 1048576) = DM at *
                  clear hfm;go_wp2_with fail;refine (HHD.out _).mono ?_
                  rintro r w5 ⟨rfl, hb5⟩;have hbe := Af hb5 HBW.out
                  have z8 := (hb5.cell (p := ⟨w.heap.size, 8, none⟩) (Cr _ _ y8)).trans y8
                  go_wp2_with fail;go_ret;exact ⟨by rw [hff.out]; first | rfl | (rw [← hdd]; rfl), hbe⟩
                ·have hff : Hid (MM = true) := hid (by rw [hfm, hc]; rfl)
                 clear hfm;go_wp2_with fail;go_ret;exact ⟨zH, HBW.out⟩
theorem Qc (x y : BD) (a a' : Option Addr) (n c n' c' : Nat) (w : World) (hx : DW.r (· < w.heap.size) w [.slice a n c] x.sets) (hy : DW.r (· < w.heap.size) w [.slice a' n' c'] y.sets) :
  Calls Tryz.prog 170 #[.agg #[.int .u64 x.lo, .int .u64 x.hi, .slice a n c], .agg #[.int .u64 y.lo, .int .u64 y.hi, .slice a' n' c']] w fun r w' => r = .returned (.bool (decide (x = y))) ∧ Below w.heap.size w w' := by
 obtain ⟨rfl, hm, _, _⟩ := AS hx
 obtain ⟨rfl, hm', _, _⟩ := AS hy
 obtain ⟨p0, p1, D⟩ := x
 obtain ⟨q0, q1, D'⟩ := y
 dsimp only at *;by_cases h0 : p0 = q0
 ·have e0 : (p0 != q0) = false := by simp [h0]
  by_cases h1 : p1 = q1
  ·have e1 : (p1 != q1) = false := by simp [h1]
   by_cases hlen : D.length = D'.length
   ·have HX := hid hx; clear hx
    have HY := hid hy; clear hy
    have HL := hid hlen
    have el : ((D.length : Int) != (D'.length : Int)) = false := by simp [hlen]
    have hst0 : Hid (decide ((⟨p0, p1, D⟩ : BD) = ⟨q0, q1, D'⟩) = decide (D.drop 0 = D'.drop 0)) := hid (by simp [h0, h1])
    clear hlen h0 h1;go_enter Tryz.func170, Tryz.ntmps170
    go_wp2_with fail;refine GQ (fun W => Below w.heap.size w W ∧ w.heap.size + 1 < W.heap.size ∧ W.cell? ⟨w.heap.size, 2, none⟩ = some (.slice a D.length c) ∧ W.cell? ⟨w.heap.size + 1, 2, none⟩ = some (.slice a' D'.length c')) ⟨zB, zO, by go_simp, by go_simp⟩ ?_
    intro w1 ⟨hb2, hzb, s0, s1⟩;go_loopw [5] (fun i wr => ∃ k : Nat, k ≤ D.length ∧ i = .int .i64 k ∧ Hid (decide ((⟨p0, p1, D⟩ : BD) = ⟨q0, q1, D'⟩) = decide (D.drop k = D'.drop k)) ∧ Below w1.heap.size w1 wr) (fun i _ => D.length - (intOf i).toNat)
    case atStart => exact ⟨0, Aj _, rfl, hst0, Below.refl _ _⟩
    case round =>
     obtain ⟨k, hk, rfl, hf, hb7⟩ := hrel
     have hb := Af hb7 hb2
     have t0 : wr.cell? ⟨w.heap.size, 2, none⟩ = some (.slice a D.length c) := (A1.mk wr hb7).cell s0
     have t1 : wr.cell? ⟨w.heap.size + 1, 2, none⟩ = some (.slice a' D'.length c') := (A1.mk wr hb7).cell s1
     have hz3 : w.heap.size + 1 < wr.heap.size := by have := hb7.size; omega
     by_cases hlt : k < D.length
     ·have hlt' : k < D'.length := by rw [← HL.out]; exact hlt
      obtain ⟨b, o, hA, hbb, ax, cx, x0, xl⟩ := EO HX.out hlt
      obtain ⟨b', o', hA', hbb', ay, cy, y0, yl⟩ := EO HY.out hlt'
      have hst := hid (F0 D D' k hlt hlt')
      subst hA hA';have T0 := fun s : A1 wr => s.cell t0
      have T1 := fun s : A1 wr => s.cell t1
      have X0 := fun s : A1 wr => s.cell ((hb.cell (p := ⟨b, o + k, none⟩) hbb).trans x0)
      have Y0 := fun s : A1 wr => s.cell ((hb.cell (p := ⟨b', o' + k, none⟩) hbb').trans y0)
      clear x0 y0;generalize hlk : D[k] = u at *
      generalize hlm : D'[k] = v at *
      clear hlk hlm;have hs1 := hid (lift xl hb)
      have hs2 := hid (lift yl hb)
      clear xl yl;have hO := fun s : A1 wr => JU u v ax ay _ cx _ cy s.at_ (lift hs1.out s.below) (lift hs2.out s.below)
      have i0 : (0 : Int) ≤ (k : Int) := zC
      have i1 : (k : Int) < (D.length : Int) := zC
      have i2 : (k : Int) < (D'.length : Int) := zC
      have d1 : decide ((k : Int) < (D.length : Int)) = true := Ae i1
      by_cases huv : u = v
      ·rw [Ae huv] at hO
       have HO := hid hO; clear hO
       have hst' : Hid (decide (D.drop k = D'.drop k) = decide (D.drop (k + 1) = D'.drop (k + 1))) := hid zBk
       clear huv;go_wp2_with fail;refine Ax zG zG ?_
       repeat (go_big_quiet_step (((go_at_call 99; exact Be (HO.out _)))))
       refine AL ?_
       rintro W5 ⟨⟨W5', hb5⟩, rfl⟩;go_wp2_with fail;go_roundw
       case rel => exact ⟨k + 1, zC, zV, hid zAa, Af hb5 hb7⟩
       case measure => (simp [intOf]; try omega)
      ·rw [Ad huv] at hO
       have HO := hid hO; clear hO
       have hff : Hid (decide ((⟨p0, p1, D⟩ : BD) = ⟨q0, q1, D'⟩) = false) := hid zAv
       clear huv;go_wp2_with fail;refine Ax zG zG ?_
       repeat (go_big_quiet_step (((go_at_call 99; exact Be (HO.out _)))))
       refine AL ?_
       rintro W5 ⟨⟨W5', hb5⟩, rfl⟩;go_wp2_with fail;go_ret;exact ⟨zH, Af hb5 hb⟩
     ·obtain rfl : k = D.length := by omega
      have d1 : decide ((D.length : Int) < (D.length : Int)) = false := Ad zC
      have hff : Hid (decide ((⟨p0, p1, D⟩ : BD) = ⟨q0, q1, D'⟩) = true) := hid ZB
      go_wp2_with fail;go_ret;exact ⟨zH, hb⟩
   ·have hff : Hid (decide ((⟨p0, p1, D⟩ : BD) = ⟨q0, q1, D'⟩) = false) := hid (by simp [h0, h1]; rintro rfl; exact hlen rfl)
    have el : ((D.length : Int) != (D'.length : Int)) = true := zJ
    clear hlen hx hy;go_enter Tryz.func170, Tryz.ntmps170
    go_wp2_with fail;go_ret;exact ⟨zH, zB⟩
  ·have e1 : (p1 != q1) = true := by simpa using h1
   have hfin : Hid (decide ((⟨p0, p1, D⟩ : BD) = ⟨q0, q1, D'⟩) = false) := hid (by simp [h0, h1])
   clear hx hy;go_enter Tryz.func170, Tryz.ntmps170
   go_wp2_with fail;go_ret;exact ⟨zZ, zA⟩
 ·have e0 : (p0 != q0) = true := by simpa using h0
  have hfin : Hid (decide ((⟨p0, p1, D⟩ : BD) = ⟨q0, q1, D'⟩) = false) := hid (by simp [h0])
  clear hx hy;go_enter Tryz.func170, Tryz.ntmps170
  go_wp2_with fail;go_ret;exact ⟨zZ, zA⟩
theorem Qb (x y : El) (a a' : Option Addr) (n c n' c' : Nat) (w : World) (hx : Bg.r (· < w.heap.size) w [.slice a n c] x.stripes) (hy : Bg.r (· < w.heap.size) w [.slice a' n' c'] y.stripes) :
  Calls Tryz.prog 101 #[.agg #[.int .u64 x.epoch, .slice a n c], .agg #[.int .u64 y.epoch, .slice a' n' c']] w fun r w' => r = .returned (.bool (decide (x = y))) ∧ Below w.heap.size w w' := by
 obtain ⟨rfl, hm, _, _⟩ := AS hx
 obtain ⟨rfl, hm', _, _⟩ := AS hy
 obtain ⟨p0, D⟩ := x
 obtain ⟨q0, D'⟩ := y
 dsimp only at *;by_cases h0 : p0 = q0
 ·have e0 : (p0 != q0) = false := by simp [h0]
  by_cases hlen : D.length = D'.length
  ·have HX := hid hx; clear hx
   have HY := hid hy; clear hy
   have HL := hid hlen
   have el : ((D.length : Int) != (D'.length : Int)) = false := by simp [hlen]
   have hst0 : Hid (decide ((⟨p0, D⟩ : El) = ⟨q0, D'⟩) = decide (D.drop 0 = D'.drop 0)) := hid (by simp [h0])
   clear hlen h0;go_enter Tryz.func101, Tryz.ntmps101
   go_wp2_with fail;refine GQ (fun W => Below w.heap.size w W ∧ w.heap.size + 1 < W.heap.size ∧ W.cell? ⟨w.heap.size, 1, none⟩ = some (.slice a D.length c) ∧ W.cell? ⟨w.heap.size + 1, 1, none⟩ = some (.slice a' D'.length c')) ⟨zB, zO, by go_simp, by go_simp⟩ ?_
   intro w1 ⟨hb2, hzb, s0, s1⟩;go_loopw [5] (fun i wr => ∃ k : Nat, k ≤ D.length ∧ i = .int .i64 k ∧ Hid (decide ((⟨p0, D⟩ : El) = ⟨q0, D'⟩) = decide (D.drop k = D'.drop k)) ∧ Below w1.heap.size w1 wr) (fun i _ => D.length - (intOf i).toNat)
   case atStart => exact ⟨0, Aj _, rfl, hst0, Below.refl _ _⟩
   case round =>
    obtain ⟨k, hk, rfl, hf, hb7⟩ := hrel
    have hb := Af hb7 hb2
    have t0 : wr.cell? ⟨w.heap.size, 1, none⟩ = some (.slice a D.length c) := (A1.mk wr hb7).cell s0
    have t1 : wr.cell? ⟨w.heap.size + 1, 1, none⟩ = some (.slice a' D'.length c') := (A1.mk wr hb7).cell s1
    have hz3 : w.heap.size + 1 < wr.heap.size := by have := hb7.size; omega
    by_cases hlt : k < D.length
    ·have hlt' : k < D'.length := by rw [← HL.out]; exact hlt
     obtain ⟨b, o, hA, hbb, ax, cx, x0, x1, x2, xb0, xb1, xl⟩ := DG HX.out hlt
     obtain ⟨b', o', hA', hbb', ay, cy, y0, y1, y2, yb0, yb1, yl⟩ := DG HY.out hlt'
     have hst := hid (F0 D D' k hlt hlt')
     subst hA hA';have T0 := fun s : A1 wr => s.cell t0
     have T1 := fun s : A1 wr => s.cell t1
     have X0 := fun s : A1 wr => s.cell ((hb.cell (p := ⟨b, o + k * 3, none⟩) hbb).trans x0)
     have X1 := fun s : A1 wr => s.cell ((hb.cell (p := ⟨b, o + k * 3 + 1, none⟩) hbb).trans x1)
     have X2 := fun s : A1 wr => s.cell ((hb.cell (p := ⟨b, o + k * 3 + 2, none⟩) hbb).trans x2)
     have Y0 := fun s : A1 wr => s.cell ((hb.cell (p := ⟨b', o' + k * 3, none⟩) hbb').trans y0)
     have Y1 := fun s : A1 wr => s.cell ((hb.cell (p := ⟨b', o' + k * 3 + 1, none⟩) hbb').trans y1)
     have Y2 := fun s : A1 wr => s.cell ((hb.cell (p := ⟨b', o' + k * 3 + 2, none⟩) hbb').trans y2)
     clear x0 x1 x2 y0 y1 y2 xb0 xb1 yb0 yb1;generalize hlk : D[k] = u at *
     generalize hlm : D'[k] = v at *
     clear hlk hlm;have hs1 := hid (lift xl hb)
     have hs2 := hid (lift yl hb)
     clear xl yl;have hO := fun s : A1 wr => Qc u v ax ay _ cx _ cy s.at_ (lift hs1.out s.below) (lift hs2.out s.below)
     have i0 : (0 : Int) ≤ (k : Int) := zC
     have i1 : (k : Int) < (D.length : Int) := zC
     have i2 : (k : Int) < (D'.length : Int) := zC
     have d1 : decide ((k : Int) < (D.length : Int)) = true := Ae i1
     by_cases huv : u = v
     ·rw [Ae huv] at hO
      have HO := hid hO; clear hO
      have hst' : Hid (decide (D.drop k = D'.drop k) = decide (D.drop (k + 1) = D'.drop (k + 1))) := hid zBk
      clear huv;go_wp2_with fail;refine Ax zG zG ?_
      repeat (go_big_quiet_step (((go_at_call 170; exact Be (HO.out _)))))
      refine AL ?_
      rintro W5 ⟨⟨W5', hb5⟩, rfl⟩;go_wp2_with fail;go_roundw
      case rel => exact ⟨k + 1, zC, zV, hid zAa, Af hb5 hb7⟩
      case measure => (simp [intOf]; try omega)
     ·rw [Ad huv] at hO
      have HO := hid hO; clear hO
      have hff : Hid (decide ((⟨p0, D⟩ : El) = ⟨q0, D'⟩) = false) := hid zAv
      clear huv;go_wp2_with fail;refine Ax zG zG ?_
      repeat (go_big_quiet_step (((go_at_call 170; exact Be (HO.out _)))))
      refine AL ?_
      rintro W5 ⟨⟨W5', hb5⟩, rfl⟩;go_wp2_with fail;go_ret;exact ⟨zH, Af hb5 hb⟩
    ·obtain rfl : k = D.length := by omega
     have d1 : decide ((D.length : Int) < (D.length : Int)) = false := Ad zC
     have hff : Hid (decide ((⟨p0, D⟩ : El) = ⟨q0, D'⟩) = true) := hid ZB
     go_wp2_with fail;go_ret;exact ⟨zH, hb⟩
  ·have hff : Hid (decide ((⟨p0, D⟩ : El) = ⟨q0, D'⟩) = false) := hid (by simp [h0]; rintro rfl; exact hlen rfl)
   have el : ((D.length : Int) != (D'.length : Int)) = true := zJ
   clear hlen hx hy;go_enter Tryz.func101, Tryz.ntmps101
   go_wp2_with fail;go_ret;exact ⟨zH, zB⟩
 ·have e0 : (p0 != q0) = true := by simpa using h0
  have hfin : Hid (decide ((⟨p0, D⟩ : El) = ⟨q0, D'⟩) = false) := hid (by simp [h0])
  clear hx hy;go_enter Tryz.func101, Tryz.ntmps101
  go_wp2_with fail;go_ret;exact ⟨zZ, zA⟩
theorem TJ {w : World} {g : Nat} {t : TypeId} {v0 v1 : Value} (h : Blk w g t #[v0, v1]) : w.cell? ⟨g, 0, none⟩ = some v0 ∧ w.cell? ⟨g, 1, none⟩ = some v1 ∧ w.frozen? ⟨g, 0, none⟩ = false ∧ w.frozen? ⟨g, 1, none⟩ = false ∧ g < w.heap.size :=
 ⟨h.cell 0, h.cell 1, h.free 0, h.free 1, h.lt⟩
theorem II (l : List (List Int)) (k : Nat) : (Eg (l.take k)).length ≤ (Eg l).length := IM D4 l k
theorem GS (l : List BD) (k : Nat) : (Ck (l.take k)).length ≤ (Ck l).length := IM CN l k
theorem IU (w : World) {g base most : Nat} {J : List UInt8} {a : Option Addr} {c : Nat} (h : BR w g base most J a c) (s : BD) (al : Option Addr) (nl cl : Nat) (h0 : inU s.lo) (h1 : inU s.hi)
  (hl : DW.r (fun q => q < w.heap.size ∧ ¬ Dr g a q) w [.slice al nl cl] s.sets) (hR : Bm s = true) (hfit : J.length + (CN s).length ≤ most) (hln2 : J.length + (CN s).length ≤ 100000000000000) :
  Calls Tryz.prog 155 #[.pointer (some ⟨g, 0, none⟩), .agg #[.int .u64 s.lo, .int .u64 s.hi, .slice al nl cl]] w fun r w' => r = .returned (.tuple #[]) ∧ At w g base most (J ++ CN s) a w' := by
 obtain ⟨rfl, hm, _, _⟩ := AS hl
 have HRT := hid (fun (W : World) (hW : Below w.heap.size w W) => Je s.lo s.hi s.sets al _ cl W (lift (Iv hl) hW))
 rw [show (⟨s.lo, s.hi, s.sets⟩ : BD) = s from rfl, hR] at HRT
 have hR' := hR
 simp only [Bm, Ao, Ar] at hR'
 obtain ⟨⟨g1, g2, g3, g4⟩, g5⟩ := hR'
 have hdl : (CN s).length = (Ay (s.hi - s.lo - 1).toNat).length + (Ay s.sets.length).length + (Eg s.sets).length := by simp only [CN, Ag]
 rw [hdl] at hfit hln2
 have hbb : CN s = Ay (s.hi - s.lo - 1).toNat ++ Ay s.sets.length ++ Eg s.sets := rfl
 rw [hbb]
 have HP := hid h
 have HL := hid hl
 have HNO := hid (fun (k : Nat) (hk : k < s.sets.length) => (by
  have := JT g5 k hk
  simp only [CT, Ao, Ar] at this
  exact ⟨this.1.2, this.2.1⟩ : s.sets[k].length ≤ 8 ∧ Ba s.sets[k] = true))
 have HNS := hid (fun (k : Nat) (hk : k < s.sets.length) => Lw s.sets k hk)
 have HMO := hid (fun k => II s.sets k)
 obtain ⟨lo, hi, l⟩ := s
 dsimp only at *;have hz0 := h0.1
 have v1 : 0 ≤ hi - lo := zC
 have v2 : 0 ≤ hi - lo - 1 := zC
 have v3 : hi - lo - 1 ≤ 18446744073709551615 := zC
 have v4 : hi - lo ≤ 18446744073709551615 := zC
 clear h hl hR hdl hbb g5;go_enter Tryz.func155, Tryz.ntmps155
 go_wp2_with fail;refine (HRT.out _ zA).mono ?_
 rintro r w1 ⟨rfl, hb1⟩;have B1 := Blk.later (Blk.newAt w 155 #[.int .u64 lo, .int .u64 hi, .slice al l.length cl] rfl) hb1
 obtain ⟨x0, x1, x2, _, _, _, l1⟩ := EV B1
 have hbw1 : Below w.heap.size w w1 := zA
 have HLT := hid (fun q (hq : Dr g a q) => (HP.out.Eo hq).2)
 have HB1 := hid B1
 have HL1 := hid (Fg hbw1 HL.out)
 have hs1 := hbw1.size
 have HP1 := hid (HP.out.later hbw1)
 have HV1 := hid (by have := B6 w1 HP1.out (hi - lo - 1).toNat zC zC zC; rw [toNat_cast v2] at this; exact this : Calls Tryz.prog 66 #[.pointer (some ⟨g, 0, none⟩), .int .u64 (hi - lo - 1)] w1 fun r w' => r = .returned (.tuple #[]) ∧ At w1 g base most (J ++ Ay (hi - lo - 1).toNat) a w')
 clear B1 hb1;go_wp2_with fail;refine HV1.out.mono ?_
 rintro r w2 ⟨rfl, a2, c2, hp2, ht2, ha2⟩;have B2 := HB1.out.tch ht2 (fun hf => Z3)
 obtain ⟨y0, y1, y2, _, _, _, l2⟩ := EV B2
 have HT2 := hid (And.intro ht2 ha2)
 have HL2 := hid (Dk ht2 ha2 HL1.out)
 have HB2 := hid B2
 have HNF2 := hid (fun (hf : Dr g a2 w.heap.size) => Ex ha2 HB1.out.lt (fun hf => Z3) hf)
 have hs2 := ht2.size
 have HV2 := hid (B6 w2 hp2 l.length zC zU zU)
 clear B2 hp2 ht2 ha2 x0 x1 x2;go_wp2_with fail;refine HV2.out.mono ?_
 rintro r w3 ⟨rfl, a3, c3, hp3, ht3, ha3⟩;have B3 := HB2.out.tch ht3 (fun hf => HNF2.out hf)
 obtain ⟨x0, x1, x2, _, _, _, l3⟩ := EV B3
 have HT3 := hid (And.intro ht3 ha3)
 have HL3 := hid (Dk ht3 ha3 HL2.out)
 have HP3 := hid hp3
 clear B3 hp3 ht3 ha3 y0 y1 y2;go_wp2_with fail;clear x0 x1 x2;go_loopw [28] (fun i wr => ∃ k : Nat, k ≤ l.length ∧ i = .int .i64 k ∧ Hid (At w3 g base most (J ++ Ay (hi - lo - 1).toNat ++ Ay l.length ++ Eg (l.take k)) a3 wr)) (fun i _ => l.length - (intOf i).toNat)
 case atStart => exact ⟨0, Aj _, rfl, hid (by simpa [Eg] using At.refl HP3.out)⟩
 case round =>
  obtain ⟨k, hk, rfl, hp⟩ := hrel
  obtain ⟨a4, c4, hp4, ht4, ha4⟩ := hp.out
  rcases Bd k l.length with hlt | hge
  ·have hd4 := Dk ht4 ha4 HL3.out
   obtain ⟨b, o, hA, hbb, ak, ck, u0, xl⟩ := EO hd4 hlt
   subst hA;have hst := HNS.out k hlt
   have hfk := HMO.out (k + 1)
   rw [hst, Ag] at hfk
   have hno := HNO.out k hlt
   have hsb : D4 l[k] = Ay l[k].length ++ Gg l[k] := rfl
   have hsl : (D4 l[k]).length = (Ay l[k].length).length + (Gg l[k]).length := by rw [hsb, Ag]
   have HST := hid hst
   have HSB := hid hsb
   have HXL := hid xl
   have i1 : (k : Int) < (l.length : Int) := zC
   have d1 : decide ((k : Int) < (l.length : Int)) = true := Ae i1
   have HT4 := hid (And.intro ht4 ha4)
   generalize l[k] = X at *
   have hx8 := hno.1
   have HRI := hid hno.2
   have HV4 := hid (B6 wr hp4 X.length zC zU zU)
   clear hd4 hst hp4 ht4 ha4 hp hsb xl hno;go_wp2_with fail;refine HV4.out.mono ?_
   rintro r w5 ⟨rfl, a5, c5, hp5, ht5, ha5⟩;have HZ := hid (IE w5 hp5 X ak _ ck (Iv (Dk ht5 ha5 HXL.out)) HRI.out zC zU zU)
   have HT5 := hid (And.intro ht5 ha5)
   clear hp5 ht5 ha5 u0;go_wp2_with fail;refine HZ.out.mono ?_
   rintro r w6 ⟨rfl, hst6⟩;have hn := At.trans (J := J) HT4.out.1 HT4.out.2 (At.trans (J := J) HT5.out.1 HT5.out.2 hst6)
   rw [Av _ (Ay X.length), ← HSB.out, Av _ (Eg _), ← HST.out] at hn
   have HN := hid hn
   clear hst6 hn;go_wp2_with fail;go_roundw
   case rel => exact ⟨k + 1, zC, zV, HN⟩
   case measure => (simp [intOf]; try omega)
  ·obtain rfl : k = l.length := by omega
   have d1 : decide ((l.length : Int) < (l.length : Int)) = false := Ad zC
   rw [Es] at hp
   have hn := At.later hbw1 (At.trans (J := J) HT2.out.1 HT2.out.2 (At.trans (J := J) HT3.out.1 HT3.out.2 hp.out))
   rw [Av _ (Ay (l.length)), Av J, ← Av (Ay (hi - lo - 1).toNat)] at hn
   have HN := hid hn
   clear hp hp4 ht4 ha4 hn;go_wp2_with fail;first | go_end0 | refine Al (Aw rfl _ _ _) rfl ?_
   exact ⟨rfl, HN.out⟩
theorem LI (w : World) {g base most : Nat} {J : List UInt8} {a : Option Addr} {c : Nat} (h : BR w g base most J a c) (p : El) (al : Option Addr) (nl cl : Nat) (h0 : inU p.epoch)
  (hl : Bg.r (fun q => q < w.heap.size ∧ ¬ Dr g a q) w [.slice al nl cl] p.stripes) (hPR : ∀ (W : World), Below w.heap.size w W → Calls Tryz.prog 87 #[.agg #[.int .u64 p.epoch, .slice al nl cl]] W fun r w' => r = .returned (.bool true) ∧ Below W.heap.size W w') (hR : CA p = true) (hfit : J.length + (DI p).length ≤ most) (hln2 : J.length + (DI p).length ≤ 100000000000000) :
  Calls Tryz.prog 78 #[.pointer (some ⟨g, 0, none⟩), .agg #[.int .u64 p.epoch, .slice al nl cl]] w fun r w' => r = .returned (.tuple #[]) ∧ At w g base most (J ++ DI p) a w' := by
 obtain ⟨rfl, hm, _, _⟩ := AS hl
 have HRT := hid hPR
 have hR' := hR
 simp only [CA, Ao, Ar] at hR'
 obtain ⟨g1, ⟨g2, g3⟩, g4⟩ := hR'
 have hdl : (DI p).length = (Ay p.epoch.toNat).length + (Ay p.stripes.length).length + (Ck p.stripes).length := by simp only [DI, Ag]
 rw [hdl] at hfit hln2
 have hbb : DI p = Ay p.epoch.toNat ++ Ay p.stripes.length ++ Ck p.stripes := rfl
 rw [hbb]
 have HP := hid h
 have HL := hid hl
 have HNO := hid (fun (k : Nat) (hk : k < p.stripes.length) => IB _ _ g4 p.stripes[k] (Bl hk))
 have HNS := hid (fun (k : Nat) (hk : k < p.stripes.length) => IG p.stripes k hk)
 have HMO := hid (fun k => GS p.stripes k)
 obtain ⟨ep, l⟩ := p
 dsimp only at *;have HE := hid (fun (W : World) (hW : Below w.heap.size w W) => (by have := M9 W (h.later hW) ep.toNat (by rw [toNat_cast h0.1]; exact g1) zC zC; rw [toNat_cast h0.1] at this; exact this : Calls Tryz.prog 111 #[.pointer (some ⟨g, 0, none⟩), .int .u64 ep] W fun r w' => r = .returned (.tuple #[]) ∧ At W g base most (J ++ Ay ep.toNat) a w'))
 clear h hl hR hdl hbb g1 g4 hPR;go_enter Tryz.func78, Tryz.ntmps78
 go_wp2_with fail;refine (HRT.out _ zA).mono ?_
 rintro r w1 ⟨rfl, hb1⟩;have B1 := Blk.later (Blk.newAt w 30 #[.int .u64 ep, .slice al l.length cl] rfl) hb1
 obtain ⟨x0, x1, _, _, l1⟩ := TJ B1
 have hbw1 : Below w.heap.size w w1 := zA
 have HLT := hid (fun q (hq : Dr g a q) => (HP.out.Eo hq).2)
 have HB1 := hid B1
 have HL1 := hid (Fg hbw1 HL.out)
 have hs1 := hbw1.size
 clear B1 hb1;go_wp2_with fail;refine (HE.out _ hbw1).mono ?_
 rintro r w2 ⟨rfl, a2, c2, hp2, ht2, ha2⟩;have B2 := HB1.out.tch ht2 (fun hf => Z3)
 obtain ⟨y0, y1, _, _, l2⟩ := TJ B2
 have HT2 := hid (And.intro ht2 ha2)
 have HL2 := hid (Dk ht2 ha2 HL1.out)
 have HB2 := hid B2
 have HNF2 := hid (fun (hf : Dr g a2 w.heap.size) => Ex ha2 HB1.out.lt (fun hf => Z3) hf)
 have hs2 := ht2.size
 have HV2 := hid (B6 w2 hp2 l.length zC zU zU)
 clear B2 hp2 ht2 ha2 x0 x1;go_wp2_with fail;refine HV2.out.mono ?_
 rintro r w3 ⟨rfl, a3, c3, hp3, ht3, ha3⟩;have B3 := HB2.out.tch ht3 (fun hf => HNF2.out hf)
 obtain ⟨x0, x1, _, _, l3⟩ := TJ B3
 have HT3 := hid (And.intro ht3 ha3)
 have HL3 := hid (Dk ht3 ha3 HL2.out)
 have HP3 := hid hp3
 clear B3 hp3 ht3 ha3 y0 y1;go_wp2_with fail;clear x0 x1;go_loopw [24] (fun i wr => ∃ k : Nat, k ≤ l.length ∧ i = .int .i64 k ∧ Hid (At w3 g base most (J ++ Ay ep.toNat ++ Ay l.length ++ Ck (l.take k)) a3 wr)) (fun i _ => l.length - (intOf i).toNat)
 case atStart => exact ⟨0, Aj _, rfl, hid (by simpa [Ck] using At.refl HP3.out)⟩
 case round =>
  obtain ⟨k, hk, rfl, hp⟩ := hrel
  obtain ⟨a4, c4, hp4, ht4, ha4⟩ := hp.out
  rcases Bd k l.length with hlt | hge
  ·have hd4 := Dk ht4 ha4 HL3.out
   obtain ⟨b, o, hA, hbb, ak, ck, u0, u1, u2, ub0, ub1, xl⟩ := DG hd4 hlt
   subst hA;have hst := HNS.out k hlt
   have hfk := HMO.out (k + 1)
   rw [hst, Ag] at hfk
   have HRI := hid (HNO.out k hlt)
   have HST := hid hst
   have HXL := hid xl
   have i1 : (k : Int) < (l.length : Int) := zC
   have d1 : decide ((k : Int) < (l.length : Int)) = true := Ae i1
   have hbl := hbb.1
   have HT4 := hid (And.intro ht4 ha4)
   have HP4 := hid hp4
   generalize l[k] = X at *
   have HU := hid (And.intro ub0 ub1)
   have HZ := hid (fun (W : World) (hW : Below wr.heap.size wr W) => IU W (HP4.out.later hW) X ak _ ck HU.out.1 HU.out.2 (Fg hW HXL.out) HRI.out zU zU)
   clear hd4 hst hp4 ht4 ha4 hp xl ub0 ub1;go_wp2_with fail;refine (HZ.out _ zA).mono ?_
   rintro r w6 ⟨rfl, hst6⟩;have hn := At.trans (J := J) HT4.out.1 HT4.out.2 (At.later zA hst6)
   rw [Av _ (Ck _), ← HST.out] at hn
   have HN := hid hn
   clear hst6 hn u0 u1 u2;go_wp2_with fail;go_roundw
   case rel => exact ⟨k + 1, zC, zV, HN⟩
   case measure => (simp [intOf]; try omega)
  ·obtain rfl : k = l.length := by omega
   have d1 : decide ((l.length : Int) < (l.length : Int)) = false := Ad zC
   rw [Es] at hp
   have hn := At.later hbw1 (At.trans (J := J) HT2.out.1 HT2.out.2 (At.trans (J := J) HT3.out.1 HT3.out.2 hp.out))
   rw [Av _ (Ay (l.length)), Av J, ← Av (Ay ep.toNat)] at hn
   have HN := hid hn
   clear hp hp4 ht4 ha4 hn;go_wp2_with fail;first | go_end0 | refine Al (Aw rfl _ _ _) rfl ?_
   exact ⟨rfl, HN.out⟩
end Go.Proofs.YtlbffbkbkajciaaGreat
