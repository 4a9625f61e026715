/- Needed by pushNone_walk, part 4: texts put together by shake.py; no condition. -/
import Derived.Test.YtfddhafbhceoaaaGreatWA3
import Derived.Lib.SlBytesConst
import Derived.RegionTactic
import Derived.Laws.BitsAllLaws
import Derived.Test.YtfddhafbhceoaaaGreatWA1
namespace Go.Bs
/-- A number's bytes, lowest digits first. -/
def varF : Nat → Nat → List UInt8
  | 0, x => [UInt8.ofNat x]
  | f + 1, x => if x < 128 then [UInt8.ofNat x] else UInt8.ofNat (128 + x % 128) :: varF f (x / 128)
def varB (x : Nat) : List UInt8 := varF 9 x
theorem varF_more : ∀ (f g x : Nat), x < 128 ^ (f + 1) → f ≤ g → varF f x = varF g x
  | 0, 0, _, _, _ => rfl
  | 0, g + 1, x, h, _ => by
    have : x < 128 := by simpa using h
    simp [varF, this]
  | f + 1, 0, _, _, h => by omega
  | f + 1, g + 1, x, h, hg => by
    simp only [varF]
    split
    · rfl
    · rw [varF_more f g (x / 128) (by rw [Nat.pow_succ] at h; omega) (by omega)]
theorem varB_small {x : Nat} (h : x < 128) : varB x = [UInt8.ofNat x] := by simp [varB, varF, h]
theorem varB_step {x : Nat} (h : ¬ x < 128) (hx : x < 2 ^ 64) : varB x = UInt8.ofNat (128 + x % 128) :: varB (x / 128) := by
  have e : varF 8 (x / 128) = varF 9 (x / 128) := varF_more 8 9 _ (by omega) (by omega)
  unfold varB
  rw [← e]
  simp [varF, h]
theorem varB_len (x : Nat) : (varB x).length ≤ 10 ∧ 1 ≤ (varB x).length := by
  have : ∀ f x, (varF f x).length ≤ f + 1 ∧ 1 ≤ (varF f x).length := by
    intro f
    induction f with
    | zero => intro x; simp [varF]
    | succ f ih => intro x; simp only [varF]; split <;> simp; exact (ih _).1
  exact this 9 x
end Go.Bs
namespace Go.Proofs.YtfddhafbhceoaaaGreat
open Go.RowKit Go.Bs Go.Maps
set_option linter.unusedVariables false
set_option linter.unusedSimpArgs false

set_option maxHeartbeats 1600000 in
theorem varint_size (x : Nat) (hx : x < 18446744073709551616) (w : World) :
    Calls Tryz.prog 245 #[.int .u64 x] w fun r w' => r = .returned (.int .i64 (varB x).length) ∧ Below w.heap.size w w' := by
  go_enter Tryz.func245, Tryz.ntmps245
  go_wp2_with fail
  go_loopw [0, 3] (fun y n wr => ∃ v k : Nat, y = .int .u64 v ∧ n = .int .i64 k ∧ v < 18446744073709551616 ∧ k ≤ 10 ∧ 1 ≤ k ∧ Hid ((varB x).length + 1 = k + (varB v).length) ∧ Below w.heap.size w wr) (fun y _ _ => (intOf y).toNat)
  case atStart => exact ⟨x, 1, rfl, rfl, hx, by omega, by omega, hid (by omega), Below.refl _ _⟩
  case round =>
    obtain ⟨v, k, rfl, rfl, hv, hk, hk1, hs, hb⟩ := hrel
    by_cases h : v < 128
    · have d1 : decide ((128 : Int) ≤ (v : Int)) = false := by simp; omega
      have hf : Hid ((varB x).length = k) := hid (by have := hs.out; rw [varB_small h] at this; simpa using this)
      go_wp2
      go_ret
      exact ⟨by rw [hf.out]; rfl, hb⟩
    · have d1 : decide ((128 : Int) ≤ (v : Int)) = true := by simp; omega
      have hn : Hid ((varB x).length + 1 = k + 1 + (varB (v / 128)).length) := hid (by have := hs.out; rw [varB_step h (by omega)] at this; simp at this; omega)
      have hk10 : k + 1 ≤ 10 := by have := hn.out; have := varB_len x; have := varB_len (v / 128); omega
      go_wp2_with fail
      go_outline
      go_roundw
      case rel => exact ⟨v / 128, k + 1, by go_num, by go_num, by omega, by omega, by omega, hn, hb⟩
      case measure => simp [intOf]; omega
end Go.Proofs.YtfddhafbhceoaaaGreat
namespace Go.Bs
open Go.RowKit
theorem own_new1 {w : World} {base g : Nat} {e : TypeId} {v : Value} (hb : base ≤ g) (h : w.heap[g]? = some (.cells #[v] e (0, 0))) : w.ownsRow base e 1 (.slice (some ⟨g, 0, none⟩) 1 1) 1 [v] :=
  ⟨rfl, .inr ⟨g, 1, #[v], rfl, hb, h, Nat.le_refl _, by decide, rfl, rfl⟩⟩
theorem byteCells_snoc (J : List UInt8) (b : UInt8) : byteCells J ++ [.int .u8 (b.toNat : Int)] = byteCells (J ++ [b]) := by simp [byteCells]
theorem byte_small {x : Nat} (h : x < 256) : (x : Int) = ((UInt8.ofNat x).toNat : Int) := by
  simp; omega
theorem or128 : ∀ n : Nat, n < 256 → bits .or .u8 (n : Int) 128 = 128 + (n : Int) % 128 := by decide +kernel
theorem or128b (v : Nat) : bits .or .u8 ((v : Int) % 256) 128 = ((UInt8.ofNat (128 + v % 128)).toNat : Int) := by
  have h := or128 (v % 256) (by omega)
  rw [show (((v % 256 : Nat)) : Int) = (v : Int) % 256 by omega] at h
  rw [h, ← byte_small (by omega)]
  omega
end Go.Bs
namespace Go.Proofs.YtfddhafbhceoaaaGreat
open Go.RowKit Go.Bs Go.Maps
set_option linter.unusedVariables false
set_option linter.unusedSimpArgs false

set_option maxRecDepth 100000 in
set_option maxHeartbeats 1600000 in
theorem varint_bytes (x : Nat) (hx : x < 18446744073709551616) (w : World) :
    Calls Tryz.prog 238 #[.int .u64 x] w fun r w' => ∃ v, r = .returned v ∧ rBytes.r (fun b => w.heap.size ≤ b ∧ b < w'.heap.size) w' [v] (varB x) ∧ Below w.heap.size w w' := by
  obtain ⟨i0, hi, hz0, hz1, hz2⟩ := info_parts info8
  go_enter Tryz.func238, Tryz.ntmps238
  go_wp2_with fail
  go_loopw [0, 3] (fun y o wr => ∃ (v : Nat) (J : List UInt8), y = .int .u64 v ∧ v < 18446744073709551616 ∧ wr.ownsRow w.heap.size 5 1 o J.length (byteCells J) ∧ Hid (varB x = J ++ varB v) ∧ Below w.heap.size w wr) (fun y _ _ => (intOf y).toNat)
  case atStart => exact ⟨x, [], rfl, hx, ⟨rfl, .inl ⟨rfl, rfl⟩⟩, hid rfl, Below.refl _ _⟩
  case round =>
    obtain ⟨v, J, rfl, hv, hown, hs, hb⟩ := hrel
    have hbs := hb.size
    have hJ : J.length ≤ 10 := by have h1 := varB_len x; rw [hs.out] at h1; simp at h1; omega
    obtain ⟨aJ, cJ, rfl⟩ := own_form hown
    have HO := hid hown
    clear hown
    by_cases h : v < 128
    · have d1 : decide ((128 : Int) ≤ (v : Int)) = false := by simp; omega
      have hfin : Hid (varB x = J ++ [UInt8.ofNat v]) := hid (by rw [hs.out, varB_small h])
      have hby : Hid ((v : Int) = ((UInt8.ofNat v).toNat : Int)) := hid (byte_small (by omega))
      go_wp2_with (at_builtin; go_loud (refine wpList_append_src rfl _ _ _ rfl w.heap.size 5 i0 (.int .u8 0) 1 1 Tryz.underlying22 hi hz0 hz1 hz2 rfl (by decide) (.slice aJ J.length cJ) J.length (byteCells J) rfl (own_below HO.out (by (repeat (first | exact Below.refl _ _ | assumption | (refine below_alloc ?_ _) | (refine Below.setCell ?_ (by first | omega | (simp; done) | (simp; omega)) _) | (refine Below.drew ?_) | (refine below_drewN ?_ _) | (refine below_then (by assumption) ?_))))) (some ⟨wr.heap.size, 0, none⟩) 1 1 [.int .u8 (v : Int)] rfl (src_new1 wr 5 _ rfl rfl rfl) (by intro u hu; simp at hu; subst hu; rfl) (by simp only [maxLen]; omega) (by omega) (by simp; omega) ?_; intro v' w1 hown1 hgrow1 hat1; have HG := hid hgrow1; have HO1 := hid hown1; clear hgrow1 hown1 hat1))
      have ho := HO1.out
      rw [hby.out, byteCells_snoc, ← hfin.out] at ho
      have hlen : J.length + 1 = (varB x).length := by rw [hfin.out]; simp
      have hV := own_bytes2 hlen ho
      have hB : Below w.heap.size w w1 := Below.grown (by (repeat (first | exact Below.refl _ _ | assumption | (refine below_alloc ?_ _) | (refine Below.setCell ?_ (by first | omega | (simp; done) | (simp; omega)) _) | (refine Below.drew ?_) | (refine below_drewN ?_ _) | (refine below_then (by assumption) ?_)))) HG.out (by simp; omega) (fun g e => (HO.out.lt g e).1)
      have HV := hid hV
      clear ho hlen hV
      go_wp2
      go_ret
      exact ⟨_, rfl, HV.out, hB⟩
    · have d1 : decide ((128 : Int) ≤ (v : Int)) = true := by simp; omega
      have hfin : Hid (varB x = (J ++ [UInt8.ofNat (128 + v % 128)]) ++ varB (v / 128)) := hid (by rw [hs.out, varB_step h (by omega)]; simp)
      have hor := or128b v
      generalize UInt8.ofNat (128 + v % 128) = bb at *
      go_wp2_with (at_builtin; go_loud (refine wpList_append_src rfl _ _ _ rfl w.heap.size 5 i0 (.int .u8 0) 1 1 Tryz.underlying22 hi hz0 hz1 hz2 rfl (by decide) (.slice aJ J.length cJ) J.length (byteCells J) rfl (own_below HO.out (by (repeat (first | exact Below.refl _ _ | assumption | (refine below_alloc ?_ _) | (refine Below.setCell ?_ (by first | omega | (simp; done) | (simp; omega)) _) | (refine Below.drew ?_) | (refine below_drewN ?_ _) | (refine below_then (by assumption) ?_))))) (some ⟨wr.heap.size, 0, none⟩) 1 1 [.int .u8 (bb.toNat : Int)] rfl (src_new1 wr 5 _ rfl rfl rfl) (by intro u hu; simp at hu; subst hu; rfl) (by simp only [maxLen]; omega) (by omega) (by simp; omega) ?_; intro v' w1 hown1 hgrow1 hat1; have HG := hid hgrow1; have HO1 := hid hown1; clear hgrow1 hown1 hat1))
      have ho := HO1.out
      rw [byteCells_snoc] at ho
      have hB : Below w.heap.size w w1 := Below.grown (by (repeat (first | exact Below.refl _ _ | assumption | (refine below_alloc ?_ _) | (refine Below.setCell ?_ (by first | omega | (simp; done) | (simp; omega)) _) | (refine Below.drew ?_) | (refine below_drewN ?_ _) | (refine below_then (by assumption) ?_)))) HG.out (by simp; omega) (fun g e => (HO.out.lt g e).1)
      have HO2 := hid ho
      clear ho HO1
      go_wp2_with fail
      go_roundw
      case rel => exact ⟨v / 128, J ++ [bb], by go_num, by omega, (by rw [List.length_append]; exact HO2.out), hfin, hB⟩
      case measure => simp [intOf]; omega


/-- Block g is a good pen with a bound that has written J. -/
structure PenAt (w : World) (g base most : Nat) (J : List UInt8) (a : Option Addr) (c : Nat) : Prop where
  blk : Blk w g 276 #[.int .i64 most, .slice a J.length c, .int .i64 0]
  own : w.ownsRow base 5 1 (.slice a J.length c) J.length (byteCells J)
  ne : (Value.slice a J.length c).ownBlock ≠ some g
  lo : base ≤ g
  le : J.length ≤ most
  most : most ≤ 4611686018427387904
  len : J.length ≤ 100000000000000
def PenF (g : Nat) (a : Option Addr) (q : Nat) : Prop := q = g ∨ ∃ p, a = some p ∧ p.block = q
theorem own_slice {a : Option Addr} {n c : Nat} : (Value.slice a n c).ownBlock = a.map Addr.block := by cases a <;> rfl
/-- What writing leaves. -/
def PenStep (w : World) (g base most : Nat) (J' : List UInt8) (a : Option Addr) (w' : World) : Prop :=
  ∃ a' c', PenAt w' g base most J' a' c' ∧ Tch (PenF g a) w w' ∧ (a'.map Addr.block = a.map Addr.block ∨ ∃ q, a'.map Addr.block = some q ∧ w.heap.size ≤ q)
theorem PenStep.refl {w : World} {g base most : Nat} {J : List UInt8} {a : Option Addr} {c : Nat} (h : PenAt w g base most J a c) : PenStep w g base most J a w := ⟨a, c, h, Tch.refl _ _, .inl rfl⟩
theorem penF_is {g : Nat} {a : Option Addr} {q : Nat} : PenF g a q ↔ q = g ∨ a.map Addr.block = some q := by unfold PenF; simp
theorem PenStep.trans {w w1 w2 : World} {g base most : Nat} {J J' : List UInt8} {a a1 : Option Addr} (h1 : Tch (PenF g a) w w1) (h2 : a1.map Addr.block = a.map Addr.block ∨ ∃ q, a1.map Addr.block = some q ∧ w.heap.size ≤ q) (k : PenStep w1 g base most J' a1 w2) : PenStep w g base most J' a w2 := by
  obtain ⟨a2, c2, k1, k2, k3⟩ := k
  have hs := h1.size
  refine ⟨a2, c2, k1, h1.trans k2 fun q hq e => ?_, ?_⟩
  · rw [penF_is] at e ⊢
    rcases e with e | e
    · exact .inl e
    · rcases h2 with h2 | ⟨q', h2, h3⟩
      · exact .inr (h2 ▸ e)
      · rw [h2] at e; simp at e; omega
  · rcases k3 with k3 | ⟨q, k3, k4⟩
    · rcases h2 with h2 | ⟨q', h2, h3⟩
      · exact .inl (k3.trans h2)
      · exact .inr ⟨q', k3.trans h2, h3⟩
    · exact .inr ⟨q, k3, by omega⟩
theorem PenStep.later {w w1 w2 : World} {g base most : Nat} {J' : List UInt8} {a : Option Addr} (h : Below w.heap.size w w1) (k : PenStep w1 g base most J' a w2) : PenStep w g base most J' a w2 := PenStep.trans (J := J') (Tch.of_later h) (.inl rfl) k
theorem PenAt.later {w w1 : World} {g base most : Nat} {J : List UInt8} {a : Option Addr} {c : Nat} (h : PenAt w g base most J a c) (hb : Below w.heap.size w w1) : PenAt w1 g base most J a c :=
  ⟨h.blk.later hb, own_below h.own hb, h.ne, h.lo, h.le, h.most, h.len⟩
theorem PenAt.new (w : World) (most : Nat) (hm : most ≤ 4611686018427387904) : PenAt (w.alloc (.cells #[.int .i64 most, .slice none 0 0, .int .i64 0] 276)) w.heap.size w.heap.size most [] none 0 :=
  ⟨Blk.new w _ _, ⟨rfl, .inl ⟨rfl, rfl⟩⟩, by simp [Value.ownBlock], Nat.le_refl _, Nat.zero_le _, hm, Nat.zero_le _⟩

theorem pen_code (w : World) {g base most : Nat} {J : List UInt8} {a : Option Addr} {c : Nat} (h : PenAt w g base most J a c) :
    Calls Tryz.prog 235 #[.pointer (some ⟨g, 0, none⟩)] w fun r w' => r = .returned (.int .i64 0) ∧ w = w' := by
  have c2 : w.cell? ⟨g, 2, none⟩ = some (.int .i64 0) := h.blk.cell 2
  clear h
  go_enter Tryz.func235, Tryz.ntmps235
  go_wp2
  go_ret
  exact ⟨rfl, rfl⟩
theorem pen_room (w : World) {g base most : Nat} {J : List UInt8} {a : Option Addr} {c : Nat} (h : PenAt w g base most J a c) :
    Calls Tryz.prog 236 #[.pointer (some ⟨g, 0, none⟩)] w fun r w' => r = .returned (.int .i64 ((most : Int) - J.length)) ∧ Below w.heap.size w w' := by
  have C0 := fun s : Later w => s.cell (h.blk.cell 0)
  have C1 := fun s : Later w => s.cell (h.blk.cell 1)
  simp at C0 C1
  have hle := h.le; have hmo := h.most
  clear h
  go_enter Tryz.func236, Tryz.ntmps236
  go_wp2_with fail
  refine wp_region_later (by kernel_rfl) (by kernel_rfl) ?_
  repeat (go_big_quiet_step (fail))
  refine wpQuiet_nil ?_
  rintro W5 ⟨⟨W5', hb5⟩, rfl⟩
  go_wp2
  go_ret
  exact ⟨by first | rfl | simp, hb5⟩
theorem pen_new (w : World) (most : Nat) (hm : most ≤ 4611686018427387904) :
    Calls Tryz.prog 160 #[.int .i64 most] w fun r w' => r = .returned (.pointer (some ⟨w.heap.size, 0, none⟩)) ∧ PenAt w' w.heap.size w.heap.size most [] none 0 ∧ Below w.heap.size w w' := by
  have hN := hid (PenAt.new w most hm)
  have d1 : max (most : Int) 0 = most := by omega
  have d2 : (if (most : Int) < 0 then (0 : Int) else most) = most := by rw [if_neg (by omega)]
  go_enter Tryz.func160, Tryz.ntmps160
  go_wp2
  go_ret
  exact ⟨rfl, hN.out, by (repeat (first | exact Below.refl _ _ | assumption | (refine below_alloc ?_ _) | (refine Below.setCell ?_ (by first | omega | (simp; done) | (simp; omega)) _) | (refine Below.drew ?_) | (refine below_drewN ?_ _) | (refine below_then (by assumption) ?_)))⟩

theorem pen_next {w1 w2 : World} {g base most : Nat} {J D : List UInt8} {a : Option Addr} {c : Nat} {a' : Option Addr} {c' : Nat} (h : PenAt w1 g base most J a c) (hfit : J.length + D.length ≤ most) (hlen : J.length + D.length ≤ 100000000000000)
    (hown : w2.ownsRow base 5 1 (.slice a' (J.length + D.length) c') (J.length + D.length) (byteCells J ++ byteCells D)) (hgrow : w1.grownBy w2 (Value.slice a J.length c).ownBlock)
    (hat : (Value.slice a' (J.length + D.length) c').ownBlock = (Value.slice a J.length c).ownBlock ∨ (Value.slice a' (J.length + D.length) c').ownBlock = some w1.heap.size) :
    PenStep w1 g base most (J ++ D) a (w2.setCell ⟨g, 1, none⟩ (.slice a' (J.length + D.length) c')) := by
  have hg := h.blk.lt
  have hs := hgrow.size
  have hn2 : (Value.slice a' (J.length + D.length) c').ownBlock ≠ some g := fun e => by
    rcases hat with h1 | h1
    · rw [h1] at e; exact h.ne e
    · rw [h1] at e; simp at e; omega
  have hsz : (w2.setCell ⟨g, 1, none⟩ (.slice a' (J.length + D.length) c')).heap.size = w2.heap.size := by simp [World.setCell]
  have hll : (J ++ D).length = J.length + D.length := List.length_append
  have hbb : byteCells (J ++ D) = byteCells J ++ byteCells D := by simp [byteCells]
  refine ⟨a', c', ⟨?_, ?_, ?_, h.lo, by omega, h.most, by omega⟩, ?_, ?_⟩
  · rw [hll]
    exact (h.blk.grown hgrow (fun e => h.ne e.symm)).set 1 _
  · rw [hll, hbb]
    exact own_keep hown fun q hq => Below.heap_setCell w2 _ _ q (fun e => hn2 (by rw [hq, e]))
  · rw [hll]; exact hn2
  · refine ⟨hgrow.os, hgrow.tape, hgrow.output, by rw [hsz]; exact hs, fun q hq hf => ?_⟩
    rw [penF_is] at hf
    exact (Below.heap_setCell w2 _ _ q (fun e => hf (.inl e))).trans (hgrow.block q hq (fun e => hf (.inr (by rw [own_slice] at e; exact e.symm))))
  · rw [own_slice, own_slice] at hat
    rcases hat with h1 | h1
    · exact .inl h1
    · exact .inr ⟨_, h1, Nat.le_refl _⟩

set_option maxRecDepth 100000 in
set_option maxHeartbeats 1600000 in
theorem pen_put (w : World) {g base most : Nat} {J : List UInt8} {a : Option Addr} {c : Nat} (h : PenAt w g base most J a c) (D : List UInt8) (ad : Option Addr) (nd cd : Nat) (hD : rBytes.r (· < w.heap.size) w [.slice ad nd cd] D) (hfit : J.length + D.length ≤ most) (hlen : J.length + D.length ≤ 100000000000000) :
    Calls Tryz.prog 161 #[.pointer (some ⟨g, 0, none⟩), .slice ad nd cd] w fun r w' => r = .returned (.tuple #[]) ∧ PenStep w g base most (J ++ D) a w' := by
  obtain ⟨rfl, hm, _, _⟩ := sl_len hD
  obtain ⟨i0, hi, hz0, hz1, hz2⟩ := info_parts info8
  have HC := hid (pen_code w h)
  have HR := hid (pen_room w h)
  have HP := hid h
  have HD := hid hD
  have HONE := hid (byteCells_one D)
  have hmo := h.most
  have d1 : decide ((most : Int) - (J.length : Int) < (D.length : Int)) = false := by simp; omega
  clear h hD
  go_enter Tryz.func161, Tryz.ntmps161
  go_wp2_with fail
  refine HC.out.mono ?_
  rintro r w0 ⟨rfl, rfl⟩
  go_wp2_with fail
  refine HR.out.mono ?_
  rintro r w1 ⟨rfl, hb1⟩
  have hP1 := HP.out.later hb1
  have c1 : w1.cell? ⟨g, 1, none⟩ = some (.slice a J.length c) := hP1.blk.cell 1
  have hg1 := hP1.blk.lt
  have f1 := hP1.blk.free 1
  have hne := hP1.ne
  have hlo := hP1.lo
  have HP1 := hid hP1
  have HS := hid (src_bytes (lift HD.out hb1))
  clear hP1
  go_wp2_with (at_builtin; go_loud (refine wpList_append_src rfl _ _ _ rfl base 5 i0 (.int .u8 0) 1 1 Tryz.underlying22 hi hz0 hz1 hz2 rfl (by decide) (.slice a J.length c) J.length (byteCells J) rfl HP1.out.own ad D.length cd (byteCells D) rfl HS.out HONE.out (by simp only [maxLen]; omega) (by omega) (by omega) ?_; intro v' w2 hown2 hgrow2 hat2; obtain ⟨a', c', rfl⟩ := own_form hown2; have f2 := (World.frozen?_of_block (a := ⟨g, 1, none⟩) (hgrow2.block g hg1 (fun e => hne e.symm))).trans f1; have e2 := (World.cell?_of_block (a := ⟨g, 1, none⟩) (hgrow2.block g hg1 (fun e => hne e.symm))).trans c1; have hz2' : g < w2.heap.size := Nat.lt_of_lt_of_le hg1 hgrow2.size; have HG := hid hgrow2; have HO := hid hown2; have HAT := hid hat2; clear hgrow2 hown2 hat2))
  have hst := PenStep.later hb1 (pen_next HP1.out hfit hlen HO.out HG.out HAT.out)
  have HST := hid hst
  clear hst
  go_wp2
  go_end0
  exact ⟨rfl, HST.out⟩

set_option maxRecDepth 100000 in
set_option maxHeartbeats 1600000 in
theorem pen_bytes (w : World) {g base most : Nat} {J : List UInt8} {a : Option Addr} {c : Nat} (h : PenAt w g base most J a c) :
    Calls Tryz.prog 165 #[.pointer (some ⟨g, 0, none⟩)] w fun r w' => ∃ v, r = .returned (.tuple #[v, .int .i64 0]) ∧ rBytes.r (fun q => w.heap.size ≤ q ∧ q < w'.heap.size) w' [v] J ∧ Below w.heap.size w w' := by
  obtain ⟨i0, hi, hz0, hz1, hz2⟩ := info_parts info8
  have HC := hid (pen_code w h)
  have hB := own_bytes2 rfl h.own
  obtain ⟨_, hm, _, _⟩ := sl_len hB
  have HD := hid (rBytes.mono hB (S' := (· < w.heap.size)) fun q hq => hq.2)
  have HONE := hid (byteCells_one J)
  have c1 : w.cell? ⟨g, 1, none⟩ = some (.slice a J.length c) := h.blk.cell 1
  have hg1 := h.blk.lt
  have hle := h.le; have hmo := h.most; have hle14 := h.len
  clear h hB
  go_enter Tryz.func165, Tryz.ntmps165
  go_wp2_with fail
  refine HC.out.mono ?_
  rintro r w0 ⟨rfl, rfl⟩
  go_wp2_with (at_builtin; go_loud (refine wpList_append_src rfl _ _ _ rfl w.heap.size 5 i0 (.int .u8 0) 1 1 Tryz.underlying22 hi hz0 hz1 hz2 rfl (by decide) _ 0 [] rfl (own_empty _ (Nat.le_refl _) rfl) a J.length c (byteCells J) rfl (src_bytes (lift HD.out (by (repeat (first | exact Below.refl _ _ | assumption | (refine below_alloc ?_ _) | (refine Below.setCell ?_ (by first | omega | (simp; done) | (simp; omega)) _) | (refine Below.drew ?_) | (refine below_drewN ?_ _) | (refine below_then (by assumption) ?_)))))) HONE.out (by simp only [maxLen]; omega) (by omega) (by simp) ?_; intro v' w1 hown1 hgrow1 hat1; rw [Nat.zero_add, List.nil_append] at hown1; obtain ⟨a', c', rfl⟩ := own_form hown1; have HG := hid hgrow1; have HO := hid hown1; clear hgrow1 hown1 hat1))
  have hA := own_bytes2 rfl HO.out
  have hb1 : Below w.heap.size w w1 := Below.grown (by (repeat (first | exact Below.refl _ _ | assumption | (refine below_alloc ?_ _) | (refine Below.setCell ?_ (by first | omega | (simp; done) | (simp; omega)) _) | (refine Below.drew ?_) | (refine below_drewN ?_ _) | (refine below_then (by assumption) ?_)))) HG.out (by simp) (fun g e => by
    have e' : some w.heap.size = some g := e
    injection e' with e'
    omega)
  have HA := hid hA
  clear hA
  go_ret2
  exact ⟨_, rfl, HA.out, hb1⟩

def rightB (t : Tok) : Bool := runB t || copyB t

set_option maxRecDepth 100000 in
set_option maxHeartbeats 6400000 in
theorem token_right (x : Tok) (a : Option Addr) (c : Nat) (w : World) (hl : x.lit.length ≤ 9223372036854775807) (h1 : -9223372036854775808 ≤ x.off ∧ x.off ≤ 9223372036854775807) (h2 : -9223372036854775808 ≤ x.len ∧ x.len ≤ 9223372036854775807) :
    Calls Tryz.prog 383 #[.agg #[.slice a x.lit.length c, .int .i64 x.off, .int .i64 x.len]] w fun r w' => r = .returned (.bool (rightB x)) ∧ Below w.heap.size w w' := by
  obtain ⟨D, o, m⟩ := x
  dsimp only at *
  by_cases k0 : o = 0
  · skip
    have k0_0 : (o == 0) = true := beq_iff_eq.2 (by omega)
    by_cases k1 : m = 0
    · skip
      have k1_0 : (m == 0) = true := beq_iff_eq.2 (by omega)
      by_cases k2 : 1 ≤ D.length
      · skip
        have k2_0 : decide ((1 : Int) ≤ (D.length : Int)) = true := decide_eq_true (by omega)
        have k2_1 : decide (1 ≤ D.length) = true := decide_eq_true (by omega)
        by_cases k3 : D.length ≤ 1048576
        · skip
          have k3_0 : decide ((D.length : Int) ≤ 1048576) = true := decide_eq_true (by omega)
          have k3_1 : decide (D.length ≤ 1048576) = true := decide_eq_true (by omega)
          have hff : Hid (rightB ⟨D, o, m⟩ = true) := hid (by simp only [rightB, runB, copyB, Bool.or_eq_true, Bool.and_eq_true, decide_eq_true_eq]; first | omega | (simp; omega))
          clear hl h1 h2
          go_enter Tryz.func383, Tryz.ntmps383
          go_wp2
          go_ret
          exact ⟨by rw [hff.out]; rfl, by (repeat (first | exact Below.refl _ _ | assumption | (refine below_alloc ?_ _) | (refine Below.setCell ?_ (by first | omega | (simp; done) | (simp; omega)) _) | (refine Below.drew ?_) | (refine below_drewN ?_ _) | (refine below_then (by assumption) ?_)))⟩
        · skip
          have k3_0 : decide ((D.length : Int) ≤ 1048576) = false := decide_eq_false (by omega)
          have k3_1 : decide (D.length ≤ 1048576) = false := decide_eq_false (by omega)
          have hff : Hid (rightB ⟨D, o, m⟩ = false) := hid (by rw [← Bool.not_eq_true]; simp only [rightB, runB, copyB, Bool.or_eq_true, Bool.and_eq_true, decide_eq_true_eq]; first | omega | (simp; omega))
          clear hl h1 h2
          go_enter Tryz.func383, Tryz.ntmps383
          go_wp2
          go_ret
          exact ⟨by rw [hff.out]; rfl, by (repeat (first | exact Below.refl _ _ | assumption | (refine below_alloc ?_ _) | (refine Below.setCell ?_ (by first | omega | (simp; done) | (simp; omega)) _) | (refine Below.drew ?_) | (refine below_drewN ?_ _) | (refine below_then (by assumption) ?_)))⟩
      · skip
        have k2_0 : decide ((1 : Int) ≤ (D.length : Int)) = false := decide_eq_false (by omega)
        have k2_1 : decide (1 ≤ D.length) = false := decide_eq_false (by omega)
        have hff : Hid (rightB ⟨D, o, m⟩ = false) := hid (by rw [← Bool.not_eq_true]; simp only [rightB, runB, copyB, Bool.or_eq_true, Bool.and_eq_true, decide_eq_true_eq]; first | omega | (simp; omega))
        clear hl h1 h2
        go_enter Tryz.func383, Tryz.ntmps383
        go_wp2
        go_ret
        exact ⟨by rw [hff.out]; rfl, by (repeat (first | exact Below.refl _ _ | assumption | (refine below_alloc ?_ _) | (refine Below.setCell ?_ (by first | omega | (simp; done) | (simp; omega)) _) | (refine Below.drew ?_) | (refine below_drewN ?_ _) | (refine below_then (by assumption) ?_)))⟩
    · skip
      have k1_0 : (m == 0) = false := beq_eq_false_iff_ne.2 (by omega)
      have hff : Hid (rightB ⟨D, o, m⟩ = false) := hid (by rw [← Bool.not_eq_true]; simp only [rightB, runB, copyB, Bool.or_eq_true, Bool.and_eq_true, decide_eq_true_eq]; first | omega | (simp; omega))
      clear hl h1 h2
      go_enter Tryz.func383, Tryz.ntmps383
      go_wp2
      go_ret
      exact ⟨by rw [hff.out]; rfl, by (repeat (first | exact Below.refl _ _ | assumption | (refine below_alloc ?_ _) | (refine Below.setCell ?_ (by first | omega | (simp; done) | (simp; omega)) _) | (refine Below.drew ?_) | (refine below_drewN ?_ _) | (refine below_then (by assumption) ?_)))⟩
  · skip
    have k0_0 : (o == 0) = false := beq_eq_false_iff_ne.2 (by omega)
    by_cases k4 : 0 < D.length
    · skip
      have k4_0 : decide ((0 : Int) < (D.length : Int)) = true := decide_eq_true (by omega)
      have k4_1 : decide (0 < D.length) = true := decide_eq_true (by omega)
      have hff : Hid (rightB ⟨D, o, m⟩ = false) := hid (by rw [← Bool.not_eq_true]; simp only [rightB, runB, copyB, Bool.or_eq_true, Bool.and_eq_true, decide_eq_true_eq]; first | omega | (simp; omega))
      clear hl h1 h2
      go_enter Tryz.func383, Tryz.ntmps383
      go_wp2
      go_ret
      exact ⟨by rw [hff.out]; rfl, by (repeat (first | exact Below.refl _ _ | assumption | (refine below_alloc ?_ _) | (refine Below.setCell ?_ (by first | omega | (simp; done) | (simp; omega)) _) | (refine Below.drew ?_) | (refine below_drewN ?_ _) | (refine below_then (by assumption) ?_)))⟩
    · skip
      obtain rfl : D = [] := List.eq_nil_of_length_eq_zero (by omega)
      simp only [List.length_nil] at *
      by_cases k5 : o < 0
      · skip
        have k5_0 : decide (o < 0) = true := decide_eq_true (by omega)
        have hff : Hid (rightB ⟨[], o, m⟩ = false) := hid (by rw [← Bool.not_eq_true]; simp only [rightB, runB, copyB, Bool.or_eq_true, Bool.and_eq_true, decide_eq_true_eq, List.length_nil]; first | omega | (simp; omega))
        clear hl h1 h2
        go_enter Tryz.func383, Tryz.ntmps383
        go_wp2
        go_ret
        exact ⟨by rw [hff.out]; rfl, by (repeat (first | exact Below.refl _ _ | assumption | (refine below_alloc ?_ _) | (refine Below.setCell ?_ (by first | omega | (simp; done) | (simp; omega)) _) | (refine Below.drew ?_) | (refine below_drewN ?_ _) | (refine below_then (by assumption) ?_)))⟩
      · skip
        have k5_0 : decide (o < 0) = false := decide_eq_false (by omega)
        by_cases k6 : 65536 < o
        · skip
          have k6_0 : decide ((65536 : Int) < o) = true := decide_eq_true (by omega)
          have hff : Hid (rightB ⟨[], o, m⟩ = false) := hid (by rw [← Bool.not_eq_true]; simp only [rightB, runB, copyB, Bool.or_eq_true, Bool.and_eq_true, decide_eq_true_eq, List.length_nil]; first | omega | (simp; omega))
          clear hl h1 h2
          go_enter Tryz.func383, Tryz.ntmps383
          go_wp2
          go_ret
          exact ⟨by rw [hff.out]; rfl, by (repeat (first | exact Below.refl _ _ | assumption | (refine below_alloc ?_ _) | (refine Below.setCell ?_ (by first | omega | (simp; done) | (simp; omega)) _) | (refine Below.drew ?_) | (refine below_drewN ?_ _) | (refine below_then (by assumption) ?_)))⟩
        · skip
          have k6_0 : decide ((65536 : Int) < o) = false := decide_eq_false (by omega)
          by_cases k7 : 4 ≤ m
          · skip
            have k7_0 : decide ((4 : Int) ≤ m) = true := decide_eq_true (by omega)
            by_cases k8 : m ≤ 1048576
            · skip
              have k8_0 : decide (m ≤ 1048576) = true := decide_eq_true (by omega)
              have hff : Hid (rightB ⟨[], o, m⟩ = true) := hid (by simp only [rightB, runB, copyB, Bool.or_eq_true, Bool.and_eq_true, decide_eq_true_eq, List.length_nil]; first | omega | (simp; omega))
              clear hl h1 h2
              go_enter Tryz.func383, Tryz.ntmps383
              go_wp2
              go_ret
              exact ⟨by rw [hff.out]; rfl, by (repeat (first | exact Below.refl _ _ | assumption | (refine below_alloc ?_ _) | (refine Below.setCell ?_ (by first | omega | (simp; done) | (simp; omega)) _) | (refine Below.drew ?_) | (refine below_drewN ?_ _) | (refine below_then (by assumption) ?_)))⟩
            · skip
              have k8_0 : decide (m ≤ 1048576) = false := decide_eq_false (by omega)
              have hff : Hid (rightB ⟨[], o, m⟩ = false) := hid (by rw [← Bool.not_eq_true]; simp only [rightB, runB, copyB, Bool.or_eq_true, Bool.and_eq_true, decide_eq_true_eq, List.length_nil]; first | omega | (simp; omega))
              clear hl h1 h2
              go_enter Tryz.func383, Tryz.ntmps383
              go_wp2
              go_ret
              exact ⟨by rw [hff.out]; rfl, by (repeat (first | exact Below.refl _ _ | assumption | (refine below_alloc ?_ _) | (refine Below.setCell ?_ (by first | omega | (simp; done) | (simp; omega)) _) | (refine Below.drew ?_) | (refine below_drewN ?_ _) | (refine below_then (by assumption) ?_)))⟩
          · skip
            have k7_0 : decide ((4 : Int) ≤ m) = false := decide_eq_false (by omega)
            have hff : Hid (rightB ⟨[], o, m⟩ = false) := hid (by rw [← Bool.not_eq_true]; simp only [rightB, runB, copyB, Bool.or_eq_true, Bool.and_eq_true, decide_eq_true_eq, List.length_nil]; first | omega | (simp; omega))
            clear hl h1 h2
            go_enter Tryz.func383, Tryz.ntmps383
            go_wp2
            go_ret
            exact ⟨by rw [hff.out]; rfl, by (repeat (first | exact Below.refl _ _ | assumption | (refine below_alloc ?_ _) | (refine Below.setCell ?_ (by first | omega | (simp; done) | (simp; omega)) _) | (refine Below.drew ?_) | (refine below_drewN ?_ _) | (refine below_then (by assumption) ?_)))⟩

set_option maxRecDepth 100000 in
theorem varint_put (w : World) {g base most : Nat} {J : List UInt8} {a : Option Addr} {c : Nat} (h : PenAt w g base most J a c) (x : Nat) (hx : x < 18446744073709551616) (hfit : J.length + (varB x).length ≤ most) (hlen : J.length + (varB x).length ≤ 100000000000000) :
    Calls Tryz.prog 163 #[.pointer (some ⟨g, 0, none⟩), .int .u64 x] w fun r w' => r = .returned (.tuple #[]) ∧ PenStep w g base most (J ++ varB x) a w' := by
  have HV := hid (varint_bytes x hx w)
  have HP := hid h
  clear h
  go_enter Tryz.func163, Tryz.ntmps163
  go_wp2_with fail
  refine HV.out.mono ?_
  rintro r w1 ⟨v, rfl, hr, hb1⟩
  obtain ⟨a1, c1, hv, hr2, _⟩ := sl_form hr
  simp only [List.cons.injEq, and_true] at hv
  subst hv
  have HQ := hid (pen_put w1 (HP.out.later hb1) (varB x) a1 _ c1 (rBytes.mono hr2 fun q hq => hq.2) hfit hlen)
  clear hr hr2
  go_wp2_with fail
  refine HQ.out.mono ?_
  rintro r w2 ⟨rfl, hst⟩
  have HST := hid (PenStep.later hb1 hst)
  clear hst
  go_wp2
  first | go_end0 | refine bodyPost_ret (results_none rfl _ _ _) rfl ?_
  exact ⟨rfl, HST.out⟩

/-- A token's bytes. -/
def tokB (t : Tok) : List UInt8 := if runB t then varB (2 * t.lit.length - 2) ++ t.lit else varB (2 * t.len.toNat - 7) ++ varB (t.off.toNat - 1)
theorem tokB_run (D : List UInt8) (h1 : 1 ≤ D.length) (h2 : D.length ≤ 1048576) : tokB ⟨D, 0, 0⟩ = varB (2 * D.length - 2) ++ D := by
  unfold tokB
  rw [if_pos]
  simp [runB]; omega
theorem tokB_copy (o m : Nat) (h1 : 1 ≤ o) : tokB ⟨[], (o : Int), (m : Int)⟩ = varB (2 * m - 7) ++ varB (o - 1) := by
  unfold tokB
  rw [if_neg]
  · simp
  · simp [runB]

theorem PenAt.own_lt {w : World} {g base most : Nat} {J : List UInt8} {a : Option Addr} {c : Nat} (h : PenAt w g base most J a c) {q : Nat} (hq : PenF g a q) : base ≤ q ∧ q < w.heap.size := by
  rcases hq with rfl | ⟨p, hp, rfl⟩
  · exact ⟨h.lo, h.blk.lt⟩
  · subst hp
    exact h.own.lt _ rfl

set_option maxRecDepth 100000 in
set_option maxHeartbeats 1600000 in
theorem token_put_run (w : World) {g base most : Nat} {J : List UInt8} {a : Option Addr} {c : Nat} (h : PenAt w g base most J a c) (D : List UInt8) (h1 : 1 ≤ D.length) (h2 : D.length ≤ 1048576) (ad : Option Addr) (cd : Nat)
    (hD : rBytes.r (fun q => q < w.heap.size ∧ ¬ PenF g a q) w [.slice ad D.length cd] D) (hfit : J.length + (tokB ⟨D, 0, 0⟩).length ≤ most) (hlen : J.length + (tokB ⟨D, 0, 0⟩).length ≤ 100000000000000) :
    Calls Tryz.prog 376 #[.pointer (some ⟨g, 0, none⟩), .agg #[.slice ad D.length cd, .int .i64 0, .int .i64 0]] w fun r w' => r = .returned (.tuple #[]) ∧ PenStep w g base most (J ++ tokB ⟨D, 0, 0⟩) a w' := by
  have HR := hid (fun (W : World) => token_right ⟨D, 0, 0⟩ ad cd W (by dsimp only; omega) ⟨by simp, by simp⟩ ⟨by simp, by simp⟩)
  have hr : rightB ⟨D, 0, 0⟩ = true := by simp [rightB, runB]; omega
  rw [hr] at HR
  have hT := tokB_run D h1 h2
  rw [hT] at hfit hlen ⊢
  rw [List.length_append] at hfit hlen
  have HV := hid (fun (W : World) (hW : Below w.heap.size w W) => varint_put W (h.later hW) (2 * D.length - 2) (by omega) (by omega) (by omega))
  have hno := fun q (hq : PenF g a q) => (h.own_lt hq).2
  have HNO := hid hno
  have HD := hid hD
  have hfit' := hid hfit; have hlen' := hid hlen
  have e0 : (((2 * D.length - 2 : Nat)) : Int) = ((D.length : Int) - 1) * 2 := by omega
  rw [e0] at HV
  clear hr hT h hD hno hfit hlen
  go_enter Tryz.func376, Tryz.ntmps376
  go_wp2_with fail
  refine (HR.out _).mono ?_
  rintro r w1 ⟨rfl, hb1⟩
  have B1 : Blk w1 w.heap.size 304 #[.slice ad D.length cd, .int .i64 0, .int .i64 0] := (Blk.new w _ _).later hb1
  have x0 : w1.cell? ⟨w.heap.size, 0, none⟩ = some (.slice ad D.length cd) := B1.cell 0
  have x1 : w1.cell? ⟨w.heap.size, 1, none⟩ = some (.int .i64 0) := B1.cell 1
  have hbw1 : Below w.heap.size w w1 := by (repeat (first | exact Below.refl _ _ | assumption | (refine below_alloc ?_ _) | (refine Below.setCell ?_ (by first | omega | (simp; done) | (simp; omega)) _) | (refine Below.drew ?_) | (refine below_drewN ?_ _) | (refine below_then (by assumption) ?_)))
  go_wp2_with fail
  refine (HV.out _ hbw1).mono ?_
  rintro r w2 ⟨rfl, a2, c2, hp2, ht2, ha2⟩
  have B2 := B1.tch ht2 (fun hf => by have := HNO.out _ hf; omega)
  have y0 : w2.cell? ⟨w.heap.size, 0, none⟩ = some (.slice ad D.length cd) := B2.cell 0
  have hs1 := hbw1.size
  have hD2 : rBytes.r (· < w2.heap.size) w2 [.slice ad D.length cd] D := rBytes.mono (rBytes.keep HD.out fun q hq => (ht2.block q (by omega) hq.2).trans (hbw1.block q hq.1)) fun q hq => Nat.lt_of_lt_of_le hq.1 (by have := ht2.size; omega)
  have HQ := hid (pen_put w2 hp2 D ad _ cd hD2 (by rw [List.length_append]; have := hfit'.out; omega) (by rw [List.length_append]; have := hlen'.out; omega))
  clear x0 x1 hD2
  go_wp2_with fail
  refine HQ.out.mono ?_
  rintro r w3 ⟨rfl, hst⟩
  have hst2 := PenStep.later hbw1 (PenStep.trans (J := J) ht2 ha2 hst)
  rw [List.append_assoc] at hst2
  have HST := hid hst2
  clear hst hst2
  go_wp2
  first | go_end0 | refine bodyPost_ret (results_none rfl _ _ _) rfl ?_
  exact ⟨rfl, HST.out⟩

set_option maxRecDepth 100000 in
set_option maxHeartbeats 1600000 in
theorem token_put_copy (w : World) {g base most : Nat} {J : List UInt8} {a : Option Addr} {c : Nat} (h : PenAt w g base most J a c) (o m : Nat) (h1 : 1 ≤ o) (h2 : o ≤ 65536) (h3 : 4 ≤ m) (h4 : m ≤ 1048576) (ad : Option Addr) (cd : Nat)
    (hfit : J.length + (tokB ⟨[], (o : Int), (m : Int)⟩).length ≤ most) (hlen : J.length + (tokB ⟨[], (o : Int), (m : Int)⟩).length ≤ 100000000000000) :
    Calls Tryz.prog 376 #[.pointer (some ⟨g, 0, none⟩), .agg #[.slice ad 0 cd, .int .i64 o, .int .i64 m]] w fun r w' => r = .returned (.tuple #[]) ∧ PenStep w g base most (J ++ tokB ⟨[], (o : Int), (m : Int)⟩) a w' := by
  have HR := hid (fun (W : World) => token_right ⟨[], (o : Int), (m : Int)⟩ ad cd W (by simp) (by dsimp only; omega) (by dsimp only; omega))
  have hr : rightB ⟨[], (o : Int), (m : Int)⟩ = true := by simp [rightB, copyB]; omega
  rw [hr] at HR
  have hT := tokB_copy o m h1
  rw [hT] at hfit hlen ⊢
  rw [List.length_append] at hfit hlen
  have HV := hid (fun (W : World) (hW : Below w.heap.size w W) => varint_put W (h.later hW) (2 * m - 7) (by omega) (by omega) (by omega))
  have hno := fun q (hq : PenF g a q) => (h.own_lt hq).2
  have HNO := hid hno
  have hfit' := hid hfit; have hlen' := hid hlen
  have e0 : (((2 * m - 7 : Nat)) : Int) = ((m : Int) - 4) * 2 + 1 := by omega
  rw [e0] at HV
  have d1 : ((o : Int) == 0) = false := by simp; omega
  have d2 : (o == 0) = false := by simp; omega
  simp only [List.length_nil] at HR
  clear hr hT h hno hfit hlen
  go_enter Tryz.func376, Tryz.ntmps376
  go_wp2_with fail
  refine (HR.out _).mono ?_
  rintro r w1 ⟨rfl, hb1⟩
  have B1 : Blk w1 w.heap.size 304 #[.slice ad 0 cd, .int .i64 o, .int .i64 m] := (Blk.new w _ _).later hb1
  have x1 : w1.cell? ⟨w.heap.size, 1, none⟩ = some (.int .i64 o) := B1.cell 1
  have x2 : w1.cell? ⟨w.heap.size, 2, none⟩ = some (.int .i64 m) := B1.cell 2
  have hbw1 : Below w.heap.size w w1 := by (repeat (first | exact Below.refl _ _ | assumption | (refine below_alloc ?_ _) | (refine Below.setCell ?_ (by first | omega | (simp; done) | (simp; omega)) _) | (refine Below.drew ?_) | (refine below_drewN ?_ _) | (refine below_then (by assumption) ?_)))
  go_wp2_with fail
  refine (HV.out _ hbw1).mono ?_
  rintro r w2 ⟨rfl, a2, c2, hp2, ht2, ha2⟩
  have B2 := B1.tch ht2 (fun hf => by have := HNO.out _ hf; omega)
  have y1 : w2.cell? ⟨w.heap.size, 1, none⟩ = some (.int .i64 o) := B2.cell 1
  have HQ := hid (varint_put w2 hp2 (o - 1) (by omega) (by rw [List.length_append]; have := hfit'.out; omega) (by rw [List.length_append]; have := hlen'.out; omega))
  rw [show ((o - 1 : Nat) : Int) = (o : Int) - 1 by omega] at HQ
  clear x1 x2
  go_wp2_with fail
  refine HQ.out.mono ?_
  rintro r w3 ⟨rfl, hst⟩
  have hst2 := PenStep.later hbw1 (PenStep.trans (J := J) ht2 ha2 hst)
  rw [List.append_assoc] at hst2
  have HST := hid hst2
  clear hst hst2
  go_wp2
  first | go_end0 | refine bodyPost_ret (results_none rfl _ _ _) rfl ?_
  exact ⟨rfl, HST.out⟩

def roomT (xs : List Tok) : Nat := (xs.map fun t => t.lit.length + 20).sum
def tokensB (xs : List Tok) : List UInt8 := (xs.map tokB).flatten
theorem roomT_step (xs : List Tok) (k : Nat) (h : k < xs.length) : roomT (xs.take (k + 1)) = roomT (xs.take k) + (xs[k].lit.length + 20) := by
  unfold roomT
  rw [List.take_succ_eq_append_getElem h, List.map_append, List.sum_append]; simp
theorem tokensB_step (xs : List Tok) (k : Nat) (h : k < xs.length) : tokensB (xs.take (k + 1)) = tokensB (xs.take k) ++ tokB xs[k] := by
  unfold tokensB
  rw [List.take_succ_eq_append_getElem h, List.map_append, List.flatten_append]; simp
theorem roomT_le (xs : List Tok) (hL : ∀ t ∈ xs, t.lit.length ≤ 1048576) (k : Nat) (hk : k ≤ xs.length) : roomT (xs.take k) ≤ k * 1048596 := by
  induction k with
  | zero => simp [roomT]
  | succ k ih =>
    rw [roomT_step xs k (by omega)]
    have := ih (by omega)
    have := hL _ (List.getElem_mem (show k < xs.length by omega))
    omega
theorem roomT_mono (xs : List Tok) (k : Nat) : roomT (xs.take k) ≤ roomT xs := by
  have : roomT xs = roomT (xs.take k) + roomT (xs.drop k) := by
    unfold roomT
    conv => lhs; rw [← List.take_append_drop k xs]
    rw [List.map_append, List.sum_append]
  omega
theorem tokB_len (t : Tok) : (tokB t).length ≤ t.lit.length + 20 := by
  unfold tokB
  split
  · rw [List.length_append]; have := varB_len (2 * t.lit.length - 2); omega
  · rw [List.length_append]; have := varB_len (2 * t.len.toNat - 7); have := varB_len (t.off.toNat - 1); omega
theorem tokensB_len (xs : List Tok) : (tokensB xs).length ≤ roomT xs := by
  unfold tokensB roomT
  induction xs with
  | nil => simp
  | cons t xs ih => simp only [List.map_cons, List.flatten_cons, List.length_append, List.sum_cons]; have := tokB_len t; omega
theorem varB_most : (varB 18446744073709551615).length = 10 := by decide +kernel
theorem right_forms {t : Tok} (h : rightB t = true) : (∃ D, t = ⟨D, 0, 0⟩ ∧ 1 ≤ D.length ∧ D.length ≤ 1048576) ∨ ∃ o m : Nat, t = ⟨[], (o : Int), (m : Int)⟩ ∧ 1 ≤ o ∧ o ≤ 65536 ∧ 4 ≤ m ∧ m ≤ 1048576 := by
  obtain ⟨D, o, m⟩ := t
  simp only [rightB, runB, copyB, Bool.or_eq_true, Bool.and_eq_true, decide_eq_true_eq] at h
  rcases h with ⟨rfl, rfl, h1, h2⟩ | ⟨h0, h1, h2, h3, h4⟩
  · exact .inl ⟨D, rfl, h1, h2⟩
  · refine .inr ⟨o.toNat, m.toNat, ?_, by omega, by omega, by omega, by omega⟩
    rw [List.eq_nil_of_length_eq_zero h0, Int.toNat_of_nonneg (by omega), Int.toNat_of_nonneg (by omega)]

set_option maxRecDepth 100000 in
set_option maxHeartbeats 3200000 in
theorem token_room (xs : List Tok) (a : Option Addr) (n c : Nat) (w : World) (hl : rToks.r (· < w.heap.size) w [.slice a n c] xs) (hx : xs.length ≤ 10000000) (hL : ∀ t ∈ xs, t.lit.length ≤ 1048576) :
    Calls Tryz.prog 375 #[.slice a n c] w fun r w' => r = .returned (.int .i64 (roomT xs)) ∧ Below w.heap.size w w' := by
  obtain ⟨rfl, hm, _, _⟩ := sl_len hl
  have HL := hid hl; clear hl
  go_enter Tryz.func375, Tryz.ntmps375
  go_wp2_with fail
  go_loopw [3, 8] (fun s i wr => ∃ k : Nat, k ≤ xs.length ∧ i = .int .i64 k ∧ (∃ t : Nat, s = .int .i64 t ∧ Hid (t = roomT (xs.take k))) ∧ Below w.heap.size w wr) (fun _ i _ => xs.length - (intOf i).toNat)
  case atStart => exact ⟨0, Nat.zero_le _, rfl, ⟨0, rfl, hid (by simp [roomT])⟩, Below.refl _ _⟩
  case round =>
    obtain ⟨k, hk, rfl, ⟨t, rfl, ht⟩, hb⟩ := hrel
    rcases Nat.lt_or_ge k xs.length with hlt | hge
    · obtain ⟨b, o, hA, hbb, a2, c2, x0, x1, x2, _, _, _⟩ := tok_at HL.out hlt
      subst hA
      have X0 := (hb.cell (p := ⟨b, o + k * 3, none⟩) hbb).trans x0
      have X1 := (hb.cell (p := ⟨b, o + k * 3 + 1, none⟩) hbb).trans x1
      have X2 := (hb.cell (p := ⟨b, o + k * 3 + 2, none⟩) hbb).trans x2
      have hn := hid (roomT_step xs k hlt)
      have hle := roomT_le xs hL k (by omega)
      have hD := hL _ (List.getElem_mem hlt)
      rw [← ht.out] at hle
      clear x0 x1 x2
      generalize xs[k] = y at *
      obtain ⟨D, yo, ym⟩ := y
      dsimp only at *
      have hbs := hb.size
      have i1 : (k : Int) < (xs.length : Int) := by omega
      go_wp2_with fail
      refine wp_world (fun W => Below wr.heap.size wr W ∧ wr.heap.size < W.heap.size ∧ W.cell? ⟨wr.heap.size, 0, none⟩ = some (.slice a2 D.length c2)) ⟨by (repeat (first | exact Below.refl _ _ | assumption | (refine below_alloc ?_ _) | (refine Below.setCell ?_ (by first | omega | (simp; done) | (simp; omega)) _) | (refine Below.drew ?_) | (refine below_drewN ?_ _) | (refine below_then (by assumption) ?_))), by simp, by go_simp⟩ ?_
      intro W ⟨hbW, hzW, u0⟩
      have U0 := fun s : Later W => s.cell u0
      have HS := hid (fun s : Later W => varint_size 18446744073709551615 (by omega) s.at_)
      rw [varB_most] at HS
      have hbw := below_then hbW hb
      clear X0 X1 X2 u0
      refine wp_region_later (by kernel_rfl) (by kernel_rfl) ?_
      repeat (go_big_quiet_step (((go_at_call 245; exact later_of (HS.out _)))))
      refine wpQuiet_nil ?_
      rintro W5 ⟨⟨W5', hb5⟩, rfl⟩
      go_wp2
      go_roundw
      case rel => exact ⟨k + 1, by omega, by go_num, ⟨t + (D.length + 20), by go_num, hid (by rw [hn.out, ht.out])⟩, below_then hb5 hbw⟩
      case measure => simp [intOf]; omega
    · obtain rfl : k = xs.length := by omega
      rw [List.take_length] at ht
      go_wp2
      go_ret
      exact ⟨by rw [← ht.out]; rfl, hb⟩

theorem PenAt.below {w w' : World} {g base most : Nat} {J J' : List UInt8} {a : Option Addr} {c B : Nat} (h : PenAt w g base most J a c) (hB : B ≤ base) (hB2 : B ≤ w.heap.size) (k : PenStep w g base most J' a w') : Below B w w' := by
  obtain ⟨a', c', k1, k2, k3⟩ := k
  exact k2.to_below hB2 fun b _ hb => Nat.le_trans hB (h.own_lt hb).1

set_option maxRecDepth 100000 in
set_option maxHeartbeats 3200000 in
theorem token_bytes (xs : List Tok) (a : Option Addr) (n c : Nat) (w : World) (hl : rToks.r (· < w.heap.size) w [.slice a n c] xs) (hx : xs.length ≤ 10000000) (hR : ∀ t ∈ xs, rightB t = true) :
    Calls Tryz.prog 368 #[.slice a n c] w fun r w' => ∃ v, r = .returned (.tuple #[v, .int .i64 0]) ∧ rBytes.r (fun q => w.heap.size ≤ q ∧ q < w'.heap.size) w' [v] (tokensB xs) ∧ Below w.heap.size w w' := by
  obtain ⟨rfl, hm, _, _⟩ := sl_len hl
  have hL : ∀ t ∈ xs, t.lit.length ≤ 1048576 := fun t ht => by
    rcases right_forms (hR t ht) with ⟨D, rfl, h1, h2⟩ | ⟨o, m, rfl, _⟩
    · exact h2
    · simp
  have HRM := hid (token_room xs a _ c w hl hx hL)
  have hrl := roomT_le xs hL xs.length (Nat.le_refl _)
  rw [List.take_length] at hrl
  have HMO := hid (fun k => roomT_mono xs k)
  have HL := hid hl; have HR := hid hR
  clear hl hR hL
  generalize hM : roomT xs = M at *
  have hMM := hid hM; clear hM
  go_enter Tryz.func368, Tryz.ntmps368
  go_wp2_with fail
  refine HRM.out.mono ?_
  rintro r w1 ⟨rfl, hb1⟩
  have HN := hid (pen_new w1 M (by omega))
  go_wp2_with fail
  refine HN.out.mono ?_
  rintro r w2 ⟨rfl, hp2, hb2⟩
  have hs1 := hb1.size
  have hs2 := hb2.size
  have HP2 := hid hp2
  have hbw2 := below_then hb2 hb1
  clear hp2
  generalize hg : w1.heap.size = g at *
  go_wp2_with fail
  go_loopw [12] (fun i wr => ∃ k : Nat, k ≤ xs.length ∧ i = .int .i64 k ∧ Hid (∃ ap cp, PenAt wr g g M (tokensB (xs.take k)) ap cp) ∧ Below g w2 wr) (fun i _ => xs.length - (intOf i).toNat)
  case atStart => exact ⟨0, Nat.zero_le _, rfl, hid ⟨_, _, by simpa [tokensB] using HP2.out⟩, Below.refl _ _⟩
  case round =>
    obtain ⟨k, hk, rfl, hpen, hb⟩ := hrel
    obtain ⟨ap, cp, hP⟩ := hpen.out
    have hbw : Below w.heap.size w wr := ⟨hb.os.trans hbw2.os, hb.tape.trans hbw2.tape, hb.output.trans hbw2.output, by have := hb.size; omega, fun q hq => (hb.block q (by omega)).trans (hbw2.block q hq)⟩
    have hgl := hP.blk.lt
    rcases Nat.lt_or_ge k xs.length with hlt | hge
    · obtain ⟨b, o, hA, hbb, a2, c2, x0, x1, x2, _, _, xl⟩ := tok_at HL.out hlt
      subst hA
      have X0 := (hbw.cell (p := ⟨b, o + k * 3, none⟩) hbb).trans x0
      have X1 := (hbw.cell (p := ⟨b, o + k * 3 + 1, none⟩) hbb).trans x1
      have X2 := (hbw.cell (p := ⟨b, o + k * 3 + 2, none⟩) hbb).trans x2
      have hst := tokensB_step xs k hlt
      have hfit : (tokensB (xs.take k)).length + (tokB xs[k]).length ≤ M := by
        have h1 := tokensB_len (xs.take (k + 1))
        rw [hst, List.length_append] at h1
        have h2 := HMO.out (k + 1)
        omega
      have hr := HR.out _ (List.getElem_mem hlt)
      have HST := hid hst
      have HXL := hid xl
      have HFIT := hid hfit
      clear x0 x1 x2 xl hst hfit
      generalize xs[k] = y at *
      generalize tokensB (xs.take k) = J at *
      have hbs := hb.size
      have i1 : (k : Int) < (xs.length : Int) := by omega
      have HP := hid hP
      clear hP hpen
      rcases right_forms hr with ⟨D, rfl, k1, k2⟩ | ⟨yo, ym, rfl, k1, k2, k3, k4⟩
      · dsimp only at X0 X1 X2 HXL
        clear hr
        go_wp2_with fail
        have hbW : Below wr.heap.size wr (wr.alloc (.cells #[.slice a2 D.length c2, .int .i64 0, .int .i64 0] 304)) := by (repeat (first | exact Below.refl _ _ | assumption | (refine below_alloc ?_ _) | (refine Below.setCell ?_ (by first | omega | (simp; done) | (simp; omega)) _) | (refine Below.drew ?_) | (refine below_drewN ?_ _) | (refine below_then (by assumption) ?_)))
        generalize wr.alloc (.cells #[.slice a2 D.length c2, .int .i64 0, .int .i64 0] 304) = W at *
        have hzW := hbW.size
        have hPW := HP.out.later hbW
        have HQ := hid (token_put_run W hPW D k1 k2 a2 c2 (rBytes.mono (rBytes.keep HXL.out fun q hq => (below_then hbW hbw).block q hq) fun q hq => ⟨Nat.lt_of_lt_of_le hq (by have := hbw.size; omega), fun hf => by have := (hPW.own_lt hf).1; have hq' : q < w.heap.size := hq; omega⟩) HFIT.out (by have := HFIT.out; omega))
        have HPW := hid hPW
        clear X0 X1 X2 hPW
        refine HQ.out.mono ?_
        rintro r w5 ⟨rfl, hps⟩
        have hb5 : Below g w2 w5 := by
          have e1 : Below g W w5 := HPW.out.below (Nat.le_refl _) (by omega) hps
          exact (hb.trans (hbW.mono (by omega))).trans e1
        obtain ⟨a5, c5, hP5, _, _⟩ := hps
        have HP5 := hid (⟨a5, c5, by rw [HST.out]; exact hP5⟩ : ∃ ap cp, PenAt w5 g g M (tokensB (xs.take (k + 1))) ap cp)
        clear hP5
        go_wp2
        go_roundw
        case rel => exact ⟨k + 1, by omega, by go_num, HP5, hb5⟩
        case measure => simp [intOf]; omega
      · dsimp only [List.length_nil] at X0 X1 X2 HXL
        clear hr
        go_wp2_with fail
        have hbW : Below wr.heap.size wr (wr.alloc (.cells #[.slice a2 0 c2, .int .i64 yo, .int .i64 ym] 304)) := by (repeat (first | exact Below.refl _ _ | assumption | (refine below_alloc ?_ _) | (refine Below.setCell ?_ (by first | omega | (simp; done) | (simp; omega)) _) | (refine Below.drew ?_) | (refine below_drewN ?_ _) | (refine below_then (by assumption) ?_)))
        generalize wr.alloc (.cells #[.slice a2 0 c2, .int .i64 yo, .int .i64 ym] 304) = W at *
        have hzW := hbW.size
        have hPW := HP.out.later hbW
        have HQ := hid (token_put_copy W hPW yo ym k1 k2 k3 k4 a2 c2 HFIT.out (by have := HFIT.out; omega))
        have HPW := hid hPW
        clear X0 X1 X2 hPW
        refine HQ.out.mono ?_
        rintro r w5 ⟨rfl, hps⟩
        have hb5 : Below g w2 w5 := by
          have e1 : Below g W w5 := HPW.out.below (Nat.le_refl _) (by omega) hps
          exact (hb.trans (hbW.mono (by omega))).trans e1
        obtain ⟨a5, c5, hP5, _, _⟩ := hps
        have HP5 := hid (⟨a5, c5, by rw [HST.out]; exact hP5⟩ : ∃ ap cp, PenAt w5 g g M (tokensB (xs.take (k + 1))) ap cp)
        clear hP5
        go_wp2
        go_roundw
        case rel => exact ⟨k + 1, by omega, by go_num, HP5, hb5⟩
        case measure => simp [intOf]; omega
    · obtain rfl : k = xs.length := by omega
      rw [List.take_length] at hP
      have HB := hid (pen_bytes wr hP)
      clear hP hpen
      go_wp2_with fail
      refine HB.out.mono ?_
      rintro r w5 ⟨v, rfl, hv, hb5⟩
      have hbe := below_then hb5 hbw
      have HV := hid (rBytes.mono (S' := fun q => w.heap.size ≤ q ∧ q < w5.heap.size) hv fun q hq => ⟨by have := hq.1; have := hbw.size; omega, hq.2⟩)
      clear hv
      go_wp2
      go_ret2
      exact ⟨_, rfl, HV.out, hbe⟩
end Go.Proofs.YtfddhafbhceoaaaGreat
namespace Go.Bs
open Go.RowKit
end Go.Bs
namespace Go.Proofs.YtfddhafbhceoaaaGreat
open Go.RowKit Go.Bs Go.Maps
set_option linter.unusedVariables false
set_option linter.unusedSimpArgs false

/-- A token, or a run whose bytes are still being read. -/
def rTV : Rp (Tok ⊕ Value) :=
  ⟨fun S w cs x => match x with | .inl t => rTok.r S w cs t | .inr v => cs = [v, .int .i64 0, .int .i64 0],
   fun {S w w' cs x} h hk => by cases x with | inl b => exact rTok.keep h hk | inr y => exact h,
   fun {S S' w cs x} h hk => by cases x with | inl b => exact rTok.mono h hk | inr y => exact h⟩

structure TBld (lo : Nat) (w : World) (g c : Nat) (cells : List (List Value)) (ts : List Tok) (D : List UInt8) (vl : Value) : Prop where
  own : OwnElsF (fun x => lo ≤ x ∧ x < w.heap.size ∧ vl.ownBlock ≠ some x) rTV lo 304 3 w (.slice (some ⟨g, 0, none⟩) (ts.length + 1) c) (ts.map .inl ++ [.inr vl]) (cells ++ [[vl, .int .i64 0, .int .i64 0]])
  len : cells.length = ts.length
  last : w.ownsRow lo 5 1 vl D.length (byteCells D)
  ne : vl.ownBlock ≠ some g

theorem TBld.g_lt {lo : Nat} {w : World} {g c : Nat} {cells : List (List Value)} {ts : List Tok} {D : List UInt8} {vl : Value} (h : TBld lo w g c cells ts D vl) : lo ≤ g ∧ g < w.heap.size := h.own.1.lt g rfl

theorem TBld.later {lo : Nat} {w w' : World} {g c : Nat} {cells : List (List Value)} {ts : List Tok} {D : List UInt8} {vl : Value} (h : TBld lo w g c cells ts D vl) (hb : Below w.heap.size w w') : TBld lo w' g c cells ts D vl := by
  have hgl := h.g_lt
  obtain ⟨ho, h1, h4, h5⟩ := h
  refine ⟨(ho.keep (w' := w') (fun b h => hb.block b h.2.1) (fun g' hg' => hb.block g' (ho.1.lt g' hg').2)).mono fun b hb' => ⟨hb'.1, by have := hb.size; omega, hb'.2.2⟩, h1, own_below h4 hb, h5⟩


/-- What is still to come. -/
def Rest (b : List UInt8) (p i : Nat) (O : List Tok) : Prop := ∃ f, b.length ≤ p + f ∧ toksR b = O ++ toksF b f p i
theorem Rest.copy {b : List UInt8} {p i o m : Nat} {O : List Tok} (h : Rest b p i O) (hp : p < b.length) (hb : bestR b p = (o, m)) (hm : m ≠ 0) : Rest b (p + m) (p + m) (O ++ litT b i p ++ [⟨[], (o : Int), (m : Int)⟩]) := by
  obtain ⟨f, hf, h⟩ := h
  obtain ⟨f, rfl⟩ : ∃ f', f = f' + 1 := ⟨f - 1, by omega⟩
  refine ⟨f, by omega, ?_⟩
  rw [h]
  simp only [toksF, if_pos hp, hb, if_neg hm]
  simp
theorem Rest.none {b : List UInt8} {p i o : Nat} {O : List Tok} (h : Rest b p i O) (hp : p < b.length) (hb : bestR b p = (o, 0)) : Rest b (p + 1) i O := by
  obtain ⟨f, hf, h⟩ := h
  obtain ⟨f, rfl⟩ : ∃ f', f = f' + 1 := ⟨f - 1, by omega⟩
  refine ⟨f, by omega, ?_⟩
  rw [h]
  simp only [toksF, if_pos hp, hb, if_true]
theorem Rest.fin {b : List UInt8} {i : Nat} {O : List Tok} (h : Rest b b.length i O) : toksR b = O ++ litT b i b.length := by
  obtain ⟨f, hf, h⟩ := h
  rw [h]
  cases f with
  | zero => rfl
  | succ f => simp only [toksF, if_neg (Nat.lt_irrefl _)]


theorem good_right {b : List UInt8} (hb : b.length ≤ 1048576) : ∀ {f : Bool} {p : Nat} {ts : List Tok}, Good b f p ts → ∀ t ∈ ts, rightB t = true
  | _, _, _, .nil, t, ht => by simp at ht
  | _, _, _, .copy (p := p) (o := o) (m := m) hp hbe hm hg, t, ht => by
    rcases List.mem_cons.1 ht with rfl | ht
    · have h1 := bestR_facts b p
      have h2 := (bestR_room b p).1
      rw [hbe] at h1 h2
      simp only at h2
      rcases h1 with h1 | ⟨o', m', h1, g1, g2, g3, _⟩
      · simp only [Prod.mk.injEq] at h1; omega
      · simp only [Prod.mk.injEq] at h1
        unfold reach at g2
        simp [rightB, copyB]
        omega
    · exact good_right hb hg t ht
  | _, _, _, .run (p := p) (q := q) h1 h2 h3 hg, t, ht => by
    rcases List.mem_cons.1 ht with rfl | ht
    · simp [rightB, runB]
      omega
    · exact good_right hb hg t ht
theorem toks_right {b : List UInt8} (hb : b.length ≤ 1048576) : ∀ t ∈ toksR b, rightB t = true := good_right hb (good_toksR b)
theorem toks_len2 {b : List UInt8} (hb : b.length ≤ 1048576) : (toksR b).length ≤ 10000000 := by
  have := toks_len b b.length 0 0
  unfold toksR
  omega

set_option maxRecDepth 100000 in
theorem press_bytes (w : World) (b : List UInt8) (a : Option Addr) (n c : Nat) (hl : rBytes.r (· < w.heap.size) w [.slice a n c] b) (hlen : b.length ≤ 1048576) :
    Calls Tryz.prog 355 #[.slice a n c] w fun r w' => ∃ v, r = .returned (.tuple #[v, .int .i64 0]) ∧ rBytes.r (fun q => w.heap.size ≤ q ∧ q < w'.heap.size) w' [v] (tokensB (toksR b)) ∧ Below w.heap.size w w' := by
  obtain ⟨rfl, hm, _, _⟩ := sl_len hl
  have HT := hid (press_tokens w b a _ c hl hlen)
  have hri := toks_right hlen
  have hl2 := toks_len2 hlen
  clear hl
  generalize toksR b = T at *
  go_enter Tryz.func355, Tryz.ntmps355
  go_wp2_with fail
  refine HT.out.mono ?_
  rintro r w1 ⟨v, rfl, hr, hb1⟩
  obtain ⟨a1, c1, hv, hr2, _⟩ := sl_form hr
  simp only [List.cons.injEq, and_true] at hv
  subst hv
  have HB := hid (token_bytes T a1 _ c1 w1 (rToks.mono hr2 fun q hq => hq.2) hl2 hri)
  have hs1 := hb1.size
  clear hr hr2
  go_wp2_with fail
  refine HB.out.mono ?_
  rintro r w2 ⟨v2, rfl, hv2, hb2⟩
  have hbe := below_then hb2 hb1
  have HV := hid (rBytes.mono (S' := fun q => w.heap.size ≤ q ∧ q < w2.heap.size) hv2 fun q hq => ⟨by have := hq.1; omega, hq.2⟩)
  clear hv2
  go_wp2
  go_ret2
  exact ⟨_, rfl, HV.out, hbe⟩


def blobB (D : List UInt8) : List UInt8 := varB D.length ++ D
theorem blobB_len (D : List UInt8) : (blobB D).length = (varB D.length).length + D.length := by simp [blobB]

set_option maxRecDepth 100000 in
theorem blob_size (n : Nat) (hn : n ≤ 100000000000000) (w : World) :
    Calls Tryz.prog 175 #[.int .i64 n] w fun r w' => r = .returned (.int .i64 ((varB n).length + n : Nat)) ∧ Below w.heap.size w w' := by
  have HS := hid (fun (W : World) => varint_size n (by omega) W)
  have hl := varB_len n
  generalize (varB n).length = k at *
  go_enter Tryz.func175, Tryz.ntmps175
  go_wp2_with fail
  refine (HS.out _).mono ?_
  rintro r w1 ⟨rfl, hb1⟩
  go_wp2
  go_ret
  exact ⟨by first | rfl | simp, hb1⟩

set_option maxRecDepth 100000 in
theorem blob_put (w : World) {g base most : Nat} {J : List UInt8} {a : Option Addr} {c : Nat} (h : PenAt w g base most J a c) (D : List UInt8) (ad : Option Addr) (nd cd : Nat)
    (hD : rBytes.r (fun q => q < w.heap.size ∧ ¬ PenF g a q) w [.slice ad nd cd] D) (hfit : J.length + (blobB D).length ≤ most) (hlen : J.length + (blobB D).length ≤ 100000000000000) :
    Calls Tryz.prog 239 #[.pointer (some ⟨g, 0, none⟩), .slice ad nd cd] w fun r w' => r = .returned (.tuple #[]) ∧ PenStep w g base most (J ++ blobB D) a w' := by
  obtain ⟨rfl, hm, _, _⟩ := sl_len hD
  rw [blobB_len] at hfit hlen
  have HV := hid (varint_put w h D.length (by omega) (by omega) (by omega))
  have HD := hid hD
  have hfit' := hid hfit; have hlen' := hid hlen
  clear h hD hfit hlen
  go_enter Tryz.func239, Tryz.ntmps239
  go_wp2_with fail
  refine HV.out.mono ?_
  rintro r w2 ⟨rfl, a2, c2, hp2, ht2, ha2⟩
  have hs2 := ht2.size
  have HQ := hid (pen_put w2 hp2 D ad _ cd (rBytes.mono (rBytes.keep HD.out fun q hq => ht2.block q hq.1 hq.2) fun q hq => Nat.lt_of_lt_of_le hq.1 hs2) (by rw [List.length_append]; have := hfit'.out; omega) (by rw [List.length_append]; have := hlen'.out; omega))
  go_wp2_with fail
  refine HQ.out.mono ?_
  rintro r w3 ⟨rfl, hst⟩
  have hst2 := PenStep.trans (J := J) ht2 ha2 hst
  rw [List.append_assoc] at hst2
  have HST := hid hst2
  clear hst hst2
  go_wp2
  first | go_end0 | refine bodyPost_ret (results_none rfl _ _ _) rfl ?_
  exact ⟨rfl, HST.out⟩


/-- A text, pressed. -/
def pressB (p : List UInt8) : List UInt8 := tokensB (toksR p)
def packR (p : List UInt8) : Bool := decide ((blobB (pressB p)).length < p.length)
def blockB (p : List UInt8) : List UInt8 := varB p.length ++ (if packR p then 1 :: blobB (pressB p) else 0 :: p)
theorem pressB_small {b : List UInt8} (hb : b.length ≤ 1048576) : (pressB b).length ≤ 10000000000000 := by
  have hL : ∀ t ∈ toksR b, t.lit.length ≤ 1048576 := fun t ht => by
    rcases right_forms (toks_right hb t ht) with ⟨D, rfl, h1, h2⟩ | ⟨o, m, rfl, _⟩
    · exact h2
    · simp
  have h1 := tokensB_len (toksR b)
  have h2 := roomT_le (toksR b) hL (toksR b).length (Nat.le_refl _)
  rw [List.take_length] at h2
  have h3 := toks_len b b.length 0 0
  unfold pressB
  unfold toksR at *
  omega

set_option maxRecDepth 100000 in
theorem block_packed (w : World) (p : List UInt8) (a : Option Addr) (n c : Nat) (hl : rBytes.r (· < w.heap.size) w [.slice a n c] p) (hlen : p.length ≤ 1048576) :
    Calls Tryz.prog 332 #[.slice a n c] w fun r w' => ∃ v, r = .returned (.tuple #[v, .bool (packR p)]) ∧ (packR p = true → rBytes.r (fun q => w.heap.size ≤ q ∧ q < w'.heap.size) w' [v] (pressB p)) ∧ (packR p = false → v = .slice none 0 0) ∧ Below w.heap.size w w' := by
  obtain ⟨rfl, hm, _, _⟩ := sl_len hl
  have HT := hid (press_bytes w p a _ c hl hlen)
  have hsm := pressB_small hlen
  have hbl := blobB_len (pressB p)
  have hpk : Hid (packR p = decide ((blobB (pressB p)).length < p.length)) := hid rfl
  clear hl
  rw [show tokensB (toksR p) = pressB p from rfl] at HT
  generalize pressB p = E at *
  rw [hbl] at hpk
  generalize packR p = R at *
  have HS := hid (fun (W : World) => blob_size E.length (by omega) W)
  have hvl := varB_len E.length
  clear hbl
  generalize (varB E.length).length = k at *
  go_enter Tryz.func332, Tryz.ntmps332
  go_wp2_with fail
  refine HT.out.mono ?_
  rintro r w1 ⟨v, rfl, hr, hb1⟩
  obtain ⟨a1, c1, hv, hr2, _⟩ := sl_form hr
  simp only [List.cons.injEq, and_true] at hv
  subst hv
  have HR := hid hr2
  have hs1 := hb1.size
  clear hr hr2
  go_wp2_with fail
  refine (HS.out _).mono ?_
  rintro r w2 ⟨rfl, hb2⟩
  have hbe := below_then hb2 hb1
  have hs2 := hb2.size
  have HR2 := hid (rBytes.mono (S' := fun q => w.heap.size ≤ q ∧ q < w2.heap.size) (rBytes.keep HR.out fun q hq => hb2.block q hq.2) fun q hq => ⟨hq.1, by omega⟩)
  have hpk' := hpk.out
  clear hpk
  cases R
  · have hle : ¬ k + E.length < p.length := of_decide_eq_false hpk'.symm
    have d1 : decide ((p.length : Int) ≤ (k : Int) + (E.length : Int)) = true := decide_eq_true (by omega)
    have d1' : decide ((p.length : Int) ≤ ((k + E.length : Nat) : Int)) = true := decide_eq_true (by omega)
    have d1'' : decide (p.length ≤ k + E.length) = true := decide_eq_true (by omega)
    clear hpk' hle
    go_wp2
    go_ret2
    exact ⟨_, rfl, rfl, hbe⟩
  · have hle : k + E.length < p.length := of_decide_eq_true hpk'.symm
    have d1 : decide ((p.length : Int) ≤ (k : Int) + (E.length : Int)) = false := decide_eq_false (by omega)
    have d1' : decide ((p.length : Int) ≤ ((k + E.length : Nat) : Int)) = false := decide_eq_false (by omega)
    have d1'' : decide (p.length ≤ k + E.length) = false := decide_eq_false (by omega)
    clear hpk' hle
    go_wp2
    go_ret2
    exact ⟨_, rfl, HR2.out, hbe⟩


theorem penF_old {w : World} {g : Nat} {a a1 : Option Addr} (h : a1.map Addr.block = a.map Addr.block ∨ ∃ q, a1.map Addr.block = some q ∧ w.heap.size ≤ q) {q : Nat} (hq : q < w.heap.size) (hn : ¬ PenF g a q) : ¬ PenF g a1 q := by
  rw [penF_is] at hn ⊢
  intro e
  rcases e with e | e
  · exact hn (.inl e)
  · rcases h with h | ⟨q', h, h2⟩
    · exact hn (.inr (h ▸ e))
    · rw [h] at e; have := Option.some.inj e; omega
theorem lit_one (w : World) (y : UInt8) : rBytes.r (· < (w.alloc (.cells #[.int .u8 (y.toNat : Int)] 5)).heap.size) (w.alloc (.cells #[.int .u8 (y.toNat : Int)] 5)) [.slice (some ⟨w.heap.size, 0, none⟩) 1 1] [y] :=
  own_bytes (l := [y]) rfl (own_new1 (base := 0) (Nat.zero_le _) (World.alloc_heap_new w _))

set_option maxRecDepth 100000 in
set_option maxHeartbeats 1600000 in
theorem block_put (w : World) {g base most : Nat} {J : List UInt8} {a : Option Addr} {c : Nat} (h : PenAt w g base most J a c) (p : List UInt8) (ad : Option Addr) (nd cd : Nat)
    (hD : rBytes.r (fun q => q < w.heap.size ∧ ¬ PenF g a q) w [.slice ad nd cd] p) (hp : p.length ≤ 1048576) (hfit : J.length + (blockB p).length ≤ most) (hlen : J.length + (blockB p).length ≤ 100000000000000) :
    Calls Tryz.prog 276 #[.pointer (some ⟨g, 0, none⟩), .slice ad nd cd] w fun r w' => r = .returned (.tuple #[]) ∧ PenStep w g base most (J ++ blockB p) a w' := by
  obtain ⟨rfl, hm, _, _⟩ := sl_len hD
  have d1 : decide ((1048576 : Int) < (p.length : Int)) = false := decide_eq_false (by omega)
  have hbk : Hid (blockB p = varB p.length ++ (if packR p then 1 :: blobB (pressB p) else 0 :: p)) := hid rfl
  have hvl : (varB p.length).length ≤ (blockB p).length := by rw [hbk.out]; simp
  have HV := hid (varint_put w h p.length (by omega) (by omega) (by omega))
  have HPK := hid (fun (W : World) (hl : rBytes.r (· < W.heap.size) W [.slice ad p.length cd] p) => block_packed W p ad _ cd hl hp)
  have HD := hid hD
  have HFIT := hid hfit; have HLEN := hid hlen
  clear h hD hfit hlen hvl
  generalize packR p = R at *
  generalize pressB p = E at *
  generalize varB p.length = V at *
  generalize blockB p = K at *
  cases R
  · have HK : Hid (K = V ++ (0 :: p)) := hid hbk.out
    clear hbk
    go_enter Tryz.func276, Tryz.ntmps276
    go_wp2_with fail
    refine HV.out.mono ?_
    rintro r w1 ⟨rfl, a1, c1, hp1, ht1, ha1⟩
    have hs1 := ht1.size
    have hD1 : rBytes.r (fun q => q < w1.heap.size ∧ ¬ PenF g a1 q) w1 [.slice ad p.length cd] p := rBytes.mono (rBytes.keep HD.out fun q hq => ht1.block q hq.1 hq.2) fun q hq => ⟨by omega, penF_old ha1 hq.1 hq.2⟩
    have HD1 := hid hD1
    clear hD1
    go_wp2_with fail
    refine (HPK.out _ (rBytes.mono HD1.out fun q hq => hq.1)).mono ?_
    rintro r w2 ⟨v2, rfl, _, hv2, hb2⟩
    obtain rfl := hv2 trivial
    have hs2 := hb2.size
    have hp2 := hp1.later hb2
    go_wp2_with fail
    have hbW : Below w2.heap.size w2 (w2.alloc (.cells #[.int .u8 0] 5)) := by (repeat (first | exact Below.refl _ _ | assumption | (refine below_alloc ?_ _) | (refine Below.setCell ?_ (by first | omega | (simp; done) | (simp; omega)) _) | (refine Below.drew ?_) | (refine below_drewN ?_ _) | (refine below_then (by assumption) ?_)))
    have hlit : rBytes.r (· < (w2.alloc (.cells #[.int .u8 0] 5)).heap.size) (w2.alloc (.cells #[.int .u8 0] 5)) [.slice (some ⟨w2.heap.size, 0, none⟩) 1 1] [0] := lit_one w2 0
    generalize w2.alloc (.cells #[.int .u8 0] 5) = W at *
    have hsW := hbW.size
    refine (pen_put W (hp2.later hbW) [0] (some ⟨w2.heap.size, 0, none⟩) 1 1 hlit (by have := HFIT.out; rw [HK.out] at this; simp at this ⊢; omega) (by have := HLEN.out; rw [HK.out] at this; simp at this ⊢; omega)).mono ?_
    rintro r w3 ⟨rfl, a3, c3, hp3, ht3, ha3⟩
    have hs3 := ht3.size
    have hD3 : rBytes.r (· < w3.heap.size) w3 [.slice ad p.length cd] p := rBytes.mono (rBytes.keep HD1.out fun q hq => (ht3.block q (by omega) hq.2).trans ((hbW.block q (by omega)).trans (hb2.block q hq.1))) fun q hq => by omega
    have HQ := hid (pen_put w3 hp3 p ad _ cd hD3 (by have := HFIT.out; rw [HK.out] at this; simp at this ⊢; omega) (by have := HLEN.out; rw [HK.out] at this; simp at this ⊢; omega))
    clear hD3 hlit
    go_wp2_with fail
    refine HQ.out.mono ?_
    rintro r w4 ⟨rfl, hst⟩
    have hst2 := PenStep.trans (J := J) ht1 ha1 (PenStep.later hb2 (PenStep.later hbW (PenStep.trans (J := J) ht3 ha3 hst)))
    have HST : Hid (PenStep w g base most (J ++ K) a w4) := hid (by rw [HK.out]; simpa using hst2)
    clear hst hst2
    go_wp2
    first | go_end0 | refine bodyPost_ret (results_none rfl _ _ _) rfl ?_
    exact ⟨rfl, HST.out⟩
  · have HK : Hid (K = V ++ (1 :: blobB E)) := hid hbk.out
    clear hbk
    go_enter Tryz.func276, Tryz.ntmps276
    go_wp2_with fail
    refine HV.out.mono ?_
    rintro r w1 ⟨rfl, a1, c1, hp1, ht1, ha1⟩
    have hs1 := ht1.size
    have hD1 : rBytes.r (fun q => q < w1.heap.size ∧ ¬ PenF g a1 q) w1 [.slice ad p.length cd] p := rBytes.mono (rBytes.keep HD.out fun q hq => ht1.block q hq.1 hq.2) fun q hq => ⟨by omega, penF_old ha1 hq.1 hq.2⟩
    have HD1 := hid hD1
    clear hD1
    go_wp2_with fail
    refine (HPK.out _ (rBytes.mono HD1.out fun q hq => hq.1)).mono ?_
    rintro r w2 ⟨v2, rfl, hv2, _, hb2⟩
    obtain ⟨a2, c2, hve, hr2, _⟩ := sl_form (hv2 trivial)
    simp only [List.cons.injEq, and_true] at hve
    subst hve
    have HE := hid hr2
    clear hv2 hr2
    have hs2 := hb2.size
    have hp2 := hp1.later hb2
    go_wp2_with fail
    have hbW : Below w2.heap.size w2 (w2.alloc (.cells #[.int .u8 1] 5)) := by (repeat (first | exact Below.refl _ _ | assumption | (refine below_alloc ?_ _) | (refine Below.setCell ?_ (by first | omega | (simp; done) | (simp; omega)) _) | (refine Below.drew ?_) | (refine below_drewN ?_ _) | (refine below_then (by assumption) ?_)))
    have hlit : rBytes.r (· < (w2.alloc (.cells #[.int .u8 1] 5)).heap.size) (w2.alloc (.cells #[.int .u8 1] 5)) [.slice (some ⟨w2.heap.size, 0, none⟩) 1 1] [1] := lit_one w2 1
    generalize w2.alloc (.cells #[.int .u8 1] 5) = W at *
    have hsW := hbW.size
    refine (pen_put W (hp2.later hbW) [1] (some ⟨w2.heap.size, 0, none⟩) 1 1 hlit (by have := HFIT.out; rw [HK.out] at this; simp at this ⊢; omega) (by have := HLEN.out; rw [HK.out] at this; simp at this ⊢; omega)).mono ?_
    rintro r w3 ⟨rfl, a3, c3, hp3, ht3, ha3⟩
    have hs3 := ht3.size
    have hno : ∀ q, w1.heap.size ≤ q → ¬ PenF g a1 q := fun q hq hf => by have := (hp1.own_lt hf).2; omega
    have hE3 : rBytes.r (fun q => q < w3.heap.size ∧ ¬ PenF g a3 q) w3 [.slice a2 E.length c2] E := rBytes.mono (rBytes.keep HE.out fun q hq => (ht3.block q (by omega) (hno q hq.1)).trans (hbW.block q (by omega))) fun q hq => ⟨by omega, penF_old ha3 (by omega) (hno q hq.1)⟩
    have HQ := hid (blob_put w3 hp3 E a2 _ c2 hE3 (by have := HFIT.out; rw [HK.out] at this; simp at this ⊢; omega) (by have := HLEN.out; rw [HK.out] at this; simp at this ⊢; omega))
    clear hE3 hlit hno
    go_wp2_with fail
    refine HQ.out.mono ?_
    rintro r w4 ⟨rfl, hst⟩
    have hst2 := PenStep.trans (J := J) ht1 ha1 (PenStep.later hb2 (PenStep.later hbW (PenStep.trans (J := J) ht3 ha3 hst)))
    have HST : Hid (PenStep w g base most (J ++ K) a w4) := hid (by rw [HK.out]; simpa using hst2)
    clear hst hst2
    go_wp2
    first | go_end0 | refine bodyPost_ret (results_none rfl _ _ _) rfl ?_
    exact ⟨rfl, HST.out⟩

theorem blockB_len (p : List UInt8) : (blockB p).length ≤ (varB p.length).length + p.length + 1 := by
  unfold blockB
  by_cases h : packR p = true
  · have h2 := h
    unfold packR at h2
    have h3 := of_decide_eq_true h2
    rw [if_pos h]
    simp; omega
  · rw [if_neg h]
    simp; omega

set_option maxRecDepth 100000 in
set_option maxHeartbeats 1600000 in
theorem block_bytes (w : World) (p : List UInt8) (a : Option Addr) (n c : Nat) (hl : rBytes.r (· < w.heap.size) w [.slice a n c] p) (hp : p.length ≤ 1048576) :
    Calls Tryz.prog 213 #[.slice a n c] w fun r w' => ∃ v, r = .returned (.tuple #[v, .int .i64 0]) ∧ rBytes.r (fun q => w.heap.size ≤ q ∧ q < w'.heap.size) w' [v] (blockB p) ∧ Below w.heap.size w w' := by
  obtain ⟨rfl, hm, _, _⟩ := sl_len hl
  have HS := hid (blob_size p.length (by omega) w)
  have hbl := blockB_len p
  have hvl := varB_len p.length
  have HL := hid hl
  clear hl
  generalize (varB p.length).length = k at *
  have hbK := hid hbl
  clear hbl
  go_enter Tryz.func213, Tryz.ntmps213
  go_wp2_with fail
  refine HS.out.mono ?_
  rintro r w1 ⟨rfl, hb1⟩
  have HN := hid (pen_new w1 (k + p.length + 1) (by omega))
  rw [show ((k + p.length + 1 : Nat) : Int) = (k : Int) + (p.length : Int) + 1 by omega] at HN
  have hs1 := hb1.size
  go_wp2_with fail
  refine HN.out.mono ?_
  rintro r w2 ⟨rfl, hp2, hb2⟩
  have hs2 := hb2.size
  have hbw2 := below_then hb2 hb1
  have HQ := hid (block_put w2 hp2 p a _ c (rBytes.mono (rBytes.keep HL.out fun q hq => hbw2.block q hq) fun q hq => ⟨by omega, fun hf => by have := (hp2.own_lt hf).1; omega⟩) hp (by have := hbK.out; simp; omega) (by have := hbK.out; simp; omega))
  have HP2 := hid hp2
  clear hp2
  go_wp2_with fail
  refine HQ.out.mono ?_
  rintro r w3 ⟨rfl, hst⟩
  have hb3 : Below w1.heap.size w2 w3 := HP2.out.below (Nat.le_refl _) (by omega) hst
  obtain ⟨a3, c3, hp3, _, _⟩ := hst
  rw [List.nil_append] at hp3
  have hs3 := hb3.size
  have hbw3 : Below w.heap.size w w3 := hbw2.trans (hb3.mono (by omega))
  have HB := hid (pen_bytes w3 hp3)
  clear hp3
  go_wp2_with fail
  refine HB.out.mono ?_
  rintro r w4 ⟨v, rfl, hv, hb4⟩
  have hbe := below_then hb4 hbw3
  have HV := hid (rBytes.mono (S' := fun q => w.heap.size ≤ q ∧ q < w4.heap.size) hv fun q hq => ⟨by have := hq.1; omega, hq.2⟩)
  clear hv
  go_wp2
  go_ret2
  exact ⟨_, rfl, HV.out, hbe⟩

/-- The fault's place lies within. -/
def Rs.inn (s : Rs) (L : Nat) : Prop := 0 ≤ s.f ∧ s.f ≤ L
theorem Rs.fail_in {s : Rs} {L : Nat} (h : s.inn L) {c at_ : Int} (h1 : 0 ≤ at_) (h2 : at_ ≤ L) : (s.fail c at_).inn L := by
  unfold Rs.fail; split
  · exact ⟨h1, h2⟩
  · exact h
theorem Rs.skip_in {s : Rs} {L : Nat} (h : s.ok L) (hi : s.inn L) (n : Int) : (s.skip L n).2.inn L := by
  have := h.le
  unfold Rs.skip Rs.inn at *
  split
  · split
    · dsimp only; omega
    · split
      · dsimp only; omega
      · dsimp only; omega
  · exact hi
theorem Rs.num_in {B : List UInt8} {s : Rs} (h : s.ok B.length) (hi : s.inn B.length) : (s.num B).1.inn B.length := by
  have hu := vget_used (B.drop s.p) 0 0
  have hl : (B.drop s.p).length = B.length - s.p := by simp
  have := h.le
  unfold Rs.num Rs.inn at *
  split
  · dsimp only
    split
    · omega
    · split
      · omega
      · rename_i h1 h2
        have := hu.2.2.2.2 h2
        omega
  · exact hi
theorem Rs.head_in {B : List UInt8} {s : Rs} (h : s.ok B.length) (hi : s.inn B.length) : (s.head B).1.inn B.length := by
  have hle := h.le
  have hn := Rs.num_in h hi
  unfold Rs.head; split
  · split
    · split
      · exact Rs.fail_in hn (by omega) (by omega)
      · exact hn
    · split
      · exact Rs.fail_in hn (by omega) (by omega)
      · exact hn
  · exact hn
theorem Rs.offset_in {B : List UInt8} {s : Rs} (h : s.ok B.length) (hi : s.inn B.length) : (s.offset B).1.inn B.length := by
  have hle := h.le
  have hn := Rs.num_in h hi
  unfold Rs.offset; dsimp only; split
  · exact Rs.fail_in hn (by omega) (by omega)
  · exact hn
theorem exStep_in {B : List UInt8} {bound : Int} {s : Rs} {out : List UInt8} (h : s.ok B.length) (hi : s.inn B.length) : (exStep B bound s out).1.inn B.length := by
  have hle := h.le
  have hh := Rs.head_in h hi
  have ho := Rs.head_ok h
  have hle2 := ho.le
  unfold exStep; split
  · exact Rs.fail_in hh (by omega) (by omega)
  · split
    · exact Rs.skip_in ho hh _
    · split
      · exact Rs.fail_in (Rs.offset_in ho hh) (by omega) (by omega)
      · split
        · exact Rs.offset_in ho hh
        · exact Rs.offset_in ho hh
theorem exF_in {B : List UInt8} {bound : Int} : ∀ (f : Nat) (s : Rs) (out : List UInt8), s.ok B.length → s.inn B.length → (exF B bound f s out).1.inn B.length
  | 0, s, out, _, h => h
  | f + 1, s, out, h1, h2 => by
    simp only [exF]; split
    · exact exF_in f _ _ (exStep_ok h1) (exStep_in h1 h2)
    · exact h2
theorem exF_fits {B : List UInt8} {bound : Int} : ∀ (f : Nat) (s : Rs) (out : List UInt8), exIn bound out → exIn bound (exF B bound f s out).2
  | 0, s, out, h => h
  | f + 1, s, out, h => by
    simp only [exF]; split
    · exact exF_fits f _ _ (exIn_step h)
    · exact h
theorem exB_facts (B : List UInt8) (bound : Int) : (exB B bound).1.length ≤ bound.toNat ∧ 0 ≤ (exB B bound).2.2 ∧ (exB B bound).2.2 ≤ B.length ∧ ((exB B bound).2.1 ≠ 0 → (exB B bound).1 = []) := by
  have h1 := exF_in (B := B) (bound := bound) B.length ⟨0, 0, 0⟩ [] ⟨Nat.zero_le _, fun _ => rfl⟩ ⟨by simp, by simp⟩
  have h2 := exF_fits (B := B) (bound := bound) B.length ⟨0, 0, 0⟩ [] (.inl rfl)
  unfold exB
  split
  · refine ⟨?_, by simp, by simp, by simp⟩
    rcases h2 with h | h
    · rw [h]; simp
    · dsimp only; omega
  · exact ⟨by simp, h1.1, h1.2, by simp⟩
theorem Rs.int_p {B : List UInt8} {s : Rs} {m : Int} : s.p ≤ (s.int B m).1.p := by
  unfold Rs.int Rs.most
  split
  · split
    · rw [Rs.fail_p]; exact Rs.num_p
    · exact Rs.num_p
  · rw [Rs.fail_p]; exact Rs.num_p
theorem Rs.byte_p {B : List UInt8} {s : Rs} (h : s.ok B.length) : s.p ≤ (s.byte B).1.p := Rs.skip_p h 1
theorem Rs.take_p {B : List UInt8} {s : Rs} (h : s.ok B.length) (n : Int) : s.p ≤ (s.take B n).1.p := Rs.skip_p h n
theorem Rs.blob_p {B : List UInt8} {s : Rs} (h : s.ok B.length) (m : Int) : s.p ≤ (s.blob B m).1.p := Nat.le_trans (Rs.int_p (m := m)) (Rs.take_p (Rs.int_ok h) _)
theorem Rs.blob_ok {B : List UInt8} {s : Rs} (h : s.ok B.length) (m : Int) : (s.blob B m).1.ok B.length := Rs.take_ok (Rs.int_ok h) _

def Rs.unp (B : List UInt8) (s : Rs) (n : Nat) : Rs × List UInt8 :=
  if (s.blob B 1048576).1.k = 0 then
    (if (exB (s.blob B 1048576).2 n).2.1 = 0 then
      (if (exB (s.blob B 1048576).2 n).1.length < n then ((s.blob B 1048576).1.fail 3 (s.blob B 1048576).1.p, (exB (s.blob B 1048576).2 n).1) else ((s.blob B 1048576).1, (exB (s.blob B 1048576).2 n).1))
    else ((s.blob B 1048576).1.fail (exB (s.blob B 1048576).2 n).2.1 ((exB (s.blob B 1048576).2 n).2.2 + (((s.blob B 1048576).1.p : Int) - ((s.blob B 1048576).2.length : Int))), []))
  else ((s.blob B 1048576).1, [])
theorem Rs.unp_p {B : List UInt8} {s : Rs} (h : s.ok B.length) (n : Nat) : s.p ≤ (s.unp B n).1.p := by
  have := Rs.blob_p h 1048576
  unfold Rs.unp
  split
  · split
    · split
      · rw [Rs.fail_p]; exact this
      · exact this
    · rw [Rs.fail_p]; exact this
  · exact this
theorem Rs.unp_len {B : List UInt8} {s : Rs} (n : Nat) : (s.unp B n).2.length ≤ n := by
  have := (exB_facts (s.blob B 1048576).2 n).1
  unfold Rs.unp
  split
  · split
    · split
      · dsimp only; omega
      · dsimp only; omega
    · simp
  · simp
/-- A payload's block, read loosely. -/
def Rs.loose (B : List UInt8) (s : Rs) (most : Int) : Rs × List UInt8 × Bool :=
  if ((s.int B (min most 1048576)).1.byte B).1.k = 0 then
    (if ((s.int B (min most 1048576)).1.byte B).2.toNat = 0 then
      (if (((s.int B (min most 1048576)).1.byte B).1.take B ((s.int B (min most 1048576)).2 : Int)).1.k = 0 then ((((s.int B (min most 1048576)).1.byte B).1.take B ((s.int B (min most 1048576)).2 : Int)).1, (((s.int B (min most 1048576)).1.byte B).1.take B ((s.int B (min most 1048576)).2 : Int)).2, decide (blockB (((s.int B (min most 1048576)).1.byte B).1.take B ((s.int B (min most 1048576)).2 : Int)).2 = (B.drop s.p).take ((((s.int B (min most 1048576)).1.byte B).1.take B ((s.int B (min most 1048576)).2 : Int)).1.p - s.p)))
      else ((((s.int B (min most 1048576)).1.byte B).1.take B ((s.int B (min most 1048576)).2 : Int)).1, [], false))
    else if ((s.int B (min most 1048576)).1.byte B).2.toNat = 1 then
      (if (((s.int B (min most 1048576)).1.byte B).1.unp B (s.int B (min most 1048576)).2).1.k = 0 then ((((s.int B (min most 1048576)).1.byte B).1.unp B (s.int B (min most 1048576)).2).1, (((s.int B (min most 1048576)).1.byte B).1.unp B (s.int B (min most 1048576)).2).2, decide (blockB (((s.int B (min most 1048576)).1.byte B).1.unp B (s.int B (min most 1048576)).2).2 = (B.drop s.p).take ((((s.int B (min most 1048576)).1.byte B).1.unp B (s.int B (min most 1048576)).2).1.p - s.p)))
      else ((((s.int B (min most 1048576)).1.byte B).1.unp B (s.int B (min most 1048576)).2).1, [], false))
    else (((s.int B (min most 1048576)).1.byte B).1.fail 7 ((((s.int B (min most 1048576)).1.byte B).1.p : Int) - 1), [], false))
  else (((s.int B (min most 1048576)).1.byte B).1, [], false)

theorem bytes_equal (x y : List UInt8) (a a' : Option Addr) (n c n' c' : Nat) (w : World) (hx : rBytes.r (· < w.heap.size) w [.slice a n c] x) (hy : rBytes.r (· < w.heap.size) w [.slice a' n' c'] y) :
    Calls Tryz.prog 201 #[.slice a n c, .slice a' n' c'] w fun r w' => r = .returned (.bool (decide (x = y))) ∧ w = w' := by
  obtain ⟨rfl, _, _, _⟩ := sl_len hx
  obtain ⟨rfl, _, _, _⟩ := sl_len hy
  have h1 := bytes_str (P := Tryz.prog) 22 9 5 Tryz.underlying22 Tryz.underlying5 Tryz.underlying9 hx
  have h2 := bytes_str (P := Tryz.prog) 22 9 5 Tryz.underlying22 Tryz.underlying5 Tryz.underlying9 hy
  have he : (x == y) = decide (x = y) := by
    by_cases h : x = y
    · simp [h]
    · simp [h]
  have HE := hid he; clear he hx hy
  go_enter Tryz.func201, Tryz.ntmps201
  go_wp2
  go_ret
  refine ⟨?_, rfl⟩
  rw [← HE.out]
  simp [go_sem]
theorem fault_shift (w : World) (k f b : Int) (hk : k ≠ 0) (hf : -1000000000000 ≤ f ∧ f ≤ 1000000000000) (hb : -1000000000000 ≤ b ∧ b ≤ 1000000000000) : Calls Tryz.prog 117 #[.agg #[.int .i64 k, .int .i64 f], .int .i64 b] w fun r w' => r = .returned (.agg #[.int .i64 k, .int .i64 (f + b)]) ∧ Below w.heap.size w w' := by
  go_enter Tryz.func117, Tryz.ntmps117
  go_wp2_with fail
  refine (fault_at _ k (f + b) hk).mono ?_
  rintro r w1 ⟨rfl, hb1⟩
  have B1 : Blk w1 (w.heap.size + 1) 65 #[.int .i64 0, .int .i64 0] := Blk.later (by (repeat (first | assumption | exact Blk.newAt _ _ _ (by first | (simp; done) | (simp; omega)) | refine Blk.alloc ?_ _ | refine Blk.drew ?_ | refine Blk.drewN ?_ _ | refine Blk.far ?_ (by first | (simp; done) | (simp; omega)) _))) hb1
  obtain ⟨y0, y1, g0, g1, l1⟩ := f_blk B1
  have hbw : Below w.heap.size w w1 := by (repeat (first | with_reducible exact Below.refl _ _ | with_reducible assumption | (with_reducible refine below_alloc ?_ _) | (with_reducible refine Below.setCell ?_ (by first | omega | (simp; done) | (simp; omega)) _) | (with_reducible refine Below.drew ?_) | (with_reducible refine below_drewN ?_ _) | (refine below_then (by with_reducible assumption) ?_)))
  clear B1 hb1
  go_wp2
  refine bodyPost_ret (v := .agg #[.int .i64 k, .int .i64 (f + b)]) (by simp [results, Tryz.results117, go_sem, y0, y1, l1]) rfl ⟨rfl, by (repeat (first | with_reducible exact Below.refl _ _ | with_reducible assumption | (with_reducible refine below_alloc ?_ _) | (with_reducible refine Below.setCell ?_ (by first | omega | (simp; done) | (simp; omega)) _) | (with_reducible refine Below.drew ?_) | (with_reducible refine below_drewN ?_ _) | (refine below_then (by with_reducible assumption) ?_)))⟩

set_option maxRecDepth 100000 in
set_option maxHeartbeats 3200000 in
theorem block_unpacked (w : World) {g : Nat} {B : List UInt8} {a : Option Addr} {s : Rs} (h : RdAt w g B a s) (hB : B.length ≤ 1000000000) (n : Nat) (hn : n ≤ 1048576) : Calls Tryz.prog 212 #[.pointer (some ⟨g, 0, none⟩), .int .i64 (n : Int)] w fun r w' => ∃ v, r = .returned v ∧ rBytes.r (fun q => w.heap.size ≤ q ∧ q < w'.heap.size) w' [v] (s.unp B n).2 ∧ RdStep w g B a (s.unp B n).1 w' := by
  have HB := hid (blob_read w h (by omega) 1048576 (by omega))
  have hbok := Rs.blob_ok h.ok 1048576
  have hlen : (s.blob B 1048576).2.length ≤ B.length := by
    unfold Rs.blob Rs.take
    dsimp only
    split
    · simp; omega
    · simp
  have hxf := exB_facts (s.blob B 1048576).2 n
  have hX := hid (fun (W : World) (aD : Option Addr) (nD cD : Nat) (hl : rBytes.r (· < W.heap.size) W [.slice aD nD cD] (s.blob B 1048576).2) => expand_bytes W (s.blob B 1048576).2 aD nD cD hl (by omega) n (by omega))
  have hpl := hbok.le
  unfold Rs.unp
  generalize s.blob B 1048576 = T at *
  generalize exB T.2 n = X at *
  obtain ⟨s1, D⟩ := T
  obtain ⟨out, k, f⟩ := X
  dsimp only at *
  have hgl := h.blk.lt
  have HDAT := hid h.dat
  clear h
  by_cases h1 : s1.k = 0
  · have dk : decide (s1.k = 0) = true := decide_eq_true h1
    rw [if_pos h1]
    have H1 := hid h1
    clear h1
    by_cases h2 : k = 0
    · have d2 : decide (k = 0) = true := decide_eq_true h2
      rw [if_pos h2]
      clear h2
      by_cases h3 : out.length < n
      · have d3 : decide ((out.length : Int) < (n : Int)) = true := decide_eq_true (by omega)
        have d3' : decide (out.length < n) = true := decide_eq_true h3
        rw [if_pos h3]
        clear h3
        dsimp only
        go_enter Tryz.func212, Tryz.ntmps212
        go_wp2_with fail
        refine HB.out.mono ?_
        rintro r w1 ⟨v, rfl, hr, hst⟩

        obtain ⟨aD, cD, hv, hr2, _⟩ := sl_form hr
        simp only [List.cons.injEq, and_true] at hv
        subst hv

        have HD1 := hid hr2
        have HST := hid hst
        have hs1 := hst.size
        have hG := rd_good w1 hst.1
        rw [dk] at hG
        have HG := hid hG
        clear hr hr2 hst hG dk
        go_wp2_with fail
        refine HG.out.mono ?_
        rintro r w2 ⟨rfl, hb2⟩
        have hs2 := hb2.size

        have HAT := hid (rd_at w2 (HST.out.1.later hb2))
        go_wp2_with fail
        refine HAT.out.mono ?_
        rintro r w2' ⟨rfl, rfl⟩
        go_wp2_with fail
        refine (hX.out w2 aD _ cD (rBytes.mono (rBytes.keep HD1.out fun q hq => hb2.block q hq.2) fun q hq => by omega)).mono ?_
        rintro r w3 ⟨v3, rfl, hr, hb3⟩
        obtain ⟨a3, c3, hv, hr2, _⟩ := sl_form hr
        simp only [List.cons.injEq, and_true] at hv
        subst hv
        have HR3 := hid hr2
        have hs3 := hb3.size
        clear hr hr2
        have hG := fault_good (w3.alloc (.cells #[.int .i64 k, .int .i64 f] 65)) k f
        rw [d2] at hG
        have HG3 := hid hG
        clear hG d2
        go_wp2_with fail
        refine HG3.out.mono ?_
        rintro r w4 ⟨rfl, hb4⟩
        have hb34 : Below w3.heap.size w3 w4 := by (repeat (first | with_reducible exact Below.refl _ _ | with_reducible assumption | (with_reducible refine below_alloc ?_ _) | (with_reducible refine Below.setCell ?_ (by first | omega | (simp; done) | (simp; omega)) _) | (with_reducible refine Below.drew ?_) | (with_reducible refine below_drewN ?_ _) | (refine below_then (by with_reducible assumption) ?_)))
        have hb14 : Below w1.heap.size w1 w4 := below_then hb34 (below_then hb3 hb2)
        have HST4 := hid (HST.out.then hb14)
        have hs4 := hb34.size
        have HKP := hid (rBytes.mono (S' := fun q => w2.heap.size ≤ q ∧ q < w4.heap.size) (rBytes.keep HR3.out fun q hq => hb34.block q hq.2) fun q hq => ⟨hq.1, by omega⟩)

        have HAT2 := hid (rd_at _ HST4.out.1)
        go_wp2_with fail
        refine HAT2.out.mono ?_
        rintro r w4' ⟨rfl, rfl⟩
        have HF := hid (rd_fail _ HST4.out.1 3 s1.p (by omega))
        go_wp2_with fail
        refine HF.out.mono ?_
        rintro r w5 ⟨rfl, hst5⟩
        have hs5 := hst5.size
        have HR5 := hid (rBytes.mono (S' := fun q => w.heap.size ≤ q ∧ q < w5.heap.size) (rBytes.keep HKP.out fun q hq => hst5.2.block q hq.2 (by omega)) fun q hq => ⟨by omega, by omega⟩)
        have HST5 := hid (RdStep.trans HST4.out.2 hst5)
        clear hst5
        go_wp2
        go_ret
        exact ⟨_, rfl, HR5.out, HST5.out⟩
      · have d3 : decide ((out.length : Int) < (n : Int)) = false := decide_eq_false (by omega)
        have d3' : decide (out.length < n) = false := decide_eq_false h3
        rw [if_neg h3]
        clear h3
        dsimp only
        go_enter Tryz.func212, Tryz.ntmps212
        go_wp2_with fail
        refine HB.out.mono ?_
        rintro r w1 ⟨v, rfl, hr, hst⟩

        obtain ⟨aD, cD, hv, hr2, _⟩ := sl_form hr
        simp only [List.cons.injEq, and_true] at hv
        subst hv

        have HD1 := hid hr2
        have HST := hid hst
        have hs1 := hst.size
        have hG := rd_good w1 hst.1
        rw [dk] at hG
        have HG := hid hG
        clear hr hr2 hst hG dk
        go_wp2_with fail
        refine HG.out.mono ?_
        rintro r w2 ⟨rfl, hb2⟩
        have hs2 := hb2.size

        have HAT := hid (rd_at w2 (HST.out.1.later hb2))
        go_wp2_with fail
        refine HAT.out.mono ?_
        rintro r w2' ⟨rfl, rfl⟩
        go_wp2_with fail
        refine (hX.out w2 aD _ cD (rBytes.mono (rBytes.keep HD1.out fun q hq => hb2.block q hq.2) fun q hq => by omega)).mono ?_
        rintro r w3 ⟨v3, rfl, hr, hb3⟩
        obtain ⟨a3, c3, hv, hr2, _⟩ := sl_form hr
        simp only [List.cons.injEq, and_true] at hv
        subst hv
        have HR3 := hid hr2
        have hs3 := hb3.size
        clear hr hr2
        have hG := fault_good (w3.alloc (.cells #[.int .i64 k, .int .i64 f] 65)) k f
        rw [d2] at hG
        have HG3 := hid hG
        clear hG d2
        go_wp2_with fail
        refine HG3.out.mono ?_
        rintro r w4 ⟨rfl, hb4⟩
        have hb34 : Below w3.heap.size w3 w4 := by (repeat (first | with_reducible exact Below.refl _ _ | with_reducible assumption | (with_reducible refine below_alloc ?_ _) | (with_reducible refine Below.setCell ?_ (by first | omega | (simp; done) | (simp; omega)) _) | (with_reducible refine Below.drew ?_) | (with_reducible refine below_drewN ?_ _) | (refine below_then (by with_reducible assumption) ?_)))
        have hb14 : Below w1.heap.size w1 w4 := below_then hb34 (below_then hb3 hb2)
        have HST4 := hid (HST.out.then hb14)
        have hs4 := hb34.size
        have HKP := hid (rBytes.mono (S' := fun q => w2.heap.size ≤ q ∧ q < w4.heap.size) (rBytes.keep HR3.out fun q hq => hb34.block q hq.2) fun q hq => ⟨hq.1, by omega⟩)

        have HR5 := hid (rBytes.mono (S' := fun q => w.heap.size ≤ q ∧ q < w4.heap.size) HKP.out fun q hq => ⟨by omega, by omega⟩)
        go_wp2
        go_ret
        exact ⟨_, rfl, HR5.out, HST4.out⟩
    · have d2 : decide (k = 0) = false := decide_eq_false h2
      rw [if_neg h2]
      have ho := hxf.2.2.2 h2
      subst ho
      have HK2 := hid h2
      clear h2
      dsimp only
      go_enter Tryz.func212, Tryz.ntmps212
      go_wp2_with fail
      refine HB.out.mono ?_
      rintro r w1 ⟨v, rfl, hr, hst⟩

      obtain ⟨aD, cD, hv, hr2, _⟩ := sl_form hr
      simp only [List.cons.injEq, and_true] at hv
      subst hv

      have HD1 := hid hr2
      have HST := hid hst
      have hs1 := hst.size
      have hG := rd_good w1 hst.1
      rw [dk] at hG
      have HG := hid hG
      clear hr hr2 hst hG dk
      go_wp2_with fail
      refine HG.out.mono ?_
      rintro r w2 ⟨rfl, hb2⟩
      have hs2 := hb2.size

      have HAT := hid (rd_at w2 (HST.out.1.later hb2))
      go_wp2_with fail
      refine HAT.out.mono ?_
      rintro r w2' ⟨rfl, rfl⟩
      go_wp2_with fail
      refine (hX.out w2 aD _ cD (rBytes.mono (rBytes.keep HD1.out fun q hq => hb2.block q hq.2) fun q hq => by omega)).mono ?_
      rintro r w3 ⟨v3, rfl, hr, hb3⟩
      obtain ⟨a3, c3, hv, hr2, _⟩ := sl_form hr
      simp only [List.cons.injEq, and_true] at hv
      subst hv
      have HR3 := hid hr2
      have hs3 := hb3.size
      clear hr hr2
      have hG := fault_good (w3.alloc (.cells #[.int .i64 k, .int .i64 f] 65)) k f
      rw [d2] at hG
      have HG3 := hid hG
      clear hG d2
      go_wp2_with fail
      refine HG3.out.mono ?_
      rintro r w4 ⟨rfl, hb4⟩
      have hb34 : Below w3.heap.size w3 w4 := by (repeat (first | with_reducible exact Below.refl _ _ | with_reducible assumption | (with_reducible refine below_alloc ?_ _) | (with_reducible refine Below.setCell ?_ (by first | omega | (simp; done) | (simp; omega)) _) | (with_reducible refine Below.drew ?_) | (with_reducible refine below_drewN ?_ _) | (refine below_then (by with_reducible assumption) ?_)))
      have hb14 : Below w1.heap.size w1 w4 := below_then hb34 (below_then hb3 hb2)
      have HST4 := hid (HST.out.then hb14)
      have hs4 := hb34.size
      have HKP := hid (rBytes.mono (S' := fun q => w2.heap.size ≤ q ∧ q < w4.heap.size) (rBytes.keep HR3.out fun q hq => hb34.block q hq.2) fun q hq => ⟨hq.1, by omega⟩)

      have B4 : Blk w4 w3.heap.size 65 #[.int .i64 k, .int .i64 f] := Blk.later (Blk.newAt _ _ _ rfl) hb4
      obtain ⟨y0, y1, g0, g1, l1⟩ := f_blk B4
      have HSH := hid (fault_shift w4 k f ((s1.p : Int) - (D.length : Int)) HK2.out (by omega) (by omega))
      go_wp2_with fail
      refine HSH.out.mono ?_
      rintro r w5 ⟨rfl, hb5⟩
      have B5 := B4.later hb5
      clear y0 y1 g0 g1 l1 B4
      obtain ⟨y0, y1, g0, g1, l1⟩ := f_blk B5
      clear B5
      have hk5 : RdStep w g B a s1 ((w5.setCell ⟨w3.heap.size, 0, none⟩ (.int .i64 k)).setCell ⟨w3.heap.size, 1, none⟩ (.int .i64 (f + ((s1.p : Int) - (D.length : Int))))) := by
        have h5 := HST4.out.then hb5
        refine ⟨⟨Blk.far (Blk.far h5.1.blk (by dsimp only; omega) _) (by dsimp only; omega) _, ?_, h5.1.ok⟩, Tch.setCell (Tch.setCell h5.2 (fun e => by dsimp only at e; omega) _) (fun e => by dsimp only at e; omega) _⟩
        refine rBytes.mono (rBytes.keep (S := fun q => q < w.heap.size ∧ q ≠ g) (rBytes.keep HDAT.out fun q hq => h5.2.block q hq.1 hq.2) fun q hq => ?_) fun q hq => ⟨by have := h5.size; simp [World.setCell]; omega, hq.2⟩
        have := hq.1
        rw [Below.heap_setCell _ _ _ _ (by dsimp only; omega), Below.heap_setCell _ _ _ _ (by dsimp only; omega)]
      have HK5 := hid hk5
      clear hk5
      have hsz5 : w.heap.size ≤ ((w5.setCell ⟨w3.heap.size, 0, none⟩ (.int .i64 k)).setCell ⟨w3.heap.size, 1, none⟩ (.int .i64 (f + ((s1.p : Int) - (D.length : Int))))).heap.size := HK5.out.size
      have HF := hid (rd_fail _ HK5.out.1 k (f + ((s1.p : Int) - (D.length : Int))) HK2.out)
      go_wp2_with fail
      refine HF.out.mono ?_
      rintro r w6 ⟨rfl, hst6⟩
      have HST6 := hid (RdStep.trans HK5.out.2 hst6)
      clear hst6 hsz5
      go_wp2
      go_ret
      exact ⟨_, rfl, empty_bytes rfl rfl (sl_len HR3.out).2.2.2, HST6.out⟩
  · have dk : decide (s1.k = 0) = false := decide_eq_false h1
    rw [if_neg h1]
    clear h1
    dsimp only
    go_enter Tryz.func212, Tryz.ntmps212
    go_wp2_with fail
    refine HB.out.mono ?_
    rintro r w1 ⟨v, rfl, hr, hst⟩

    obtain ⟨aD, cD, hv, hr2, _⟩ := sl_form hr
    simp only [List.cons.injEq, and_true] at hv
    subst hv

    have HD1 := hid hr2
    have HST := hid hst
    have hs1 := hst.size
    have hG := rd_good w1 hst.1
    rw [dk] at hG
    have HG := hid hG
    clear hr hr2 hst hG dk
    go_wp2_with fail
    refine HG.out.mono ?_
    rintro r w2 ⟨rfl, hb2⟩
    have hs2 := hb2.size

    have HST2 := hid (HST.out.then hb2)
    go_wp2
    go_ret
    exact ⟨_, rfl, empty_bytes rfl rfl (by omega), HST2.out⟩

set_option maxRecDepth 100000 in
set_option maxHeartbeats 3200000 in
theorem block_loose (w : World) {g : Nat} {B : List UInt8} {a : Option Addr} {s : Rs} (h : RdAt w g B a s) (hB : B.length ≤ 1000000000) (most : Int) (hm : -9223372036854775808 ≤ most ∧ most ≤ 9223372036854775807) :
    Calls Tryz.prog 140 #[.pointer (some ⟨g, 0, none⟩), .int .i64 most] w fun r w' => ∃ v, r = .returned (.tuple #[v, .bool (s.loose B most).2.2]) ∧ rBytes.r (fun q => w.heap.size ≤ q ∧ q < w'.heap.size) w' [v] (s.loose B most).2.1 ∧ RdStep w g B a (s.loose B most).1 w' := by
  have hgl := h.blk.lt
  have HA := hid (rd_at w h)
  have HI := hid (varint_int w h (by omega) (min most 1048576) (by omega))
  have hiok := Rs.int_ok h.ok (m := min most 1048576)
  have hip := Rs.int_p (B := B) (s := s) (m := min most 1048576)
  have hile : (s.int B (min most 1048576)).2 ≤ 1048576 := by have := Rs.int_le (B := B) (s := s) (m := min most 1048576); omega
  have hbok := Rs.byte_ok hiok
  have hbp := Rs.byte_p hiok
  have hBY := hid (fun (W : World) (h : RdAt W g B a (s.int B (min most 1048576)).1) => rd_byte W h)
  have hTK := hid (fun (W : World) (h : RdAt W g B a ((s.int B (min most 1048576)).1.byte B).1) => rd_take W h ((s.int B (min most 1048576)).2 : Int) (by omega) (by omega))
  have htp := Rs.take_p hbok ((s.int B (min most 1048576)).2 : Int)
  have htl : (((s.int B (min most 1048576)).1.byte B).1.take B ((s.int B (min most 1048576)).2 : Int)).2.length ≤ 1048576 := by
    by_cases h0 : (((s.int B (min most 1048576)).1.byte B).1.take B ((s.int B (min most 1048576)).2 : Int)).1.k = 0
    · rw [(Rs.take_more h0).2.2]; omega
    · rw [Rs.take_bad h0]; simp
  have hUN := hid (fun (W : World) (h : RdAt W g B a ((s.int B (min most 1048576)).1.byte B).1) => block_unpacked W h hB (s.int B (min most 1048576)).2 hile)
  have hup := Rs.unp_p hbok (s.int B (min most 1048576)).2
  have hul : (((s.int B (min most 1048576)).1.byte B).1.unp B (s.int B (min most 1048576)).2).2.length ≤ 1048576 := Nat.le_trans (Rs.unp_len _) hile
  have hFL := hid (fun (W : World) (h : RdAt W g B a ((s.int B (min most 1048576)).1.byte B).1) => rd_fail W h 7 ((((s.int B (min most 1048576)).1.byte B).1.p : Int) - 1) (by omega))
  have hfk := Rs.fail_k (s := ((s.int B (min most 1048576)).1.byte B).1) (c := 7) (at_ := ((((s.int B (min most 1048576)).1.byte B).1.p : Int) - 1)) (by omega)
  have hSN := hid (fun (W : World) (t : Rs) (h : RdAt W g B a t) (hp : s.p ≤ t.p) => rd_since W h s.p hp (by omega))
  have hbyp : ((s.int B (min most 1048576)).1.byte B).1.p ≤ B.length := hbok.le
  have hb1 : ((s.int B (min most 1048576)).1.byte B).1.k = 0 → 1 ≤ ((s.int B (min most 1048576)).1.byte B).1.p := fun hk => by rw [byte_p rfl hk]; omega
  unfold Rs.loose
  generalize ((s.int B (min most 1048576)).1.byte B).1.fail 7 ((((s.int B (min most 1048576)).1.byte B).1.p : Int) - 1) = F1 at *
  generalize ((s.int B (min most 1048576)).1.byte B).1.take B ((s.int B (min most 1048576)).2 : Int) = T at *
  generalize ((s.int B (min most 1048576)).1.byte B).1.unp B (s.int B (min most 1048576)).2 = U at *
  generalize (s.int B (min most 1048576)).1.byte B = Y at *
  generalize s.int B (min most 1048576) = N at *
  obtain ⟨sd, n⟩ := N
  obtain ⟨se, y⟩ := Y
  obtain ⟨st, DT⟩ := T
  obtain ⟨su, DU⟩ := U
  dsimp only at *
  have hSNt := hid (fun (W : World) (h : RdAt W g B a st) => hSN.out W st h (by omega))
  have hSNu := hid (fun (W : World) (h : RdAt W g B a su) => hSN.out W su h (by omega))
  generalize (B.drop s.p).take (st.p - s.p) = S1 at *
  generalize (B.drop s.p).take (su.p - s.p) = S2 at *
  clear hSN
  have hM : (if most ≤ 1048576 then most else 1048576) = min most 1048576 := by split <;> omega
  have hM2 : (if (1048576 : Int) < most then (1048576 : Int) else most) = min most 1048576 := by split <;> omega
  generalize min most 1048576 = M at *
  have hy := y.toNat_lt
  clear h
  by_cases hk : se.k = 0
  · have dk : decide (se.k = 0) = true := decide_eq_true hk
    have hp1 := hb1 hk
    rw [if_pos hk]
    clear hk hb1
    by_cases h0 : y.toNat = 0
    · have d0 : ((y.toNat : Int) == 0) = true := by rw [h0]; rfl
      rw [if_pos h0]
      clear h0
      by_cases ht : st.k = 0
      · have dt : decide (st.k = 0) = true := decide_eq_true ht
        rw [if_pos ht]
        clear ht
        dsimp only
        go_enter Tryz.func140, Tryz.ntmps140
        go_wp2_with fail
        refine HA.out.mono ?_
        rintro r w0 ⟨rfl, rfl⟩
        go_wp2_with fail
        refine HI.out.mono ?_
        rintro r w1 ⟨rfl, hst1⟩
        have HST1 := hid hst1
        have HBY := hid (hBY.out w1 hst1.1)
        clear hst1
        go_wp2_with fail
        refine HBY.out.mono ?_
        rintro r w2 ⟨rfl, hst2⟩
        have HST2 := hid (RdStep.trans HST1.out.2 hst2)
        have hG := rd_good w2 hst2.1
        rw [dk] at hG
        have HG := hid hG
        clear hst2 hG dk
        go_wp2_with fail
        refine HG.out.mono ?_
        rintro r w3 ⟨rfl, hb3⟩
        have HST3 := hid (HST2.out.then hb3)
        have hs3 := HST3.out.size

        have HC := hid (hTK.out w3 HST3.out.1)
        go_wp2_with fail
        refine HC.out.mono ?_
        rintro r w4 ⟨v, rfl, hr, hst4⟩
        obtain ⟨aD, cD, hv, hr2, _⟩ := sl_form hr
        simp only [List.cons.injEq, and_true] at hv
        subst hv
        have HR4 := hid hr2
        have hs4 := hst4.size
        have HST4 := hid (RdStep.trans HST3.out.2 hst4)
        have hG4 := rd_good w4 hst4.1
        rw [dt] at hG4
        have HG4 := hid hG4
        clear hr hr2 hst4 hG4 dt
        go_wp2_with fail
        refine HG4.out.mono ?_
        rintro r w5 ⟨rfl, hb5⟩
        have HST5 := hid (HST4.out.then hb5)
        have hs5 := hb5.size

        have HR5 := hid (rBytes.mono (S' := fun q => w3.heap.size ≤ q ∧ q < w5.heap.size) (rBytes.keep HR4.out fun q hq => hb5.block q hq.2) fun q hq => ⟨hq.1, by omega⟩)
        have HBB := hid (block_bytes w5 DT aD _ cD (rBytes.mono HR5.out fun q hq => hq.2) htl)
        go_wp2_with fail
        refine HBB.out.mono ?_
        rintro r w6 ⟨v6, rfl, hr, hb6⟩
        obtain ⟨a6, c6, hv, hr2, _⟩ := sl_form hr
        simp only [List.cons.injEq, and_true] at hv
        subst hv
        have HR6 := hid hr2
        have hs6 := hb6.size
        have HST6 := hid (HST5.out.then hb6)
        have HSN := hid (hSNt.out w6 HST6.out.1)
        clear hr hr2
        go_wp2_with fail
        refine HSN.out.mono ?_
        rintro r w7 ⟨v7, rfl, hr, hb7⟩
        obtain ⟨a7, c7, hv, hr2, _⟩ := sl_form hr
        simp only [List.cons.injEq, and_true] at hv
        subst hv
        have HR7 := hid hr2
        have hs7 := hb7.size
        have HST7 := hid (HST6.out.then hb7)
        have HEQ := hid (bytes_equal (blockB DT) S1 a6 a7 _ c6 _ c7 w7 (rBytes.mono (rBytes.keep HR6.out fun q hq => hb7.block q hq.2) fun q hq => by omega) (rBytes.mono HR7.out fun q hq => hq.2))
        generalize hq : decide (blockB DT = S1) = q at *
        have HQ := hid hq
        clear hq
        clear hr hr2
        go_wp2_with fail
        refine HEQ.out.mono ?_
        rintro r w8 ⟨rfl, rfl⟩
        have HRF := hid (rBytes.mono (S' := fun q => w.heap.size ≤ q ∧ q < w7.heap.size) (rBytes.keep HR5.out fun q hq => (hb7.block q (by omega)).trans (hb6.block q hq.2)) fun q hq => ⟨by omega, by omega⟩)
        go_wp2
        go_ret2
        rw [HQ.out]
        exact ⟨_, rfl, HRF.out, HST7.out⟩
      · have dt : decide (st.k = 0) = false := decide_eq_false ht
        rw [if_neg ht]
        clear ht
        dsimp only
        go_enter Tryz.func140, Tryz.ntmps140
        go_wp2_with fail
        refine HA.out.mono ?_
        rintro r w0 ⟨rfl, rfl⟩
        go_wp2_with fail
        refine HI.out.mono ?_
        rintro r w1 ⟨rfl, hst1⟩
        have HST1 := hid hst1
        have HBY := hid (hBY.out w1 hst1.1)
        clear hst1
        go_wp2_with fail
        refine HBY.out.mono ?_
        rintro r w2 ⟨rfl, hst2⟩
        have HST2 := hid (RdStep.trans HST1.out.2 hst2)
        have hG := rd_good w2 hst2.1
        rw [dk] at hG
        have HG := hid hG
        clear hst2 hG dk
        go_wp2_with fail
        refine HG.out.mono ?_
        rintro r w3 ⟨rfl, hb3⟩
        have HST3 := hid (HST2.out.then hb3)
        have hs3 := HST3.out.size

        have HC := hid (hTK.out w3 HST3.out.1)
        go_wp2_with fail
        refine HC.out.mono ?_
        rintro r w4 ⟨v, rfl, hr, hst4⟩
        obtain ⟨aD, cD, hv, hr2, _⟩ := sl_form hr
        simp only [List.cons.injEq, and_true] at hv
        subst hv
        have HR4 := hid hr2
        have hs4 := hst4.size
        have HST4 := hid (RdStep.trans HST3.out.2 hst4)
        have hG4 := rd_good w4 hst4.1
        rw [dt] at hG4
        have HG4 := hid hG4
        clear hr hr2 hst4 hG4 dt
        go_wp2_with fail
        refine HG4.out.mono ?_
        rintro r w5 ⟨rfl, hb5⟩
        have HST5 := hid (HST4.out.then hb5)
        have hs5 := hb5.size

        go_wp2
        go_ret2
        exact ⟨_, rfl, empty_bytes rfl rfl (by omega), HST5.out⟩
    · have d0 : ((y.toNat : Int) == 0) = false := by rw [beq_eq_false_iff_ne]; omega
      rw [if_neg h0]
      by_cases h1 : y.toNat = 1
      · have d1 : ((y.toNat : Int) == 1) = true := by rw [h1]; rfl
        rw [if_pos h1]
        clear h0 h1
        by_cases ht : su.k = 0
        · have dt : decide (su.k = 0) = true := decide_eq_true ht
          rw [if_pos ht]
          clear ht
          dsimp only
          go_enter Tryz.func140, Tryz.ntmps140
          go_wp2_with fail
          refine HA.out.mono ?_
          rintro r w0 ⟨rfl, rfl⟩
          go_wp2_with fail
          refine HI.out.mono ?_
          rintro r w1 ⟨rfl, hst1⟩
          have HST1 := hid hst1
          have HBY := hid (hBY.out w1 hst1.1)
          clear hst1
          go_wp2_with fail
          refine HBY.out.mono ?_
          rintro r w2 ⟨rfl, hst2⟩
          have HST2 := hid (RdStep.trans HST1.out.2 hst2)
          have hG := rd_good w2 hst2.1
          rw [dk] at hG
          have HG := hid hG
          clear hst2 hG dk
          go_wp2_with fail
          refine HG.out.mono ?_
          rintro r w3 ⟨rfl, hb3⟩
          have HST3 := hid (HST2.out.then hb3)
          have hs3 := HST3.out.size

          have HC := hid (hUN.out w3 HST3.out.1)
          go_wp2_with fail
          refine HC.out.mono ?_
          rintro r w4 ⟨v, rfl, hr, hst4⟩
          obtain ⟨aD, cD, hv, hr2, _⟩ := sl_form hr
          simp only [List.cons.injEq, and_true] at hv
          subst hv
          have HR4 := hid hr2
          have hs4 := hst4.size
          have HST4 := hid (RdStep.trans HST3.out.2 hst4)
          have hG4 := rd_good w4 hst4.1
          rw [dt] at hG4
          have HG4 := hid hG4
          clear hr hr2 hst4 hG4 dt
          go_wp2_with fail
          refine HG4.out.mono ?_
          rintro r w5 ⟨rfl, hb5⟩
          have HST5 := hid (HST4.out.then hb5)
          have hs5 := hb5.size

          have HR5 := hid (rBytes.mono (S' := fun q => w3.heap.size ≤ q ∧ q < w5.heap.size) (rBytes.keep HR4.out fun q hq => hb5.block q hq.2) fun q hq => ⟨hq.1, by omega⟩)
          have HBB := hid (block_bytes w5 DU aD _ cD (rBytes.mono HR5.out fun q hq => hq.2) hul)
          go_wp2_with fail
          refine HBB.out.mono ?_
          rintro r w6 ⟨v6, rfl, hr, hb6⟩
          obtain ⟨a6, c6, hv, hr2, _⟩ := sl_form hr
          simp only [List.cons.injEq, and_true] at hv
          subst hv
          have HR6 := hid hr2
          have hs6 := hb6.size
          have HST6 := hid (HST5.out.then hb6)
          have HSN := hid (hSNu.out w6 HST6.out.1)
          clear hr hr2
          go_wp2_with fail
          refine HSN.out.mono ?_
          rintro r w7 ⟨v7, rfl, hr, hb7⟩
          obtain ⟨a7, c7, hv, hr2, _⟩ := sl_form hr
          simp only [List.cons.injEq, and_true] at hv
          subst hv
          have HR7 := hid hr2
          have hs7 := hb7.size
          have HST7 := hid (HST6.out.then hb7)
          have HEQ := hid (bytes_equal (blockB DU) S2 a6 a7 _ c6 _ c7 w7 (rBytes.mono (rBytes.keep HR6.out fun q hq => hb7.block q hq.2) fun q hq => by omega) (rBytes.mono HR7.out fun q hq => hq.2))
          generalize hq : decide (blockB DU = S2) = q at *
          have HQ := hid hq
          clear hq
          clear hr hr2
          go_wp2_with fail
          refine HEQ.out.mono ?_
          rintro r w8 ⟨rfl, rfl⟩
          have HRF := hid (rBytes.mono (S' := fun q => w.heap.size ≤ q ∧ q < w7.heap.size) (rBytes.keep HR5.out fun q hq => (hb7.block q (by omega)).trans (hb6.block q hq.2)) fun q hq => ⟨by omega, by omega⟩)
          go_wp2
          go_ret2
          rw [HQ.out]
          exact ⟨_, rfl, HRF.out, HST7.out⟩
        · have dt : decide (su.k = 0) = false := decide_eq_false ht
          rw [if_neg ht]
          clear ht
          dsimp only
          go_enter Tryz.func140, Tryz.ntmps140
          go_wp2_with fail
          refine HA.out.mono ?_
          rintro r w0 ⟨rfl, rfl⟩
          go_wp2_with fail
          refine HI.out.mono ?_
          rintro r w1 ⟨rfl, hst1⟩
          have HST1 := hid hst1
          have HBY := hid (hBY.out w1 hst1.1)
          clear hst1
          go_wp2_with fail
          refine HBY.out.mono ?_
          rintro r w2 ⟨rfl, hst2⟩
          have HST2 := hid (RdStep.trans HST1.out.2 hst2)
          have hG := rd_good w2 hst2.1
          rw [dk] at hG
          have HG := hid hG
          clear hst2 hG dk
          go_wp2_with fail
          refine HG.out.mono ?_
          rintro r w3 ⟨rfl, hb3⟩
          have HST3 := hid (HST2.out.then hb3)
          have hs3 := HST3.out.size

          have HC := hid (hUN.out w3 HST3.out.1)
          go_wp2_with fail
          refine HC.out.mono ?_
          rintro r w4 ⟨v, rfl, hr, hst4⟩
          obtain ⟨aD, cD, hv, hr2, _⟩ := sl_form hr
          simp only [List.cons.injEq, and_true] at hv
          subst hv
          have HR4 := hid hr2
          have hs4 := hst4.size
          have HST4 := hid (RdStep.trans HST3.out.2 hst4)
          have hG4 := rd_good w4 hst4.1
          rw [dt] at hG4
          have HG4 := hid hG4
          clear hr hr2 hst4 hG4 dt
          go_wp2_with fail
          refine HG4.out.mono ?_
          rintro r w5 ⟨rfl, hb5⟩
          have HST5 := hid (HST4.out.then hb5)
          have hs5 := hb5.size

          go_wp2
          go_ret2
          exact ⟨_, rfl, empty_bytes rfl rfl (by omega), HST5.out⟩
      · have d1 : ((y.toNat : Int) == 1) = false := by rw [beq_eq_false_iff_ne]; omega
        rw [if_neg h1]
        clear h0 h1
        have dt : decide (F1.k = 0) = false := decide_eq_false hfk
        dsimp only
        go_enter Tryz.func140, Tryz.ntmps140
        go_wp2_with fail
        refine HA.out.mono ?_
        rintro r w0 ⟨rfl, rfl⟩
        go_wp2_with fail
        refine HI.out.mono ?_
        rintro r w1 ⟨rfl, hst1⟩
        have HST1 := hid hst1
        have HBY := hid (hBY.out w1 hst1.1)
        clear hst1
        go_wp2_with fail
        refine HBY.out.mono ?_
        rintro r w2 ⟨rfl, hst2⟩
        have HST2 := hid (RdStep.trans HST1.out.2 hst2)
        have hG := rd_good w2 hst2.1
        rw [dk] at hG
        have HG := hid hG
        clear hst2 hG dk
        go_wp2_with fail
        refine HG.out.mono ?_
        rintro r w3 ⟨rfl, hb3⟩
        have HST3 := hid (HST2.out.then hb3)
        have hs3 := HST3.out.size

        have HAT3 := hid (rd_at w3 HST3.out.1)
        go_wp2_with fail
        refine HAT3.out.mono ?_
        rintro r w3' ⟨rfl, rfl⟩
        have HC := hid (hFL.out w3 HST3.out.1)
        go_wp2_with fail
        refine HC.out.mono ?_
        rintro r w4 ⟨rfl, hst4⟩
        have HST4 := hid (RdStep.trans HST3.out.2 hst4)
        have hG4 := rd_good w4 hst4.1
        rw [dt] at hG4
        have HG4 := hid hG4
        clear hst4 hG4 dt
        go_wp2_with fail
        refine HG4.out.mono ?_
        rintro r w5 ⟨rfl, hb5⟩
        have HST5 := hid (HST4.out.then hb5)

        go_wp2
        go_ret2
        exact ⟨_, rfl, empty_bytes rfl rfl (by omega), HST5.out⟩
  · have dk : decide (se.k = 0) = false := decide_eq_false hk
    rw [if_neg hk]
    clear hk hb1
    dsimp only
    go_enter Tryz.func140, Tryz.ntmps140
    go_wp2_with fail
    refine HA.out.mono ?_
    rintro r w0 ⟨rfl, rfl⟩
    go_wp2_with fail
    refine HI.out.mono ?_
    rintro r w1 ⟨rfl, hst1⟩
    have HST1 := hid hst1
    have HBY := hid (hBY.out w1 hst1.1)
    clear hst1
    go_wp2_with fail
    refine HBY.out.mono ?_
    rintro r w2 ⟨rfl, hst2⟩
    have HST2 := hid (RdStep.trans HST1.out.2 hst2)
    have hG := rd_good w2 hst2.1
    rw [dk] at hG
    have HG := hid hG
    clear hst2 hG dk
    go_wp2_with fail
    refine HG.out.mono ?_
    rintro r w3 ⟨rfl, hb3⟩
    have HST3 := hid (HST2.out.then hb3)
    have hs3 := HST3.out.size

    go_wp2
    go_ret2
    exact ⟨_, rfl, empty_bytes rfl rfl (by omega), HST3.out⟩

def Rs.strict (s : Rs × List UInt8 × Bool) : Rs × List UInt8 := if s.1.k = 0 then (if s.2.2 = true then (s.1, s.2.1) else (s.1.fail 12 s.1.p, [])) else (s.1, [])
theorem block_strict (w : World) {g : Nat} {B : List UInt8} {a : Option Addr} {s : Rs} (h : RdAt w g B a s) (q : Bool) (p : Nat) :
    Calls Tryz.prog 207 #[.bool q, .func (Fn.func 124) #[.pointer (some ⟨g, 0, none⟩)] #[], .int .i64 (p : Int)] w fun r w' => r = .returned (.tuple #[]) ∧ RdStep w g B a (if q = true then s else s.fail 12 p) w' := by
  have HF := hid (rd_fail w h 12 p (by omega))
  have HH := hid h
  clear h
  cases q
  · rw [if_neg (by simp)]
    go_enter Tryz.func207, Tryz.ntmps207
    go_wp2_with fail
    refine HF.out.mono ?_
    rintro r w1 ⟨rfl, hst⟩
    have HST := hid hst
    clear hst
    go_wp2
    go_end0
    exact ⟨rfl, HST.out⟩
  · rw [if_pos rfl]
    go_enter Tryz.func207, Tryz.ntmps207
    go_wp2
    go_end0
    exact ⟨rfl, RdStep.refl HH.out⟩
set_option maxRecDepth 100000 in
set_option maxHeartbeats 3200000 in
theorem block_read (w : World) {g : Nat} {B : List UInt8} {a : Option Addr} {s : Rs} (h : RdAt w g B a s) (hB : B.length ≤ 1000000000) (most : Int) (hm : -9223372036854775808 ≤ most ∧ most ≤ 9223372036854775807) :
    Calls Tryz.prog 129 #[.pointer (some ⟨g, 0, none⟩), .int .i64 most] w fun r w' => ∃ v, r = .returned v ∧ rBytes.r (fun q => w.heap.size ≤ q ∧ q < w'.heap.size) w' [v] (Rs.strict (s.loose B most)).2 ∧ RdStep w g B a (Rs.strict (s.loose B most)).1 w' := by
  have HLS := hid (block_loose w h hB most hm)
  have hgl := h.blk.lt
  unfold Rs.strict
  generalize s.loose B most = L at *
  obtain ⟨s1, D, q⟩ := L
  dsimp only at *
  have hfk := Rs.fail_k (s := s1) (c := 12) (at_ := (s1.p : Int)) (by omega)
  have hfb : s1.k ≠ 0 → s1.fail 12 s1.p = s1 := fun hk => Rs.fail_of_bad hk
  have hSC := hid (fun (W : World) (h : RdAt W g B a s1) => block_strict W h q s1.p)
  clear h
  by_cases hk : s1.k = 0
  · rw [if_pos hk]
    cases q
    · have d1 : decide ((s1.fail 12 s1.p).k = 0) = false := decide_eq_false hfk
      rw [if_neg (by simp)]
      rw [if_neg (by simp)] at hSC
      generalize s1.fail 12 s1.p = s2 at *
      clear hk hfk hfb
      go_enter Tryz.func129, Tryz.ntmps129
      go_wp2_with fail
      refine HLS.out.mono ?_
      rintro r w1 ⟨v, rfl, hr, hst⟩

      obtain ⟨aD, cD, hv, hr2, _⟩ := sl_form hr
      simp only [List.cons.injEq, and_true] at hv
      subst hv

      have HST := hid hst
      have HR := hid hr2
      have hs1 := hst.size
      have HAT := hid (rd_at w1 hst.1)
      have HSC := hid (hSC.out w1 hst.1)
      clear hr hr2 hst
      go_wp2_with fail
      refine HAT.out.mono ?_
      rintro r w1' ⟨rfl, rfl⟩
      go_wp2_with fail
      refine HSC.out.mono ?_
      rintro r w2 ⟨rfl, hst2⟩
      have HST2 := hid (RdStep.trans HST.out.2 hst2)
      have HRK := hid (rBytes.mono (S' := fun q => w.heap.size ≤ q ∧ q < w2.heap.size) (rBytes.keep HR.out fun q hq => hst2.2.block q hq.2 (by omega)) fun q hq => ⟨hq.1, Nat.lt_of_lt_of_le hq.2 hst2.size⟩)
      have hG := rd_good w2 hst2.1
      rw [d1] at hG
      have HG := hid hG
      clear hst2 hG d1
      go_wp2_with fail
      refine HG.out.mono ?_
      rintro r w3 ⟨rfl, hb3⟩
      have HST3 := hid (HST2.out.then hb3)

      go_wp2
      go_ret
      exact ⟨_, rfl, empty_bytes rfl rfl (by omega), HST3.out⟩
    · have d1 : decide (s1.k = 0) = true := decide_eq_true hk
      rw [if_pos rfl]
      rw [if_pos rfl] at hSC
      clear hk hfk hfb
      go_enter Tryz.func129, Tryz.ntmps129
      go_wp2_with fail
      refine HLS.out.mono ?_
      rintro r w1 ⟨v, rfl, hr, hst⟩

      obtain ⟨aD, cD, hv, hr2, _⟩ := sl_form hr
      simp only [List.cons.injEq, and_true] at hv
      subst hv

      have HST := hid hst
      have HR := hid hr2
      have hs1 := hst.size
      have HAT := hid (rd_at w1 hst.1)
      have HSC := hid (hSC.out w1 hst.1)
      clear hr hr2 hst
      go_wp2_with fail
      refine HAT.out.mono ?_
      rintro r w1' ⟨rfl, rfl⟩
      go_wp2_with fail
      refine HSC.out.mono ?_
      rintro r w2 ⟨rfl, hst2⟩
      have HST2 := hid (RdStep.trans HST.out.2 hst2)
      have HRK := hid (rBytes.mono (S' := fun q => w.heap.size ≤ q ∧ q < w2.heap.size) (rBytes.keep HR.out fun q hq => hst2.2.block q hq.2 (by omega)) fun q hq => ⟨hq.1, Nat.lt_of_lt_of_le hq.2 hst2.size⟩)
      have hG := rd_good w2 hst2.1
      rw [d1] at hG
      have HG := hid hG
      clear hst2 hG d1
      go_wp2_with fail
      refine HG.out.mono ?_
      rintro r w3 ⟨rfl, hb3⟩
      have HST3 := hid (HST2.out.then hb3)

      have HRK3 := hid (rBytes.mono (S' := fun q => w.heap.size ≤ q ∧ q < w3.heap.size) (rBytes.keep HRK.out fun q hq => hb3.block q hq.2) fun q hq => ⟨hq.1, Nat.lt_of_lt_of_le hq.2 hb3.size⟩)
      go_wp2
      go_ret
      exact ⟨_, rfl, HRK3.out, HST3.out⟩
  · rw [if_neg hk]
    have hfb2 := hfb hk
    have d1 : decide (s1.k = 0) = false := decide_eq_false hk
    have hSC2 : Hid (∀ (W : World) (h : RdAt W g B a s1), Calls Tryz.prog 207 #[.bool q, .func (Fn.func 124) #[.pointer (some ⟨g, 0, none⟩)] #[], .int .i64 (s1.p : Int)] W fun r w' => r = .returned (.tuple #[]) ∧ RdStep W g B a s1 w') := hid (fun W h => by
      have := hSC.out W h
      rw [hfb2] at this
      cases q
      · rw [if_neg (by simp)] at this; exact this
      · rw [if_pos rfl] at this; exact this)
    clear hk hfk hfb hfb2 hSC
    have hSC := hSC2
    clear hSC2
    cases q
    all_goals
      go_enter Tryz.func129, Tryz.ntmps129
      go_wp2_with fail
      refine HLS.out.mono ?_
      rintro r w1 ⟨v, rfl, hr, hst⟩

      obtain ⟨aD, cD, hv, hr2, _⟩ := sl_form hr
      simp only [List.cons.injEq, and_true] at hv
      subst hv

      have HST := hid hst
      have HR := hid hr2
      have hs1 := hst.size
      have HAT := hid (rd_at w1 hst.1)
      have HSC := hid (hSC.out w1 hst.1)
      clear hr hr2 hst
      go_wp2_with fail
      refine HAT.out.mono ?_
      rintro r w1' ⟨rfl, rfl⟩
      go_wp2_with fail
      refine HSC.out.mono ?_
      rintro r w2 ⟨rfl, hst2⟩
      have HST2 := hid (RdStep.trans HST.out.2 hst2)
      have HRK := hid (rBytes.mono (S' := fun q => w.heap.size ≤ q ∧ q < w2.heap.size) (rBytes.keep HR.out fun q hq => hst2.2.block q hq.2 (by omega)) fun q hq => ⟨hq.1, Nat.lt_of_lt_of_le hq.2 hst2.size⟩)
      have hG := rd_good w2 hst2.1
      rw [d1] at hG
      have HG := hid hG
      clear hst2 hG d1
      go_wp2_with fail
      refine HG.out.mono ?_
      rintro r w3 ⟨rfl, hb3⟩
      have HST3 := hid (HST2.out.then hb3)

      go_wp2
      go_ret
      exact ⟨_, rfl, empty_bytes rfl rfl (by omega), HST3.out⟩
/-- What is told of the front of some bytes. -/
def getR (r : Rs × List UInt8) : List UInt8 × Nat × Int × Int := if r.1.k = 0 then (r.2, r.1.p, 0, 0) else ([], 0, r.1.k, r.1.f)
end Go.Proofs.YtfddhafbhceoaaaGreat
namespace Go.Bs
open Go.RowKit
set_option linter.unusedVariables false

/-- One digit shifts out. -/
def crcStep (c : Nat) : Nat := if c % 2 = 1 then (c / 2) ^^^ 2197175160 else c / 2
def crc4 (c : Nat) : Nat := crcStep (crcStep (crcStep (crcStep c)))
def crcByte (c : Nat) (x : UInt8) : Nat := crc4 (crc4 (c ^^^ x.toNat))
def crcAdd (c : Nat) (D : List UInt8) : Nat := D.foldl crcByte c
def crcSum (D : List UInt8) : Nat := 4294967295 - crcAdd 4294967295 D
theorem xor_lt32 {a b : Nat} (ha : a < 4294967296) (hb : b < 4294967296) : a ^^^ b < 4294967296 := Nat.xor_lt_two_pow (n := 32) ha hb
theorem crcStep_lt {c : Nat} (h : c < 4294967296) : crcStep c < 4294967296 := by
  unfold crcStep
  split
  · exact xor_lt32 (by omega) (by decide)
  · omega
theorem crc4_lt {c : Nat} (h : c < 4294967296) : crc4 c < 4294967296 := crcStep_lt (crcStep_lt (crcStep_lt (crcStep_lt h)))
theorem crcByte_lt {c : Nat} {x : UInt8} (h : c < 4294967296) : crcByte c x < 4294967296 := crc4_lt (crc4_lt (xor_lt32 h (by have := x.toNat_lt; omega)))
theorem crcAdd_lt : ∀ (D : List UInt8) {c : Nat}, c < 4294967296 → crcAdd c D < 4294967296
  | [], c, h => h
  | x :: D, c, h => crcAdd_lt D (crcByte_lt h)
theorem crcSum_lt (D : List UInt8) : crcSum D < 4294967296 := by unfold crcSum; omega
theorem xor_even (a d : Nat) : (a ^^^ 2 * d) % 2 = a % 2 := by
  have h := Nat.xor_mod_two_pow (a := a) (b := 2 * d) (n := 1)
  rw [Nat.pow_one, show 2 * d % 2 = 0 by omega, Nat.xor_zero] at h
  exact h
theorem crcStep_xor (a d : Nat) : crcStep (a ^^^ 2 * d) = crcStep a ^^^ d := by
  have h1 := xor_even a d
  have h2 : (a ^^^ 2 * d) / 2 = a / 2 ^^^ d := by rw [Nat.xor_div_two]; congr 1; omega
  unfold crcStep
  rw [h1, h2]
  split
  · rw [Nat.xor_assoc, Nat.xor_assoc, Nat.xor_comm d]
  · rfl
theorem crc4_xor (a h : Nat) : crc4 (a ^^^ 16 * h) = crc4 a ^^^ h := by
  unfold crc4
  rw [show 16 * h = 2 * (2 * (2 * (2 * h))) by omega, crcStep_xor, crcStep_xor, crcStep_xor, crcStep_xor]
theorem xor16 (h l : Nat) (hl : l < 16) : l ^^^ 16 * h = 16 * h + l := by
  have h1 : (l ^^^ 16 * h) / 2 = l / 2 ^^^ 8 * h := by rw [Nat.xor_div_two]; congr 1; omega
  have h2 : (l / 2 ^^^ 8 * h) / 2 = l / 4 ^^^ 4 * h := by rw [Nat.xor_div_two]; congr 1 <;> omega
  have h3 : (l / 4 ^^^ 4 * h) / 2 = l / 8 ^^^ 2 * h := by rw [Nat.xor_div_two]; congr 1 <;> omega
  have h4 : (l / 8 ^^^ 2 * h) / 2 = h := by
    rw [Nat.xor_div_two, show l / 8 / 2 = 0 by omega, show 2 * h / 2 = h by omega, Nat.zero_xor]
  have g1 : (l ^^^ 16 * h) % 2 = l % 2 := by rw [show 16 * h = 2 * (8 * h) by omega]; exact xor_even _ _
  have g2 : (l / 2 ^^^ 8 * h) % 2 = l / 2 % 2 := by rw [show 8 * h = 2 * (4 * h) by omega]; exact xor_even _ _
  have g3 : (l / 4 ^^^ 4 * h) % 2 = l / 4 % 2 := by rw [show 4 * h = 2 * (2 * h) by omega]; exact xor_even _ _
  have g4 : (l / 8 ^^^ 2 * h) % 2 = l / 8 % 2 := xor_even _ _
  omega
/-- What the table gives is what four steps make. -/
theorem crc4_look (c : Nat) : c / 16 ^^^ crc4 (c % 16) = crc4 c := by
  have h := crc4_xor (c % 16) (c / 16)
  rw [xor16 _ _ (by omega), show 16 * (c / 16) + c % 16 = c by omega] at h
  rw [h, Nat.xor_comm]

/-- The table's cells, so far. -/
def tabV (k : Nat) : Array Value := ((List.range 16).map fun j => Value.int .u32 ((if j < k then crc4 j else 0 : Nat) : Int)).toArray
theorem tabV_at (k j : Nat) (hj : j < 16) : (tabV k)[j]? = some (.int .u32 ((if j < k then crc4 j else 0 : Nat) : Int)) := by
  simp [tabV, hj]
theorem tabV_set (k : Nat) (hk : k < 16) : (tabV k).setIfInBounds k (.int .u32 (crc4 k : Int)) = tabV (k + 1) := by
  apply Array.ext_getElem?
  intro j
  rw [Array.getElem?_setIfInBounds]
  by_cases hj : j < 16
  · rw [tabV_at _ _ hj, tabV_at _ _ hj]
    by_cases e : k = j
    · subst e; simp [tabV, hk]
    · rw [if_neg e]
      congr 2
      by_cases h : j < k
      · rw [if_pos h, if_pos (by omega)]
      · rw [if_neg h, if_neg (by omega)]
  · have h1 : ∀ m, (tabV m)[j]? = none := fun m => by simp [tabV]; omega
    rw [h1, h1]
    split <;> simp [tabV]; omega
def iter4 : Nat → Nat → Nat
  | 0, c => c
  | n + 1, c => crcStep (iter4 n c)
theorem iter4_lt {c : Nat} (h : c < 4294967296) : ∀ n, iter4 n c < 4294967296
  | 0 => h
  | n + 1 => crcStep_lt (iter4_lt h n)
theorem and1_u32 {c : Nat} (h : c < 4294967296) : bits BinOp.and IntKind.u32 (c : Int) 1 = ((c % 2 : Nat) : Int) := by
  have := u32_and_nat c 1 h (by decide)
  rw [nat_mask1] at this
  exact this
theorem and15_u32 {c : Nat} (h : c < 4294967296) : bits BinOp.and IntKind.u32 (c : Int) 15 = ((c % 16 : Nat) : Int) := by
  have := u32_and_nat c 15 h (by decide)
  rw [nat_mask4] at this
  exact this
theorem poly_u32 {c : Nat} (h : c < 4294967296) : bits BinOp.xor IntKind.u32 ((c : Int) / 2) 2197175160 = ((c / 2 ^^^ 2197175160 : Nat) : Int) := by
  have := u32_xor_nat (c / 2) 2197175160 (by omega) (by decide)
  rw [← this]
  rfl
theorem not_u32 {c : Nat} (h : c < 4294967296) : bits BinOp.xor IntKind.u32 IntKind.u32.max (c : Int) = ((4294967295 - c : Nat) : Int) := by
  have e : IntKind.u32.max = ((4294967295 : Nat) : Int) := rfl
  rw [e, u32_xor_nat _ _ (by decide) h]
  have h1 : 4294967295 ^^^ c = 4294967295 - c := by
    have h2 := BitVec.toNat_not (x := BitVec.ofNat 32 c)
    rw [BitVec.not_def, BitVec.toNat_xor, BitVec.toNat_allOnes, BitVec.toNat_ofNat, Nat.mod_eq_of_lt (by omega)] at h2
    exact h2
  rw [h1]
end Go.Bs
namespace Go.Proofs.YtfddhafbhceoaaaGreat
open Go.RowKit Go.Bs Go.Maps
set_option linter.unusedVariables false
set_option linter.unusedSimpArgs false

theorem crc_step (c : Nat) (hc : c < 4294967296) (w : World) :
    Calls Tryz.prog 354 #[.int .u32 c] w fun r w' => r = .returned (.int .u32 (crcStep c)) ∧ w = w' := by
  by_cases h : c % 2 = 1
  · have d1 : (bits BinOp.and IntKind.u32 (c : Int) 1 == 1) = true := by rw [and1_u32 hc]; simp; omega
    have hff : Hid ((crcStep c : Int) = bits BinOp.xor IntKind.u32 ((c : Int) / 2) 2197175160) := hid (by rw [poly_u32 hc]; unfold crcStep; rw [if_pos h])
    clear h
    go_enter Tryz.func354, Tryz.ntmps354
    go_wp2
    go_ret
    exact ⟨by rw [hff.out]; rfl, rfl⟩
  · have d1 : (bits BinOp.and IntKind.u32 (c : Int) 1 == 1) = false := by rw [and1_u32 hc]; simp; omega
    have hff : Hid ((crcStep c : Int) = (c : Int) / 2) := hid (by unfold crcStep; rw [if_neg h]; rfl)
    clear h
    go_enter Tryz.func354, Tryz.ntmps354
    go_wp2
    go_ret
    exact ⟨by rw [hff.out]; rfl, rfl⟩
theorem crc_begin (w : World) : Calls Tryz.prog 259 #[] w fun r w' => r = .returned (.int .u32 4294967295) ∧ w = w' := by
  go_enter Tryz.func259, Tryz.ntmps259
  go_wp2
  go_ret
  exact ⟨rfl, rfl⟩
theorem crc_end (c : Nat) (hc : c < 4294967296) (w : World) :
    Calls Tryz.prog 257 #[.int .u32 c] w fun r w' => r = .returned (.int .u32 ((4294967295 - c : Nat) : Int)) ∧ w = w' := by
  have hff := hid (not_u32 hc)
  go_enter Tryz.func257, Tryz.ntmps257
  go_wp2
  go_ret
  exact ⟨by rw [← hff.out]; rfl, rfl⟩
end Go.Proofs.YtfddhafbhceoaaaGreat
