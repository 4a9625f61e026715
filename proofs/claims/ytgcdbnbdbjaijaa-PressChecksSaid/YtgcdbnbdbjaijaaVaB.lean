/- A number's bytes: contracts. -/
import Derived.Test.YtgcdbnbdbjaijaaVaA
namespace Go.Bs
open Go.RowKit
theorem own_new1 {w : World} {base g : Nat} {e : TypeId} {v : Value} (hb : base ≤ g) (h : w.heap[g]? = some (.cells #[v] e (0, 0))) : w.ownsRow base e 1 (.slice (some ⟨g, 0, none⟩) 1 1) 1 [v] :=
  ⟨rfl, .inr ⟨g, 1, #[v], rfl, hb, h, Nat.le_refl _, by decide, rfl, rfl⟩⟩
theorem byteCells_snoc (J : List UInt8) (b : UInt8) : byteCells J ++ [.int .u8 (b.toNat : Int)] = byteCells (J ++ [b]) := by simp [byteCells]
theorem byte_small {x : Nat} (h : x < 256) : (x : Int) = ((UInt8.ofNat x).toNat : Int) := by
  simp; omega
theorem or128 : ∀ n : Nat, n < 256 → bits .or .u8 (n : Int) 128 = 128 + (n : Int) % 128 := by decide +kernel
theorem or128b (v : Nat) : bits .or .u8 ((v : Int) % 256) 128 = ((UInt8.ofNat (128 + v % 128)).toNat : Int) := by
  have h := or128 (v % 256) (by omega)
  rw [show (((v % 256 : Nat)) : Int) = (v : Int) % 256 by omega] at h
  rw [h, ← byte_small (by omega)]
  omega
end Go.Bs
namespace Go.Proofs.Ytgcdbnbdbjaijaa
open Go.RowKit Go.Bs Go.Maps
set_option linter.unusedVariables false
set_option linter.unusedSimpArgs false

set_option maxRecDepth 100000 in
set_option maxHeartbeats 1600000 in
theorem varint_bytes (x : Nat) (hx : x < 18446744073709551616) (w : World) :
    Calls Try.prog 105 #[.int .u64 x] w fun r w' => ∃ v, r = .returned v ∧ rBytes.r (fun b => w.heap.size ≤ b ∧ b < w'.heap.size) w' [v] (varB x) ∧ Below w.heap.size w w' := by
  obtain ⟨i0, hi, hz0, hz1, hz2⟩ := info_parts info8
  go_enter Try.func105, Try.ntmps105
  go_wp2_with fail
  go_loopw [0, 3] (fun y o wr => ∃ (v : Nat) (J : List UInt8), y = .int .u64 v ∧ v < 18446744073709551616 ∧ wr.ownsRow w.heap.size 5 1 o J.length (byteCells J) ∧ Hid (varB x = J ++ varB v) ∧ Below w.heap.size w wr) (fun y _ _ => (intOf y).toNat)
  case atStart => exact ⟨x, [], rfl, hx, ⟨rfl, .inl ⟨rfl, rfl⟩⟩, hid rfl, Below.refl _ _⟩
  case round =>
    obtain ⟨v, J, rfl, hv, hown, hs, hb⟩ := hrel
    have hbs := hb.size
    have hJ : J.length ≤ 10 := by have h1 := varB_len x; rw [hs.out] at h1; simp at h1; omega
    obtain ⟨aJ, cJ, rfl⟩ := own_form hown
    have HO := hid hown
    clear hown
    by_cases h : v < 128
    · have d1 : decide ((128 : Int) ≤ (v : Int)) = false := by simp; omega
      have hfin : Hid (varB x = J ++ [UInt8.ofNat v]) := hid (by rw [hs.out, varB_small h])
      have hby : Hid ((v : Int) = ((UInt8.ofNat v).toNat : Int)) := hid (byte_small (by omega))
      go_wp2_with (at_builtin; go_loud (refine wpList_append_src rfl _ _ _ rfl w.heap.size 5 i0 (.int .u8 0) 1 1 Try.underlying22 hi hz0 hz1 hz2 rfl (by decide) (.slice aJ J.length cJ) J.length (byteCells J) rfl (own_below HO.out (by (repeat (first | exact Below.refl _ _ | assumption | (refine below_alloc ?_ _) | (refine Below.setCell ?_ (by first | omega | (simp; done) | (simp; omega)) _) | (refine Below.drew ?_) | (refine below_drewN ?_ _) | (refine below_then (by assumption) ?_))))) (some ⟨wr.heap.size, 0, none⟩) 1 1 [.int .u8 (v : Int)] rfl (src_new1 wr 5 _ rfl rfl rfl) (by intro u hu; simp at hu; subst hu; rfl) (by simp only [maxLen]; omega) (by omega) (by simp; omega) ?_; intro v' w1 hown1 hgrow1 hat1; have HG := hid hgrow1; have HO1 := hid hown1; clear hgrow1 hown1 hat1))
      have ho := HO1.out
      rw [hby.out, byteCells_snoc, ← hfin.out] at ho
      have hlen : J.length + 1 = (varB x).length := by rw [hfin.out]; simp
      have hV := own_bytes2 hlen ho
      have hB : Below w.heap.size w w1 := Below.grown (by (repeat (first | exact Below.refl _ _ | assumption | (refine below_alloc ?_ _) | (refine Below.setCell ?_ (by first | omega | (simp; done) | (simp; omega)) _) | (refine Below.drew ?_) | (refine below_drewN ?_ _) | (refine below_then (by assumption) ?_)))) HG.out (by simp; omega) (fun g e => (HO.out.lt g e).1)
      have HV := hid hV
      clear ho hlen hV
      go_wp2
      go_ret
      exact ⟨_, rfl, HV.out, hB⟩
    · have d1 : decide ((128 : Int) ≤ (v : Int)) = true := by simp; omega
      have hfin : Hid (varB x = (J ++ [UInt8.ofNat (128 + v % 128)]) ++ varB (v / 128)) := hid (by rw [hs.out, varB_step h (by omega)]; simp)
      have hor := or128b v
      generalize UInt8.ofNat (128 + v % 128) = bb at *
      go_wp2_with (at_builtin; go_loud (refine wpList_append_src rfl _ _ _ rfl w.heap.size 5 i0 (.int .u8 0) 1 1 Try.underlying22 hi hz0 hz1 hz2 rfl (by decide) (.slice aJ J.length cJ) J.length (byteCells J) rfl (own_below HO.out (by (repeat (first | exact Below.refl _ _ | assumption | (refine below_alloc ?_ _) | (refine Below.setCell ?_ (by first | omega | (simp; done) | (simp; omega)) _) | (refine Below.drew ?_) | (refine below_drewN ?_ _) | (refine below_then (by assumption) ?_))))) (some ⟨wr.heap.size, 0, none⟩) 1 1 [.int .u8 (bb.toNat : Int)] rfl (src_new1 wr 5 _ rfl rfl rfl) (by intro u hu; simp at hu; subst hu; rfl) (by simp only [maxLen]; omega) (by omega) (by simp; omega) ?_; intro v' w1 hown1 hgrow1 hat1; have HG := hid hgrow1; have HO1 := hid hown1; clear hgrow1 hown1 hat1))
      have ho := HO1.out
      rw [byteCells_snoc] at ho
      have hB : Below w.heap.size w w1 := Below.grown (by (repeat (first | exact Below.refl _ _ | assumption | (refine below_alloc ?_ _) | (refine Below.setCell ?_ (by first | omega | (simp; done) | (simp; omega)) _) | (refine Below.drew ?_) | (refine below_drewN ?_ _) | (refine below_then (by assumption) ?_)))) HG.out (by simp; omega) (fun g e => (HO.out.lt g e).1)
      have HO2 := hid ho
      clear ho HO1
      go_wp2_with fail
      go_roundw
      case rel => exact ⟨v / 128, J ++ [bb], by go_num, by omega, (by rw [List.length_append]; exact HO2.out), hfin, hB⟩
      case measure => simp [intOf]; omega

set_option maxRecDepth 100000 in
set_option maxHeartbeats 1600000 in
theorem ref04_bytes (x : Nat) : ∀ (hx : x < 18446744073709551616) (w : World),
    Calls Try.prog 60 #[.int .u64 x] w fun r w' => ∃ v, r = .returned v ∧ rBytes.r (fun b => w.heap.size ≤ b ∧ b < w'.heap.size) w' [v] (varB x) ∧ Below w.heap.size w w' := by
  induction x using Nat.strongRecOn with
  | ind x ih =>
  intro hx w
  obtain ⟨i0, hi, hz0, hz1, hz2⟩ := info_parts info8
  by_cases h : x < 128
  · have d1 : decide ((x : Int) < 128) = true := by simp; omega
    have hfin : Hid (varB x = [UInt8.ofNat x]) := hid (varB_small h)
    have hby : Hid ((x : Int) = ((UInt8.ofNat x).toNat : Int)) := hid (byte_small (by omega))
    have HIH := hid ih; clear ih
    go_enter Try.func60, Try.ntmps60
    go_wp2_with fail
    have e0 : [Value.int .u8 (x : Int)] = byteCells (varB x) := by rw [hfin.out, hby.out]; rfl
    have ho : (w.alloc (.cells #[.int .u8 (x : Int)] 5)).ownsRow w.heap.size 5 1 (.slice (some ⟨w.heap.size, 0, none⟩) 1 1) 1 (byteCells (varB x)) := e0 ▸ own_new1 (w := w.alloc (.cells #[.int .u8 (x : Int)] 5)) (base := w.heap.size) (e := 5) (Nat.le_refl _) (World.alloc_heap_new w _)
    have hV := own_bytes2 (l := varB x) (n := 1) (by rw [hfin.out]; rfl) ho
    have HV := hid hV
    clear ho e0 hV
    go_ret
    exact ⟨_, rfl, HV.out, by (repeat (first | exact Below.refl _ _ | assumption | (refine below_alloc ?_ _) | (refine Below.setCell ?_ (by first | omega | (simp; done) | (simp; omega)) _) | (refine Below.drew ?_) | (refine below_drewN ?_ _) | (refine below_then (by assumption) ?_)))⟩
  · have d1 : decide ((x : Int) < 128) = false := by simp; omega
    have HIH := hid (fun (W : World) => ih (x / 128) (by omega) (by omega) W)
    clear ih
    rw [show ((x / 128 : Nat) : Int) = (x : Int) / 128 by omega] at HIH
    have hfin : Hid (varB x = [UInt8.ofNat (128 + x % 128)] ++ varB (x / 128)) := hid (by rw [varB_step h (by omega)]; rfl)
    have hby : Hid (128 + (x : Int) % 128 = ((UInt8.ofNat (128 + x % 128)).toNat : Int)) := hid (by rw [← byte_small (by omega)]; omega)
    have hlb := varB_len (x / 128)
    go_enter Try.func60, Try.ntmps60
    go_wp2_with fail
    refine (HIH.out _).mono ?_
    rintro r w1 ⟨v1, rfl, hr1, hb1⟩
    have ho := own_new1 (w := w.alloc (.cells #[.int .u8 (128 + (x : Int) % 128)] 5)) (base := w.heap.size) (e := 5) (Nat.le_refl _) (World.alloc_heap_new w _)
    have ho1 := own_below ho hb1
    obtain ⟨a1, c1, hv1, hr2, _⟩ := sl_form hr1
    simp only [List.cons.injEq, and_true] at hv1
    subst hv1
    have hr3 := src_bytes (rBytes.mono hr2 (S' := (· < w1.heap.size)) fun b hb => hb.2)
    have HS := hid hr3; have HO := hid ho1; have HONE := hid (byteCells_one (varB (x / 128)))
    have hz1w : w.heap.size + 1 ≤ w1.heap.size := by have := hb1.size; simpa using this
    have hbw1 : Below w.heap.size w w1 := by (repeat (first | exact Below.refl _ _ | assumption | (refine below_alloc ?_ _) | (refine Below.setCell ?_ (by first | omega | (simp; done) | (simp; omega)) _) | (refine Below.drew ?_) | (refine below_drewN ?_ _) | (refine below_then (by assumption) ?_)))
    clear hr1 hr2 hr3 ho ho1
    go_wp2_with (at_builtin; go_loud (refine wpList_append_src rfl _ _ _ rfl w.heap.size 5 i0 (.int .u8 0) 1 1 Try.underlying22 hi hz0 hz1 hz2 rfl (by decide) (.slice (some ⟨w.heap.size, 0, none⟩) 1 1) 1 _ rfl HO.out a1 (varB (x / 128)).length c1 (byteCells (varB (x / 128))) rfl HS.out HONE.out (by simp only [maxLen]; omega) (by omega) (by omega) ?_; intro v' w2 hown2 hgrow2 hat2; have HG := hid hgrow2; have HO2 := hid hown2; clear hgrow2 hown2 hat2))
    have ho := HO2.out
    rw [hby.out, show [Value.int .u8 ((UInt8.ofNat (128 + x % 128)).toNat : Int)] = byteCells [UInt8.ofNat (128 + x % 128)] from rfl, byteCells, byteCells, ← List.map_append, ← hfin.out] at ho
    have hV := own_bytes2 (by rw [hfin.out]; simp; omega) ho
    have hB : Below w.heap.size w w2 := Below.grown hbw1 HG.out (by omega) (fun g e => (HO.out.lt g e).1)
    have HV := hid hV
    clear ho hV
    go_ret
    exact ⟨_, rfl, HV.out, hB⟩
end Go.Proofs.Ytgcdbnbdbjaijaa
