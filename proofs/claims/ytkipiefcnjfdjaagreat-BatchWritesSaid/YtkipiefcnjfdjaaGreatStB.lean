/- Lists of numbers, bytes, links compared. -/
import Derived.Test.YtkipiefcnjfdjaaGreatStA
import Derived.Laws.IdiomStrings
import Derived.Laws.BytesArg
namespace Go.Bs
open Go.RowKit
deriving instance DecidableEq for Link, Entry, Batch, Seg

theorem bytes_str {P : Program} {S : Nat → Prop} {w : World} {a : Option Addr} {n c : Nat} {l : List UInt8} (src dst e : TypeId) (hs : P.underlying src = some (.slice e)) (he : P.underlying e = some (.int .u8)) (hd : P.underlying dst = some .string)
    (h : rBytes.r S w [.slice a n c] l) : (convert src dst (.slice a l.length c)).run P w = .ok (.string ⟨l.toArray⟩) w := by
  obtain ⟨rfl, _, _, _⟩ := sl_len h
  rcases a with _ | ad
  · have h0 : l = [] := by
      rcases l with _ | ⟨x, l⟩
      · rfl
      · obtain ⟨b, off, e, _⟩ := byte_at h (i := 0) (by simp)
        cases e
    subst h0
    exact run_convert_bytes_nil w src e hs he _ _ dst hd
  · refine run_convert_bytes_back w src dst e ad c l hs he hd fun j hj => ?_
    obtain ⟨b, off, e, _, hc⟩ := byte_at h hj
    simp at e
    subst e
    rw [← hc]
    congr 1
    unfold Addr.add
    split
    · rename_i h0; subst h0; rfl
    · rfl
end Go.Bs
namespace Go.Proofs.YtkipiefcnjfdjaaGreat
open Go.RowKit Go.Bs
set_option linter.unusedVariables false
set_option linter.unusedSimpArgs false

set_option maxHeartbeats 400000 in
theorem same_bytes (x y : List UInt8) (a a' : Option Addr) (n c n' c' : Nat) (w : World) (hx : rBytes.r (· < w.heap.size) w [.slice a n c] x) (hy : rBytes.r (· < w.heap.size) w [.slice a' n' c'] y) :
    Calls Tryz.prog 21 #[.slice a n c, .slice a' n' c'] w fun r w' => r = .returned (.bool (decide (x = y))) ∧ w = w' := by
  obtain ⟨rfl, _, _, _⟩ := sl_len hx
  obtain ⟨rfl, _, _, _⟩ := sl_len hy
  have h1 := bytes_str (P := Tryz.prog) 28 9 5 Tryz.underlying28 Tryz.underlying5 Tryz.underlying9 hx
  have h2 := bytes_str (P := Tryz.prog) 28 9 5 Tryz.underlying28 Tryz.underlying5 Tryz.underlying9 hy
  have he : (x == y) = decide (x = y) := by
    by_cases h : x = y
    · simp [h]
    · simp [h]
  have HE := hid he; clear he hx hy
  go_enter Tryz.func21, Tryz.ntmps21
  go_wp2
  go_ret
  refine ⟨?_, rfl⟩
  rw [← HE.out]
  simp [go_sem]

theorem drop_eq_step {α : Type} [DecidableEq α] (x y : List α) (k : Nat) (hx : k < x.length) (hy : k < y.length) : decide (x.drop k = y.drop k) = (decide (x[k] = y[k]) && decide (x.drop (k + 1) = y.drop (k + 1))) := by
  rw [List.drop_eq_getElem_cons hx, List.drop_eq_getElem_cons hy, Bool.eq_iff_iff, decide_eq_true_iff, Bool.and_eq_true, decide_eq_true_iff, decide_eq_true_iff, List.cons.injEq]

set_option maxHeartbeats 1600000 in
theorem same_u64s (x y : List Int) (a a' : Option Addr) (n c n' c' : Nat) (w : World) (hx : rU64s.r (· < w.heap.size) w [.slice a n c] x) (hy : rU64s.r (· < w.heap.size) w [.slice a' n' c'] y) :
    Calls Tryz.prog 221 #[.slice a n c, .slice a' n' c'] w fun r w' => r = .returned (.bool (decide (x = y))) ∧ Below w.heap.size w w' := by
  obtain ⟨rfl, hm, _, _⟩ := sl_len hx
  obtain ⟨rfl, hm', _, _⟩ := sl_len hy
  by_cases hl : x.length = y.length
  · have HX := hid hx; clear hx
    have HY := hid hy; clear hy
    have HL := hid hl
    have e1 : ((x.length : Int) != (y.length : Int)) = false := by simp [hl]
    clear hl
    go_enter Tryz.func221, Tryz.ntmps221
    go_wp2
    go_loopw [5] (fun i wr => ∃ k : Nat, k ≤ x.length ∧ i = .int .i64 k ∧ Hid (decide (x = y) = decide (x.drop k = y.drop k)) ∧ Below w.heap.size w wr) (fun i _ => x.length - (intOf i).toNat)
    case atStart => exact ⟨0, Nat.zero_le _, rfl, hid rfl, Below.refl _ _⟩
    case round =>
      obtain ⟨k, hk, rfl, hf, hb⟩ := hrel
      by_cases hlt : k < x.length
      · have hlt' : k < y.length := by rw [← HL.out]; exact hlt
        obtain ⟨b, o, hA, hbb, hc, _, _⟩ := u64_at HX.out hlt
        obtain ⟨b', o', hA', hbb', hc', _, _⟩ := u64_at HY.out hlt'
        have hst := hid (drop_eq_step x y k hlt hlt')
        subst hA hA'
        have X0 := fun s : Later wr => s.cell ((hb.cell (p := ⟨b, o + k, none⟩) hbb).trans hc)
        have X1 := fun s : Later wr => s.cell ((hb.cell (p := ⟨b', o' + k, none⟩) hbb').trans hc')
        clear hc hc'
        generalize hlk : x[k] = u at *
        generalize hlm : y[k] = v at *
        clear hlk hlm
        have i0 : (0 : Int) ≤ (k : Int) := by omega
        have i1 : (k : Int) < (x.length : Int) := by omega
        have i2 : (k : Int) < (y.length : Int) := by omega
        by_cases huv : u = v
        · have d1 : (u != v) = false := by simp [huv]
          have hst' : Hid (decide (x.drop k = y.drop k) = decide (x.drop (k + 1) = y.drop (k + 1))) := hid (by rw [hst.out]; simp [huv])
          clear huv
          go_wp2_with fail
          refine wp_region_later (by kernel_rfl) (by kernel_rfl) ?_
          repeat (go_big_quiet_step (fail))
          refine wpQuiet_nil ?_
          rintro W5 ⟨⟨W5', hb5⟩, rfl⟩
          go_wp2
          go_roundw
          case rel => exact ⟨k + 1, by omega, by go_num, hid (by rw [hf.out, hst'.out]), below_then hb5 hb⟩
          case measure => simp [intOf]; omega
        · have d1 : (u != v) = true := by simp [huv]
          have hff : Hid (decide (x = y) = false) := hid (by rw [hf.out, hst.out]; simp [huv])
          clear huv
          go_wp2_with fail
          refine wp_region_later (by kernel_rfl) (by kernel_rfl) ?_
          repeat (go_big_quiet_step (fail))
          refine wpQuiet_nil ?_
          rintro W5 ⟨⟨W5', hb5⟩, rfl⟩
          go_wp2
          go_ret
          exact ⟨by rw [hff.out]; rfl, below_then hb5 hb⟩
      · obtain rfl : k = x.length := by omega
        have hff : Hid (decide (x = y) = true) := hid (by rw [hf.out, List.drop_length, List.drop_of_length_le (by rw [HL.out]; exact Nat.le_refl _)]; rfl)
        go_wp2
        go_ret
        exact ⟨by rw [hff.out]; rfl, hb⟩
  · have hff : Hid (decide (x = y) = false) := hid (by simp; rintro rfl; exact hl rfl)
    have e1 : ((x.length : Int) != (y.length : Int)) = true := by simp; omega
    clear hl hx hy
    go_enter Tryz.func221, Tryz.ntmps221
    go_wp2
    go_ret
    exact ⟨by rw [hff.out]; rfl, Below.refl _ _⟩
end Go.Proofs.YtkipiefcnjfdjaaGreat
