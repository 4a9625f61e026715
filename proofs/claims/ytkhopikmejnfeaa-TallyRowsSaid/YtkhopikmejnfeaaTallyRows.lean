/- tally.Rows and the walk of the law TallyRows. -/
import Derived.Test.YtkhopikmejnfeaaTallyE
import Derived.Test.YtkhopikmejnfeaaRep
namespace Go.Proofs.Ytkhopikmejnfeaa
open Go.RowKit Fl Go.Bs
set_option linter.unusedVariables false
set_option linter.unusedSimpArgs false
attribute [local go_sem] unary_neg_float floatOfInt_fI

theorem sum_take (l : List Nat) (k : Nat) (h : k < l.length) : (l.take (k + 1)).sum = (l.take k).sum + l[k] := by
  rw [List.take_succ_eq_append_getElem h, List.sum_append, List.sum_cons, List.sum_nil, Nat.add_zero]
theorem sum_drop (l : List Nat) (k : Nat) (h : k < l.length) : (l.drop k).sum = l[k] + (l.drop (k + 1)).sum := by
  rw [List.drop_eq_getElem_cons h, List.sum_cons]
theorem sum_le (l : List Nat) (B : Nat) (h : ∀ x ∈ l, x ≤ B) : l.sum ≤ B * l.length := by
  induction l with
  | nil => simp
  | cons a t ih =>
    have h1 := ih fun x hx => h x (List.mem_cons_of_mem _ hx)
    have h2 := h a (List.mem_cons_self ..)
    simp only [List.sum_cons, List.length_cons, Nat.mul_succ]; omega
theorem sum_take_le (l : List Nat) (k : Nat) (h : ∀ x ∈ l, x ≤ 500) : (l.take k).sum ≤ 500 * k := by
  have := sum_le (l.take k) 500 fun x hx => h x (List.mem_of_mem_take hx)
  have h2 := List.length_take_le k l
  have h3 : 500 * (l.take k).length ≤ 500 * k := Nat.mul_le_mul_left _ h2
  omega
theorem sum_drop_le (l : List Nat) (k : Nat) (h : ∀ x ∈ l, x ≤ 500) : (l.drop k).sum ≤ 500 * (l.length - k) := by
  have := sum_le (l.drop k) 500 fun x hx => h x (List.mem_of_mem_drop hx)
  rwa [List.length_drop] at this

theorem rt_small (a b : Int) (h0 : 0 ≤ a) (h1 : a ≤ 1000) (h2 : 0 ≤ b) (h3 : b ≤ 100000) (h4 : 0 < a ∨ b = 0) : rt a b = true := by
  simp only [rt, decide_eq_true_eq]; omega

theorem sumGo2 (a b c d : Int) (h1 : rt a b = true) (h2 : rt c d = true) (h3 : rt (a + c) (b + d) = true) : sumGo (0, 0) [(a, b), (c, d)] = (a + c, b + d) := by
  simp only [sumGo, h1, h2, h3, Int.zero_add, if_true]

/-- Sum of two that stand in a block of their own. -/
theorem sum_two (a b c d : Int) (h1 : rt a b = true) (h2 : rt c d = true) (h3 : rt (a + c) (b + d) = true) (w : World) :
    Calls Try.prog 17 #[.slice (some ⟨w.heap.size, 0, none⟩) 2 2] (w.alloc (.cells #[.complex .f64 (fI a) (fI b), .complex .f64 (fI c) (fI d)] 23)) fun e w' =>
      e = .returned (.complex .f64 (fI (a + c)) (fI (b + d))) ∧ w.alloc (.cells #[.complex .f64 (fI a) (fI b), .complex .f64 (fI c) (fI d)] 23) = w' := by
  have b1 := rt_bound h1
  have b2 := rt_bound h2
  have := sum_any [(a, b), (c, d)] (by
    intro p hp
    simp only [List.mem_cons, List.not_mem_nil, or_false] at hp
    rcases hp with rfl | rfl <;> (simp only [Fits]; omega)) (some ⟨w.heap.size, 0, none⟩) 2 (w.alloc (.cells #[.complex .f64 (fI a) (fI b), .complex .f64 (fI c) (fI d)] 23)) (by simp) (by
    intro k hk
    refine ⟨_, _, rfl, ?_⟩
    match k, hk with
    | 0, _ => go_simp
    | 1, _ => go_simp)
  rw [sumGo2 a b c d h1 h2 h3] at this
  exact this

set_option maxHeartbeats 800000 in
theorem rows_any (l : List Nat) (hl : ∀ x ∈ l, x ≤ 500) (hlen : l.length ≤ 100) (A : Option Addr) (c : Nat) (w : World)
    (hr : ∀ k, (hk : k < l.length) → ∃ b o a' c', A = some ⟨b, o, none⟩ ∧ b < w.heap.size ∧ w.cell? ⟨b, o + k, none⟩ = some (.slice a' l[k] c')) :
    Calls Try.prog 18 #[.slice A l.length c] w fun e w' => e = .returned (.complex .f64 (fI l.length) (fI l.sum)) ∧ Below w.heap.size w w' := by
  have HL := hid hl; clear hl
  have HR := hid hr; clear hr
  go_enter Try.func18, Try.ntmps18
  go_wp2
  go_loopw [3, 8] (fun s i wr => ∃ k : Nat, k ≤ l.length ∧ i = .int .i64 k ∧ s = .complex .f64 (fI (k : Int)) (fI ((l.take k).sum : Nat)) ∧ Below w.heap.size w wr) (fun _ i _ => l.length - (intOf i).toNat)
  case atStart => exact ⟨0, Nat.zero_le _, rfl, by rw [List.take_zero]; exact (by rw [show ((0 : Nat) : Int) = 0 from rfl, fI_zero]; rfl), Below.refl _ _⟩
  case round =>
    obtain ⟨k, hk, rfl, rfl, hb⟩ := hrel
    by_cases hlt : k < l.length
    · obtain ⟨b, o, a', c', hA, hbb, hcell⟩ := HR.out k hlt
      subst hA
      have hcell' : wr.cell? ⟨b, o + k, none⟩ = some (.slice a' l[k] c') := (hb.cell (p := ⟨b, o + k, none⟩) hbb).trans hcell
      clear hcell
      have hx := HL.out _ (List.getElem_mem hlt)
      have hst := sum_take l k hlt
      have hle := sum_take_le l k HL.out
      have HS := hid hst; clear hst
      generalize hS : (l.take k).sum = S at *
      clear hS
      have e1 : rt 1 (l[k] : Nat) = true := rt_small _ _ (by omega) (by omega) (by omega) (by omega) (by omega)
      have e2 : rt (k : Int) (S : Nat) = true := rt_small _ _ (by omega) (by omega) (by omega) (by omega) (by omega)
      have e3 : rt ((k : Int) + 1) ((S : Nat) + (l[k] : Nat)) = true := rt_small _ _ (by omega) (by omega) (by omega) (by omega) (by omega)
      have E1 := hid e1; clear e1
      have E2 := hid e2; clear e2
      have E3 := hid e3; clear e3
      have hbs := hb.size
      go_wp2_with fail
      refine (one_yes _ E1.out _).mono ?_; rintro e w' ⟨rfl, rfl⟩
      go_wp2_with fail
      refine (sum_two _ _ _ _ E2.out E1.out E3.out _).mono ?_; rintro e w' ⟨rfl, rfl⟩
      go_wp2
      go_roundw
      case rel => exact ⟨k + 1, by omega, by go_num, by rw [HS.out]; simp only [Int.natCast_add]; rfl, hb.alloc hbs _⟩
      case measure => simp [intOf]; omega
    · obtain rfl : k = l.length := by omega
      go_wp2
      go_ret
      exact ⟨by rw [List.take_length]; rfl, hb⟩


set_option maxHeartbeats 1600000 in
theorem trows_any (l : List Nat) (A : Option Addr) (c : Nat) (w : World) (hlen : l.length ≤ 9223372036854775807)
    (hr : ∀ k, (hk : k < l.length) → ∃ b o a' c', A = some ⟨b, o, none⟩ ∧ b < w.heap.size ∧ l[k] ≤ 9223372036854775807 ∧ w.cell? ⟨b, o + k, none⟩ = some (.slice a' l[k] c')) :
    Calls Try.prog 5 #[.slice A l.length c] w fun e w' => e = .returned (.bool true) ∧ Below w.heap.size w w' := by
  have HR := hid hr; clear hr
  go_enter Try.func5, Try.ntmps5
  go_wp2
  go_loop [3, 4] (fun s i => ∃ k : Nat, k ≤ l.length ∧ k ≤ 100 ∧ i = .int .i64 k ∧ s = .int .i64 ((l.take k).sum : Nat) ∧ Hid (∀ x ∈ l.take k, x ≤ 500)) (fun _ i => 100 - (intOf i).toNat)
  case atStart => exact ⟨0, Nat.zero_le _, by omega, rfl, by rw [List.take_zero]; rfl, hid (by simp)⟩
  case round =>
    obtain ⟨k, hk, hk1, rfl, rfl, hs⟩ := hrel
    have hle : (l.take k).sum ≤ 500 * k := by
      have := sum_le (l.take k) 500 hs.out
      have h2 := List.length_take_le k l
      have h3 : 500 * (l.take k).length ≤ 500 * k := Nat.mul_le_mul_left _ h2
      omega
    by_cases hlt : k < l.length ∧ k < 100
    · obtain ⟨hlt, hlt1⟩ := hlt
      obtain ⟨b, o, a', c', hA, hbb, hx, hcell⟩ := HR.out k hlt
      subst hA
      have HS := hid (sum_take l k hlt)
      by_cases h5 : l[k] ≤ 500
      · generalize hS : (l.take k).sum = S at *
        clear hS
        go_wp2
        go_round
        case rel =>
          refine ⟨k + 1, by omega, by omega, by go_num, by rw [HS.out]; simp only [Int.natCast_add], hid ?_⟩
          intro x hx
          rw [List.take_succ_eq_append_getElem hlt, List.mem_append, List.mem_singleton] at hx
          rcases hx with hx | rfl
          · exact hs.out x hx
          · exact h5
        case measure => simp [intOf]; omega
      · go_wp2_with fail
        refine (live_any _).mono ?_; rintro e w1 ⟨rfl, hb1⟩
        go_wp2
        go_ret
        exact ⟨rfl, hb1⟩
    · by_cases h0 : k < l.length
      · have h1 : decide ((k : Int) < 100) = false := by simp; omega
        have h2 : 100 < l.length := by omega
        clear hlt
        go_wp2_with fail
        refine (live_any _).mono ?_; rintro e w1 ⟨rfl, hb1⟩
        go_wp2
        go_ret
        exact ⟨rfl, hb1⟩
      · obtain rfl : k = l.length := by omega
        clear hlt h0 hk
        have hall : Hid (∀ x ∈ l, x ≤ 500) := by rw [List.take_length] at hs; exact hs
        clear hs
        rw [List.take_length] at *
        go_wp2_with fail
        go_loopw [5, 6] (fun s i wr => ∃ m : Nat, m ≤ l.length ∧ i = .int .i64 ((m : Int) - 1) ∧ s = .complex .f64 (fI ((l.length - m : Nat) : Int)) (fI ((l.drop m).sum : Nat)) ∧ Below w.heap.size w wr) (fun _ i _ => (intOf i + 1).toNat)
        case atStart => exact ⟨l.length, Nat.le_refl _, rfl, by rw [List.drop_length, Nat.sub_self]; exact (by rw [show ((0 : Nat) : Int) = 0 from rfl, fI_zero]; rfl), Below.refl _ _⟩
        case round =>
          obtain ⟨m, hm, rfl, rfl, hb⟩ := hrel
          rcases m with _ | k
          · rw [show (((0 : Nat) : Int) - 1) = -1 from rfl]
            rw [List.drop_zero, Nat.sub_zero]
            have hle : l.sum ≤ 500 * l.length := sum_le l 500 hall.out
            go_wp2_with fail
            refine (rows_any l hall.out hk1 A c _ ?_).mono ?_
            · intro k hk
              obtain ⟨b, o, a', c', hA, hbb, hx, hcell⟩ := HR.out k hk
              exact ⟨b, o, a', c', hA, Nat.lt_of_lt_of_le hbb hb.size, (hb.cell (p := ⟨b, o + k, none⟩) hbb).trans hcell⟩
            rintro e w2 ⟨rfl, hb2⟩
            have hrt : Hid (rt (l.length : Int) (l.sum : Nat) = true) := by
              refine hid ?_
              refine rt_small _ _ (by omega) (by omega) (by omega) (by omega) ?_
              by_cases h0 : l.length = 0
              · right; have := List.eq_nil_of_length_eq_zero h0; subst this; rfl
              · left; omega
            have h3 := hb.trans (hb2.mono hb.size)
            go_wp2_with fail
            refine (as_yes (l.length : Int) (l.sum : Nat) hrt.out _).mono ?_; rintro e w3 ⟨rfl, hb3⟩
            have h4 := h3.trans (hb3.mono h3.size)
            have q1 : (FloatKind.f64.format.order (fI (l.length : Int)) (fI (l.length : Int)) == some Ordering.eq) = true := by rw [ord_eq _ (rt_a hrt.out)]; rfl
            have q2 : (FloatKind.f64.format.order (fI (l.sum : Nat)) (fI (l.sum : Nat)) == some Ordering.eq) = true := by rw [ord_eq _ (rt_b hrt.out)]; rfl
            go_wp2_with fail
            refine (rows_any l hall.out hk1 A c _ ?_).mono ?_
            · intro k hk
              obtain ⟨b, o, a', c', hA, hbb, hx, hcell⟩ := HR.out k hk
              exact ⟨b, o, a', c', hA, Nat.lt_of_lt_of_le hbb h4.size, (h4.cell (p := ⟨b, o + k, none⟩) hbb).trans hcell⟩
            rintro e w5 ⟨rfl, hb5⟩
            have h6 := h4.trans (hb5.mono h4.size)
            go_wp2_with fail
            refine (live_any _).mono ?_; rintro e w7 ⟨rfl, hb7⟩
            go_wp2
            go_ret
            exact ⟨rfl, h6.trans (hb7.mono h6.size)⟩
          · obtain ⟨b, o, a', c', hA, hbb, hx, hcell⟩ := HR.out k (by omega)
            subst hA
            have hlt : k < l.length := by omega
            rw [show (((k + 1 : Nat) : Int) - 1) = (k : Int) from by omega]
            have hcell' : wr.cell? ⟨b, o + k, none⟩ = some (.slice a' l[k] c') := (hb.cell (p := ⟨b, o + k, none⟩) hbb).trans hcell
            clear hcell
            have hx5 := hall.out _ (List.getElem_mem hlt)
            have HS := hid (sum_drop l k hlt)
            have hle := sum_drop_le l (k + 1) hall.out
            generalize hS : (l.drop (k + 1)).sum = S at *
            clear hS
            have e1 : rt 1 (l[k] : Nat) = true := rt_small _ _ (by omega) (by omega) (by omega) (by omega) (by omega)
            have e2 : rt ((l.length - (k + 1) : Nat) : Int) (S : Nat) = true := rt_small _ _ (by omega) (by omega) (by omega) (by omega) (by omega)
            have e3 : rt (1 + ((l.length - (k + 1) : Nat) : Int)) ((l[k] : Nat) + (S : Nat)) = true := rt_small _ _ (by omega) (by omega) (by omega) (by omega) (by omega)
            have E1 := hid e1; clear e1
            have E2 := hid e2; clear e2
            have E3 := hid e3; clear e3
            have hN := hid (show 1 + ((l.length - (k + 1) : Nat) : Int) = ((l.length - k : Nat) : Int) by omega)
            generalize l.length - (k + 1) = N at *
            have hbs := hb.size
            go_wp2_with fail
            refine (one_yes _ E1.out _).mono ?_; rintro e w' ⟨rfl, rfl⟩
            go_wp2_with fail
            refine (sum_two _ _ _ _ E1.out E2.out E3.out _).mono ?_; rintro e w' ⟨rfl, rfl⟩
            go_wp2
            go_roundw
            case rel => exact ⟨k, by omega, rfl, by rw [HS.out, ← hN.out]; simp only [Int.natCast_add], hb.alloc hbs _⟩
            case measure => simp [intOf]

theorem tallyRows_walk {H : Type} (enc : TypeId × Value → H) (W : World) (base : Nat) (v0 : Value) (d0 : DataW H) (p0 : List MemPlace)
    (k0 : DataW.Trod enc Try.prog W 0 (fun _ => true) true 42 v0 d0 p0) (o0 : Value.okWide Try.prog W .any base 42 v0) :
    Calls Try.prog 5 #[v0] W fun e w' => e = .returned (.bool true) ∧ Below W.heap.size W w' := by
  obtain ⟨fuel, hf⟩ := k0
  obtain ⟨a, len, cap, rfl⟩ := Go.WideShapes.okWide_slice Try.underlying42 o0
  obtain ⟨y, a', c', h1, h2, h3, h4⟩ := opens_slice (A := rSl 1 rByte) (sz := 1) Try.underlying42 (by kernel_rfl) (by decide) (opens_slice (sz := 1) Try.underlying43 (by kernel_rfl) (by decide) (opens_byte Try.underlying5)) enc W fuel _ _ hf
  simp [Value.cells] at h1
  obtain ⟨rfl, rfl, rfl⟩ := h1
  have e := trows_any (y.map List.length) a cap W (by simp; unfold maxLen at h3; omega) (by
    intro k hk
    rcases h4 with rfl | ⟨b, off, rfl, hb, hr⟩
    · simp at hk
    · have hk' : k < y.length := by simpa using hk
      obtain ⟨cs, hl, hc, a2, c2, rfl, g1, g2, _⟩ := hr k y[k] (List.getElem?_eq_getElem hk')
      refine ⟨b, off, a2, c2, rfl, hb, by simp; unfold maxLen at g2; omega, ?_⟩
      have := hc 0 _ rfl
      simpa using this)
  simpa using e
end Go.Proofs.Ytkhopikmejnfeaa
