/- tally.Sum, tally.Rows, the law's helpers live and made. -/
import Derived.Test.YtkhopikmejnfeaaTallyD
namespace Go.Proofs.Ytkhopikmejnfeaa
open Go.RowKit Fl Go.Bs
set_option linter.unusedVariables false
set_option linter.unusedSimpArgs false
attribute [local go_sem] unary_neg_float floatOfInt_fI

def sumGo : Int × Int → List (Int × Int) → Int × Int
  | s, [] => s
  | s, x :: l => if rt x.1 x.2 then (if rt (s.1 + x.1) (s.2 + x.2) then sumGo (s.1 + x.1, s.2 + x.2) l else (0, 0)) else (0, 0)

theorem add_cz (P : Program) (t : TypeId) (a b c d : Int) (ha : a.natAbs < 2 ^ 53) (hb : b.natAbs < 2 ^ 53) (hc : c.natAbs < 2 ^ 53) (hd : d.natAbs < 2 ^ 53) (h1 : (a + c).natAbs < 2 ^ 53) (h2 : (b + d).natAbs < 2 ^ 53) (w : World) :
    (binOp .add t (.complex .f64 (fI a) (fI b)) (.complex .f64 (fI c) (fI d))).run P w = .ok (.complex .f64 (fI (a + c)) (fI (b + d))) w := by
  refine run_complex_sum w .add (.inl rfl) t .f64 _ _ _ _ _ _ ?_
  unfold cSumBits floatBits
  have e1 : FloatKind.f64.format.add (fI a) (fI c) = some (fI (a + c)) := add_fI a c ha hc h1
  have e2 : FloatKind.f64.format.add (fI b) (fI d) = some (fI (b + d)) := add_fI b d hb hd h2
  simp only [e1, e2, Option.bind_some]

theorem sub_cz (P : Program) (t : TypeId) (a b c d : Int) (ha : a.natAbs < 2 ^ 53) (hb : b.natAbs < 2 ^ 53) (hc : c.natAbs < 2 ^ 53) (hd : d.natAbs < 2 ^ 53) (h1 : (a - c).natAbs < 2 ^ 53) (h2 : (b - d).natAbs < 2 ^ 53) (w : World) :
    (binOp .sub t (.complex .f64 (fI a) (fI b)) (.complex .f64 (fI c) (fI d))).run P w = .ok (.complex .f64 (fI (a - c)) (fI (b - d))) w := by
  refine run_complex_sum w .sub (.inr rfl) t .f64 _ _ _ _ _ _ ?_
  unfold cSumBits floatBits
  have e1 : FloatKind.f64.format.sub (fI a) (fI c) = some (fI (a - c)) := sub_fI a c ha hc h1
  have e2 : FloatKind.f64.format.sub (fI b) (fI d) = some (fI (b - d)) := sub_fI b d hb hd h2
  simp only [e1, e2, Option.bind_some]

/-- Parts that a sum may be of. -/
def Fits (p : Int × Int) : Prop := p.1.natAbs ≤ 2251799813685248 ∧ p.2.natAbs ≤ 2251799813685248

set_option maxHeartbeats 800000 in
theorem sum_any (l : List (Int × Int)) (hl : ∀ p ∈ l, Fits p) (A : Option Addr) (c : Nat) (w : World) (hlen : l.length ≤ 1000000)
    (hr : ∀ k, (hk : k < l.length) → ∃ b o, A = some ⟨b, o, none⟩ ∧ w.cell? ⟨b, o + k, none⟩ = some (.complex .f64 (fI l[k].1) (fI l[k].2))) :
    Calls Try.prog 17 #[.slice A l.length c] w fun e w' => e = .returned (.complex .f64 (fI (sumGo (0, 0) l).1) (fI (sumGo (0, 0) l).2)) ∧ w = w' := by
  have HL := hid hl; clear hl
  have HR := hid hr; clear hr
  go_enter Try.func17, Try.ntmps17
  go_wp2
  go_loop [3, 8] (fun s i => ∃ k : Nat, ∃ x y : Int, k ≤ l.length ∧ i = .int .i64 k ∧ s = .complex .f64 (fI x) (fI y) ∧ Hid (rt x y = true) ∧ Hid (sumGo (0, 0) l = sumGo (x, y) (l.drop k))) (fun _ i => l.length - (intOf i).toNat)
  case atStart => exact ⟨0, 0, 0, Nat.zero_le _, rfl, by rw [fI_zero], hid (by decide), hid rfl⟩
  case round =>
    obtain ⟨k, x, y, hk, rfl, rfl, hrt, hs⟩ := hrel
    by_cases hlt : k < l.length
    · obtain ⟨b, o, hA, hcell⟩ := HR.out k hlt
      subst hA
      obtain ⟨u, v, huv⟩ : ∃ u v, l[k] = (u, v) := ⟨_, _, rfl⟩
      have hfit := HL.out _ (List.getElem_mem hlt)
      rw [huv] at hcell hfit
      have hd : l.drop k = (u, v) :: l.drop (k + 1) := by rw [← huv]; exact List.drop_eq_getElem_cons hlt
      rw [hd] at hs
      have HU := hid huv; clear huv hd
      simp only [Fits] at hfit
      obtain ⟨f1, f2⟩ := hfit
      have b1 : u.natAbs < 2 ^ 53 := by rw [p53]; omega
      have b2 : v.natAbs < 2 ^ 53 := by rw [p53]; omega
      obtain ⟨x0, x1, y0, y1, _⟩ := rt_bound hrt.out
      have b3 : x.natAbs < 2 ^ 53 := by rw [p53]; omega
      have b4 : y.natAbs < 2 ^ 53 := by rw [p53]; omega
      have b5 : (x + u).natAbs < 2 ^ 53 := by rw [p53]; omega
      have b6 : (y + v).natAbs < 2 ^ 53 := by rw [p53]; omega
      have hadd := add_cz Try.prog 23 x y u v b3 b4 b1 b2 b5 b6
      have hr1 := right_any u v b1 b2
      have hr2 := right_any (x + u) (y + v) b5 b6
      cases g1 : rt u v
      · rw [g1] at hr1
        have H1 := hid hr1; clear hr1 hr2
        have G1 := hid g1; clear g1
        go_wp2_with (go_at_call 13; refine (H1.out _).mono ?_; rintro e w' ⟨rfl, rfl⟩)
        go_ret
        refine ⟨?_, rfl⟩
        rw [hs.out]
        simp only [sumGo, G1.out]
        simp only [Bool.false_eq_true, if_false, fI_zero]
        rfl
      · rw [g1] at hr1
        cases g2 : rt (x + u) (y + v)
        · rw [g2] at hr2
          have H1 := hid hr1; clear hr1
          have H2 := hid hr2; clear hr2
          have G1 := hid g1; clear g1
          have G2 := hid g2; clear g2
          go_wp2_with fail
          refine (H1.out _).mono ?_; rintro e w' ⟨rfl, rfl⟩
          go_wp2_with fail
          refine (H2.out _).mono ?_; rintro e w' ⟨rfl, rfl⟩
          go_wp2
          go_ret
          refine ⟨?_, rfl⟩
          rw [hs.out]
          simp only [sumGo, G1.out, G2.out]
          simp only [Bool.false_eq_true, if_false, if_true, fI_zero]
          rfl
        · rw [g2] at hr2
          have H1 := hid hr1; clear hr1
          have H2 := hid hr2; clear hr2
          have G1 := hid g1; clear g1
          have G2 := hid g2; clear g2
          go_wp2_with fail
          refine (H1.out _).mono ?_; rintro e w' ⟨rfl, rfl⟩
          go_wp2_with fail
          refine (H2.out _).mono ?_; rintro e w' ⟨rfl, rfl⟩
          go_wp2
          go_round
          case rel =>
            refine ⟨k + 1, x + u, y + v, by omega, by go_num, rfl, G2, hid ?_⟩
            rw [hs.out]
            simp only [sumGo, G1.out, G2.out, if_true]
          case measure => simp [intOf]; omega
    · obtain rfl : k = l.length := by omega
      go_wp2
      go_ret
      refine ⟨?_, rfl⟩
      rw [hs.out, List.drop_length]
      rfl

theorem fI2 : fI 2 = 4611686018427387904 := by decide +kernel
theorem fI3 : fI 3 = 4613937818241073152 := by decide +kernel
theorem fI1 : fI 1 = 4607182418800017408 := by decide +kernel

set_option maxHeartbeats 800000 in
theorem live_any (w : World) : Calls Try.prog 8 #[] w fun e w' => e = .returned (.bool true) ∧ Below w.heap.size w w' := by
  have hs := fun w : World => sum_any [(1, 3), (1, 0)] (by simp [Fits]) (some ⟨w.heap.size, 0, none⟩) 2 (w.alloc (.cells #[.complex .f64 (fI 1) (fI 3), .complex .f64 (fI 1) (fI 0)] 23)) (by decide) (by
    intro k hk
    refine ⟨_, _, rfl, ?_⟩
    match k, hk with
    | 0, _ => go_simp
    | 1, _ => go_simp)
  have e1 : sumGo (0, 0) [(1, 3), (1, 0)] = (2, 3) := by decide
  simp only [e1] at hs
  have HS := hid hs; clear hs e1
  have h2 : (FloatKind.f64.format.order (fI 3) 4613937818241073152 == some Ordering.eq) = true := by rw [← fI3, ord_eq 3 (by decide)]; rfl
  have h3 : (FloatKind.f64.format.order (fI 2) 4611686018427387904 == some Ordering.eq) = true := by rw [← fI2, ord_eq 2 (by decide)]; rfl
  go_enter Try.func8, Try.ntmps8
  go_wp2_with fail
  refine (one_yes 3 (by decide) _).mono ?_; rintro e w' ⟨rfl, rfl⟩
  go_wp2_with fail
  refine (one_yes 0 (by decide) _).mono ?_; rintro e w' ⟨rfl, rfl⟩
  go_wp2_with fail
  refine (HS.out _).mono ?_; rintro e w' ⟨rfl, rfl⟩
  go_wp2_with fail
  refine (things_any 2 3 (by decide) (by decide) _).mono ?_; rintro e w' ⟨rfl, rfl⟩
  go_wp2_with fail
  refine (bytes_any 2 3 (by decide) (by decide) _).mono ?_; rintro e w' ⟨rfl, rfl⟩
  go_wp2_with fail
  refine (swap_c 2 3 (by decide) (by decide) _).mono ?_; rintro e w' ⟨rfl, rfl⟩
  go_wp2
  go_ret
  exact ⟨rfl, (Below.refl _ _).alloc (Nat.le_refl _) _⟩

end Go.Proofs.Ytkhopikmejnfeaa
