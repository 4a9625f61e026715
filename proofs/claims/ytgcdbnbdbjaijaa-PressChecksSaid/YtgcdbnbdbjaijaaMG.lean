/- PressChecks: for every input the law returns true. -/
import Derived.Test.YtgcdbnbdbjaijaaMF
namespace Go.Proofs.Ytgcdbnbdbjaijaa
open Go.RowKit Go.Bs Go.Maps
set_option linter.unusedVariables false
set_option linter.unusedSimpArgs false

theorem c_bytes : Try.prog.cellsOf 22 = 1 := by kernel_rfl
theorem c_int : Try.prog.cellsOf 3 = 1 := by kernel_rfl
theorem o_int : Opens Try.prog 3 (rInt .i64) := opens_int Try.underlying3
theorem field_at {H : Type} {enc : TypeId × Value → H} {P : Program} {w : World} {cs : List Value} {n : Nat} {fs : Array Field} (h : ∀ (i : Nat) (f : Field), fs[i]? = some f → ∃ y, DataW.trod enc P w 0 (fun _ => true) true n f.type ((cs.drop f.offset).take (P.cellsOf f.type)) = some y)
    {α : Type} {A : Rp α} {t : TypeId} (hA : Opens P t A) (i : Nat) (f : Field) (o : Nat) (hf : fs[i]? = some f) (ht : f.type = t) (ho : f.offset = o) (hs : P.cellsOf t = 1) : ∃ x, A.r (· < w.heap.size) w ((cs.drop o).take 1) x := by
  obtain ⟨y, hy⟩ := h i f hf
  rw [ht, ho, hs] at hy
  exact hA enc w n _ _ hy
theorem o_tok : Opens Try.prog 30 rTok := fun enc w fuel cs x h => by
  obtain ⟨hl, n, hf⟩ := trod_fields Try.underlying30 h
  have hl2 : cs.length = 3 := hl.trans (by kernel_rfl)
  obtain ⟨x0, r0⟩ := field_at hf o_bytes 0 _ 0 rfl rfl rfl c_bytes
  obtain ⟨x1, r1⟩ := field_at hf o_int 1 _ 1 rfl rfl rfl c_int
  obtain ⟨x2, r2⟩ := field_at hf o_int 2 _ 2 rfl rfl rfl c_int
  exact ⟨⟨x0, x1, x2⟩, by have h := pair_step (o := 0) (s := 1) (o' := 1) rfl r0 (pair_step (o := 1) (s := 1) (o' := 2) rfl r1 (last_step (s := 1) hl2 r2)); rw [List.drop_zero] at h; exact h⟩
theorem o_toks : Opens Try.prog 24 rToks := opens_slice (sz := 3) Try.underlying24 (by kernel_rfl) (by decide) o_tok

theorem exT_wide {m m' : Int} (h : m ≤ m') : ∀ (xs : List Tok) (i : Nat) (out : List UInt8), (exT m i out xs).2.1 ≠ 11 → exT m' i out xs = exT m i out xs
  | [], i, out, _ => rfl
  | t :: ts, i, out, hn => by
    simp only [exT] at hn ⊢
    have hw : wrongR t out.length m ≠ 11 → wrongR t out.length m' = wrongR t out.length m := by
      unfold wrongR
      split
      · split
        · intro h; exact absurd rfl h
        · intro _; rw [if_neg (by omega)]
      · intro _; rfl
    by_cases h0 : wrongR t out.length m = 0
    · rw [if_pos h0] at hn ⊢
      rw [hw (by omega), if_pos h0]
      exact exT_wide h ts _ _ hn
    · rw [if_neg h0] at hn ⊢
      rw [hw hn, if_neg h0]
theorem written_wide {xs : List Tok} (h : (exT 300 0 [] xs).2.1 ≠ 11) : writtenR 1048576 xs = writtenR 300 xs := by
  unfold writtenR
  rw [exT_wide (by omega) xs 0 [] h]

set_option maxRecDepth 100000 in
set_option maxHeartbeats 12800000 in
theorem pressChecks_c (t : List UInt8) (bound0 : Int) (xs : List Tok) (a : Option Addr) (n c : Nat) (at_ : Option Addr) (nt ct : Nat) (hb0 : -9223372036854775808 ≤ bound0 ∧ bound0 ≤ 9223372036854775807) (w : World) (hl : rBytes.r (· < w.heap.size) w [.slice a n c] t) (hx : rToks.r (· < w.heap.size) w [.slice at_ nt ct] xs) :
    Calls Try.prog 8 #[.slice a n c, .int .i64 bound0, .slice at_ nt ct] w fun r w' => r = .returned (.bool true) ∧ Below w.heap.size w w' := by
  obtain ⟨rfl, hm, _, _⟩ := sl_len hl
  obtain ⟨rfl, hmx, _, _⟩ := sl_len hx
  by_cases h200 : t.length ≤ 200
  · have d0 : decide ((200 : Int) < (t.length : Int)) = false := decide_eq_false (by omega)
    have HLG := hid (law11_long w xs at_ _ ct hx)
    cases hlg : longT xs
    · rw [hlg] at HLG
      have hM : (if bound0 ≤ 300 then bound0 else 300) = min bound0 300 := by split <;> omega
      have hM2 : (if (300 : Int) < bound0 then (300 : Int) else bound0) = min bound0 300 := by split <;> omega
      have hM3 : ¬ bound0 ≤ 300 → min bound0 300 = 300 := by omega
      have hMr : -9223372036854775808 ≤ min bound0 300 ∧ min bound0 300 ≤ 300 := by omega
      generalize min bound0 300 = bound at *
      have HL := hid hl
      have HX := hid hx
      have HC := hid (fun (W : World) (hW : Below w.heap.size w W) => press_check W t a _ c (lift HL.out hW) (by omega) bound (by omega))
      have HR := hid (fun (W : World) (hW : Below w.heap.size w W) => ref12_bytes W t a _ c (lift HL.out hW) (by omega) bound (by omega))
      have HTK := hid (fun (W : World) (hW : Below w.heap.size w W) => ref12_tokens W xs at_ _ ct (lift HX.out hW) 300 (by omega))
      have HPW := hid (fun (W : World) (hW : Below w.heap.size w W) => press_written W xs at_ _ ct (lift HX.out hW))
      have HRW := hid (fun (W : World) (hW : Below w.heap.size w W) => ref15_written W xs at_ _ ct (lift HX.out hW) 300 (by omega))
      have hWE := written_wide (xs := xs)
      have hEF := exB_facts t bound
      generalize exT 300 0 [] xs = X at *
      generalize exB t bound = Y at *
      obtain ⟨D, k, f⟩ := Y
      dsimp only at *
      have HRB := hid (fun (W : World) (aD : Option Addr) (cD : Nat) (h : rBytes.r (· < W.heap.size) W [.slice aD D.length cD] D) => ref15_bytes W D aD _ cD h (by omega))
      clear hl hx hEF hlg
      by_cases hk : k = 0
      · subst hk
        rw [show decide ((0 : Int) = 0) = true from rfl] at HC
        cases hQ : decide (pressB D = t)
        · rw [hQ, show (true && false) = false from rfl] at HC
          go_enter Try.func8, Try.ntmps8
          go_wp2_with fail
          refine HLG.out.mono ?_
          rintro r w0 ⟨rfl, hb0⟩
          go_wp2_with fail
          refine (HC.out _ hb0).mono ?_
          rintro r w1 ⟨v1, rfl, hr1, hb1⟩
          obtain ⟨a1, c1, hv1, hr1', _⟩ := sl_form hr1
          simp only [List.cons.injEq, and_true] at hv1
          subst hv1
          have HP1 := hid (rBytes.mono hr1' (S' := (· < w1.heap.size)) fun q hq => hq.2)
          have hb12 : Below w1.heap.size w1 (w1.alloc (.cells #[.int .i64 0, .int .i64 f] 48)) := below_alloc (Below.refl _ _) _
          have hbw2 := below_then hb12 (below_then hb1 hb0)
          have F1 := Blk.newAt w1 48 #[.int .i64 0, .int .i64 f] rfl
          clear hr1 hr1' hb1
          go_wp2_with fail
          refine (HR.out _ hbw2).mono ?_
          rintro r w2 ⟨v2, rfl, hr2, hb2⟩
          obtain ⟨a2, c2, hv2, hr2', _⟩ := sl_form hr2
          simp only [List.cons.injEq, and_true] at hv2
          subst hv2
          have HP2 := hid (rBytes.mono hr2' (S' := (· < w2.heap.size)) fun q hq => hq.2)
          have F1b := (F1.later hb2).alloc (.cells #[.int .i64 0, .int .i64 f] 48)
          have F2 := Blk.newAt w2 48 #[.int .i64 0, .int .i64 f] rfl
          have hb23 : Below w2.heap.size w2 (w2.alloc (.cells #[.int .i64 0, .int .i64 f] 48)) := below_alloc (Below.refl _ _) _
          have hb13 := below_then hb23 (below_then hb2 hb12)
          have hbw3 := below_then hb23 (below_then hb2 hbw2)
          obtain ⟨x0, x1, e0, e1, l1⟩ := f_blk F1b
          obtain ⟨y0, y1, g0, g1, l2⟩ := f_blk F2
          have hs1 := same_bytes D D a1 a2 _ c1 _ c2 _ (lift HP1.out hb13) (lift HP2.out hb23)
          simp only [decide_true] at hs1
          have HS1 := hid hs1
          have HP3 := hid (lift HP2.out hb23)
          clear hr2 hr2' F1 F1b hs1 hb2
          go_wp2_with fail
          refine HS1.out.mono ?_
          rintro r w3' ⟨rfl, rfl⟩
          go_wp2_with fail
          refine (HRB.out _ a2 c2 HP3.out).mono ?_
          rintro r w4 ⟨v4, rfl, hr4, hb4⟩
          obtain ⟨a4, c4, hv4, hr4', _⟩ := sl_form hr4
          simp only [List.cons.injEq, and_true] at hv4
          subst hv4
          have hbw4 := below_then hb4 hbw3
          have hs4 := same_bytes (pressB D) t a4 a _ c4 _ c w4 (rBytes.mono hr4' fun q hq => hq.2) (lift HL.out hbw4)
          rw [hQ] at hs4
          have HS4 := hid hs4
          clear hr4 hr4' hs4 hb4
          go_wp2_with fail
          refine HS4.out.mono ?_
          rintro r w4' ⟨rfl, rfl⟩
          go_wp2_with fail
          refine (HTK.out _ hbw4).mono ?_
          rintro r w5 ⟨v5, rfl, hr5, hb5⟩
          obtain ⟨a5, c5, hv5, _, _⟩ := sl_form hr5
          simp only [List.cons.injEq, and_true] at hv5
          subst hv5
          have hbw5 : Below w.heap.size w (w5.alloc (.cells #[.int .i64 X.2.1, .int .i64 X.2.2] 48)) := below_alloc (below_then hb5 hbw4) _
          clear hr5 hb5
          generalize X.2.1 = kx at *
          generalize X.2.2 = fx at *
          by_cases h11 : kx = 11
          · subst h11
            clear hWE
            go_wp2_with fail
            refine (live15 _).mono ?_
            rintro r w9 ⟨rfl, hb9⟩
            have hbe := below_then hb9 hbw5
            go_wp2
            go_ret
            exact ⟨rfl, hbe⟩
          · have d11 : (kx == (11 : Int)) = false := by simp [h11]
            have HWW := hid (hWE h11)
            clear h11 hWE
            go_wp2_with fail
            refine (HPW.out _ hbw5).mono ?_
            rintro r w6 ⟨rfl, hb6⟩
            have hbw6 := below_then hb6 hbw5
            go_wp2_with fail
            refine (HRW.out _ hbw6).mono ?_
            rintro r w7 ⟨rfl, hb7⟩
            have hbw7 := below_then hb7 hbw6
            rw [HWW.out]
            generalize writtenR 300 xs = WR at *
            have eW : (WR == WR) = true := by simp
            go_wp2_with fail
            refine (live15 _).mono ?_
            rintro r w9 ⟨rfl, hb9⟩
            have hbe := below_then hb9 hbw7
            go_wp2
            go_ret
            exact ⟨rfl, hbe⟩
        · rw [hQ, show (true && true) = true from rfl] at HC
          go_enter Try.func8, Try.ntmps8
          go_wp2_with fail
          refine HLG.out.mono ?_
          rintro r w0 ⟨rfl, hb0⟩
          go_wp2_with fail
          refine (HC.out _ hb0).mono ?_
          rintro r w1 ⟨v1, rfl, hr1, hb1⟩
          obtain ⟨a1, c1, hv1, hr1', _⟩ := sl_form hr1
          simp only [List.cons.injEq, and_true] at hv1
          subst hv1
          have HP1 := hid (rBytes.mono hr1' (S' := (· < w1.heap.size)) fun q hq => hq.2)
          have hb12 : Below w1.heap.size w1 (w1.alloc (.cells #[.int .i64 0, .int .i64 f] 48)) := below_alloc (Below.refl _ _) _
          have hbw2 := below_then hb12 (below_then hb1 hb0)
          have F1 := Blk.newAt w1 48 #[.int .i64 0, .int .i64 f] rfl
          clear hr1 hr1' hb1
          go_wp2_with fail
          refine (HR.out _ hbw2).mono ?_
          rintro r w2 ⟨v2, rfl, hr2, hb2⟩
          obtain ⟨a2, c2, hv2, hr2', _⟩ := sl_form hr2
          simp only [List.cons.injEq, and_true] at hv2
          subst hv2
          have HP2 := hid (rBytes.mono hr2' (S' := (· < w2.heap.size)) fun q hq => hq.2)
          have F1b := (F1.later hb2).alloc (.cells #[.int .i64 0, .int .i64 f] 48)
          have F2 := Blk.newAt w2 48 #[.int .i64 0, .int .i64 f] rfl
          have hb23 : Below w2.heap.size w2 (w2.alloc (.cells #[.int .i64 0, .int .i64 f] 48)) := below_alloc (Below.refl _ _) _
          have hb13 := below_then hb23 (below_then hb2 hb12)
          have hbw3 := below_then hb23 (below_then hb2 hbw2)
          obtain ⟨x0, x1, e0, e1, l1⟩ := f_blk F1b
          obtain ⟨y0, y1, g0, g1, l2⟩ := f_blk F2
          have hs1 := same_bytes D D a1 a2 _ c1 _ c2 _ (lift HP1.out hb13) (lift HP2.out hb23)
          simp only [decide_true] at hs1
          have HS1 := hid hs1
          have HP3 := hid (lift HP2.out hb23)
          clear hr2 hr2' F1 F1b hs1 hb2
          go_wp2_with fail
          refine HS1.out.mono ?_
          rintro r w3' ⟨rfl, rfl⟩
          go_wp2_with fail
          refine (HRB.out _ a2 c2 HP3.out).mono ?_
          rintro r w4 ⟨v4, rfl, hr4, hb4⟩
          obtain ⟨a4, c4, hv4, hr4', _⟩ := sl_form hr4
          simp only [List.cons.injEq, and_true] at hv4
          subst hv4
          have hbw4 := below_then hb4 hbw3
          have hs4 := same_bytes (pressB D) t a4 a _ c4 _ c w4 (rBytes.mono hr4' fun q hq => hq.2) (lift HL.out hbw4)
          rw [hQ] at hs4
          have HS4 := hid hs4
          clear hr4 hr4' hs4 hb4
          go_wp2_with fail
          refine HS4.out.mono ?_
          rintro r w4' ⟨rfl, rfl⟩
          go_wp2_with fail
          refine (HTK.out _ hbw4).mono ?_
          rintro r w5 ⟨v5, rfl, hr5, hb5⟩
          obtain ⟨a5, c5, hv5, _, _⟩ := sl_form hr5
          simp only [List.cons.injEq, and_true] at hv5
          subst hv5
          have hbw5 : Below w.heap.size w (w5.alloc (.cells #[.int .i64 X.2.1, .int .i64 X.2.2] 48)) := below_alloc (below_then hb5 hbw4) _
          clear hr5 hb5
          generalize X.2.1 = kx at *
          generalize X.2.2 = fx at *
          by_cases h11 : kx = 11
          · subst h11
            clear hWE
            go_wp2_with fail
            refine (live15 _).mono ?_
            rintro r w9 ⟨rfl, hb9⟩
            have hbe := below_then hb9 hbw5
            go_wp2
            go_ret
            exact ⟨rfl, hbe⟩
          · have d11 : (kx == (11 : Int)) = false := by simp [h11]
            have HWW := hid (hWE h11)
            clear h11 hWE
            go_wp2_with fail
            refine (HPW.out _ hbw5).mono ?_
            rintro r w6 ⟨rfl, hb6⟩
            have hbw6 := below_then hb6 hbw5
            go_wp2_with fail
            refine (HRW.out _ hbw6).mono ?_
            rintro r w7 ⟨rfl, hb7⟩
            have hbw7 := below_then hb7 hbw6
            rw [HWW.out]
            generalize writtenR 300 xs = WR at *
            have eW : (WR == WR) = true := by simp
            go_wp2_with fail
            refine (live15 _).mono ?_
            rintro r w9 ⟨rfl, hb9⟩
            have hbe := below_then hb9 hbw7
            go_wp2
            go_ret
            exact ⟨rfl, hbe⟩
      · have dk : decide (k = 0) = false := decide_eq_false hk
        have dk2 : (k == (0 : Int)) = false := by simp [hk]
        rw [dk, Bool.false_and] at HC
        clear hk dk
        go_enter Try.func8, Try.ntmps8
        go_wp2_with fail
        refine HLG.out.mono ?_
        rintro r w0 ⟨rfl, hb0⟩
        go_wp2_with fail
        refine (HC.out _ hb0).mono ?_
        rintro r w1 ⟨v1, rfl, hr1, hb1⟩
        obtain ⟨a1, c1, hv1, hr1', _⟩ := sl_form hr1
        simp only [List.cons.injEq, and_true] at hv1
        subst hv1
        have HP1 := hid (rBytes.mono hr1' (S' := (· < w1.heap.size)) fun q hq => hq.2)
        have hb12 : Below w1.heap.size w1 (w1.alloc (.cells #[.int .i64 k, .int .i64 f] 48)) := below_alloc (Below.refl _ _) _
        have hbw2 := below_then hb12 (below_then hb1 hb0)
        have F1 := Blk.newAt w1 48 #[.int .i64 k, .int .i64 f] rfl
        clear hr1 hr1' hb1
        go_wp2_with fail
        refine (HR.out _ hbw2).mono ?_
        rintro r w2 ⟨v2, rfl, hr2, hb2⟩
        obtain ⟨a2, c2, hv2, hr2', _⟩ := sl_form hr2
        simp only [List.cons.injEq, and_true] at hv2
        subst hv2
        have HP2 := hid (rBytes.mono hr2' (S' := (· < w2.heap.size)) fun q hq => hq.2)
        have F1b := (F1.later hb2).alloc (.cells #[.int .i64 k, .int .i64 f] 48)
        have F2 := Blk.newAt w2 48 #[.int .i64 k, .int .i64 f] rfl
        have hb23 : Below w2.heap.size w2 (w2.alloc (.cells #[.int .i64 k, .int .i64 f] 48)) := below_alloc (Below.refl _ _) _
        have hb13 := below_then hb23 (below_then hb2 hb12)
        have hbw3 := below_then hb23 (below_then hb2 hbw2)
        obtain ⟨x0, x1, e0, e1, l1⟩ := f_blk F1b
        obtain ⟨y0, y1, g0, g1, l2⟩ := f_blk F2
        have hs1 := same_bytes D D a1 a2 _ c1 _ c2 _ (lift HP1.out hb13) (lift HP2.out hb23)
        simp only [decide_true] at hs1
        have HS1 := hid hs1
        have HP3 := hid (lift HP2.out hb23)
        clear hr2 hr2' F1 F1b hs1 hb2
        go_wp2_with fail
        refine HS1.out.mono ?_
        rintro r w3' ⟨rfl, rfl⟩
        go_wp2_with fail
        refine (HTK.out _ hbw3).mono ?_
        rintro r w5 ⟨v5, rfl, hr5, hb5⟩
        obtain ⟨a5, c5, hv5, _, _⟩ := sl_form hr5
        simp only [List.cons.injEq, and_true] at hv5
        subst hv5
        have hbw5 : Below w.heap.size w (w5.alloc (.cells #[.int .i64 X.2.1, .int .i64 X.2.2] 48)) := below_alloc (below_then hb5 hbw3) _
        clear hr5 hb5
        generalize X.2.1 = kx at *
        generalize X.2.2 = fx at *
        by_cases h11 : kx = 11
        · subst h11
          clear hWE
          go_wp2_with fail
          refine (live15 _).mono ?_
          rintro r w9 ⟨rfl, hb9⟩
          have hbe := below_then hb9 hbw5
          go_wp2
          go_ret
          exact ⟨rfl, hbe⟩
        · have d11 : (kx == (11 : Int)) = false := by simp [h11]
          have HWW := hid (hWE h11)
          clear h11 hWE
          go_wp2_with fail
          refine (HPW.out _ hbw5).mono ?_
          rintro r w6 ⟨rfl, hb6⟩
          have hbw6 := below_then hb6 hbw5
          go_wp2_with fail
          refine (HRW.out _ hbw6).mono ?_
          rintro r w7 ⟨rfl, hb7⟩
          have hbw7 := below_then hb7 hbw6
          rw [HWW.out]
          generalize writtenR 300 xs = WR at *
          have eW : (WR == WR) = true := by simp
          go_wp2_with fail
          refine (live15 _).mono ?_
          rintro r w9 ⟨rfl, hb9⟩
          have hbe := below_then hb9 hbw7
          go_wp2
          go_ret
          exact ⟨rfl, hbe⟩
    · rw [hlg] at HLG
      go_enter Try.func8, Try.ntmps8
      go_wp2_with fail
      refine HLG.out.mono ?_
      rintro r w0 ⟨rfl, hb0⟩
      go_wp2_with fail
      refine (live15 _).mono ?_
      rintro r w9 ⟨rfl, hb9⟩
      have hbe := below_then hb9 hb0
      go_wp2
      go_ret
      exact ⟨rfl, hbe⟩
  · have d0 : decide ((200 : Int) < (t.length : Int)) = true := decide_eq_true (by omega)
    go_enter Try.func8, Try.ntmps8
    go_wp2_with fail
    refine (live15 _).mono ?_
    rintro r w9 ⟨rfl, hb9⟩
    go_wp2
    go_ret
    exact ⟨rfl, hb9⟩

set_option maxRecDepth 100000 in
theorem pressChecks_walk {H : Type} (enc : TypeId × Value → H) (W : World) (base : Nat) (v0 v1 v2 : Value) (d0 d1 d2 : DataW H) (p0 p1 p2 : List MemPlace)
    (k0 : DataW.Trod enc Try.prog W 0 (fun _ => true) true 22 v0 d0 p0) (k1 : DataW.Trod enc Try.prog W 0 (fun _ => true) true 3 v1 d1 p1) (k2 : DataW.Trod enc Try.prog W 0 (fun _ => true) true 24 v2 d2 p2)
    (o0 : Value.okWide Try.prog W .any base 22 v0) (o1 : Value.okWide Try.prog W .any base 3 v1) (o2 : Value.okWide Try.prog W .any base 24 v2) :
    Calls Try.prog 8 #[v0, v1, v2] W fun e w' => e = .returned (.bool true) ∧ Below W.heap.size W w' := by
  obtain ⟨fuel, hf⟩ := k0
  obtain ⟨fuel1, hf1⟩ := k1
  obtain ⟨fuel2, hf2⟩ := k2
  obtain ⟨a, len, cap, rfl⟩ := Go.WideShapes.okWide_slice Try.underlying22 o0
  obtain ⟨m, rfl⟩ := Go.WideShapes.okWide_int Try.underlying3 o1
  obtain ⟨a2, len2, cap2, rfl⟩ := Go.WideShapes.okWide_slice Try.underlying24 o2
  obtain ⟨b, hb⟩ := o_bytes enc W fuel _ _ hf
  obtain ⟨m', hm', hw⟩ := o_int enc W fuel1 _ _ hf1
  obtain ⟨xs, hxs⟩ := o_toks enc W fuel2 _ _ hf2
  simp [Value.cells] at hm'
  subst hm'
  exact pressChecks_c b m xs a len cap a2 len2 cap2 (bounds_i64 hw) W hb hxs
end Go.Proofs.Ytgcdbnbdbjaijaa
