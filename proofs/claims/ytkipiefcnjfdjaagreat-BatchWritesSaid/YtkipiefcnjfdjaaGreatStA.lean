/- epoch, delta, their references; lists of numbers compared. -/
import Derived.Test.YtkipiefcnjfdjaaGreatRows
import Derived.Test.YtkipiefcnjfdjaaGreatData
import Derived.Deep.AppendLies
namespace Go.Proofs.YtkipiefcnjfdjaaGreat
open Go.RowKit Go.Bs
set_option linter.unusedVariables false
set_option linter.unusedSimpArgs false

set_option maxHeartbeats 400000 in
theorem epoch_right (e : Int) (w : World) : Calls Tryz.prog 78 #[.int .u64 e] w fun r w' => r = .returned (.bool (epR e)) ∧ w = w' := by
  by_cases h1 : 1 ≤ e
  · by_cases h2 : e < 4611686018427387904
    · have : epR e = true := by simp [epR, h1, h2]
      rw [this]
      have d1 : decide (1 ≤ e) = true := by simpa using h1
      have d2 : decide (e < 4611686018427387904) = true := by simpa using h2
      clear this h1 h2
      go_enter Tryz.func78, Tryz.ntmps78
      go_wp2
      go_ret
      exact ⟨rfl, rfl⟩
    · have : epR e = false := by simp [epR, h2]
      rw [this]
      have d1 : decide (1 ≤ e) = true := by simpa using h1
      have d2 : decide (e < 4611686018427387904) = false := by simpa using h2
      clear this h1 h2
      go_enter Tryz.func78, Tryz.ntmps78
      go_wp2
      go_ret
      exact ⟨rfl, rfl⟩
  · have : epR e = false := by simp [epR, h1]
    rw [this]
    have d1 : decide (1 ≤ e) = false := by simpa using h1
    clear this h1
    go_enter Tryz.func78, Tryz.ntmps78
    go_wp2
    go_ret
    exact ⟨rfl, rfl⟩

set_option maxHeartbeats 400000 in
theorem epoch_pos (e : Int) (w : World) : Calls Tryz.prog 132 #[.int .u64 e] w fun r w' => r = .returned (.bool (poR e)) ∧ w = w' := by
  go_enter Tryz.func132, Tryz.ntmps132
  go_wp2
  go_ret
  exact ⟨rfl, rfl⟩

set_option maxHeartbeats 400000 in
theorem ref17_right (e : Int) (h0 : 0 ≤ e) (w : World) : Calls Tryz.prog 82 #[.int .u64 e] w fun r w' => r = .returned (.bool (epR e)) ∧ w = w' := by
  by_cases h1 : 0 < e
  · by_cases h2 : e ≤ 4611686018427387903
    · have : epR e = true := by simp [epR]; omega
      rw [this]
      have d1 : decide (0 < e) = true := by simpa using h1
      have d2 : decide (e ≤ 4611686018427387903) = true := by simpa using h2
      clear this h1 h2
      go_enter Tryz.func82, Tryz.ntmps82
      go_wp2
      go_ret
      exact ⟨rfl, rfl⟩
    · have : epR e = false := by simp [epR]; omega
      rw [this]
      have d1 : decide (0 < e) = true := by simpa using h1
      have d2 : decide (e ≤ 4611686018427387903) = false := by simpa using h2
      clear this h1 h2
      go_enter Tryz.func82, Tryz.ntmps82
      go_wp2
      go_ret
      exact ⟨rfl, rfl⟩
  · have : epR e = false := by simp [epR]; omega
    rw [this]
    have d1 : decide (0 < e) = false := by simpa using h1
    clear this h1
    go_enter Tryz.func82, Tryz.ntmps82
    go_wp2
    go_ret
    exact ⟨rfl, rfl⟩

set_option maxHeartbeats 400000 in
theorem ref17_pos (e : Int) (w : World) : Calls Tryz.prog 139 #[.int .u64 e] w fun r w' => r = .returned (.bool (poR e)) ∧ w = w' := by
  have : poR e = decide (e ≤ 4611686018427387903) := by simp only [poR, decide_eq_decide]; omega
  rw [this]
  clear this
  go_enter Tryz.func139, Tryz.ntmps139
  go_wp2
  go_ret
  exact ⟨rfl, rfl⟩

theorem infoU : (Tryz.prog.info? 22).map (fun i => (i.zero, i.size, i.bytes)) = some (some (.int .u64 0), 1, 8) := by kernel_rfl

def stepsL : Int → List Int → List Int
  | _, [] => []
  | b, x :: l => (b - x - 1) :: stepsL x l
/-- The number ahead of place k. -/
def ahead (b : Int) (l : List Int) (k : Nat) : Int := if k = 0 then b else l.getD (k - 1) 0
theorem ahead_zero (b : Int) (l : List Int) : ahead b l 0 = b := rfl
theorem ahead_succ (b : Int) (l : List Int) (k : Nat) (h : k < l.length) : ahead b l (k + 1) = l[k] := by
  unfold ahead; rw [if_neg (by omega)]; simp [h]

/-- What delta.Steps hands back. -/
def StepsRet (below : Int) (l : List Int) (w : World) (e : Ending) (w' : World) : Prop :=
  ∃ v, e = .returned (.tuple #[v, .bool (fallsB below l)]) ∧ rU64s.r (· < w'.heap.size) w' [v] (if fallsB below l then stepsL below l else []) ∧ Below w.heap.size w w'

/-- An owned row of numbers reads as a list. -/
theorem own_u64s {w : World} {base : Nat} {e : TypeId} {v : Value} {xs : List Int} (h : w.ownsRow base e 1 v xs.length (xs.map (Value.int .u64))) (hb : ∀ x ∈ xs, 0 ≤ x ∧ x ≤ 18446744073709551615) (hm : xs.length ≤ maxLen) : rU64s.r (· < w.heap.size) w [v] xs := by
  rcases h.2 with ⟨rfl, h0⟩ | ⟨g, cap, cur, rfl, hbg, hg, hn, hc, hcur, hx⟩
  · have : xs = [] := List.eq_nil_of_length_eq_zero h0
    subst this
    exact rSl_mk rfl (Nat.le_refl _) (Nat.zero_le _) (.inl rfl)
  · refine rSl_mk rfl hn hc (.inr ⟨g, 0, rfl, Blk.lt hg, fun i x hi => ⟨[.int .u64 x], rfl, fun j v hj => ?_, rfl, u64_wf (hb x (List.mem_of_getElem? hi))⟩⟩)
    have hj0 : j = 0 := by
      rcases j with _ | j
      · rfl
      · simp at hj
    subst hj0
    simp at hj
    subst hj
    have hi' : i < xs.length := (List.getElem?_eq_some_iff.1 hi).1
    rw [Nat.zero_add, Nat.mul_one, Nat.add_zero, Blk.cell hg i]
    have e1 : cur[i]? = (cur.toList.take (xs.length * 1))[i]? := by
      rw [List.getElem?_take, if_pos (by omega)]; simp
    rw [e1, hx, List.getElem?_map, hi]; rfl

set_option maxHeartbeats 1600000 in
theorem steps_any (below : Int) (l : List Int) (a : Option Addr) (n c : Nat) (w : World) (hb0 : 0 ≤ below ∧ below ≤ 18446744073709551615) (hl : rU64s.r (· < w.heap.size) w [.slice a n c] l) (hlen : l.length ≤ 1000000000000) :
    Calls Tryz.prog 244 #[.int .u64 below, .slice a n c] w (StepsRet below l w) := by
  obtain ⟨rfl, hm, _, _⟩ := sl_len hl
  obtain ⟨i0, hi, hz0, hz1, hz2⟩ := info_parts infoU
  have HL := hid hl; clear hl
  go_enter Tryz.func244, Tryz.ntmps244
  go_wp2
  go_loopw [0, 6, 11] (fun b v i wr => ∃ k : Nat, k ≤ l.length ∧ i = .int .i64 k ∧ b = .int .u64 (ahead below l k) ∧ 0 ≤ ahead below l k ∧ ahead below l k ≤ 18446744073709551615 ∧ Hid (fallsB below l = fallsB (ahead below l k) (l.drop k)) ∧
      (∃ xs : List Int, Hid (xs.length = k ∧ (∀ x ∈ xs, 0 ≤ x ∧ x ≤ 18446744073709551615) ∧ stepsL below l = xs ++ stepsL (ahead below l k) (l.drop k)) ∧ wr.ownsRow w.heap.size 22 1 v k (xs.map (Value.int .u64))) ∧ Below w.heap.size w wr) (fun _ _ i _ => l.length - (intOf i).toNat)
  case atStart => exact ⟨0, Nat.zero_le _, rfl, rfl, hb0.1, hb0.2, hid rfl, ⟨[], hid ⟨rfl, by simp, rfl⟩, ⟨rfl, .inl ⟨rfl, rfl⟩⟩⟩, Below.refl _ _⟩
  case round =>
    obtain ⟨k, hk, rfl, rfl, ha0, ha1, hf, ⟨xs, hxs, hown⟩, hb⟩ := hrel
    by_cases hlt : k < l.length
    · obtain ⟨b, o, hA, hbb, hc, hx0, hx1⟩ := u64_at HL.out hlt
      subst hA
      have q := (hb.cell (p := ⟨b, o + k, none⟩) hbb).trans hc
      clear hc
      have hd := hid (List.drop_eq_getElem_cons hlt)
      have hsu := hid (ahead_succ below l k hlt)
      generalize hlk : l[k] = x at *
      clear hlk
      generalize ahead below l k = p at *
      by_cases hge : p ≤ x
      · have hff : Hid (fallsB below l = false) := by
          rw [hf.out, hd.out]; exact hid (by simp [fallsB]; omega)
        go_wp2
        go_ret2
        exact ⟨.slice none 0 0, by rw [hff.out]; rfl, by rw [hff.out]; exact rSl_mk rfl (Nat.le_refl _) (Nat.zero_le _) (.inl rfl), hb⟩
      · have hbs := hb.size
        have w1 : 0 ≤ p - x := by omega
        have w2 : 0 ≤ p - x - 1 := by omega
        go_wp2_with (at_builtin; refine wpList_append_lies _ rfl _ _ _ rfl w.heap.size 22 i0 (.int .u64 0) 1 8 Tryz.underlying207 hi hz0 hz1 hz2 rfl (by decide) _ k _ rfl (hown.alloc _) ⟨wr.heap.size, 0, none⟩ 1 1 [.int .u64 (p - x - 1)] rfl rfl (World.news_of_block (Blk.new _ _ _)) (by simp [Value.oneCell']) (by decide) (by simp only [maxLen]; omega) (by omega) (by simp; omega) _ rfl ?_; intro g1 cap1 w1' hown1 hgrow1 hat1 hlt1)
        go_roundw
        case rel =>
          refine ⟨k + 1, by omega, by go_num, by rw [hsu.out], by rw [hsu.out]; exact hx0, by rw [hsu.out]; exact hx1, ?_, ⟨xs ++ [p - x - 1], ?_, ?_⟩, ?_⟩
          · rw [hf.out, hd.out, hsu.out]
            exact hid (by simp only [fallsB]; rw [decide_eq_true (by omega)]; rfl)
          · refine hid ⟨by simp [hxs.out.1], ?_, ?_⟩
            · intro y hy
              rw [List.mem_append, List.mem_singleton] at hy
              rcases hy with hy | rfl
              · exact hxs.out.2.1 y hy
              · omega
            · rw [hsu.out, hxs.out.2.2, hd.out]
              simp [stepsL]
          · rw [List.map_append]; exact hown1
          · refine Below.grown ?_ hgrow1 (by simp; omega) (fun g e => (hown.lt g e).1)
            exact hb.alloc hbs _
        case measure => simp [intOf]; omega
    · obtain rfl : k = l.length := by omega
      have hff : Hid (fallsB below l = true) := by
        rw [hf.out, List.drop_length]; exact hid rfl
      have hxl := hxs.out.1
      have hst : Hid (stepsL below l = xs) := hid (by rw [hxs.out.2.2, List.drop_length]; simp [stepsL])
      have hv : rU64s.r (· < wr.heap.size) wr [u6] xs := own_u64s (by rw [hxl]; exact hown) hxs.out.2.1 (by unfold maxLen; omega)
      have HV := hid hv; clear hv hxl
      go_wp2
      go_ret2
      exact ⟨u6, by rw [hff.out]; rfl, by rw [hff.out, if_pos rfl, hst.out]; exact HV.out, hb⟩

set_option maxHeartbeats 400000 in
theorem delta_falls (below : Int) (l : List Int) (a : Option Addr) (n c : Nat) (w : World) (hb0 : 0 ≤ below ∧ below ≤ 18446744073709551615) (hl : rU64s.r (· < w.heap.size) w [.slice a n c] l) (hlen : l.length ≤ 1000000000000) :
    Calls Tryz.prog 200 #[.int .u64 below, .slice a n c] w fun r w' => r = .returned (.bool (fallsB below l)) ∧ Below w.heap.size w w' := by
  have HL := hid hl; clear hl
  go_enter Tryz.func200, Tryz.ntmps200
  go_wp2_with fail
  refine (steps_any below l a n c _ hb0 HL.out hlen).mono ?_
  rintro e w1 ⟨v, rfl, _, hb1⟩
  go_wp2
  go_ret
  exact ⟨rfl, hb1⟩

set_option maxHeartbeats 1600000 in
theorem ref22_falls (below : Int) (l : List Int) (a : Option Addr) (n c : Nat) (w : World) (hl : rU64s.r (· < w.heap.size) w [.slice a n c] l) :
    Calls Tryz.prog 202 #[.int .u64 below, .slice a n c] w fun r w' => r = .returned (.bool (fallsB below l)) ∧ Below w.heap.size w w' := by
  obtain ⟨rfl, hm, _, _⟩ := sl_len hl
  have HL := hid hl; clear hl
  go_enter Tryz.func202, Tryz.ntmps202
  go_wp2
  go_loopw [5] (fun i wr => ∃ k : Nat, k ≤ l.length ∧ i = .int .i64 k ∧ Hid (fallsB below l = fallsB (ahead below l k) (l.drop k)) ∧ Below w.heap.size w wr) (fun i _ => l.length - (intOf i).toNat)
  case atStart => exact ⟨0, Nat.zero_le _, rfl, hid rfl, Below.refl _ _⟩
  case round =>
    obtain ⟨k, hk, rfl, hf, hb⟩ := hrel
    by_cases hlt : k < l.length
    · obtain ⟨b, o, hA, hbb, hc, hx0, hx1⟩ := u64_at HL.out hlt
      have hd := hid (List.drop_eq_getElem_cons hlt)
      have hsu := hid (ahead_succ below l k hlt)
      have hlt' : (k : Int) < (l.length : Int) := by omega
      rcases k with _ | m
      · subst hA
        have X0 := fun s : Later wr => s.cell ((hb.cell (p := ⟨b, o + 0, none⟩) hbb).trans hc)
        simp only [Nat.add_zero] at X0
        clear hc
        generalize hlk : l[0] = x at *
        clear hlk
        rw [ahead_zero] at hf
        by_cases hge : below ≤ x
        · have d1 : decide (below ≤ x) = true := by simpa using hge
          have hff : Hid (fallsB below l = false) := by
            rw [hf.out, hd.out]; exact hid (by simp [fallsB]; omega)
          clear hge
          go_wp2_with fail
          refine wp_region_later (by kernel_rfl) (by kernel_rfl) ?_
          repeat (go_big_quiet_step (fail))
          refine wpQuiet_nil ?_
          rintro W5 ⟨⟨W5', hb5⟩, rfl⟩
          go_wp2
          go_ret
          exact ⟨by rw [hff.out]; rfl, below_then hb5 hb⟩
        · have d1 : decide (below ≤ x) = false := by simpa using hge
          clear hge
          have hlt2 : x < below := by simpa using d1
          go_wp2_with fail
          refine wp_region_later (by kernel_rfl) (by kernel_rfl) ?_
          repeat (go_big_quiet_step (fail))
          refine wpQuiet_nil ?_
          rintro W5 ⟨⟨W5', hb5⟩, rfl⟩
          go_wp2
          go_roundw
          case rel =>
            refine ⟨1, by omega, rfl, ?_, below_then hb5 hb⟩
            rw [hsu.out, hf.out, hd.out]
            exact hid (by simp only [fallsB]; rw [decide_eq_true hlt2]; rfl)
          case measure => simp [intOf]; omega
      · obtain ⟨b', o', hA', hbb', hc', _, _⟩ := u64_at HL.out (show m < l.length by omega)
        have hp := hid (ahead_succ below l m (by omega))
        subst hA
        obtain ⟨rfl, rfl⟩ : b' = b ∧ o' = o := by simp at hA'; exact ⟨hA'.1.symm, hA'.2.symm⟩
        clear hA'
        have X0 := fun s : Later wr => s.cell ((hb.cell (p := ⟨b', o' + (m + 1), none⟩) hbb).trans hc)
        have X1 := fun s : Later wr => s.cell ((hb.cell (p := ⟨b', o' + m, none⟩) hbb).trans hc')
        clear hc hc'
        generalize hlk : l[m + 1] = x at *
        generalize hlm : l[m] = y at *
        clear hlk hlm
        rw [hp.out] at hf
        rw [show ((m + 1 : Nat) : Int) = (m : Int) + 1 from by omega]
        have k0 : ((m : Int) + 1 == 0) = false := by simp; omega
        have k1 : (0 : Int) < (m : Int) + 1 := by omega
        have k2 : (0 : Int) ≤ (m : Int) + 1 - 1 := by omega
        have k3 : (m : Int) + 1 < (l.length : Int) := by omega
        by_cases hge : y ≤ x
        · have d1 : decide (y ≤ x) = true := by simpa using hge
          have hff : Hid (fallsB below l = false) := by
            rw [hf.out, hd.out]; exact hid (by simp [fallsB]; omega)
          clear hge
          go_wp2_with fail
          refine wp_region_later (by kernel_rfl) (by kernel_rfl) ?_
          repeat (go_big_quiet_step (fail))
          refine wpQuiet_nil ?_
          rintro W5 ⟨⟨W5', hb5⟩, rfl⟩
          go_wp2
          go_ret
          exact ⟨by rw [hff.out]; rfl, below_then hb5 hb⟩
        · have d1 : decide (y ≤ x) = false := by simpa using hge
          clear hge
          have hlt2 : x < y := by simpa using d1
          go_wp2_with fail
          refine wp_region_later (by kernel_rfl) (by kernel_rfl) ?_
          repeat (go_big_quiet_step (fail))
          refine wpQuiet_nil ?_
          rintro W5 ⟨⟨W5', hb5⟩, rfl⟩
          go_wp2
          go_roundw
          case rel =>
            refine ⟨m + 1 + 1, by omega, by go_num, ?_, below_then hb5 hb⟩
            rw [hsu.out, hf.out, hd.out]
            exact hid (by simp only [fallsB]; rw [decide_eq_true hlt2]; rfl)
          case measure => simp [intOf]; omega
    · obtain rfl : k = l.length := by omega
      have hff : Hid (fallsB below l = true) := by
        rw [hf.out, List.drop_length]; exact hid rfl
      go_wp2
      go_ret
      exact ⟨by rw [hff.out]; rfl, hb⟩
end Go.Proofs.YtkipiefcnjfdjaaGreat
